/- 'cell', 'Look'. -/
import Derived.Test.YtjihhojlakapnaaDoorC4
import Derived.Test.YtjihhojlakapnaaDoorH7
import Derived.Laws.Concat
import Derived.Lib.ItoaLen
namespace Go.Proofs.YtjihhojlakapnaaDoor
open Go.RowKit Go.Shelf
set_option linter.unusedVariables false
set_option linter.unusedSimpArgs false
attribute [local go_sem] cell_set set_set m_undef
attribute [local irreducible] cells19 cells20 rowL tabL

theorem wrap_id {n : Int} (h : -9223372036854775808 ≤ n ∧ n < 9223372036854775808) : IntKind.i64.wrap n = n := by rw [IntKind.wrap_i64]; omega
theorem calls_still {f : Nat} {args : Array Value} {w : World} {a : Ending} (h : Calls Tryd.prog f args w fun e w' => e = a ∧ w = w') : Calls Tryd.prog f args w fun e w' => e = a ∧ Below w.heap.size w w' := h.mono fun e w' ⟨h1, h2⟩ => ⟨h1, by subst h2; exact Below.refl _ _⟩
def cellV (M : List UInt8) (a : Int) : Int := if insL M a then getM M a else 0
set_option maxHeartbeats 1000000 in
theorem kCellC {w : World} {B mb : Nat} {M : List UInt8} {O : Nat → Prop} (h : MemP w B mb M O) (hB : B ≤ w.heap.size) (a : Int) (ha : isI a) :
    Calls Tryd.prog 22 #[.pointer (some ⟨mb, 0, none⟩), .int .i64 a] w fun e w' => MemQ w w' B mb M O (.tuple #[.int .i64 (cellV M a), .bool (insL M a)]) e := by
  have hS := One.start h hB
  have hH := Lib.hid (fun (w9 : World) (O : Nat → Prop) (h : MemP w9 B mb M O) (hb : B ≤ w9.heap.size) => mHere h hb)
  have hG := Lib.hid (fun (w9 : World) (O : Nat → Prop) (h : MemP w9 B mb M O) (hb : B ≤ w9.heap.size) => mGet h hb a ha)
  have hl : 1536 ≤ hereL M ∧ hereL M ≤ 5632 := hereL_in M
  have e7 := and7 a ha
  unfold cellV insL
  generalize hereL M = here at *
  generalize getM M a = g at *
  unfold isI at ha
  have wh : IntKind.i64.wrap (here - 8) = here - 8 := wrap_id (by omega)
  obtain ⟨r, hr⟩ : ∃ r, r = a % 8 := ⟨_, rfl⟩
  rw [← hr] at e7 ⊢
  obtain ⟨s, hs⟩ : ∃ s, s = here - 8 := ⟨_, rfl⟩
  rw [← hs] at wh
  rw [hs] at wh
  have ws : IntKind.i64.wrap (here - 8) = s := by rw [hs]; exact wh
  clear h hB hr wh
  have hno : ¬ (r = 0 ∧ 1536 ≤ a ∧ a + 8 ≤ here) → decide (r = 0 ∧ 1536 ≤ a ∧ a + 8 ≤ here) = false := fun h => decide_eq_false h
  by_cases g1 : r = 0
  · have t1 : (r != 0) = false := by simp; exact g1
    by_cases g2 : 1536 ≤ a
    · have t2 : (a < 1536) = False := by simp; exact g2
      by_cases g3 : a ≤ s
      · have t3 : (s < a) = False := by simp; exact g3
        rw [decide_eq_true (show r = 0 ∧ 1536 ≤ a ∧ a + 8 ≤ here by omega), if_pos rfl]
        clear g1 g2 g3 hl ha hno hs
        go_enter Tryd.func22, Tryd.ntmps22
        go_wp2_with (first
          | (go_at_call 26; refine (hS.mem (fun O h hb => hH.out _ O h hb)).mono ?_; rintro e w1 ⟨rfl, hS2⟩; clear hS; have hS := hS2; clear hS2)
          | (go_at_call 17; refine (hS.mem (fun O h hb => hG.out _ O h hb)).mono ?_; rintro e w2 ⟨rfl, hS2⟩; clear hS; have hS := hS2; clear hS2))
        refine ⟨rfl, _, ?_, hS.memQ _⟩
        simp [results, Tryd.results22, go_sem]
      · have t3 : (s < a) = True := by simp; omega
        rw [hno (by omega), if_neg (by decide)]
        clear g1 g2 g3 hl ha hno hs
        go_enter Tryd.func22, Tryd.ntmps22
        go_wp2_with (go_at_call 26; refine (hS.mem (fun O h hb => hH.out _ O h hb)).mono ?_; rintro e w1 ⟨rfl, hS2⟩; clear hS; have hS := hS2; clear hS2)
        refine ⟨rfl, _, ?_, hS.memQ _⟩
        simp [results, Tryd.results22, go_sem]
    · have t2 : (a < 1536) = True := by simp; omega
      rw [hno (by omega), if_neg (by decide)]
      clear g1 g2 hl ha hno hs
      go_enter Tryd.func22, Tryd.ntmps22
      go_wp2
      refine ⟨rfl, _, ?_, hS.memQ _⟩
      simp [results, Tryd.results22, go_sem]
  · have t1 : (r != 0) = true := by simp; exact g1
    rw [hno (by omega), if_neg (by decide)]
    clear g1 hl ha hno hs
    go_enter Tryd.func22, Tryd.ntmps22
    go_wp2
    refine ⟨rfl, _, ?_, hS.memQ _⟩
    simp [results, Tryd.results22, go_sem]

def spB : ByteArray := ⟨#[32]⟩
noncomputable def nmP (n : Int) : ByteArray := (rowL.getD n.toNat default).1
def isNum (n : Int) : Bool := n == 2 || n == 3 || n == 4 || n == 6 || n == 7
def isTxt (n : Int) : Bool := n == 8 || n == 9 || n == 10
abbrev LookR := ByteArray × Int × Bool
/-- A primitive with a cell behind it. -/
noncomputable def lookP (M : List UInt8) (a n x : Int) : LookR :=
  if isNum n then (nmP n ++ spB ++ itoaS x, a + 16, true)
  else if isTxt n && decide (0 ≤ x ∧ x ≤ hereL M - a - 16) then (nmP n ++ spB ++ ⟨(loadL M (a + 16) x).toArray⟩, a + 16 + alignZ x, true)
  else (nmP n, a + 8, true)
/-- What is shown at a place; the place behind. -/
noncomputable def lookV (M : List UInt8) (a : Int) : LookR :=
  if insL M a then
    if numF (getM M a) = 0 then (othS M (getM M a), a + 8, true)
    else if insL M (a + 8) then lookP M a (numF (getM M a)) (getM M (a + 8))
    else (nmP (numF (getM M a)), a + 8, true)
  else (⟨#[]⟩, 0, false)
def lookE (r : LookR) : Value := .tuple #[.string r.1, .int .i64 r.2.1, .bool r.2.2]
theorem look_no {M : List UInt8} {a : Int} (h : insL M a = false) : lookV M a = (⟨#[]⟩, 0, false) := by unfold lookV; rw [h]; rfl
theorem look_oth {M : List UInt8} {a x : Int} (h : insL M a = true) (hx : getM M a = x) (hn : numF x = 0) : lookV M a = (othS M x, a + 8, true) := by unfold lookV; rw [h, if_pos rfl, hx, if_pos hn]
theorem look_end {M : List UInt8} {a x n : Int} (h : insL M a = true) (hx : getM M a = x) (hn : numF x = n) (h0 : n ≠ 0) (h8 : insL M (a + 8) = false) : lookV M a = (nmP n, a + 8, true) := by
  unfold lookV; rw [h, if_pos rfl, hx, hn, if_neg h0, h8]; rfl
theorem look_in {M : List UInt8} {a x n : Int} (h : insL M a = true) (hx : getM M a = x) (hn : numF x = n) (h0 : n ≠ 0) (h8 : insL M (a + 8) = true) : lookV M a = lookP M a n (getM M (a + 8)) := by
  unfold lookV; rw [h, if_pos rfl, hx, hn, if_neg h0, h8, if_pos rfl]
theorem lookP_num {M : List UInt8} {a n x : Int} (h : isNum n = true) : lookP M a n x = (nmP n ++ spB ++ itoaS x, a + 16, true) := by unfold lookP; rw [h, if_pos rfl]
theorem lookP_txt {M : List UInt8} {a n x : Int} (h : isNum n = false) (h2 : isTxt n = true) (hx : 0 ≤ x ∧ x ≤ hereL M - a - 16) : lookP M a n x = (nmP n ++ spB ++ ⟨(loadL M (a + 16) x).toArray⟩, a + 16 + alignZ x, true) := by
  unfold lookP; rw [h, if_neg (by decide), h2, decide_eq_true hx]; rfl
theorem lookP_no {M : List UInt8} {a n x : Int} (h : isNum n = false) (h2 : isTxt n = true → ¬ (0 ≤ x ∧ x ≤ hereL M - a - 16)) : lookP M a n x = (nmP n, a + 8, true) := by
  unfold lookP; rw [h, if_neg (by decide)]
  cases hh : isTxt n with
  | true => rw [decide_eq_false (h2 hh)]; rfl
  | false => rfl
theorem numF_in (x : Int) (hx : numF x ≠ 0) : 1 ≤ numF x ∧ numF x ≤ 141 := by
  unfold numF at *
  split at hx
  · rename_i h
    rw [if_pos h]
    omega
  · exact absurd rfl hx
theorem insL_in {M : List UInt8} {a : Int} (h : insL M a = true) : 1536 ≤ a ∧ a + 8 ≤ 5632 := by
  have := hereL_in M
  unfold insL at h
  have h := of_decide_eq_true h
  omega
theorem prim_small : rowL.all (fun r => decide (r.1.size ≤ 16)) = true := by kernel_rfl
theorem nmP_small (n : Int) : (nmP n).size ≤ 16 := by
  unfold nmP
  have h := prim_small
  rw [List.all_eq_true] at h
  rw [List.getD_eq_getElem?_getD]
  cases hq : rowL[n.toNat]? with
  | none => decide
  | some r => exact of_decide_eq_true (h r (List.mem_of_getElem? hq))
theorem itoaS_small (n : Int) (hn : isI n) : (itoaS n).size ≤ 21 := by
  unfold itoaS isI at *
  exact Lib.itoa_length_le n (by omega) (by omega)
theorem fmtS (n : Int) (hn : isI n) (w : World) (htab : Pow10 w) :
    Calls Tryd.prog 13 #[.int .i64 n, .int .i64 10] w fun e w' => e = .returned (.string (itoaS n)) ∧ Below w.heap.size w w' := by
  unfold itoaS
  exact fmt_int n hn w htab
theorem bs_str {w : World} {v : Value} {l : List UInt8} (h : Bs w 0 v l) : (convert 22 9 v).run Tryd.prog w = .ok (.string ⟨l.toArray⟩) w := h.str Tryd.underlying22 Tryd.underlying5 Tryd.underlying9
theorem add_str (a b : ByteArray) (ha : a.size ≤ 100000) (hb : b.size ≤ 100000) (w : World) : (Op.stringOp .add a b).run Tryd.prog w = .ok (.string (a ++ b)) w := run_string_add w a b (by omega) (by omega)
theorem isI_getC (M : List UInt8) (a : Int) : isI (getM M a) := by
  unfold getM cellL isI
  rw [IntKind.wrap_i64]
  omega
attribute [local irreducible] othS itoaS hereL loadL getM insL numF nmP isNum isTxt lookP lookV
set_option maxRecDepth 100000 in
set_option maxHeartbeats 4000000 in
theorem kLook {w : World} {B mb : Nat} {M : List UInt8} {O : Nat → Prop} (h : MemP w B mb M O) (hB : B ≤ w.heap.size) (hk : Keep w O PW) (a : Int) (ha : isI a) :
    Calls Tryd.prog 10 #[.pointer (some ⟨mb, 0, none⟩), .int .i64 a] w fun e w' => MemQ w w' B mb M O (lookE (lookV M a)) e := by
  have hS := One.startK h hB hk
  have hC := Lib.hid (fun (w9 : World) (O : Nat → Prop) (h : MemP w9 B mb M O) (hb : B ≤ w9.heap.size) => kCellC h hb a ha)
  clear h hB hk
  cases hin : insL M a with
  | false =>
    rw [look_no hin]
    unfold cellV at hC
    rw [hin, if_neg (by decide)] at hC
    clear hin
    unfold lookE
    go_enter Tryd.func10, Tryd.ntmps10
    go_wp2_with (go_at_call 22; refine (hS.mem (fun O h hb => hC.out _ O h hb)).mono ?_; rintro e w1 ⟨rfl, hS2⟩; clear hS; have hS := hS2; clear hS2)
    refine ⟨rfl, _, ?_, hS.memQ _⟩
    simp [results, Tryd.results10, go_sem]
  | true =>
  have hb := insL_in hin
  obtain ⟨xt, hx⟩ : ∃ xt, getM M a = xt := ⟨_, rfl⟩
  have hxi : isI xt := by rw [← hx]; exact isI_getC _ _
  unfold cellV at hC
  rw [hin, if_pos rfl, hx] at hC
  have hNum := Lib.hid (fun (w9 : World) => wNumber xt hxi w9)
  obtain ⟨a8, ha8⟩ : ∃ a8, a8 = a + 8 := ⟨_, rfl⟩
  have w8 : IntKind.i64.wrap (a + 8) = a8 := by rw [ha8]; exact wrap_id (by omega)
  by_cases h0 : numF xt = 0
  · rw [look_oth hin hx h0, ← ha8]
    rw [h0] at hNum
    have hOf := Lib.hid (fun (w9 : World) => wOf_no 0 (by omega) w9)
    unfold primV noPrim at hOf
    unfold lookE
    clear hin hx h0 hb ha8 ha
    replace hxi := Lib.hid hxi
    go_enter Tryd.func10, Tryd.ntmps10
    go_upto_region 6 with (first
      | (go_at_call 22; refine (hS.mem (fun O h hb => hC.out _ O h hb)).mono ?_; rintro e w1 ⟨rfl, hS2⟩; clear hS; have hS := hS2; clear hS2)
      | (go_at_call 23; refine (hS.still (hNum.out _)).mono ?_; rintro e w2 ⟨rfl, hS2⟩; clear hS; have hS := hS2; clear hS2)
      | (go_at_call 24; refine (hS.still (hOf.out _)).mono ?_; rintro e w4 ⟨rfl, hS2⟩; clear hS; have hS := hS2; clear hS2))
    have hS2 := hS.new #[.string ⟨#[]⟩, .int .i64 0, .int .i64 0, .bool false, .bool false] 56
    clear hS; have hS := hS2; clear hS2
    go_wp2_with (go_at_call 25; refine (hS.memK (fun O h hb hk => kOther h hb hk.left xt hxi.out)).mono ?_; rintro e w6 ⟨rfl, hS2⟩; clear hS; have hS := hS2; clear hS2)
    refine ⟨rfl, _, ?_, hS.memQ _⟩
    simp [results, Tryd.results10, go_sem]
  have hn := numF_in xt h0
  obtain ⟨n, hnn⟩ : ∃ n, numF xt = n := ⟨_, rfl⟩
  rw [hnn] at hNum h0 hn
  have hOf := Lib.hid (fun (w9 : World) => wOf n hn.1 hn.2 w9)
  have hnm : nmP n = (rowL.getD n.toNat default).1 := by unfold nmP; rfl
  have hns := nmP_small n
  rw [hnm] at hns
  generalize rowL.getD n.toNat default = ro at *
  obtain ⟨pn, pt, pl, pi, pc⟩ := ro
  unfold primV at hOf
  dsimp only at hnm hns hOf
  have hC8 := Lib.hid (fun (w9 : World) (O : Nat → Prop) (h : MemP w9 B mb M O) (hb : B ≤ w9.heap.size) => kCellC h hb a8 (by unfold isI; omega))
  cases hi8 : insL M a8 with
  | false =>
    rw [look_end hin hx hnn h0 (by rw [← ha8]; exact hi8), ← ha8, hnm]
    unfold cellV at hC8
    rw [hi8, if_neg (by decide)] at hC8
    unfold lookE
    clear hin hx hb ha8 hxi hnm hns hnn hi8 ha hn
    go_enter Tryd.func10, Tryd.ntmps10
    go_upto_region 6 with (first
      | (go_at_call 22; refine (hS.mem (fun O h hb => hC.out _ O h hb)).mono ?_; rintro e w1 ⟨rfl, hS2⟩; clear hS; have hS := hS2; clear hS2)
      | (go_at_call 23; refine (hS.still (hNum.out _)).mono ?_; rintro e w2 ⟨rfl, hS2⟩; clear hS; have hS := hS2; clear hS2)
      | (go_at_call 24; refine (hS.still (hOf.out _)).mono ?_; rintro e w4 ⟨rfl, hS2⟩; clear hS; have hS := hS2; clear hS2))
    have hS2 := hS.new #[.string pn, .int .i64 pt, .int .i64 pl, .bool pi, .bool pc] 56
    obtain ⟨P, hP⟩ : ∃ P, P = w4.heap.size := ⟨_, rfl⟩
    obtain ⟨w8, hw8⟩ : ∃ w8, w8 = w4.alloc (.cells #[.string pn, .int .i64 pt, .int .i64 pl, .bool pi, .bool pc] 56) := ⟨_, rfl⟩
    rw [← hw8, ← hP] at hS2 ⊢
    clear hw8 hP hS
    have hS := hS2
    clear hS2
    go_upto_region 9 with (go_at_call 22; refine (hS.mem (fun O h hb => hC8.out _ O h hb)).mono ?_; rintro e w5 ⟨rfl, hS2⟩; clear hS; have hS := hS2; clear hS2)
    have y1 := Blk.cell hS.fact.2 0
    go_wp2
    refine ⟨rfl, _, ?_, hS.memQ _⟩
    simp [results, Tryd.results10, go_sem]
  | true =>
  have hb8 := insL_in hi8
  rw [look_in hin hx hnn h0 (by rw [← ha8]; exact hi8)]
  rw [← ha8]
  obtain ⟨nx, hnx⟩ : ∃ nx, getM M a8 = nx := ⟨_, rfl⟩
  unfold cellV at hC8
  rw [hi8, if_pos rfl, hnx] at hC8
  rw [hnx]
  have hni : isI nx := by rw [← hnx]; exact isI_getC _ _
  have hIs := itoaS_small nx hni
  have hx1 := add_str pn spB (by omega) (by decide)
  have h1s : (pn ++ spB).size ≤ 17 := by rw [ByteArray.size_append]; have : spB.size = 1 := rfl; omega
  unfold spB at hx1
  obtain ⟨s1, hs1⟩ : ∃ s1, s1 = pn ++ spB := ⟨_, rfl⟩
  rw [show pn ++ (⟨#[32]⟩ : ByteArray) = s1 from hs1.symm] at hx1
  rw [← hs1] at h1s
  have hx2 := add_str s1 (itoaS nx) (by omega) (by omega)
  obtain ⟨s2, hs2⟩ : ∃ s2, s2 = s1 ++ itoaS nx := ⟨_, rfl⟩
  rw [← hs2] at hx2
  obtain ⟨a16, ha16⟩ : ∃ a16, a16 = a + 16 := ⟨_, rfl⟩
  have w16 : IntKind.i64.wrap (a + 16) = a16 := by rw [ha16]; exact wrap_id (by omega)
  have hnum : isNum n = true → lookP M a n nx = (s2, a16, true) := fun h => by rw [lookP_num h, hnm, ← hs1, ← hs2, ← ha16]
  have htxt := fun (h1 : isNum n = false) (h2 : isTxt n = true) (h3 : 0 ≤ nx ∧ nx ≤ hereL M - a - 16) => lookP_txt (M := M) (a := a) (x := nx) h1 h2 h3
  have hnot := fun (h1 : isNum n = false) (h2 : isTxt n = true → ¬ (0 ≤ nx ∧ nx ≤ hereL M - a - 16)) => lookP_no (M := M) (a := a) (x := nx) h1 h2
  rw [hnm, ← hs1, ← ha16] at htxt
  rw [hnm, ← ha8] at hnot
  replace hni := Lib.hid hni
  clear hin hx ha8 hxi hnm hns hnn hi8 ha hn h0 hs1 hs2 hnx
  have hLd := Lib.hid (fun (w9 : World) (O : Nat → Prop) (h : MemP w9 B mb M O) (hb : B ≤ w9.heap.size) => mLoad h hb a16 nx (by unfold isI; omega))
  have hAl := Lib.hid (fun (w9 : World) => calls_still (wAlign w9 nx hni.out))
  have hHr := Lib.hid (fun (w9 : World) (O : Nat → Prop) (h : MemP w9 B mb M O) (hb : B ≤ w9.heap.size) => mHere h hb)
  have hhin := hereL_in M
  by_cases c1 : isNum n = true
  · rw [hnum c1]
    unfold lookE
    clear hnum htxt hnot hLd hAl hHr ha16 hb hb8 hIs h1s hhin
    have hcs : n = 2 ∨ n = 3 ∨ n = 4 ∨ n = 6 ∨ n = 7 := by unfold isNum at c1; simp at c1; omega
    clear c1
    rcases hcs with rfl | rfl | rfl | rfl | rfl
    · go_enter Tryd.func10, Tryd.ntmps10
      go_upto_region 6 with (first
        | (go_at_call 22; refine (hS.mem (fun O h hb => hC.out _ O h hb)).mono ?_; rintro e w1 ⟨rfl, hS2⟩; clear hS; have hS := hS2; clear hS2)
        | (go_at_call 23; refine (hS.still (hNum.out _)).mono ?_; rintro e w2 ⟨rfl, hS2⟩; clear hS; have hS := hS2; clear hS2)
        | (go_at_call 24; refine (hS.still (hOf.out _)).mono ?_; rintro e w4 ⟨rfl, hS2⟩; clear hS; have hS := hS2; clear hS2))
      have hS2 := hS.new #[.string pn, .int .i64 pt, .int .i64 pl, .bool pi, .bool pc] 56
      obtain ⟨P, hP⟩ : ∃ P, P = w4.heap.size := ⟨_, rfl⟩
      obtain ⟨w8, hw8⟩ : ∃ w8, w8 = w4.alloc (.cells #[.string pn, .int .i64 pt, .int .i64 pl, .bool pi, .bool pc] 56) := ⟨_, rfl⟩
      rw [← hw8, ← hP] at hS2 ⊢
      clear hw8 hP hS
      have hS := hS2
      clear hS2
      go_upto_region 25 with (go_at_call 22; refine (hS.mem (fun O h hb => hC8.out _ O h hb)).mono ?_; rintro e w5 ⟨rfl, hS2⟩; clear hS; have hS := hS2; clear hS2)
      replace hS := hS.drew
      refine wp_region_noPanic ?_
      refine wp_region_held_drew (S := (fun w9 => Blk w9 P #[.string pn, .int .i64 pt, .int .i64 pl, .bool pi, .bool pc] 56)) (by kernel_rfl) ?_ (fun hHeld => ?_)
      · (try dsimp only); first | exact hS.fact.2 | exact hS.fact.1.2
      refine wpAnyH_take (i := 0) (oi := { dst := some 91, op := Go.Op.fieldAddr 56 (Go.Operand.tmp 10) 0, type := 0, pos := "code.go:131", after := #[], guard := none }) (v := ?v1_1) rfl (by kernel_rfl) (by kernel_rfl) (by kernel_rfl) (fun _ _ _ h => h) (Or.inl ⟨by rfl, ?hy1_1⟩) (by assumption) ?rest1_1
      case hy1_1 => (intro w hSw; (try dsimp only at hSw); have y1 := Blk.cell hSw 0; go_simp <;> with_reducible rfl)
      try simp only [Act.put, List.setIfInBounds_toArray, List.set_cons_zero, List.set_cons_succ]
      refine wpAnyH_take (i := 1) (oi := { dst := some 92, op := Go.Op.load 9 (Go.Operand.tmp 91), type := 9, pos := "code.go:131", after := #[{ on := 0, ground := Go.Ground.data }], guard := none }) (v := ?v2_1) rfl (by kernel_rfl) (by kernel_rfl) (by kernel_rfl) (fun _ _ _ h => h) (Or.inl ⟨by rfl, ?hy2_1⟩) (by assumption) ?rest2_1
      case hy2_1 => (intro w hSw; (try dsimp only at hSw); have y1 := Blk.cell hSw 0; go_simp <;> with_reducible rfl)
      try simp only [Act.put, List.setIfInBounds_toArray, List.set_cons_zero, List.set_cons_succ]
      refine wpAnyH_take (i := 2) (oi := { dst := some 93, op := Go.Op.binOp Go.BinOp.add 9 (Go.Operand.tmp 92) (Go.Operand.const (Go.Value.string { data := #[32] })) 9, type := 9, pos := "code.go:131", after := #[{ on := 1, ground := Go.Ground.data }], guard := none }) (v := ?v3_1) rfl (by kernel_rfl) (by kernel_rfl) (by kernel_rfl) (fun _ _ _ h => h) (Or.inl ⟨by rfl, ?hy3_1⟩) (by assumption) ?rest3_1
      case hy3_1 => (intro w hSw; (try dsimp only at hSw); have y1 := Blk.cell hSw 0; go_simp <;> with_reducible rfl)
      try simp only [Act.put, List.setIfInBounds_toArray, List.set_cons_zero, List.set_cons_succ]
      refine wpAnyH_take (i := 3) (oi := { dst := some 94, op := Go.Op.move (Go.Operand.tmp 11), type := 2, pos := "code.go:131", after := #[], guard := none }) (v := ?v4_1) rfl (by kernel_rfl) (by kernel_rfl) (by kernel_rfl) (fun _ _ _ h => h) (Or.inl ⟨by rfl, ?hy4_1⟩) (by assumption) ?rest4_1
      case hy4_1 => (intro w hSw; (try dsimp only at hSw); have y1 := Blk.cell hSw 0; go_simp <;> with_reducible rfl)
      try simp only [Act.put, List.setIfInBounds_toArray, List.set_cons_zero, List.set_cons_succ]
      refine wpAnyH_take (i := 6) (oi := { dst := some 97, op := Go.Op.move (Go.Operand.tmp 1), type := 2, pos := "code.go:131", after := #[{ on := 8, ground := Go.Ground.gcOnly Go.Departure.lateStores }], guard := none }) (v := ?v5_1) rfl (by kernel_rfl) (by kernel_rfl) (by kernel_rfl) (fun _ _ _ h => h) (Or.inl ⟨by rfl, ?hy5_1⟩) (by assumption) ?rest5_1
      case hy5_1 => (intro w hSw; (try dsimp only at hSw); have y1 := Blk.cell hSw 0; go_simp <;> with_reducible rfl)
      try simp only [Act.put, List.setIfInBounds_toArray, List.set_cons_zero, List.set_cons_succ]
      refine wpAnyH_take (i := 7) (oi := { dst := some 98, op := Go.Op.binOp Go.BinOp.add 2 (Go.Operand.tmp 97) (Go.Operand.const (Go.Value.int Go.IntKind.i64 16)) 2, type := 2, pos := "code.go:131", after := #[{ on := 6, ground := Go.Ground.data }, { on := 8, ground := Go.Ground.gcOnly Go.Departure.lateStores }], guard := none }) (v := ?v6_1) rfl (by kernel_rfl) (by kernel_rfl) (by kernel_rfl) (fun _ _ _ h => h) (Or.inl ⟨by rfl, ?hy6_1⟩) (by assumption) ?rest6_1
      case hy6_1 => (intro w hSw; (try dsimp only at hSw); have y1 := Blk.cell hSw 0; go_simp <;> with_reducible rfl)
      try simp only [Act.put, List.setIfInBounds_toArray, List.set_cons_zero, List.set_cons_succ]
      refine wpAnyH_ready (rs := [4]) (by kernel_rfl) (by simp) ?_
      refine AllReadyH.cons (o := { dst := some 95, op := Go.Op.call { callee := Go.Callee.value (Go.Operand.func 13), args := #[Go.Operand.tmp 94, Go.Operand.const (Go.Value.int Go.IntKind.i64 10)], argTypes := #[2, 3] }, type := 9, pos := "code.go:131", after := #[{ on := 3, ground := Go.Ground.data }], guard := none }) rfl (fun K hK => ?_) AllReadyH.nil
      go_simp
      go_at_call 13; refine (hS.still (fmtS nx hni _ hS.fact.1)).mono ?_; rintro e w7 ⟨rfl, hS2⟩; clear hS; have hS := hS2; clear hS2
      refine hK.out _ _ ?_ (fun hHeld2 => ?_)
      · (try dsimp only); first | exact hS.fact.2 | exact hS.fact.1.2
      clear hK K hHeld
      have hHeld := hHeld2
      clear hHeld2
      try simp only [Act.put, List.setIfInBounds_toArray, List.set_cons_zero, List.set_cons_succ]
      refine wpAnyH_take (i := 5) (oi := { dst := some 96, op := Go.Op.binOp Go.BinOp.add 9 (Go.Operand.tmp 93) (Go.Operand.tmp 95) 9, type := 9, pos := "code.go:131", after := #[{ on := 2, ground := Go.Ground.data }, { on := 4, ground := Go.Ground.data }], guard := none }) (v := ?v7_1) rfl (by kernel_rfl) (by kernel_rfl) (by kernel_rfl) (fun _ _ _ h => h) (Or.inl ⟨by rfl, ?hy7_1⟩) (by assumption) ?rest7_1
      case hy7_1 => (intro w hSw; (try dsimp only at hSw); have y1 := Blk.cell hSw 0; go_simp <;> with_reducible rfl)
      try simp only [Act.put, List.setIfInBounds_toArray, List.set_cons_zero, List.set_cons_succ]
      refine wpAnyH_take (i := 8) (oi := { dst := some 4, op := Go.Op.assign (Go.Operand.tmp 96), type := 9, pos := "code.go:131", after := #[{ on := 5, ground := Go.Ground.data }, { on := 4, ground := Go.Ground.chain }, { on := 0, ground := Go.Ground.phase }, { on := 1, ground := Go.Ground.phase }, { on := 2, ground := Go.Ground.phase }, { on := 3, ground := Go.Ground.phase }, { on := 4, ground := Go.Ground.phase }, { on := 5, ground := Go.Ground.phase }, { on := 6, ground := Go.Ground.textOnly Go.Departure.lateStores }, { on := 7, ground := Go.Ground.textOnly Go.Departure.lateStores }], guard := none }) (v := ?v8_1) rfl (by kernel_rfl) (by kernel_rfl) (by kernel_rfl) (fun _ _ _ h => h) (Or.inl ⟨by rfl, ?hy8_1⟩) (by assumption) ?rest8_1
      case hy8_1 => (intro w hSw; (try dsimp only at hSw); have y1 := Blk.cell hSw 0; go_simp <;> with_reducible rfl)
      try simp only [Act.put, List.setIfInBounds_toArray, List.set_cons_zero, List.set_cons_succ]
      refine wpAnyH_take (i := 9) (oi := { dst := some 5, op := Go.Op.assign (Go.Operand.tmp 98), type := 2, pos := "code.go:131", after := #[{ on := 7, ground := Go.Ground.data }, { on := 8, ground := Go.Ground.chain }, { on := 0, ground := Go.Ground.phase }, { on := 1, ground := Go.Ground.phase }, { on := 2, ground := Go.Ground.phase }, { on := 3, ground := Go.Ground.phase }, { on := 4, ground := Go.Ground.phase }, { on := 5, ground := Go.Ground.phase }, { on := 6, ground := Go.Ground.phase }, { on := 7, ground := Go.Ground.phase }, { on := 8, ground := Go.Ground.phase }], guard := none }) (v := ?v9_1) rfl (by kernel_rfl) (by kernel_rfl) (by kernel_rfl) (fun _ _ _ h => h) (Or.inl ⟨by rfl, ?hy9_1⟩) (by assumption) ?rest9_1
      case hy9_1 => (intro w hSw; (try dsimp only at hSw); have y1 := Blk.cell hSw 0; go_simp <;> with_reducible rfl)
      try simp only [Act.put, List.setIfInBounds_toArray, List.set_cons_zero, List.set_cons_succ]
      refine wpAnyH_take (i := 10) (oi := { dst := some 6, op := Go.Op.assign (Go.Operand.const (Go.Value.bool true)), type := 4, pos := "code.go:131", after := #[{ on := 9, ground := Go.Ground.chain }, { on := 0, ground := Go.Ground.phase }, { on := 1, ground := Go.Ground.phase }, { on := 2, ground := Go.Ground.phase }, { on := 3, ground := Go.Ground.phase }, { on := 4, ground := Go.Ground.phase }, { on := 5, ground := Go.Ground.phase }, { on := 6, ground := Go.Ground.phase }, { on := 7, ground := Go.Ground.phase }, { on := 8, ground := Go.Ground.phase }, { on := 9, ground := Go.Ground.phase }], guard := none }) (v := ?v10_1) rfl (by kernel_rfl) (by kernel_rfl) (by kernel_rfl) (fun _ _ _ h => h) (Or.inl ⟨by rfl, ?hy10_1⟩) (by assumption) ?rest10_1
      case hy10_1 => (intro w hSw; (try dsimp only at hSw); have y1 := Blk.cell hSw 0; go_simp <;> with_reducible rfl)
      try simp only [Act.put, List.setIfInBounds_toArray, List.set_cons_zero, List.set_cons_succ]
      refine wpAnyH_done (by kernel_rfl) ?_ _
      refine NoPanic.normal ?_
      go_wp2
      refine ⟨rfl, _, ?_, hS.memQ _⟩
      simp [results, Tryd.results10, go_sem]
    · go_enter Tryd.func10, Tryd.ntmps10
      go_upto_region 6 with (first
        | (go_at_call 22; refine (hS.mem (fun O h hb => hC.out _ O h hb)).mono ?_; rintro e w1 ⟨rfl, hS2⟩; clear hS; have hS := hS2; clear hS2)
        | (go_at_call 23; refine (hS.still (hNum.out _)).mono ?_; rintro e w2 ⟨rfl, hS2⟩; clear hS; have hS := hS2; clear hS2)
        | (go_at_call 24; refine (hS.still (hOf.out _)).mono ?_; rintro e w4 ⟨rfl, hS2⟩; clear hS; have hS := hS2; clear hS2))
      have hS2 := hS.new #[.string pn, .int .i64 pt, .int .i64 pl, .bool pi, .bool pc] 56
      obtain ⟨P, hP⟩ : ∃ P, P = w4.heap.size := ⟨_, rfl⟩
      obtain ⟨w8, hw8⟩ : ∃ w8, w8 = w4.alloc (.cells #[.string pn, .int .i64 pt, .int .i64 pl, .bool pi, .bool pc] 56) := ⟨_, rfl⟩
      rw [← hw8, ← hP] at hS2 ⊢
      clear hw8 hP hS
      have hS := hS2
      clear hS2
      go_upto_region 25 with (go_at_call 22; refine (hS.mem (fun O h hb => hC8.out _ O h hb)).mono ?_; rintro e w5 ⟨rfl, hS2⟩; clear hS; have hS := hS2; clear hS2)
      replace hS := hS.drew
      refine wp_region_noPanic ?_
      refine wp_region_held_drew (S := (fun w9 => Blk w9 P #[.string pn, .int .i64 pt, .int .i64 pl, .bool pi, .bool pc] 56)) (by kernel_rfl) ?_ (fun hHeld => ?_)
      · (try dsimp only); first | exact hS.fact.2 | exact hS.fact.1.2
      refine wpAnyH_take (i := 0) (oi := { dst := some 91, op := Go.Op.fieldAddr 56 (Go.Operand.tmp 10) 0, type := 0, pos := "code.go:131", after := #[], guard := none }) (v := ?v1_2) rfl (by kernel_rfl) (by kernel_rfl) (by kernel_rfl) (fun _ _ _ h => h) (Or.inl ⟨by rfl, ?hy1_2⟩) (by assumption) ?rest1_2
      case hy1_2 => (intro w hSw; (try dsimp only at hSw); have y1 := Blk.cell hSw 0; go_simp <;> with_reducible rfl)
      try simp only [Act.put, List.setIfInBounds_toArray, List.set_cons_zero, List.set_cons_succ]
      refine wpAnyH_take (i := 1) (oi := { dst := some 92, op := Go.Op.load 9 (Go.Operand.tmp 91), type := 9, pos := "code.go:131", after := #[{ on := 0, ground := Go.Ground.data }], guard := none }) (v := ?v2_2) rfl (by kernel_rfl) (by kernel_rfl) (by kernel_rfl) (fun _ _ _ h => h) (Or.inl ⟨by rfl, ?hy2_2⟩) (by assumption) ?rest2_2
      case hy2_2 => (intro w hSw; (try dsimp only at hSw); have y1 := Blk.cell hSw 0; go_simp <;> with_reducible rfl)
      try simp only [Act.put, List.setIfInBounds_toArray, List.set_cons_zero, List.set_cons_succ]
      refine wpAnyH_take (i := 2) (oi := { dst := some 93, op := Go.Op.binOp Go.BinOp.add 9 (Go.Operand.tmp 92) (Go.Operand.const (Go.Value.string { data := #[32] })) 9, type := 9, pos := "code.go:131", after := #[{ on := 1, ground := Go.Ground.data }], guard := none }) (v := ?v3_2) rfl (by kernel_rfl) (by kernel_rfl) (by kernel_rfl) (fun _ _ _ h => h) (Or.inl ⟨by rfl, ?hy3_2⟩) (by assumption) ?rest3_2
      case hy3_2 => (intro w hSw; (try dsimp only at hSw); have y1 := Blk.cell hSw 0; go_simp <;> with_reducible rfl)
      try simp only [Act.put, List.setIfInBounds_toArray, List.set_cons_zero, List.set_cons_succ]
      refine wpAnyH_take (i := 3) (oi := { dst := some 94, op := Go.Op.move (Go.Operand.tmp 11), type := 2, pos := "code.go:131", after := #[], guard := none }) (v := ?v4_2) rfl (by kernel_rfl) (by kernel_rfl) (by kernel_rfl) (fun _ _ _ h => h) (Or.inl ⟨by rfl, ?hy4_2⟩) (by assumption) ?rest4_2
      case hy4_2 => (intro w hSw; (try dsimp only at hSw); have y1 := Blk.cell hSw 0; go_simp <;> with_reducible rfl)
      try simp only [Act.put, List.setIfInBounds_toArray, List.set_cons_zero, List.set_cons_succ]
      refine wpAnyH_take (i := 6) (oi := { dst := some 97, op := Go.Op.move (Go.Operand.tmp 1), type := 2, pos := "code.go:131", after := #[{ on := 8, ground := Go.Ground.gcOnly Go.Departure.lateStores }], guard := none }) (v := ?v5_2) rfl (by kernel_rfl) (by kernel_rfl) (by kernel_rfl) (fun _ _ _ h => h) (Or.inl ⟨by rfl, ?hy5_2⟩) (by assumption) ?rest5_2
      case hy5_2 => (intro w hSw; (try dsimp only at hSw); have y1 := Blk.cell hSw 0; go_simp <;> with_reducible rfl)
      try simp only [Act.put, List.setIfInBounds_toArray, List.set_cons_zero, List.set_cons_succ]
      refine wpAnyH_take (i := 7) (oi := { dst := some 98, op := Go.Op.binOp Go.BinOp.add 2 (Go.Operand.tmp 97) (Go.Operand.const (Go.Value.int Go.IntKind.i64 16)) 2, type := 2, pos := "code.go:131", after := #[{ on := 6, ground := Go.Ground.data }, { on := 8, ground := Go.Ground.gcOnly Go.Departure.lateStores }], guard := none }) (v := ?v6_2) rfl (by kernel_rfl) (by kernel_rfl) (by kernel_rfl) (fun _ _ _ h => h) (Or.inl ⟨by rfl, ?hy6_2⟩) (by assumption) ?rest6_2
      case hy6_2 => (intro w hSw; (try dsimp only at hSw); have y1 := Blk.cell hSw 0; go_simp <;> with_reducible rfl)
      try simp only [Act.put, List.setIfInBounds_toArray, List.set_cons_zero, List.set_cons_succ]
      refine wpAnyH_ready (rs := [4]) (by kernel_rfl) (by simp) ?_
      refine AllReadyH.cons (o := { dst := some 95, op := Go.Op.call { callee := Go.Callee.value (Go.Operand.func 13), args := #[Go.Operand.tmp 94, Go.Operand.const (Go.Value.int Go.IntKind.i64 10)], argTypes := #[2, 3] }, type := 9, pos := "code.go:131", after := #[{ on := 3, ground := Go.Ground.data }], guard := none }) rfl (fun K hK => ?_) AllReadyH.nil
      go_simp
      go_at_call 13; refine (hS.still (fmtS nx hni _ hS.fact.1)).mono ?_; rintro e w7 ⟨rfl, hS2⟩; clear hS; have hS := hS2; clear hS2
      refine hK.out _ _ ?_ (fun hHeld2 => ?_)
      · (try dsimp only); first | exact hS.fact.2 | exact hS.fact.1.2
      clear hK K hHeld
      have hHeld := hHeld2
      clear hHeld2
      try simp only [Act.put, List.setIfInBounds_toArray, List.set_cons_zero, List.set_cons_succ]
      refine wpAnyH_take (i := 5) (oi := { dst := some 96, op := Go.Op.binOp Go.BinOp.add 9 (Go.Operand.tmp 93) (Go.Operand.tmp 95) 9, type := 9, pos := "code.go:131", after := #[{ on := 2, ground := Go.Ground.data }, { on := 4, ground := Go.Ground.data }], guard := none }) (v := ?v7_2) rfl (by kernel_rfl) (by kernel_rfl) (by kernel_rfl) (fun _ _ _ h => h) (Or.inl ⟨by rfl, ?hy7_2⟩) (by assumption) ?rest7_2
      case hy7_2 => (intro w hSw; (try dsimp only at hSw); have y1 := Blk.cell hSw 0; go_simp <;> with_reducible rfl)
      try simp only [Act.put, List.setIfInBounds_toArray, List.set_cons_zero, List.set_cons_succ]
      refine wpAnyH_take (i := 8) (oi := { dst := some 4, op := Go.Op.assign (Go.Operand.tmp 96), type := 9, pos := "code.go:131", after := #[{ on := 5, ground := Go.Ground.data }, { on := 4, ground := Go.Ground.chain }, { on := 0, ground := Go.Ground.phase }, { on := 1, ground := Go.Ground.phase }, { on := 2, ground := Go.Ground.phase }, { on := 3, ground := Go.Ground.phase }, { on := 4, ground := Go.Ground.phase }, { on := 5, ground := Go.Ground.phase }, { on := 6, ground := Go.Ground.textOnly Go.Departure.lateStores }, { on := 7, ground := Go.Ground.textOnly Go.Departure.lateStores }], guard := none }) (v := ?v8_2) rfl (by kernel_rfl) (by kernel_rfl) (by kernel_rfl) (fun _ _ _ h => h) (Or.inl ⟨by rfl, ?hy8_2⟩) (by assumption) ?rest8_2
      case hy8_2 => (intro w hSw; (try dsimp only at hSw); have y1 := Blk.cell hSw 0; go_simp <;> with_reducible rfl)
      try simp only [Act.put, List.setIfInBounds_toArray, List.set_cons_zero, List.set_cons_succ]
      refine wpAnyH_take (i := 9) (oi := { dst := some 5, op := Go.Op.assign (Go.Operand.tmp 98), type := 2, pos := "code.go:131", after := #[{ on := 7, ground := Go.Ground.data }, { on := 8, ground := Go.Ground.chain }, { on := 0, ground := Go.Ground.phase }, { on := 1, ground := Go.Ground.phase }, { on := 2, ground := Go.Ground.phase }, { on := 3, ground := Go.Ground.phase }, { on := 4, ground := Go.Ground.phase }, { on := 5, ground := Go.Ground.phase }, { on := 6, ground := Go.Ground.phase }, { on := 7, ground := Go.Ground.phase }, { on := 8, ground := Go.Ground.phase }], guard := none }) (v := ?v9_2) rfl (by kernel_rfl) (by kernel_rfl) (by kernel_rfl) (fun _ _ _ h => h) (Or.inl ⟨by rfl, ?hy9_2⟩) (by assumption) ?rest9_2
      case hy9_2 => (intro w hSw; (try dsimp only at hSw); have y1 := Blk.cell hSw 0; go_simp <;> with_reducible rfl)
      try simp only [Act.put, List.setIfInBounds_toArray, List.set_cons_zero, List.set_cons_succ]
      refine wpAnyH_take (i := 10) (oi := { dst := some 6, op := Go.Op.assign (Go.Operand.const (Go.Value.bool true)), type := 4, pos := "code.go:131", after := #[{ on := 9, ground := Go.Ground.chain }, { on := 0, ground := Go.Ground.phase }, { on := 1, ground := Go.Ground.phase }, { on := 2, ground := Go.Ground.phase }, { on := 3, ground := Go.Ground.phase }, { on := 4, ground := Go.Ground.phase }, { on := 5, ground := Go.Ground.phase }, { on := 6, ground := Go.Ground.phase }, { on := 7, ground := Go.Ground.phase }, { on := 8, ground := Go.Ground.phase }, { on := 9, ground := Go.Ground.phase }], guard := none }) (v := ?v10_2) rfl (by kernel_rfl) (by kernel_rfl) (by kernel_rfl) (fun _ _ _ h => h) (Or.inl ⟨by rfl, ?hy10_2⟩) (by assumption) ?rest10_2
      case hy10_2 => (intro w hSw; (try dsimp only at hSw); have y1 := Blk.cell hSw 0; go_simp <;> with_reducible rfl)
      try simp only [Act.put, List.setIfInBounds_toArray, List.set_cons_zero, List.set_cons_succ]
      refine wpAnyH_done (by kernel_rfl) ?_ _
      refine NoPanic.normal ?_
      go_wp2
      refine ⟨rfl, _, ?_, hS.memQ _⟩
      simp [results, Tryd.results10, go_sem]
    · go_enter Tryd.func10, Tryd.ntmps10
      go_upto_region 6 with (first
        | (go_at_call 22; refine (hS.mem (fun O h hb => hC.out _ O h hb)).mono ?_; rintro e w1 ⟨rfl, hS2⟩; clear hS; have hS := hS2; clear hS2)
        | (go_at_call 23; refine (hS.still (hNum.out _)).mono ?_; rintro e w2 ⟨rfl, hS2⟩; clear hS; have hS := hS2; clear hS2)
        | (go_at_call 24; refine (hS.still (hOf.out _)).mono ?_; rintro e w4 ⟨rfl, hS2⟩; clear hS; have hS := hS2; clear hS2))
      have hS2 := hS.new #[.string pn, .int .i64 pt, .int .i64 pl, .bool pi, .bool pc] 56
      obtain ⟨P, hP⟩ : ∃ P, P = w4.heap.size := ⟨_, rfl⟩
      obtain ⟨w8, hw8⟩ : ∃ w8, w8 = w4.alloc (.cells #[.string pn, .int .i64 pt, .int .i64 pl, .bool pi, .bool pc] 56) := ⟨_, rfl⟩
      rw [← hw8, ← hP] at hS2 ⊢
      clear hw8 hP hS
      have hS := hS2
      clear hS2
      go_upto_region 25 with (go_at_call 22; refine (hS.mem (fun O h hb => hC8.out _ O h hb)).mono ?_; rintro e w5 ⟨rfl, hS2⟩; clear hS; have hS := hS2; clear hS2)
      replace hS := hS.drew
      refine wp_region_noPanic ?_
      refine wp_region_held_drew (S := (fun w9 => Blk w9 P #[.string pn, .int .i64 pt, .int .i64 pl, .bool pi, .bool pc] 56)) (by kernel_rfl) ?_ (fun hHeld => ?_)
      · (try dsimp only); first | exact hS.fact.2 | exact hS.fact.1.2
      refine wpAnyH_take (i := 0) (oi := { dst := some 91, op := Go.Op.fieldAddr 56 (Go.Operand.tmp 10) 0, type := 0, pos := "code.go:131", after := #[], guard := none }) (v := ?v1_3) rfl (by kernel_rfl) (by kernel_rfl) (by kernel_rfl) (fun _ _ _ h => h) (Or.inl ⟨by rfl, ?hy1_3⟩) (by assumption) ?rest1_3
      case hy1_3 => (intro w hSw; (try dsimp only at hSw); have y1 := Blk.cell hSw 0; go_simp <;> with_reducible rfl)
      try simp only [Act.put, List.setIfInBounds_toArray, List.set_cons_zero, List.set_cons_succ]
      refine wpAnyH_take (i := 1) (oi := { dst := some 92, op := Go.Op.load 9 (Go.Operand.tmp 91), type := 9, pos := "code.go:131", after := #[{ on := 0, ground := Go.Ground.data }], guard := none }) (v := ?v2_3) rfl (by kernel_rfl) (by kernel_rfl) (by kernel_rfl) (fun _ _ _ h => h) (Or.inl ⟨by rfl, ?hy2_3⟩) (by assumption) ?rest2_3
      case hy2_3 => (intro w hSw; (try dsimp only at hSw); have y1 := Blk.cell hSw 0; go_simp <;> with_reducible rfl)
      try simp only [Act.put, List.setIfInBounds_toArray, List.set_cons_zero, List.set_cons_succ]
      refine wpAnyH_take (i := 2) (oi := { dst := some 93, op := Go.Op.binOp Go.BinOp.add 9 (Go.Operand.tmp 92) (Go.Operand.const (Go.Value.string { data := #[32] })) 9, type := 9, pos := "code.go:131", after := #[{ on := 1, ground := Go.Ground.data }], guard := none }) (v := ?v3_3) rfl (by kernel_rfl) (by kernel_rfl) (by kernel_rfl) (fun _ _ _ h => h) (Or.inl ⟨by rfl, ?hy3_3⟩) (by assumption) ?rest3_3
      case hy3_3 => (intro w hSw; (try dsimp only at hSw); have y1 := Blk.cell hSw 0; go_simp <;> with_reducible rfl)
      try simp only [Act.put, List.setIfInBounds_toArray, List.set_cons_zero, List.set_cons_succ]
      refine wpAnyH_take (i := 3) (oi := { dst := some 94, op := Go.Op.move (Go.Operand.tmp 11), type := 2, pos := "code.go:131", after := #[], guard := none }) (v := ?v4_3) rfl (by kernel_rfl) (by kernel_rfl) (by kernel_rfl) (fun _ _ _ h => h) (Or.inl ⟨by rfl, ?hy4_3⟩) (by assumption) ?rest4_3
      case hy4_3 => (intro w hSw; (try dsimp only at hSw); have y1 := Blk.cell hSw 0; go_simp <;> with_reducible rfl)
      try simp only [Act.put, List.setIfInBounds_toArray, List.set_cons_zero, List.set_cons_succ]
      refine wpAnyH_take (i := 6) (oi := { dst := some 97, op := Go.Op.move (Go.Operand.tmp 1), type := 2, pos := "code.go:131", after := #[{ on := 8, ground := Go.Ground.gcOnly Go.Departure.lateStores }], guard := none }) (v := ?v5_3) rfl (by kernel_rfl) (by kernel_rfl) (by kernel_rfl) (fun _ _ _ h => h) (Or.inl ⟨by rfl, ?hy5_3⟩) (by assumption) ?rest5_3
      case hy5_3 => (intro w hSw; (try dsimp only at hSw); have y1 := Blk.cell hSw 0; go_simp <;> with_reducible rfl)
      try simp only [Act.put, List.setIfInBounds_toArray, List.set_cons_zero, List.set_cons_succ]
      refine wpAnyH_take (i := 7) (oi := { dst := some 98, op := Go.Op.binOp Go.BinOp.add 2 (Go.Operand.tmp 97) (Go.Operand.const (Go.Value.int Go.IntKind.i64 16)) 2, type := 2, pos := "code.go:131", after := #[{ on := 6, ground := Go.Ground.data }, { on := 8, ground := Go.Ground.gcOnly Go.Departure.lateStores }], guard := none }) (v := ?v6_3) rfl (by kernel_rfl) (by kernel_rfl) (by kernel_rfl) (fun _ _ _ h => h) (Or.inl ⟨by rfl, ?hy6_3⟩) (by assumption) ?rest6_3
      case hy6_3 => (intro w hSw; (try dsimp only at hSw); have y1 := Blk.cell hSw 0; go_simp <;> with_reducible rfl)
      try simp only [Act.put, List.setIfInBounds_toArray, List.set_cons_zero, List.set_cons_succ]
      refine wpAnyH_ready (rs := [4]) (by kernel_rfl) (by simp) ?_
      refine AllReadyH.cons (o := { dst := some 95, op := Go.Op.call { callee := Go.Callee.value (Go.Operand.func 13), args := #[Go.Operand.tmp 94, Go.Operand.const (Go.Value.int Go.IntKind.i64 10)], argTypes := #[2, 3] }, type := 9, pos := "code.go:131", after := #[{ on := 3, ground := Go.Ground.data }], guard := none }) rfl (fun K hK => ?_) AllReadyH.nil
      go_simp
      go_at_call 13; refine (hS.still (fmtS nx hni _ hS.fact.1)).mono ?_; rintro e w7 ⟨rfl, hS2⟩; clear hS; have hS := hS2; clear hS2
      refine hK.out _ _ ?_ (fun hHeld2 => ?_)
      · (try dsimp only); first | exact hS.fact.2 | exact hS.fact.1.2
      clear hK K hHeld
      have hHeld := hHeld2
      clear hHeld2
      try simp only [Act.put, List.setIfInBounds_toArray, List.set_cons_zero, List.set_cons_succ]
      refine wpAnyH_take (i := 5) (oi := { dst := some 96, op := Go.Op.binOp Go.BinOp.add 9 (Go.Operand.tmp 93) (Go.Operand.tmp 95) 9, type := 9, pos := "code.go:131", after := #[{ on := 2, ground := Go.Ground.data }, { on := 4, ground := Go.Ground.data }], guard := none }) (v := ?v7_3) rfl (by kernel_rfl) (by kernel_rfl) (by kernel_rfl) (fun _ _ _ h => h) (Or.inl ⟨by rfl, ?hy7_3⟩) (by assumption) ?rest7_3
      case hy7_3 => (intro w hSw; (try dsimp only at hSw); have y1 := Blk.cell hSw 0; go_simp <;> with_reducible rfl)
      try simp only [Act.put, List.setIfInBounds_toArray, List.set_cons_zero, List.set_cons_succ]
      refine wpAnyH_take (i := 8) (oi := { dst := some 4, op := Go.Op.assign (Go.Operand.tmp 96), type := 9, pos := "code.go:131", after := #[{ on := 5, ground := Go.Ground.data }, { on := 4, ground := Go.Ground.chain }, { on := 0, ground := Go.Ground.phase }, { on := 1, ground := Go.Ground.phase }, { on := 2, ground := Go.Ground.phase }, { on := 3, ground := Go.Ground.phase }, { on := 4, ground := Go.Ground.phase }, { on := 5, ground := Go.Ground.phase }, { on := 6, ground := Go.Ground.textOnly Go.Departure.lateStores }, { on := 7, ground := Go.Ground.textOnly Go.Departure.lateStores }], guard := none }) (v := ?v8_3) rfl (by kernel_rfl) (by kernel_rfl) (by kernel_rfl) (fun _ _ _ h => h) (Or.inl ⟨by rfl, ?hy8_3⟩) (by assumption) ?rest8_3
      case hy8_3 => (intro w hSw; (try dsimp only at hSw); have y1 := Blk.cell hSw 0; go_simp <;> with_reducible rfl)
      try simp only [Act.put, List.setIfInBounds_toArray, List.set_cons_zero, List.set_cons_succ]
      refine wpAnyH_take (i := 9) (oi := { dst := some 5, op := Go.Op.assign (Go.Operand.tmp 98), type := 2, pos := "code.go:131", after := #[{ on := 7, ground := Go.Ground.data }, { on := 8, ground := Go.Ground.chain }, { on := 0, ground := Go.Ground.phase }, { on := 1, ground := Go.Ground.phase }, { on := 2, ground := Go.Ground.phase }, { on := 3, ground := Go.Ground.phase }, { on := 4, ground := Go.Ground.phase }, { on := 5, ground := Go.Ground.phase }, { on := 6, ground := Go.Ground.phase }, { on := 7, ground := Go.Ground.phase }, { on := 8, ground := Go.Ground.phase }], guard := none }) (v := ?v9_3) rfl (by kernel_rfl) (by kernel_rfl) (by kernel_rfl) (fun _ _ _ h => h) (Or.inl ⟨by rfl, ?hy9_3⟩) (by assumption) ?rest9_3
      case hy9_3 => (intro w hSw; (try dsimp only at hSw); have y1 := Blk.cell hSw 0; go_simp <;> with_reducible rfl)
      try simp only [Act.put, List.setIfInBounds_toArray, List.set_cons_zero, List.set_cons_succ]
      refine wpAnyH_take (i := 10) (oi := { dst := some 6, op := Go.Op.assign (Go.Operand.const (Go.Value.bool true)), type := 4, pos := "code.go:131", after := #[{ on := 9, ground := Go.Ground.chain }, { on := 0, ground := Go.Ground.phase }, { on := 1, ground := Go.Ground.phase }, { on := 2, ground := Go.Ground.phase }, { on := 3, ground := Go.Ground.phase }, { on := 4, ground := Go.Ground.phase }, { on := 5, ground := Go.Ground.phase }, { on := 6, ground := Go.Ground.phase }, { on := 7, ground := Go.Ground.phase }, { on := 8, ground := Go.Ground.phase }, { on := 9, ground := Go.Ground.phase }], guard := none }) (v := ?v10_3) rfl (by kernel_rfl) (by kernel_rfl) (by kernel_rfl) (fun _ _ _ h => h) (Or.inl ⟨by rfl, ?hy10_3⟩) (by assumption) ?rest10_3
      case hy10_3 => (intro w hSw; (try dsimp only at hSw); have y1 := Blk.cell hSw 0; go_simp <;> with_reducible rfl)
      try simp only [Act.put, List.setIfInBounds_toArray, List.set_cons_zero, List.set_cons_succ]
      refine wpAnyH_done (by kernel_rfl) ?_ _
      refine NoPanic.normal ?_
      go_wp2
      refine ⟨rfl, _, ?_, hS.memQ _⟩
      simp [results, Tryd.results10, go_sem]
    · go_enter Tryd.func10, Tryd.ntmps10
      go_upto_region 6 with (first
        | (go_at_call 22; refine (hS.mem (fun O h hb => hC.out _ O h hb)).mono ?_; rintro e w1 ⟨rfl, hS2⟩; clear hS; have hS := hS2; clear hS2)
        | (go_at_call 23; refine (hS.still (hNum.out _)).mono ?_; rintro e w2 ⟨rfl, hS2⟩; clear hS; have hS := hS2; clear hS2)
        | (go_at_call 24; refine (hS.still (hOf.out _)).mono ?_; rintro e w4 ⟨rfl, hS2⟩; clear hS; have hS := hS2; clear hS2))
      have hS2 := hS.new #[.string pn, .int .i64 pt, .int .i64 pl, .bool pi, .bool pc] 56
      obtain ⟨P, hP⟩ : ∃ P, P = w4.heap.size := ⟨_, rfl⟩
      obtain ⟨w8, hw8⟩ : ∃ w8, w8 = w4.alloc (.cells #[.string pn, .int .i64 pt, .int .i64 pl, .bool pi, .bool pc] 56) := ⟨_, rfl⟩
      rw [← hw8, ← hP] at hS2 ⊢
      clear hw8 hP hS
      have hS := hS2
      clear hS2
      go_upto_region 25 with (go_at_call 22; refine (hS.mem (fun O h hb => hC8.out _ O h hb)).mono ?_; rintro e w5 ⟨rfl, hS2⟩; clear hS; have hS := hS2; clear hS2)
      replace hS := hS.drew
      refine wp_region_noPanic ?_
      refine wp_region_held_drew (S := (fun w9 => Blk w9 P #[.string pn, .int .i64 pt, .int .i64 pl, .bool pi, .bool pc] 56)) (by kernel_rfl) ?_ (fun hHeld => ?_)
      · (try dsimp only); first | exact hS.fact.2 | exact hS.fact.1.2
      refine wpAnyH_take (i := 0) (oi := { dst := some 91, op := Go.Op.fieldAddr 56 (Go.Operand.tmp 10) 0, type := 0, pos := "code.go:131", after := #[], guard := none }) (v := ?v1_4) rfl (by kernel_rfl) (by kernel_rfl) (by kernel_rfl) (fun _ _ _ h => h) (Or.inl ⟨by rfl, ?hy1_4⟩) (by assumption) ?rest1_4
      case hy1_4 => (intro w hSw; (try dsimp only at hSw); have y1 := Blk.cell hSw 0; go_simp <;> with_reducible rfl)
      try simp only [Act.put, List.setIfInBounds_toArray, List.set_cons_zero, List.set_cons_succ]
      refine wpAnyH_take (i := 1) (oi := { dst := some 92, op := Go.Op.load 9 (Go.Operand.tmp 91), type := 9, pos := "code.go:131", after := #[{ on := 0, ground := Go.Ground.data }], guard := none }) (v := ?v2_4) rfl (by kernel_rfl) (by kernel_rfl) (by kernel_rfl) (fun _ _ _ h => h) (Or.inl ⟨by rfl, ?hy2_4⟩) (by assumption) ?rest2_4
      case hy2_4 => (intro w hSw; (try dsimp only at hSw); have y1 := Blk.cell hSw 0; go_simp <;> with_reducible rfl)
      try simp only [Act.put, List.setIfInBounds_toArray, List.set_cons_zero, List.set_cons_succ]
      refine wpAnyH_take (i := 2) (oi := { dst := some 93, op := Go.Op.binOp Go.BinOp.add 9 (Go.Operand.tmp 92) (Go.Operand.const (Go.Value.string { data := #[32] })) 9, type := 9, pos := "code.go:131", after := #[{ on := 1, ground := Go.Ground.data }], guard := none }) (v := ?v3_4) rfl (by kernel_rfl) (by kernel_rfl) (by kernel_rfl) (fun _ _ _ h => h) (Or.inl ⟨by rfl, ?hy3_4⟩) (by assumption) ?rest3_4
      case hy3_4 => (intro w hSw; (try dsimp only at hSw); have y1 := Blk.cell hSw 0; go_simp <;> with_reducible rfl)
      try simp only [Act.put, List.setIfInBounds_toArray, List.set_cons_zero, List.set_cons_succ]
      refine wpAnyH_take (i := 3) (oi := { dst := some 94, op := Go.Op.move (Go.Operand.tmp 11), type := 2, pos := "code.go:131", after := #[], guard := none }) (v := ?v4_4) rfl (by kernel_rfl) (by kernel_rfl) (by kernel_rfl) (fun _ _ _ h => h) (Or.inl ⟨by rfl, ?hy4_4⟩) (by assumption) ?rest4_4
      case hy4_4 => (intro w hSw; (try dsimp only at hSw); have y1 := Blk.cell hSw 0; go_simp <;> with_reducible rfl)
      try simp only [Act.put, List.setIfInBounds_toArray, List.set_cons_zero, List.set_cons_succ]
      refine wpAnyH_take (i := 6) (oi := { dst := some 97, op := Go.Op.move (Go.Operand.tmp 1), type := 2, pos := "code.go:131", after := #[{ on := 8, ground := Go.Ground.gcOnly Go.Departure.lateStores }], guard := none }) (v := ?v5_4) rfl (by kernel_rfl) (by kernel_rfl) (by kernel_rfl) (fun _ _ _ h => h) (Or.inl ⟨by rfl, ?hy5_4⟩) (by assumption) ?rest5_4
      case hy5_4 => (intro w hSw; (try dsimp only at hSw); have y1 := Blk.cell hSw 0; go_simp <;> with_reducible rfl)
      try simp only [Act.put, List.setIfInBounds_toArray, List.set_cons_zero, List.set_cons_succ]
      refine wpAnyH_take (i := 7) (oi := { dst := some 98, op := Go.Op.binOp Go.BinOp.add 2 (Go.Operand.tmp 97) (Go.Operand.const (Go.Value.int Go.IntKind.i64 16)) 2, type := 2, pos := "code.go:131", after := #[{ on := 6, ground := Go.Ground.data }, { on := 8, ground := Go.Ground.gcOnly Go.Departure.lateStores }], guard := none }) (v := ?v6_4) rfl (by kernel_rfl) (by kernel_rfl) (by kernel_rfl) (fun _ _ _ h => h) (Or.inl ⟨by rfl, ?hy6_4⟩) (by assumption) ?rest6_4
      case hy6_4 => (intro w hSw; (try dsimp only at hSw); have y1 := Blk.cell hSw 0; go_simp <;> with_reducible rfl)
      try simp only [Act.put, List.setIfInBounds_toArray, List.set_cons_zero, List.set_cons_succ]
      refine wpAnyH_ready (rs := [4]) (by kernel_rfl) (by simp) ?_
      refine AllReadyH.cons (o := { dst := some 95, op := Go.Op.call { callee := Go.Callee.value (Go.Operand.func 13), args := #[Go.Operand.tmp 94, Go.Operand.const (Go.Value.int Go.IntKind.i64 10)], argTypes := #[2, 3] }, type := 9, pos := "code.go:131", after := #[{ on := 3, ground := Go.Ground.data }], guard := none }) rfl (fun K hK => ?_) AllReadyH.nil
      go_simp
      go_at_call 13; refine (hS.still (fmtS nx hni _ hS.fact.1)).mono ?_; rintro e w7 ⟨rfl, hS2⟩; clear hS; have hS := hS2; clear hS2
      refine hK.out _ _ ?_ (fun hHeld2 => ?_)
      · (try dsimp only); first | exact hS.fact.2 | exact hS.fact.1.2
      clear hK K hHeld
      have hHeld := hHeld2
      clear hHeld2
      try simp only [Act.put, List.setIfInBounds_toArray, List.set_cons_zero, List.set_cons_succ]
      refine wpAnyH_take (i := 5) (oi := { dst := some 96, op := Go.Op.binOp Go.BinOp.add 9 (Go.Operand.tmp 93) (Go.Operand.tmp 95) 9, type := 9, pos := "code.go:131", after := #[{ on := 2, ground := Go.Ground.data }, { on := 4, ground := Go.Ground.data }], guard := none }) (v := ?v7_4) rfl (by kernel_rfl) (by kernel_rfl) (by kernel_rfl) (fun _ _ _ h => h) (Or.inl ⟨by rfl, ?hy7_4⟩) (by assumption) ?rest7_4
      case hy7_4 => (intro w hSw; (try dsimp only at hSw); have y1 := Blk.cell hSw 0; go_simp <;> with_reducible rfl)
      try simp only [Act.put, List.setIfInBounds_toArray, List.set_cons_zero, List.set_cons_succ]
      refine wpAnyH_take (i := 8) (oi := { dst := some 4, op := Go.Op.assign (Go.Operand.tmp 96), type := 9, pos := "code.go:131", after := #[{ on := 5, ground := Go.Ground.data }, { on := 4, ground := Go.Ground.chain }, { on := 0, ground := Go.Ground.phase }, { on := 1, ground := Go.Ground.phase }, { on := 2, ground := Go.Ground.phase }, { on := 3, ground := Go.Ground.phase }, { on := 4, ground := Go.Ground.phase }, { on := 5, ground := Go.Ground.phase }, { on := 6, ground := Go.Ground.textOnly Go.Departure.lateStores }, { on := 7, ground := Go.Ground.textOnly Go.Departure.lateStores }], guard := none }) (v := ?v8_4) rfl (by kernel_rfl) (by kernel_rfl) (by kernel_rfl) (fun _ _ _ h => h) (Or.inl ⟨by rfl, ?hy8_4⟩) (by assumption) ?rest8_4
      case hy8_4 => (intro w hSw; (try dsimp only at hSw); have y1 := Blk.cell hSw 0; go_simp <;> with_reducible rfl)
      try simp only [Act.put, List.setIfInBounds_toArray, List.set_cons_zero, List.set_cons_succ]
      refine wpAnyH_take (i := 9) (oi := { dst := some 5, op := Go.Op.assign (Go.Operand.tmp 98), type := 2, pos := "code.go:131", after := #[{ on := 7, ground := Go.Ground.data }, { on := 8, ground := Go.Ground.chain }, { on := 0, ground := Go.Ground.phase }, { on := 1, ground := Go.Ground.phase }, { on := 2, ground := Go.Ground.phase }, { on := 3, ground := Go.Ground.phase }, { on := 4, ground := Go.Ground.phase }, { on := 5, ground := Go.Ground.phase }, { on := 6, ground := Go.Ground.phase }, { on := 7, ground := Go.Ground.phase }, { on := 8, ground := Go.Ground.phase }], guard := none }) (v := ?v9_4) rfl (by kernel_rfl) (by kernel_rfl) (by kernel_rfl) (fun _ _ _ h => h) (Or.inl ⟨by rfl, ?hy9_4⟩) (by assumption) ?rest9_4
      case hy9_4 => (intro w hSw; (try dsimp only at hSw); have y1 := Blk.cell hSw 0; go_simp <;> with_reducible rfl)
      try simp only [Act.put, List.setIfInBounds_toArray, List.set_cons_zero, List.set_cons_succ]
      refine wpAnyH_take (i := 10) (oi := { dst := some 6, op := Go.Op.assign (Go.Operand.const (Go.Value.bool true)), type := 4, pos := "code.go:131", after := #[{ on := 9, ground := Go.Ground.chain }, { on := 0, ground := Go.Ground.phase }, { on := 1, ground := Go.Ground.phase }, { on := 2, ground := Go.Ground.phase }, { on := 3, ground := Go.Ground.phase }, { on := 4, ground := Go.Ground.phase }, { on := 5, ground := Go.Ground.phase }, { on := 6, ground := Go.Ground.phase }, { on := 7, ground := Go.Ground.phase }, { on := 8, ground := Go.Ground.phase }, { on := 9, ground := Go.Ground.phase }], guard := none }) (v := ?v10_4) rfl (by kernel_rfl) (by kernel_rfl) (by kernel_rfl) (fun _ _ _ h => h) (Or.inl ⟨by rfl, ?hy10_4⟩) (by assumption) ?rest10_4
      case hy10_4 => (intro w hSw; (try dsimp only at hSw); have y1 := Blk.cell hSw 0; go_simp <;> with_reducible rfl)
      try simp only [Act.put, List.setIfInBounds_toArray, List.set_cons_zero, List.set_cons_succ]
      refine wpAnyH_done (by kernel_rfl) ?_ _
      refine NoPanic.normal ?_
      go_wp2
      refine ⟨rfl, _, ?_, hS.memQ _⟩
      simp [results, Tryd.results10, go_sem]
    · go_enter Tryd.func10, Tryd.ntmps10
      go_upto_region 6 with (first
        | (go_at_call 22; refine (hS.mem (fun O h hb => hC.out _ O h hb)).mono ?_; rintro e w1 ⟨rfl, hS2⟩; clear hS; have hS := hS2; clear hS2)
        | (go_at_call 23; refine (hS.still (hNum.out _)).mono ?_; rintro e w2 ⟨rfl, hS2⟩; clear hS; have hS := hS2; clear hS2)
        | (go_at_call 24; refine (hS.still (hOf.out _)).mono ?_; rintro e w4 ⟨rfl, hS2⟩; clear hS; have hS := hS2; clear hS2))
      have hS2 := hS.new #[.string pn, .int .i64 pt, .int .i64 pl, .bool pi, .bool pc] 56
      obtain ⟨P, hP⟩ : ∃ P, P = w4.heap.size := ⟨_, rfl⟩
      obtain ⟨w8, hw8⟩ : ∃ w8, w8 = w4.alloc (.cells #[.string pn, .int .i64 pt, .int .i64 pl, .bool pi, .bool pc] 56) := ⟨_, rfl⟩
      rw [← hw8, ← hP] at hS2 ⊢
      clear hw8 hP hS
      have hS := hS2
      clear hS2
      go_upto_region 25 with (go_at_call 22; refine (hS.mem (fun O h hb => hC8.out _ O h hb)).mono ?_; rintro e w5 ⟨rfl, hS2⟩; clear hS; have hS := hS2; clear hS2)
      replace hS := hS.drew
      refine wp_region_noPanic ?_
      refine wp_region_held_drew (S := (fun w9 => Blk w9 P #[.string pn, .int .i64 pt, .int .i64 pl, .bool pi, .bool pc] 56)) (by kernel_rfl) ?_ (fun hHeld => ?_)
      · (try dsimp only); first | exact hS.fact.2 | exact hS.fact.1.2
      refine wpAnyH_take (i := 0) (oi := { dst := some 91, op := Go.Op.fieldAddr 56 (Go.Operand.tmp 10) 0, type := 0, pos := "code.go:131", after := #[], guard := none }) (v := ?v1_5) rfl (by kernel_rfl) (by kernel_rfl) (by kernel_rfl) (fun _ _ _ h => h) (Or.inl ⟨by rfl, ?hy1_5⟩) (by assumption) ?rest1_5
      case hy1_5 => (intro w hSw; (try dsimp only at hSw); have y1 := Blk.cell hSw 0; go_simp <;> with_reducible rfl)
      try simp only [Act.put, List.setIfInBounds_toArray, List.set_cons_zero, List.set_cons_succ]
      refine wpAnyH_take (i := 1) (oi := { dst := some 92, op := Go.Op.load 9 (Go.Operand.tmp 91), type := 9, pos := "code.go:131", after := #[{ on := 0, ground := Go.Ground.data }], guard := none }) (v := ?v2_5) rfl (by kernel_rfl) (by kernel_rfl) (by kernel_rfl) (fun _ _ _ h => h) (Or.inl ⟨by rfl, ?hy2_5⟩) (by assumption) ?rest2_5
      case hy2_5 => (intro w hSw; (try dsimp only at hSw); have y1 := Blk.cell hSw 0; go_simp <;> with_reducible rfl)
      try simp only [Act.put, List.setIfInBounds_toArray, List.set_cons_zero, List.set_cons_succ]
      refine wpAnyH_take (i := 2) (oi := { dst := some 93, op := Go.Op.binOp Go.BinOp.add 9 (Go.Operand.tmp 92) (Go.Operand.const (Go.Value.string { data := #[32] })) 9, type := 9, pos := "code.go:131", after := #[{ on := 1, ground := Go.Ground.data }], guard := none }) (v := ?v3_5) rfl (by kernel_rfl) (by kernel_rfl) (by kernel_rfl) (fun _ _ _ h => h) (Or.inl ⟨by rfl, ?hy3_5⟩) (by assumption) ?rest3_5
      case hy3_5 => (intro w hSw; (try dsimp only at hSw); have y1 := Blk.cell hSw 0; go_simp <;> with_reducible rfl)
      try simp only [Act.put, List.setIfInBounds_toArray, List.set_cons_zero, List.set_cons_succ]
      refine wpAnyH_take (i := 3) (oi := { dst := some 94, op := Go.Op.move (Go.Operand.tmp 11), type := 2, pos := "code.go:131", after := #[], guard := none }) (v := ?v4_5) rfl (by kernel_rfl) (by kernel_rfl) (by kernel_rfl) (fun _ _ _ h => h) (Or.inl ⟨by rfl, ?hy4_5⟩) (by assumption) ?rest4_5
      case hy4_5 => (intro w hSw; (try dsimp only at hSw); have y1 := Blk.cell hSw 0; go_simp <;> with_reducible rfl)
      try simp only [Act.put, List.setIfInBounds_toArray, List.set_cons_zero, List.set_cons_succ]
      refine wpAnyH_take (i := 6) (oi := { dst := some 97, op := Go.Op.move (Go.Operand.tmp 1), type := 2, pos := "code.go:131", after := #[{ on := 8, ground := Go.Ground.gcOnly Go.Departure.lateStores }], guard := none }) (v := ?v5_5) rfl (by kernel_rfl) (by kernel_rfl) (by kernel_rfl) (fun _ _ _ h => h) (Or.inl ⟨by rfl, ?hy5_5⟩) (by assumption) ?rest5_5
      case hy5_5 => (intro w hSw; (try dsimp only at hSw); have y1 := Blk.cell hSw 0; go_simp <;> with_reducible rfl)
      try simp only [Act.put, List.setIfInBounds_toArray, List.set_cons_zero, List.set_cons_succ]
      refine wpAnyH_take (i := 7) (oi := { dst := some 98, op := Go.Op.binOp Go.BinOp.add 2 (Go.Operand.tmp 97) (Go.Operand.const (Go.Value.int Go.IntKind.i64 16)) 2, type := 2, pos := "code.go:131", after := #[{ on := 6, ground := Go.Ground.data }, { on := 8, ground := Go.Ground.gcOnly Go.Departure.lateStores }], guard := none }) (v := ?v6_5) rfl (by kernel_rfl) (by kernel_rfl) (by kernel_rfl) (fun _ _ _ h => h) (Or.inl ⟨by rfl, ?hy6_5⟩) (by assumption) ?rest6_5
      case hy6_5 => (intro w hSw; (try dsimp only at hSw); have y1 := Blk.cell hSw 0; go_simp <;> with_reducible rfl)
      try simp only [Act.put, List.setIfInBounds_toArray, List.set_cons_zero, List.set_cons_succ]
      refine wpAnyH_ready (rs := [4]) (by kernel_rfl) (by simp) ?_
      refine AllReadyH.cons (o := { dst := some 95, op := Go.Op.call { callee := Go.Callee.value (Go.Operand.func 13), args := #[Go.Operand.tmp 94, Go.Operand.const (Go.Value.int Go.IntKind.i64 10)], argTypes := #[2, 3] }, type := 9, pos := "code.go:131", after := #[{ on := 3, ground := Go.Ground.data }], guard := none }) rfl (fun K hK => ?_) AllReadyH.nil
      go_simp
      go_at_call 13; refine (hS.still (fmtS nx hni _ hS.fact.1)).mono ?_; rintro e w7 ⟨rfl, hS2⟩; clear hS; have hS := hS2; clear hS2
      refine hK.out _ _ ?_ (fun hHeld2 => ?_)
      · (try dsimp only); first | exact hS.fact.2 | exact hS.fact.1.2
      clear hK K hHeld
      have hHeld := hHeld2
      clear hHeld2
      try simp only [Act.put, List.setIfInBounds_toArray, List.set_cons_zero, List.set_cons_succ]
      refine wpAnyH_take (i := 5) (oi := { dst := some 96, op := Go.Op.binOp Go.BinOp.add 9 (Go.Operand.tmp 93) (Go.Operand.tmp 95) 9, type := 9, pos := "code.go:131", after := #[{ on := 2, ground := Go.Ground.data }, { on := 4, ground := Go.Ground.data }], guard := none }) (v := ?v7_5) rfl (by kernel_rfl) (by kernel_rfl) (by kernel_rfl) (fun _ _ _ h => h) (Or.inl ⟨by rfl, ?hy7_5⟩) (by assumption) ?rest7_5
      case hy7_5 => (intro w hSw; (try dsimp only at hSw); have y1 := Blk.cell hSw 0; go_simp <;> with_reducible rfl)
      try simp only [Act.put, List.setIfInBounds_toArray, List.set_cons_zero, List.set_cons_succ]
      refine wpAnyH_take (i := 8) (oi := { dst := some 4, op := Go.Op.assign (Go.Operand.tmp 96), type := 9, pos := "code.go:131", after := #[{ on := 5, ground := Go.Ground.data }, { on := 4, ground := Go.Ground.chain }, { on := 0, ground := Go.Ground.phase }, { on := 1, ground := Go.Ground.phase }, { on := 2, ground := Go.Ground.phase }, { on := 3, ground := Go.Ground.phase }, { on := 4, ground := Go.Ground.phase }, { on := 5, ground := Go.Ground.phase }, { on := 6, ground := Go.Ground.textOnly Go.Departure.lateStores }, { on := 7, ground := Go.Ground.textOnly Go.Departure.lateStores }], guard := none }) (v := ?v8_5) rfl (by kernel_rfl) (by kernel_rfl) (by kernel_rfl) (fun _ _ _ h => h) (Or.inl ⟨by rfl, ?hy8_5⟩) (by assumption) ?rest8_5
      case hy8_5 => (intro w hSw; (try dsimp only at hSw); have y1 := Blk.cell hSw 0; go_simp <;> with_reducible rfl)
      try simp only [Act.put, List.setIfInBounds_toArray, List.set_cons_zero, List.set_cons_succ]
      refine wpAnyH_take (i := 9) (oi := { dst := some 5, op := Go.Op.assign (Go.Operand.tmp 98), type := 2, pos := "code.go:131", after := #[{ on := 7, ground := Go.Ground.data }, { on := 8, ground := Go.Ground.chain }, { on := 0, ground := Go.Ground.phase }, { on := 1, ground := Go.Ground.phase }, { on := 2, ground := Go.Ground.phase }, { on := 3, ground := Go.Ground.phase }, { on := 4, ground := Go.Ground.phase }, { on := 5, ground := Go.Ground.phase }, { on := 6, ground := Go.Ground.phase }, { on := 7, ground := Go.Ground.phase }, { on := 8, ground := Go.Ground.phase }], guard := none }) (v := ?v9_5) rfl (by kernel_rfl) (by kernel_rfl) (by kernel_rfl) (fun _ _ _ h => h) (Or.inl ⟨by rfl, ?hy9_5⟩) (by assumption) ?rest9_5
      case hy9_5 => (intro w hSw; (try dsimp only at hSw); have y1 := Blk.cell hSw 0; go_simp <;> with_reducible rfl)
      try simp only [Act.put, List.setIfInBounds_toArray, List.set_cons_zero, List.set_cons_succ]
      refine wpAnyH_take (i := 10) (oi := { dst := some 6, op := Go.Op.assign (Go.Operand.const (Go.Value.bool true)), type := 4, pos := "code.go:131", after := #[{ on := 9, ground := Go.Ground.chain }, { on := 0, ground := Go.Ground.phase }, { on := 1, ground := Go.Ground.phase }, { on := 2, ground := Go.Ground.phase }, { on := 3, ground := Go.Ground.phase }, { on := 4, ground := Go.Ground.phase }, { on := 5, ground := Go.Ground.phase }, { on := 6, ground := Go.Ground.phase }, { on := 7, ground := Go.Ground.phase }, { on := 8, ground := Go.Ground.phase }, { on := 9, ground := Go.Ground.phase }], guard := none }) (v := ?v10_5) rfl (by kernel_rfl) (by kernel_rfl) (by kernel_rfl) (fun _ _ _ h => h) (Or.inl ⟨by rfl, ?hy10_5⟩) (by assumption) ?rest10_5
      case hy10_5 => (intro w hSw; (try dsimp only at hSw); have y1 := Blk.cell hSw 0; go_simp <;> with_reducible rfl)
      try simp only [Act.put, List.setIfInBounds_toArray, List.set_cons_zero, List.set_cons_succ]
      refine wpAnyH_done (by kernel_rfl) ?_ _
      refine NoPanic.normal ?_
      go_wp2
      refine ⟨rfl, _, ?_, hS.memQ _⟩
      simp [results, Tryd.results10, go_sem]
  have c1' : isNum n = false := by simpa using c1
  have f2 : (n == 2) = false := by unfold isNum at c1'; simp at c1' ⊢; omega
  have f3 : (n == 3) = false := by unfold isNum at c1'; simp at c1' ⊢; omega
  have f4 : (n == 4) = false := by unfold isNum at c1'; simp at c1' ⊢; omega
  have f6 : (n == 6) = false := by unfold isNum at c1'; simp at c1' ⊢; omega
  have f7 : (n == 7) = false := by unfold isNum at c1'; simp at c1' ⊢; omega
  by_cases c2 : isTxt n = true
  · obtain ⟨here, hhe⟩ : ∃ here, here = hereL M := ⟨_, rfl⟩
    rw [← hhe] at hHr hhin htxt hnot
    have wa : IntKind.i64.wrap (here - a) = here - a := wrap_id (by omega)
    obtain ⟨ba, hba⟩ : ∃ ba, ba = here - a := ⟨_, rfl⟩
    rw [← hba] at wa htxt hnot
    have wa2 : IntKind.i64.wrap (here - a) = ba := by rw [hba]; rw [hba] at wa; exact wa
    have wb : IntKind.i64.wrap (ba - 16) = ba - 16 := wrap_id (by omega)
    obtain ⟨bb, hbb⟩ : ∃ bb, bb = ba - 16 := ⟨_, rfl⟩
    rw [← hbb] at htxt hnot
    have wb2 : IntKind.i64.wrap (ba - 16) = bb := by rw [hbb]; exact wb
    have hcs : n = 8 ∨ n = 9 ∨ n = 10 := by unfold isTxt at c2; simp at c2; omega
    clear hnum hhe wa wb c1 hx2 hIs
    by_cases d1 : 0 ≤ nx
    · have t1 : (0 ≤ nx) = True := eq_true d1
      by_cases d2 : nx ≤ bb
      · have t2 : (nx ≤ bb) = True := eq_true d2
        rw [htxt c1' c2 ⟨d1, d2⟩]
        have hLs := loadL_len M a16 nx
        have hal : alignZ nx < nx + 8 ∧ nx ≤ alignZ nx := by have := alignZ_small nx (by omega); omega
        have hx3 := add_str s1 ⟨(loadL M a16 nx).toArray⟩ (by omega) (by show (loadL M a16 nx).toArray.size ≤ 100000; rw [List.size_toArray, hLs]; omega)
        generalize loadL M a16 nx = L at *
        obtain ⟨s3, hs3⟩ : ∃ s3, s3 = s1 ++ (⟨L.toArray⟩ : ByteArray) := ⟨_, rfl⟩
        rw [← hs3] at hx3 ⊢
        generalize alignZ nx = al at *
        obtain ⟨ax, hax⟩ : ∃ ax, ax = a16 + al := ⟨_, rfl⟩
        have wx : IntKind.i64.wrap (a16 + al) = ax := by rw [hax]; exact wrap_id (by omega)
        rw [← hax]
        unfold lookE
        clear htxt hnot hb hb8 hhin d1 d2 hba hbb hax hs3 hLs hal c1' c2 h1s ha16 hni
        rcases hcs with rfl | rfl | rfl
        · go_enter Tryd.func10, Tryd.ntmps10
          go_upto_region 6 with (first
            | (go_at_call 22; refine (hS.mem (fun O h hb => hC.out _ O h hb)).mono ?_; rintro e w1 ⟨rfl, hS2⟩; clear hS; have hS := hS2; clear hS2)
            | (go_at_call 23; refine (hS.still (hNum.out _)).mono ?_; rintro e w2 ⟨rfl, hS2⟩; clear hS; have hS := hS2; clear hS2)
            | (go_at_call 24; refine (hS.still (hOf.out _)).mono ?_; rintro e w4 ⟨rfl, hS2⟩; clear hS; have hS := hS2; clear hS2))
          have hS2 := hS.new #[.string pn, .int .i64 pt, .int .i64 pl, .bool pi, .bool pc] 56
          obtain ⟨P, hP⟩ : ∃ P, P = w4.heap.size := ⟨_, rfl⟩
          obtain ⟨w8, hw8⟩ : ∃ w8, w8 = w4.alloc (.cells #[.string pn, .int .i64 pt, .int .i64 pl, .bool pi, .bool pc] 56) := ⟨_, rfl⟩
          rw [← hw8, ← hP] at hS2 ⊢
          clear hw8 hP hS
          have hS := hS2
          clear hS2
          go_upto_region 23 with (first
            | (go_at_call 22; refine (hS.mem (fun O h hb => hC8.out _ O h hb)).mono ?_; rintro e w5 ⟨rfl, hS2⟩; clear hS; have hS := hS2; clear hS2)
            | (go_at_call 26; refine (hS.mem (fun O h hb => hHr.out _ O h hb)).mono ?_; rintro e w6 ⟨rfl, hS2⟩; clear hS; have hS := hS2; clear hS2; have hP6 := hS.fact.2))
          replace hS := hS.drew
          refine wp_region_noPanic ?_
          refine wp_region_held_drew (S := (fun w9 => Blk w9 P #[.string pn, .int .i64 pt, .int .i64 pl, .bool pi, .bool pc] 56)) (by kernel_rfl) ?_ (fun hHeld => ?_)
          · (try dsimp only); first | exact hS.fact.2 | exact hS.fact.1.2
          refine wpAnyH_take (i := 0) (oi := { dst := some 75, op := Go.Op.fieldAddr 56 (Go.Operand.tmp 10) 0, type := 0, pos := "code.go:127", after := #[], guard := none }) (v := ?v11_6) rfl (by kernel_rfl) (by kernel_rfl) (by kernel_rfl) (fun _ _ _ h => h) (Or.inl ⟨by rfl, ?hy11_6⟩) (by assumption) ?rest11_6
          case hy11_6 => (intro w hSw; (try dsimp only at hSw); have y1 := Blk.cell hSw 0; go_simp <;> with_reducible rfl)
          try simp only [Act.put, List.setIfInBounds_toArray, List.set_cons_zero, List.set_cons_succ]
          refine wpAnyH_take (i := 1) (oi := { dst := some 76, op := Go.Op.load 9 (Go.Operand.tmp 75), type := 9, pos := "code.go:127", after := #[{ on := 0, ground := Go.Ground.data }], guard := none }) (v := ?v12_6) rfl (by kernel_rfl) (by kernel_rfl) (by kernel_rfl) (fun _ _ _ h => h) (Or.inl ⟨by rfl, ?hy12_6⟩) (by assumption) ?rest12_6
          case hy12_6 => (intro w hSw; (try dsimp only at hSw); have y1 := Blk.cell hSw 0; go_simp <;> with_reducible rfl)
          try simp only [Act.put, List.setIfInBounds_toArray, List.set_cons_zero, List.set_cons_succ]
          refine wpAnyH_take (i := 2) (oi := { dst := some 77, op := Go.Op.binOp Go.BinOp.add 9 (Go.Operand.tmp 76) (Go.Operand.const (Go.Value.string { data := #[32] })) 9, type := 9, pos := "code.go:127", after := #[{ on := 1, ground := Go.Ground.data }], guard := none }) (v := ?v13_6) rfl (by kernel_rfl) (by kernel_rfl) (by kernel_rfl) (fun _ _ _ h => h) (Or.inl ⟨by rfl, ?hy13_6⟩) (by assumption) ?rest13_6
          case hy13_6 => (intro w hSw; (try dsimp only at hSw); have y1 := Blk.cell hSw 0; go_simp <;> with_reducible rfl)
          try simp only [Act.put, List.setIfInBounds_toArray, List.set_cons_zero, List.set_cons_succ]
          refine wpAnyH_take (i := 3) (oi := { dst := some 78, op := Go.Op.move (Go.Operand.tmp 0), type := 24, pos := "code.go:127", after := #[], guard := none }) (v := ?v14_6) rfl (by kernel_rfl) (by kernel_rfl) (by kernel_rfl) (fun _ _ _ h => h) (Or.inl ⟨by rfl, ?hy14_6⟩) (by assumption) ?rest14_6
          case hy14_6 => (intro w hSw; (try dsimp only at hSw); have y1 := Blk.cell hSw 0; go_simp <;> with_reducible rfl)
          try simp only [Act.put, List.setIfInBounds_toArray, List.set_cons_zero, List.set_cons_succ]
          refine wpAnyH_take (i := 4) (oi := { dst := some 79, op := Go.Op.move (Go.Operand.tmp 1), type := 2, pos := "code.go:127", after := #[], guard := none }) (v := ?v15_6) rfl (by kernel_rfl) (by kernel_rfl) (by kernel_rfl) (fun _ _ _ h => h) (Or.inl ⟨by rfl, ?hy15_6⟩) (by assumption) ?rest15_6
          case hy15_6 => (intro w hSw; (try dsimp only at hSw); have y1 := Blk.cell hSw 0; go_simp <;> with_reducible rfl)
          try simp only [Act.put, List.setIfInBounds_toArray, List.set_cons_zero, List.set_cons_succ]
          refine wpAnyH_take (i := 5) (oi := { dst := some 80, op := Go.Op.binOp Go.BinOp.add 3 (Go.Operand.tmp 79) (Go.Operand.const (Go.Value.int Go.IntKind.i64 16)) 3, type := 3, pos := "code.go:127", after := #[{ on := 4, ground := Go.Ground.data }], guard := none }) (v := ?v16_6) rfl (by kernel_rfl) (by kernel_rfl) (by kernel_rfl) (fun _ _ _ h => h) (Or.inl ⟨by rfl, ?hy16_6⟩) (by assumption) ?rest16_6
          case hy16_6 => (intro w hSw; (try dsimp only at hSw); have y1 := Blk.cell hSw 0; go_simp <;> with_reducible rfl)
          try simp only [Act.put, List.setIfInBounds_toArray, List.set_cons_zero, List.set_cons_succ]
          refine wpAnyH_take (i := 6) (oi := { dst := some 81, op := Go.Op.move (Go.Operand.tmp 11), type := 2, pos := "code.go:127", after := #[], guard := none }) (v := ?v17_6) rfl (by kernel_rfl) (by kernel_rfl) (by kernel_rfl) (fun _ _ _ h => h) (Or.inl ⟨by rfl, ?hy17_6⟩) (by assumption) ?rest17_6
          case hy17_6 => (intro w hSw; (try dsimp only at hSw); have y1 := Blk.cell hSw 0; go_simp <;> with_reducible rfl)
          try simp only [Act.put, List.setIfInBounds_toArray, List.set_cons_zero, List.set_cons_succ]
          refine wpAnyH_take (i := 10) (oi := { dst := some 85, op := Go.Op.move (Go.Operand.tmp 1), type := 2, pos := "code.go:127", after := #[{ on := 15, ground := Go.Ground.gcOnly Go.Departure.lateStores }], guard := none }) (v := ?v18_6) rfl (by kernel_rfl) (by kernel_rfl) (by kernel_rfl) (fun _ _ _ h => h) (Or.inl ⟨by rfl, ?hy18_6⟩) (by assumption) ?rest18_6
          case hy18_6 => (intro w hSw; (try dsimp only at hSw); have y1 := Blk.cell hSw 0; go_simp <;> with_reducible rfl)
          try simp only [Act.put, List.setIfInBounds_toArray, List.set_cons_zero, List.set_cons_succ]
          refine wpAnyH_take (i := 11) (oi := { dst := some 86, op := Go.Op.binOp Go.BinOp.add 2 (Go.Operand.tmp 85) (Go.Operand.const (Go.Value.int Go.IntKind.i64 16)) 2, type := 2, pos := "code.go:127", after := #[{ on := 10, ground := Go.Ground.data }, { on := 15, ground := Go.Ground.gcOnly Go.Departure.lateStores }], guard := none }) (v := ?v19_6) rfl (by kernel_rfl) (by kernel_rfl) (by kernel_rfl) (fun _ _ _ h => h) (Or.inl ⟨by rfl, ?hy19_6⟩) (by assumption) ?rest19_6
          case hy19_6 => (intro w hSw; (try dsimp only at hSw); have y1 := Blk.cell hSw 0; go_simp <;> with_reducible rfl)
          try simp only [Act.put, List.setIfInBounds_toArray, List.set_cons_zero, List.set_cons_succ]
          refine wpAnyH_take (i := 12) (oi := { dst := some 87, op := Go.Op.move (Go.Operand.tmp 11), type := 2, pos := "code.go:127", after := #[], guard := none }) (v := ?v20_6) rfl (by kernel_rfl) (by kernel_rfl) (by kernel_rfl) (fun _ _ _ h => h) (Or.inl ⟨by rfl, ?hy20_6⟩) (by assumption) ?rest20_6
          case hy20_6 => (intro w hSw; (try dsimp only at hSw); have y1 := Blk.cell hSw 0; go_simp <;> with_reducible rfl)
          try simp only [Act.put, List.setIfInBounds_toArray, List.set_cons_zero, List.set_cons_succ]
          refine wpAnyH_ready (rs := [7]) (by kernel_rfl) (by simp) ?_
          refine AllReadyH.cons (o := { dst := some 82, op := Go.Op.call { callee := Go.Callee.value (Go.Operand.func 18), args := #[Go.Operand.tmp 78, Go.Operand.tmp 80, Go.Operand.tmp 81], argTypes := #[24, 3, 3] }, type := 22, pos := "code.go:127", after := #[{ on := 3, ground := Go.Ground.data }, { on := 5, ground := Go.Ground.data }, { on := 6, ground := Go.Ground.data }], guard := none }) rfl (fun K hK => ?_) AllReadyH.nil
          go_simp
          go_at_call 18; refine (hS.load (fun O h hb => hLd.out _ O h hb)).mono ?_; rintro e w7 ⟨v7, rfl, hS2⟩; clear hS; have hS := hS2; clear hS2
          refine hK.out _ _ ?_ (fun hHeld2 => ?_)
          · (try dsimp only); first | exact hS.fact.2 | exact hS.fact.1.2
          clear hK K hHeld
          have hHeld := hHeld2
          clear hHeld2
          try simp only [Act.put, List.setIfInBounds_toArray, List.set_cons_zero, List.set_cons_succ]
          refine wpAnyH_ready (rs := [8, 13]) (by kernel_rfl) (by simp) ?_
          refine AllReadyH.cons (o := { dst := some 83, op := Go.Op.convert 22 9 (Go.Operand.tmp 82), type := 9, pos := "code.go:127", after := #[{ on := 7, ground := Go.Ground.data }], guard := none }) rfl (fun K hK => ?_) ?_
          ·
            have hst := bs_str hS.fact.2
            go_simp
            refine hK.out _ _ ?_ (fun hHeld2 => ?_)
            · (try dsimp only); first | exact hS.fact.2 | exact hS.fact.1.2
            clear hK K hHeld
            have hHeld := hHeld2
            clear hHeld2
            try simp only [Act.put, List.setIfInBounds_toArray, List.set_cons_zero, List.set_cons_succ]
            refine wpAnyH_take (i := 9) (oi := { dst := some 84, op := Go.Op.binOp Go.BinOp.add 9 (Go.Operand.tmp 77) (Go.Operand.tmp 83) 9, type := 9, pos := "code.go:127", after := #[{ on := 2, ground := Go.Ground.data }, { on := 8, ground := Go.Ground.data }], guard := none }) (v := ?v21_6) rfl (by kernel_rfl) (by kernel_rfl) (by kernel_rfl) (fun _ _ _ h => h) (Or.inl ⟨by rfl, ?hy21_6⟩) (by assumption) ?rest21_6
            case hy21_6 => (intro w hSw; (try dsimp only at hSw); have y1 := Blk.cell hSw 0; go_simp <;> with_reducible rfl)
            try simp only [Act.put, List.setIfInBounds_toArray, List.set_cons_zero, List.set_cons_succ]
            refine wpAnyH_ready (rs := [13]) (by kernel_rfl) (by simp) ?_
            refine AllReadyH.cons (o := { dst := some 88, op := Go.Op.call { callee := Go.Callee.value (Go.Operand.func 27), args := #[Go.Operand.tmp 87], argTypes := #[2] }, type := 2, pos := "code.go:127", after := #[{ on := 12, ground := Go.Ground.data }, { on := 7, ground := Go.Ground.chain }], guard := none }) rfl (fun K hK => ?_) AllReadyH.nil
            go_simp
            go_at_call 27; refine (hS.still (hAl.out _)).mono ?_; rintro e w8 ⟨rfl, hS2⟩; clear hS; have hS := hS2; clear hS2
            refine hK.out _ _ ?_ (fun hHeld2 => ?_)
            · (try dsimp only); first | exact hS.fact.2 | exact hS.fact.1.2
            clear hK K hHeld
            have hHeld := hHeld2
            clear hHeld2
            try simp only [Act.put, List.setIfInBounds_toArray, List.set_cons_zero, List.set_cons_succ]
            refine wpAnyH_take (i := 14) (oi := { dst := some 89, op := Go.Op.binOp Go.BinOp.add 2 (Go.Operand.tmp 86) (Go.Operand.tmp 88) 2, type := 2, pos := "code.go:127", after := #[{ on := 11, ground := Go.Ground.data }, { on := 13, ground := Go.Ground.data }, { on := 15, ground := Go.Ground.gcOnly Go.Departure.lateStores }], guard := none }) (v := ?v22_6) rfl (by kernel_rfl) (by kernel_rfl) (by kernel_rfl) (fun _ _ _ h => h) (Or.inl ⟨by rfl, ?hy22_6⟩) (by assumption) ?rest22_6
            case hy22_6 => (intro w hSw; (try dsimp only at hSw); have y1 := Blk.cell hSw 0; go_simp <;> with_reducible rfl)
            try simp only [Act.put, List.setIfInBounds_toArray, List.set_cons_zero, List.set_cons_succ]
            refine wpAnyH_take (i := 15) (oi := { dst := some 4, op := Go.Op.assign (Go.Operand.tmp 84), type := 9, pos := "code.go:127", after := #[{ on := 9, ground := Go.Ground.data }, { on := 13, ground := Go.Ground.chain }, { on := 0, ground := Go.Ground.phase }, { on := 1, ground := Go.Ground.phase }, { on := 2, ground := Go.Ground.phase }, { on := 3, ground := Go.Ground.phase }, { on := 4, ground := Go.Ground.phase }, { on := 5, ground := Go.Ground.phase }, { on := 6, ground := Go.Ground.phase }, { on := 7, ground := Go.Ground.phase }, { on := 8, ground := Go.Ground.phase }, { on := 9, ground := Go.Ground.phase }, { on := 10, ground := Go.Ground.textOnly Go.Departure.lateStores }, { on := 11, ground := Go.Ground.textOnly Go.Departure.lateStores }, { on := 12, ground := Go.Ground.textOnly Go.Departure.lateStores }, { on := 13, ground := Go.Ground.textOnly Go.Departure.lateStoresUnsure }, { on := 14, ground := Go.Ground.textOnly Go.Departure.lateStores }], guard := none }) (v := ?v23_6) rfl (by kernel_rfl) (by kernel_rfl) (by kernel_rfl) (fun _ _ _ h => h) (Or.inl ⟨by rfl, ?hy23_6⟩) (by assumption) ?rest23_6
            case hy23_6 => (intro w hSw; (try dsimp only at hSw); have y1 := Blk.cell hSw 0; go_simp <;> with_reducible rfl)
            try simp only [Act.put, List.setIfInBounds_toArray, List.set_cons_zero, List.set_cons_succ]
            refine wpAnyH_take (i := 16) (oi := { dst := some 5, op := Go.Op.assign (Go.Operand.tmp 89), type := 2, pos := "code.go:127", after := #[{ on := 14, ground := Go.Ground.data }, { on := 15, ground := Go.Ground.chain }, { on := 0, ground := Go.Ground.phase }, { on := 1, ground := Go.Ground.phase }, { on := 2, ground := Go.Ground.phase }, { on := 3, ground := Go.Ground.phase }, { on := 4, ground := Go.Ground.phase }, { on := 5, ground := Go.Ground.phase }, { on := 6, ground := Go.Ground.phase }, { on := 7, ground := Go.Ground.phase }, { on := 8, ground := Go.Ground.phase }, { on := 9, ground := Go.Ground.phase }, { on := 10, ground := Go.Ground.phase }, { on := 11, ground := Go.Ground.phase }, { on := 12, ground := Go.Ground.phase }, { on := 13, ground := Go.Ground.phase }, { on := 14, ground := Go.Ground.phase }, { on := 15, ground := Go.Ground.phase }], guard := none }) (v := ?v24_6) rfl (by kernel_rfl) (by kernel_rfl) (by kernel_rfl) (fun _ _ _ h => h) (Or.inl ⟨by rfl, ?hy24_6⟩) (by assumption) ?rest24_6
            case hy24_6 => (intro w hSw; (try dsimp only at hSw); have y1 := Blk.cell hSw 0; go_simp <;> with_reducible rfl)
            try simp only [Act.put, List.setIfInBounds_toArray, List.set_cons_zero, List.set_cons_succ]
            refine wpAnyH_take (i := 17) (oi := { dst := some 6, op := Go.Op.assign (Go.Operand.const (Go.Value.bool true)), type := 4, pos := "code.go:127", after := #[{ on := 16, ground := Go.Ground.chain }, { on := 0, ground := Go.Ground.phase }, { on := 1, ground := Go.Ground.phase }, { on := 2, ground := Go.Ground.phase }, { on := 3, ground := Go.Ground.phase }, { on := 4, ground := Go.Ground.phase }, { on := 5, ground := Go.Ground.phase }, { on := 6, ground := Go.Ground.phase }, { on := 7, ground := Go.Ground.phase }, { on := 8, ground := Go.Ground.phase }, { on := 9, ground := Go.Ground.phase }, { on := 10, ground := Go.Ground.phase }, { on := 11, ground := Go.Ground.phase }, { on := 12, ground := Go.Ground.phase }, { on := 13, ground := Go.Ground.phase }, { on := 14, ground := Go.Ground.phase }, { on := 15, ground := Go.Ground.phase }, { on := 16, ground := Go.Ground.phase }], guard := none }) (v := ?v25_6) rfl (by kernel_rfl) (by kernel_rfl) (by kernel_rfl) (fun _ _ _ h => h) (Or.inl ⟨by rfl, ?hy25_6⟩) (by assumption) ?rest25_6
            case hy25_6 => (intro w hSw; (try dsimp only at hSw); have y1 := Blk.cell hSw 0; go_simp <;> with_reducible rfl)
            try simp only [Act.put, List.setIfInBounds_toArray, List.set_cons_zero, List.set_cons_succ]
            refine wpAnyH_done (by kernel_rfl) ?_ _
            refine NoPanic.normal ?_
            go_wp2
            refine ⟨rfl, _, ?_, hS.memQ _⟩
            simp [results, Tryd.results10, go_sem]
          refine AllReadyH.cons (o := { dst := some 88, op := Go.Op.call { callee := Go.Callee.value (Go.Operand.func 27), args := #[Go.Operand.tmp 87], argTypes := #[2] }, type := 2, pos := "code.go:127", after := #[{ on := 12, ground := Go.Ground.data }, { on := 7, ground := Go.Ground.chain }], guard := none }) rfl (fun K hK => ?_) ?_
          ·
            go_simp
            go_at_call 27; refine (hS.still (hAl.out _)).mono ?_; rintro e w8 ⟨rfl, hS2⟩; clear hS; have hS := hS2; clear hS2
            refine hK.out _ _ ?_ (fun hHeld2 => ?_)
            · (try dsimp only); first | exact hS.fact.2 | exact hS.fact.1.2
            clear hK K hHeld
            have hHeld := hHeld2
            clear hHeld2
            try simp only [Act.put, List.setIfInBounds_toArray, List.set_cons_zero, List.set_cons_succ]
            refine wpAnyH_take (i := 14) (oi := { dst := some 89, op := Go.Op.binOp Go.BinOp.add 2 (Go.Operand.tmp 86) (Go.Operand.tmp 88) 2, type := 2, pos := "code.go:127", after := #[{ on := 11, ground := Go.Ground.data }, { on := 13, ground := Go.Ground.data }, { on := 15, ground := Go.Ground.gcOnly Go.Departure.lateStores }], guard := none }) (v := ?v26_6) rfl (by kernel_rfl) (by kernel_rfl) (by kernel_rfl) (fun _ _ _ h => h) (Or.inl ⟨by rfl, ?hy26_6⟩) (by assumption) ?rest26_6
            case hy26_6 => (intro w hSw; (try dsimp only at hSw); have y1 := Blk.cell hSw 0; go_simp <;> with_reducible rfl)
            try simp only [Act.put, List.setIfInBounds_toArray, List.set_cons_zero, List.set_cons_succ]
            refine wpAnyH_ready (rs := [8]) (by kernel_rfl) (by simp) ?_
            refine AllReadyH.cons (o := { dst := some 83, op := Go.Op.convert 22 9 (Go.Operand.tmp 82), type := 9, pos := "code.go:127", after := #[{ on := 7, ground := Go.Ground.data }], guard := none }) rfl (fun K hK => ?_) AllReadyH.nil
            have hst := bs_str hS.fact.2
            go_simp
            refine hK.out _ _ ?_ (fun hHeld2 => ?_)
            · (try dsimp only); first | exact hS.fact.2 | exact hS.fact.1.2
            clear hK K hHeld
            have hHeld := hHeld2
            clear hHeld2
            try simp only [Act.put, List.setIfInBounds_toArray, List.set_cons_zero, List.set_cons_succ]
            refine wpAnyH_take (i := 9) (oi := { dst := some 84, op := Go.Op.binOp Go.BinOp.add 9 (Go.Operand.tmp 77) (Go.Operand.tmp 83) 9, type := 9, pos := "code.go:127", after := #[{ on := 2, ground := Go.Ground.data }, { on := 8, ground := Go.Ground.data }], guard := none }) (v := ?v27_6) rfl (by kernel_rfl) (by kernel_rfl) (by kernel_rfl) (fun _ _ _ h => h) (Or.inl ⟨by rfl, ?hy27_6⟩) (by assumption) ?rest27_6
            case hy27_6 => (intro w hSw; (try dsimp only at hSw); have y1 := Blk.cell hSw 0; go_simp <;> with_reducible rfl)
            try simp only [Act.put, List.setIfInBounds_toArray, List.set_cons_zero, List.set_cons_succ]
            refine wpAnyH_take (i := 15) (oi := { dst := some 4, op := Go.Op.assign (Go.Operand.tmp 84), type := 9, pos := "code.go:127", after := #[{ on := 9, ground := Go.Ground.data }, { on := 13, ground := Go.Ground.chain }, { on := 0, ground := Go.Ground.phase }, { on := 1, ground := Go.Ground.phase }, { on := 2, ground := Go.Ground.phase }, { on := 3, ground := Go.Ground.phase }, { on := 4, ground := Go.Ground.phase }, { on := 5, ground := Go.Ground.phase }, { on := 6, ground := Go.Ground.phase }, { on := 7, ground := Go.Ground.phase }, { on := 8, ground := Go.Ground.phase }, { on := 9, ground := Go.Ground.phase }, { on := 10, ground := Go.Ground.textOnly Go.Departure.lateStores }, { on := 11, ground := Go.Ground.textOnly Go.Departure.lateStores }, { on := 12, ground := Go.Ground.textOnly Go.Departure.lateStores }, { on := 13, ground := Go.Ground.textOnly Go.Departure.lateStoresUnsure }, { on := 14, ground := Go.Ground.textOnly Go.Departure.lateStores }], guard := none }) (v := ?v28_6) rfl (by kernel_rfl) (by kernel_rfl) (by kernel_rfl) (fun _ _ _ h => h) (Or.inl ⟨by rfl, ?hy28_6⟩) (by assumption) ?rest28_6
            case hy28_6 => (intro w hSw; (try dsimp only at hSw); have y1 := Blk.cell hSw 0; go_simp <;> with_reducible rfl)
            try simp only [Act.put, List.setIfInBounds_toArray, List.set_cons_zero, List.set_cons_succ]
            refine wpAnyH_take (i := 16) (oi := { dst := some 5, op := Go.Op.assign (Go.Operand.tmp 89), type := 2, pos := "code.go:127", after := #[{ on := 14, ground := Go.Ground.data }, { on := 15, ground := Go.Ground.chain }, { on := 0, ground := Go.Ground.phase }, { on := 1, ground := Go.Ground.phase }, { on := 2, ground := Go.Ground.phase }, { on := 3, ground := Go.Ground.phase }, { on := 4, ground := Go.Ground.phase }, { on := 5, ground := Go.Ground.phase }, { on := 6, ground := Go.Ground.phase }, { on := 7, ground := Go.Ground.phase }, { on := 8, ground := Go.Ground.phase }, { on := 9, ground := Go.Ground.phase }, { on := 10, ground := Go.Ground.phase }, { on := 11, ground := Go.Ground.phase }, { on := 12, ground := Go.Ground.phase }, { on := 13, ground := Go.Ground.phase }, { on := 14, ground := Go.Ground.phase }, { on := 15, ground := Go.Ground.phase }], guard := none }) (v := ?v29_6) rfl (by kernel_rfl) (by kernel_rfl) (by kernel_rfl) (fun _ _ _ h => h) (Or.inl ⟨by rfl, ?hy29_6⟩) (by assumption) ?rest29_6
            case hy29_6 => (intro w hSw; (try dsimp only at hSw); have y1 := Blk.cell hSw 0; go_simp <;> with_reducible rfl)
            try simp only [Act.put, List.setIfInBounds_toArray, List.set_cons_zero, List.set_cons_succ]
            refine wpAnyH_take (i := 17) (oi := { dst := some 6, op := Go.Op.assign (Go.Operand.const (Go.Value.bool true)), type := 4, pos := "code.go:127", after := #[{ on := 16, ground := Go.Ground.chain }, { on := 0, ground := Go.Ground.phase }, { on := 1, ground := Go.Ground.phase }, { on := 2, ground := Go.Ground.phase }, { on := 3, ground := Go.Ground.phase }, { on := 4, ground := Go.Ground.phase }, { on := 5, ground := Go.Ground.phase }, { on := 6, ground := Go.Ground.phase }, { on := 7, ground := Go.Ground.phase }, { on := 8, ground := Go.Ground.phase }, { on := 9, ground := Go.Ground.phase }, { on := 10, ground := Go.Ground.phase }, { on := 11, ground := Go.Ground.phase }, { on := 12, ground := Go.Ground.phase }, { on := 13, ground := Go.Ground.phase }, { on := 14, ground := Go.Ground.phase }, { on := 15, ground := Go.Ground.phase }, { on := 16, ground := Go.Ground.phase }], guard := none }) (v := ?v30_6) rfl (by kernel_rfl) (by kernel_rfl) (by kernel_rfl) (fun _ _ _ h => h) (Or.inl ⟨by rfl, ?hy30_6⟩) (by assumption) ?rest30_6
            case hy30_6 => (intro w hSw; (try dsimp only at hSw); have y1 := Blk.cell hSw 0; go_simp <;> with_reducible rfl)
            try simp only [Act.put, List.setIfInBounds_toArray, List.set_cons_zero, List.set_cons_succ]
            refine wpAnyH_done (by kernel_rfl) ?_ _
            refine NoPanic.normal ?_
            go_wp2
            refine ⟨rfl, _, ?_, hS.memQ _⟩
            simp [results, Tryd.results10, go_sem]
          exact AllReadyH.nil
        · go_enter Tryd.func10, Tryd.ntmps10
          go_upto_region 6 with (first
            | (go_at_call 22; refine (hS.mem (fun O h hb => hC.out _ O h hb)).mono ?_; rintro e w1 ⟨rfl, hS2⟩; clear hS; have hS := hS2; clear hS2)
            | (go_at_call 23; refine (hS.still (hNum.out _)).mono ?_; rintro e w2 ⟨rfl, hS2⟩; clear hS; have hS := hS2; clear hS2)
            | (go_at_call 24; refine (hS.still (hOf.out _)).mono ?_; rintro e w4 ⟨rfl, hS2⟩; clear hS; have hS := hS2; clear hS2))
          have hS2 := hS.new #[.string pn, .int .i64 pt, .int .i64 pl, .bool pi, .bool pc] 56
          obtain ⟨P, hP⟩ : ∃ P, P = w4.heap.size := ⟨_, rfl⟩
          obtain ⟨w8, hw8⟩ : ∃ w8, w8 = w4.alloc (.cells #[.string pn, .int .i64 pt, .int .i64 pl, .bool pi, .bool pc] 56) := ⟨_, rfl⟩
          rw [← hw8, ← hP] at hS2 ⊢
          clear hw8 hP hS
          have hS := hS2
          clear hS2
          go_upto_region 23 with (first
            | (go_at_call 22; refine (hS.mem (fun O h hb => hC8.out _ O h hb)).mono ?_; rintro e w5 ⟨rfl, hS2⟩; clear hS; have hS := hS2; clear hS2)
            | (go_at_call 26; refine (hS.mem (fun O h hb => hHr.out _ O h hb)).mono ?_; rintro e w6 ⟨rfl, hS2⟩; clear hS; have hS := hS2; clear hS2; have hP6 := hS.fact.2))
          replace hS := hS.drew
          refine wp_region_noPanic ?_
          refine wp_region_held_drew (S := (fun w9 => Blk w9 P #[.string pn, .int .i64 pt, .int .i64 pl, .bool pi, .bool pc] 56)) (by kernel_rfl) ?_ (fun hHeld => ?_)
          · (try dsimp only); first | exact hS.fact.2 | exact hS.fact.1.2
          refine wpAnyH_take (i := 0) (oi := { dst := some 75, op := Go.Op.fieldAddr 56 (Go.Operand.tmp 10) 0, type := 0, pos := "code.go:127", after := #[], guard := none }) (v := ?v11_7) rfl (by kernel_rfl) (by kernel_rfl) (by kernel_rfl) (fun _ _ _ h => h) (Or.inl ⟨by rfl, ?hy11_7⟩) (by assumption) ?rest11_7
          case hy11_7 => (intro w hSw; (try dsimp only at hSw); have y1 := Blk.cell hSw 0; go_simp <;> with_reducible rfl)
          try simp only [Act.put, List.setIfInBounds_toArray, List.set_cons_zero, List.set_cons_succ]
          refine wpAnyH_take (i := 1) (oi := { dst := some 76, op := Go.Op.load 9 (Go.Operand.tmp 75), type := 9, pos := "code.go:127", after := #[{ on := 0, ground := Go.Ground.data }], guard := none }) (v := ?v12_7) rfl (by kernel_rfl) (by kernel_rfl) (by kernel_rfl) (fun _ _ _ h => h) (Or.inl ⟨by rfl, ?hy12_7⟩) (by assumption) ?rest12_7
          case hy12_7 => (intro w hSw; (try dsimp only at hSw); have y1 := Blk.cell hSw 0; go_simp <;> with_reducible rfl)
          try simp only [Act.put, List.setIfInBounds_toArray, List.set_cons_zero, List.set_cons_succ]
          refine wpAnyH_take (i := 2) (oi := { dst := some 77, op := Go.Op.binOp Go.BinOp.add 9 (Go.Operand.tmp 76) (Go.Operand.const (Go.Value.string { data := #[32] })) 9, type := 9, pos := "code.go:127", after := #[{ on := 1, ground := Go.Ground.data }], guard := none }) (v := ?v13_7) rfl (by kernel_rfl) (by kernel_rfl) (by kernel_rfl) (fun _ _ _ h => h) (Or.inl ⟨by rfl, ?hy13_7⟩) (by assumption) ?rest13_7
          case hy13_7 => (intro w hSw; (try dsimp only at hSw); have y1 := Blk.cell hSw 0; go_simp <;> with_reducible rfl)
          try simp only [Act.put, List.setIfInBounds_toArray, List.set_cons_zero, List.set_cons_succ]
          refine wpAnyH_take (i := 3) (oi := { dst := some 78, op := Go.Op.move (Go.Operand.tmp 0), type := 24, pos := "code.go:127", after := #[], guard := none }) (v := ?v14_7) rfl (by kernel_rfl) (by kernel_rfl) (by kernel_rfl) (fun _ _ _ h => h) (Or.inl ⟨by rfl, ?hy14_7⟩) (by assumption) ?rest14_7
          case hy14_7 => (intro w hSw; (try dsimp only at hSw); have y1 := Blk.cell hSw 0; go_simp <;> with_reducible rfl)
          try simp only [Act.put, List.setIfInBounds_toArray, List.set_cons_zero, List.set_cons_succ]
          refine wpAnyH_take (i := 4) (oi := { dst := some 79, op := Go.Op.move (Go.Operand.tmp 1), type := 2, pos := "code.go:127", after := #[], guard := none }) (v := ?v15_7) rfl (by kernel_rfl) (by kernel_rfl) (by kernel_rfl) (fun _ _ _ h => h) (Or.inl ⟨by rfl, ?hy15_7⟩) (by assumption) ?rest15_7
          case hy15_7 => (intro w hSw; (try dsimp only at hSw); have y1 := Blk.cell hSw 0; go_simp <;> with_reducible rfl)
          try simp only [Act.put, List.setIfInBounds_toArray, List.set_cons_zero, List.set_cons_succ]
          refine wpAnyH_take (i := 5) (oi := { dst := some 80, op := Go.Op.binOp Go.BinOp.add 3 (Go.Operand.tmp 79) (Go.Operand.const (Go.Value.int Go.IntKind.i64 16)) 3, type := 3, pos := "code.go:127", after := #[{ on := 4, ground := Go.Ground.data }], guard := none }) (v := ?v16_7) rfl (by kernel_rfl) (by kernel_rfl) (by kernel_rfl) (fun _ _ _ h => h) (Or.inl ⟨by rfl, ?hy16_7⟩) (by assumption) ?rest16_7
          case hy16_7 => (intro w hSw; (try dsimp only at hSw); have y1 := Blk.cell hSw 0; go_simp <;> with_reducible rfl)
          try simp only [Act.put, List.setIfInBounds_toArray, List.set_cons_zero, List.set_cons_succ]
          refine wpAnyH_take (i := 6) (oi := { dst := some 81, op := Go.Op.move (Go.Operand.tmp 11), type := 2, pos := "code.go:127", after := #[], guard := none }) (v := ?v17_7) rfl (by kernel_rfl) (by kernel_rfl) (by kernel_rfl) (fun _ _ _ h => h) (Or.inl ⟨by rfl, ?hy17_7⟩) (by assumption) ?rest17_7
          case hy17_7 => (intro w hSw; (try dsimp only at hSw); have y1 := Blk.cell hSw 0; go_simp <;> with_reducible rfl)
          try simp only [Act.put, List.setIfInBounds_toArray, List.set_cons_zero, List.set_cons_succ]
          refine wpAnyH_take (i := 10) (oi := { dst := some 85, op := Go.Op.move (Go.Operand.tmp 1), type := 2, pos := "code.go:127", after := #[{ on := 15, ground := Go.Ground.gcOnly Go.Departure.lateStores }], guard := none }) (v := ?v18_7) rfl (by kernel_rfl) (by kernel_rfl) (by kernel_rfl) (fun _ _ _ h => h) (Or.inl ⟨by rfl, ?hy18_7⟩) (by assumption) ?rest18_7
          case hy18_7 => (intro w hSw; (try dsimp only at hSw); have y1 := Blk.cell hSw 0; go_simp <;> with_reducible rfl)
          try simp only [Act.put, List.setIfInBounds_toArray, List.set_cons_zero, List.set_cons_succ]
          refine wpAnyH_take (i := 11) (oi := { dst := some 86, op := Go.Op.binOp Go.BinOp.add 2 (Go.Operand.tmp 85) (Go.Operand.const (Go.Value.int Go.IntKind.i64 16)) 2, type := 2, pos := "code.go:127", after := #[{ on := 10, ground := Go.Ground.data }, { on := 15, ground := Go.Ground.gcOnly Go.Departure.lateStores }], guard := none }) (v := ?v19_7) rfl (by kernel_rfl) (by kernel_rfl) (by kernel_rfl) (fun _ _ _ h => h) (Or.inl ⟨by rfl, ?hy19_7⟩) (by assumption) ?rest19_7
          case hy19_7 => (intro w hSw; (try dsimp only at hSw); have y1 := Blk.cell hSw 0; go_simp <;> with_reducible rfl)
          try simp only [Act.put, List.setIfInBounds_toArray, List.set_cons_zero, List.set_cons_succ]
          refine wpAnyH_take (i := 12) (oi := { dst := some 87, op := Go.Op.move (Go.Operand.tmp 11), type := 2, pos := "code.go:127", after := #[], guard := none }) (v := ?v20_7) rfl (by kernel_rfl) (by kernel_rfl) (by kernel_rfl) (fun _ _ _ h => h) (Or.inl ⟨by rfl, ?hy20_7⟩) (by assumption) ?rest20_7
          case hy20_7 => (intro w hSw; (try dsimp only at hSw); have y1 := Blk.cell hSw 0; go_simp <;> with_reducible rfl)
          try simp only [Act.put, List.setIfInBounds_toArray, List.set_cons_zero, List.set_cons_succ]
          refine wpAnyH_ready (rs := [7]) (by kernel_rfl) (by simp) ?_
          refine AllReadyH.cons (o := { dst := some 82, op := Go.Op.call { callee := Go.Callee.value (Go.Operand.func 18), args := #[Go.Operand.tmp 78, Go.Operand.tmp 80, Go.Operand.tmp 81], argTypes := #[24, 3, 3] }, type := 22, pos := "code.go:127", after := #[{ on := 3, ground := Go.Ground.data }, { on := 5, ground := Go.Ground.data }, { on := 6, ground := Go.Ground.data }], guard := none }) rfl (fun K hK => ?_) AllReadyH.nil
          go_simp
          go_at_call 18; refine (hS.load (fun O h hb => hLd.out _ O h hb)).mono ?_; rintro e w7 ⟨v7, rfl, hS2⟩; clear hS; have hS := hS2; clear hS2
          refine hK.out _ _ ?_ (fun hHeld2 => ?_)
          · (try dsimp only); first | exact hS.fact.2 | exact hS.fact.1.2
          clear hK K hHeld
          have hHeld := hHeld2
          clear hHeld2
          try simp only [Act.put, List.setIfInBounds_toArray, List.set_cons_zero, List.set_cons_succ]
          refine wpAnyH_ready (rs := [8, 13]) (by kernel_rfl) (by simp) ?_
          refine AllReadyH.cons (o := { dst := some 83, op := Go.Op.convert 22 9 (Go.Operand.tmp 82), type := 9, pos := "code.go:127", after := #[{ on := 7, ground := Go.Ground.data }], guard := none }) rfl (fun K hK => ?_) ?_
          ·
            have hst := bs_str hS.fact.2
            go_simp
            refine hK.out _ _ ?_ (fun hHeld2 => ?_)
            · (try dsimp only); first | exact hS.fact.2 | exact hS.fact.1.2
            clear hK K hHeld
            have hHeld := hHeld2
            clear hHeld2
            try simp only [Act.put, List.setIfInBounds_toArray, List.set_cons_zero, List.set_cons_succ]
            refine wpAnyH_take (i := 9) (oi := { dst := some 84, op := Go.Op.binOp Go.BinOp.add 9 (Go.Operand.tmp 77) (Go.Operand.tmp 83) 9, type := 9, pos := "code.go:127", after := #[{ on := 2, ground := Go.Ground.data }, { on := 8, ground := Go.Ground.data }], guard := none }) (v := ?v21_7) rfl (by kernel_rfl) (by kernel_rfl) (by kernel_rfl) (fun _ _ _ h => h) (Or.inl ⟨by rfl, ?hy21_7⟩) (by assumption) ?rest21_7
            case hy21_7 => (intro w hSw; (try dsimp only at hSw); have y1 := Blk.cell hSw 0; go_simp <;> with_reducible rfl)
            try simp only [Act.put, List.setIfInBounds_toArray, List.set_cons_zero, List.set_cons_succ]
            refine wpAnyH_ready (rs := [13]) (by kernel_rfl) (by simp) ?_
            refine AllReadyH.cons (o := { dst := some 88, op := Go.Op.call { callee := Go.Callee.value (Go.Operand.func 27), args := #[Go.Operand.tmp 87], argTypes := #[2] }, type := 2, pos := "code.go:127", after := #[{ on := 12, ground := Go.Ground.data }, { on := 7, ground := Go.Ground.chain }], guard := none }) rfl (fun K hK => ?_) AllReadyH.nil
            go_simp
            go_at_call 27; refine (hS.still (hAl.out _)).mono ?_; rintro e w8 ⟨rfl, hS2⟩; clear hS; have hS := hS2; clear hS2
            refine hK.out _ _ ?_ (fun hHeld2 => ?_)
            · (try dsimp only); first | exact hS.fact.2 | exact hS.fact.1.2
            clear hK K hHeld
            have hHeld := hHeld2
            clear hHeld2
            try simp only [Act.put, List.setIfInBounds_toArray, List.set_cons_zero, List.set_cons_succ]
            refine wpAnyH_take (i := 14) (oi := { dst := some 89, op := Go.Op.binOp Go.BinOp.add 2 (Go.Operand.tmp 86) (Go.Operand.tmp 88) 2, type := 2, pos := "code.go:127", after := #[{ on := 11, ground := Go.Ground.data }, { on := 13, ground := Go.Ground.data }, { on := 15, ground := Go.Ground.gcOnly Go.Departure.lateStores }], guard := none }) (v := ?v22_7) rfl (by kernel_rfl) (by kernel_rfl) (by kernel_rfl) (fun _ _ _ h => h) (Or.inl ⟨by rfl, ?hy22_7⟩) (by assumption) ?rest22_7
            case hy22_7 => (intro w hSw; (try dsimp only at hSw); have y1 := Blk.cell hSw 0; go_simp <;> with_reducible rfl)
            try simp only [Act.put, List.setIfInBounds_toArray, List.set_cons_zero, List.set_cons_succ]
            refine wpAnyH_take (i := 15) (oi := { dst := some 4, op := Go.Op.assign (Go.Operand.tmp 84), type := 9, pos := "code.go:127", after := #[{ on := 9, ground := Go.Ground.data }, { on := 13, ground := Go.Ground.chain }, { on := 0, ground := Go.Ground.phase }, { on := 1, ground := Go.Ground.phase }, { on := 2, ground := Go.Ground.phase }, { on := 3, ground := Go.Ground.phase }, { on := 4, ground := Go.Ground.phase }, { on := 5, ground := Go.Ground.phase }, { on := 6, ground := Go.Ground.phase }, { on := 7, ground := Go.Ground.phase }, { on := 8, ground := Go.Ground.phase }, { on := 9, ground := Go.Ground.phase }, { on := 10, ground := Go.Ground.textOnly Go.Departure.lateStores }, { on := 11, ground := Go.Ground.textOnly Go.Departure.lateStores }, { on := 12, ground := Go.Ground.textOnly Go.Departure.lateStores }, { on := 13, ground := Go.Ground.textOnly Go.Departure.lateStoresUnsure }, { on := 14, ground := Go.Ground.textOnly Go.Departure.lateStores }], guard := none }) (v := ?v23_7) rfl (by kernel_rfl) (by kernel_rfl) (by kernel_rfl) (fun _ _ _ h => h) (Or.inl ⟨by rfl, ?hy23_7⟩) (by assumption) ?rest23_7
            case hy23_7 => (intro w hSw; (try dsimp only at hSw); have y1 := Blk.cell hSw 0; go_simp <;> with_reducible rfl)
            try simp only [Act.put, List.setIfInBounds_toArray, List.set_cons_zero, List.set_cons_succ]
            refine wpAnyH_take (i := 16) (oi := { dst := some 5, op := Go.Op.assign (Go.Operand.tmp 89), type := 2, pos := "code.go:127", after := #[{ on := 14, ground := Go.Ground.data }, { on := 15, ground := Go.Ground.chain }, { on := 0, ground := Go.Ground.phase }, { on := 1, ground := Go.Ground.phase }, { on := 2, ground := Go.Ground.phase }, { on := 3, ground := Go.Ground.phase }, { on := 4, ground := Go.Ground.phase }, { on := 5, ground := Go.Ground.phase }, { on := 6, ground := Go.Ground.phase }, { on := 7, ground := Go.Ground.phase }, { on := 8, ground := Go.Ground.phase }, { on := 9, ground := Go.Ground.phase }, { on := 10, ground := Go.Ground.phase }, { on := 11, ground := Go.Ground.phase }, { on := 12, ground := Go.Ground.phase }, { on := 13, ground := Go.Ground.phase }, { on := 14, ground := Go.Ground.phase }, { on := 15, ground := Go.Ground.phase }], guard := none }) (v := ?v24_7) rfl (by kernel_rfl) (by kernel_rfl) (by kernel_rfl) (fun _ _ _ h => h) (Or.inl ⟨by rfl, ?hy24_7⟩) (by assumption) ?rest24_7
            case hy24_7 => (intro w hSw; (try dsimp only at hSw); have y1 := Blk.cell hSw 0; go_simp <;> with_reducible rfl)
            try simp only [Act.put, List.setIfInBounds_toArray, List.set_cons_zero, List.set_cons_succ]
            refine wpAnyH_take (i := 17) (oi := { dst := some 6, op := Go.Op.assign (Go.Operand.const (Go.Value.bool true)), type := 4, pos := "code.go:127", after := #[{ on := 16, ground := Go.Ground.chain }, { on := 0, ground := Go.Ground.phase }, { on := 1, ground := Go.Ground.phase }, { on := 2, ground := Go.Ground.phase }, { on := 3, ground := Go.Ground.phase }, { on := 4, ground := Go.Ground.phase }, { on := 5, ground := Go.Ground.phase }, { on := 6, ground := Go.Ground.phase }, { on := 7, ground := Go.Ground.phase }, { on := 8, ground := Go.Ground.phase }, { on := 9, ground := Go.Ground.phase }, { on := 10, ground := Go.Ground.phase }, { on := 11, ground := Go.Ground.phase }, { on := 12, ground := Go.Ground.phase }, { on := 13, ground := Go.Ground.phase }, { on := 14, ground := Go.Ground.phase }, { on := 15, ground := Go.Ground.phase }, { on := 16, ground := Go.Ground.phase }], guard := none }) (v := ?v25_7) rfl (by kernel_rfl) (by kernel_rfl) (by kernel_rfl) (fun _ _ _ h => h) (Or.inl ⟨by rfl, ?hy25_7⟩) (by assumption) ?rest25_7
            case hy25_7 => (intro w hSw; (try dsimp only at hSw); have y1 := Blk.cell hSw 0; go_simp <;> with_reducible rfl)
            try simp only [Act.put, List.setIfInBounds_toArray, List.set_cons_zero, List.set_cons_succ]
            refine wpAnyH_done (by kernel_rfl) ?_ _
            refine NoPanic.normal ?_
            go_wp2
            refine ⟨rfl, _, ?_, hS.memQ _⟩
            simp [results, Tryd.results10, go_sem]
          refine AllReadyH.cons (o := { dst := some 88, op := Go.Op.call { callee := Go.Callee.value (Go.Operand.func 27), args := #[Go.Operand.tmp 87], argTypes := #[2] }, type := 2, pos := "code.go:127", after := #[{ on := 12, ground := Go.Ground.data }, { on := 7, ground := Go.Ground.chain }], guard := none }) rfl (fun K hK => ?_) ?_
          ·
            go_simp
            go_at_call 27; refine (hS.still (hAl.out _)).mono ?_; rintro e w8 ⟨rfl, hS2⟩; clear hS; have hS := hS2; clear hS2
            refine hK.out _ _ ?_ (fun hHeld2 => ?_)
            · (try dsimp only); first | exact hS.fact.2 | exact hS.fact.1.2
            clear hK K hHeld
            have hHeld := hHeld2
            clear hHeld2
            try simp only [Act.put, List.setIfInBounds_toArray, List.set_cons_zero, List.set_cons_succ]
            refine wpAnyH_take (i := 14) (oi := { dst := some 89, op := Go.Op.binOp Go.BinOp.add 2 (Go.Operand.tmp 86) (Go.Operand.tmp 88) 2, type := 2, pos := "code.go:127", after := #[{ on := 11, ground := Go.Ground.data }, { on := 13, ground := Go.Ground.data }, { on := 15, ground := Go.Ground.gcOnly Go.Departure.lateStores }], guard := none }) (v := ?v26_7) rfl (by kernel_rfl) (by kernel_rfl) (by kernel_rfl) (fun _ _ _ h => h) (Or.inl ⟨by rfl, ?hy26_7⟩) (by assumption) ?rest26_7
            case hy26_7 => (intro w hSw; (try dsimp only at hSw); have y1 := Blk.cell hSw 0; go_simp <;> with_reducible rfl)
            try simp only [Act.put, List.setIfInBounds_toArray, List.set_cons_zero, List.set_cons_succ]
            refine wpAnyH_ready (rs := [8]) (by kernel_rfl) (by simp) ?_
            refine AllReadyH.cons (o := { dst := some 83, op := Go.Op.convert 22 9 (Go.Operand.tmp 82), type := 9, pos := "code.go:127", after := #[{ on := 7, ground := Go.Ground.data }], guard := none }) rfl (fun K hK => ?_) AllReadyH.nil
            have hst := bs_str hS.fact.2
            go_simp
            refine hK.out _ _ ?_ (fun hHeld2 => ?_)
            · (try dsimp only); first | exact hS.fact.2 | exact hS.fact.1.2
            clear hK K hHeld
            have hHeld := hHeld2
            clear hHeld2
            try simp only [Act.put, List.setIfInBounds_toArray, List.set_cons_zero, List.set_cons_succ]
            refine wpAnyH_take (i := 9) (oi := { dst := some 84, op := Go.Op.binOp Go.BinOp.add 9 (Go.Operand.tmp 77) (Go.Operand.tmp 83) 9, type := 9, pos := "code.go:127", after := #[{ on := 2, ground := Go.Ground.data }, { on := 8, ground := Go.Ground.data }], guard := none }) (v := ?v27_7) rfl (by kernel_rfl) (by kernel_rfl) (by kernel_rfl) (fun _ _ _ h => h) (Or.inl ⟨by rfl, ?hy27_7⟩) (by assumption) ?rest27_7
            case hy27_7 => (intro w hSw; (try dsimp only at hSw); have y1 := Blk.cell hSw 0; go_simp <;> with_reducible rfl)
            try simp only [Act.put, List.setIfInBounds_toArray, List.set_cons_zero, List.set_cons_succ]
            refine wpAnyH_take (i := 15) (oi := { dst := some 4, op := Go.Op.assign (Go.Operand.tmp 84), type := 9, pos := "code.go:127", after := #[{ on := 9, ground := Go.Ground.data }, { on := 13, ground := Go.Ground.chain }, { on := 0, ground := Go.Ground.phase }, { on := 1, ground := Go.Ground.phase }, { on := 2, ground := Go.Ground.phase }, { on := 3, ground := Go.Ground.phase }, { on := 4, ground := Go.Ground.phase }, { on := 5, ground := Go.Ground.phase }, { on := 6, ground := Go.Ground.phase }, { on := 7, ground := Go.Ground.phase }, { on := 8, ground := Go.Ground.phase }, { on := 9, ground := Go.Ground.phase }, { on := 10, ground := Go.Ground.textOnly Go.Departure.lateStores }, { on := 11, ground := Go.Ground.textOnly Go.Departure.lateStores }, { on := 12, ground := Go.Ground.textOnly Go.Departure.lateStores }, { on := 13, ground := Go.Ground.textOnly Go.Departure.lateStoresUnsure }, { on := 14, ground := Go.Ground.textOnly Go.Departure.lateStores }], guard := none }) (v := ?v28_7) rfl (by kernel_rfl) (by kernel_rfl) (by kernel_rfl) (fun _ _ _ h => h) (Or.inl ⟨by rfl, ?hy28_7⟩) (by assumption) ?rest28_7
            case hy28_7 => (intro w hSw; (try dsimp only at hSw); have y1 := Blk.cell hSw 0; go_simp <;> with_reducible rfl)
            try simp only [Act.put, List.setIfInBounds_toArray, List.set_cons_zero, List.set_cons_succ]
            refine wpAnyH_take (i := 16) (oi := { dst := some 5, op := Go.Op.assign (Go.Operand.tmp 89), type := 2, pos := "code.go:127", after := #[{ on := 14, ground := Go.Ground.data }, { on := 15, ground := Go.Ground.chain }, { on := 0, ground := Go.Ground.phase }, { on := 1, ground := Go.Ground.phase }, { on := 2, ground := Go.Ground.phase }, { on := 3, ground := Go.Ground.phase }, { on := 4, ground := Go.Ground.phase }, { on := 5, ground := Go.Ground.phase }, { on := 6, ground := Go.Ground.phase }, { on := 7, ground := Go.Ground.phase }, { on := 8, ground := Go.Ground.phase }, { on := 9, ground := Go.Ground.phase }, { on := 10, ground := Go.Ground.phase }, { on := 11, ground := Go.Ground.phase }, { on := 12, ground := Go.Ground.phase }, { on := 13, ground := Go.Ground.phase }, { on := 14, ground := Go.Ground.phase }, { on := 15, ground := Go.Ground.phase }], guard := none }) (v := ?v29_7) rfl (by kernel_rfl) (by kernel_rfl) (by kernel_rfl) (fun _ _ _ h => h) (Or.inl ⟨by rfl, ?hy29_7⟩) (by assumption) ?rest29_7
            case hy29_7 => (intro w hSw; (try dsimp only at hSw); have y1 := Blk.cell hSw 0; go_simp <;> with_reducible rfl)
            try simp only [Act.put, List.setIfInBounds_toArray, List.set_cons_zero, List.set_cons_succ]
            refine wpAnyH_take (i := 17) (oi := { dst := some 6, op := Go.Op.assign (Go.Operand.const (Go.Value.bool true)), type := 4, pos := "code.go:127", after := #[{ on := 16, ground := Go.Ground.chain }, { on := 0, ground := Go.Ground.phase }, { on := 1, ground := Go.Ground.phase }, { on := 2, ground := Go.Ground.phase }, { on := 3, ground := Go.Ground.phase }, { on := 4, ground := Go.Ground.phase }, { on := 5, ground := Go.Ground.phase }, { on := 6, ground := Go.Ground.phase }, { on := 7, ground := Go.Ground.phase }, { on := 8, ground := Go.Ground.phase }, { on := 9, ground := Go.Ground.phase }, { on := 10, ground := Go.Ground.phase }, { on := 11, ground := Go.Ground.phase }, { on := 12, ground := Go.Ground.phase }, { on := 13, ground := Go.Ground.phase }, { on := 14, ground := Go.Ground.phase }, { on := 15, ground := Go.Ground.phase }, { on := 16, ground := Go.Ground.phase }], guard := none }) (v := ?v30_7) rfl (by kernel_rfl) (by kernel_rfl) (by kernel_rfl) (fun _ _ _ h => h) (Or.inl ⟨by rfl, ?hy30_7⟩) (by assumption) ?rest30_7
            case hy30_7 => (intro w hSw; (try dsimp only at hSw); have y1 := Blk.cell hSw 0; go_simp <;> with_reducible rfl)
            try simp only [Act.put, List.setIfInBounds_toArray, List.set_cons_zero, List.set_cons_succ]
            refine wpAnyH_done (by kernel_rfl) ?_ _
            refine NoPanic.normal ?_
            go_wp2
            refine ⟨rfl, _, ?_, hS.memQ _⟩
            simp [results, Tryd.results10, go_sem]
          exact AllReadyH.nil
        · go_enter Tryd.func10, Tryd.ntmps10
          go_upto_region 6 with (first
            | (go_at_call 22; refine (hS.mem (fun O h hb => hC.out _ O h hb)).mono ?_; rintro e w1 ⟨rfl, hS2⟩; clear hS; have hS := hS2; clear hS2)
            | (go_at_call 23; refine (hS.still (hNum.out _)).mono ?_; rintro e w2 ⟨rfl, hS2⟩; clear hS; have hS := hS2; clear hS2)
            | (go_at_call 24; refine (hS.still (hOf.out _)).mono ?_; rintro e w4 ⟨rfl, hS2⟩; clear hS; have hS := hS2; clear hS2))
          have hS2 := hS.new #[.string pn, .int .i64 pt, .int .i64 pl, .bool pi, .bool pc] 56
          obtain ⟨P, hP⟩ : ∃ P, P = w4.heap.size := ⟨_, rfl⟩
          obtain ⟨w8, hw8⟩ : ∃ w8, w8 = w4.alloc (.cells #[.string pn, .int .i64 pt, .int .i64 pl, .bool pi, .bool pc] 56) := ⟨_, rfl⟩
          rw [← hw8, ← hP] at hS2 ⊢
          clear hw8 hP hS
          have hS := hS2
          clear hS2
          go_upto_region 23 with (first
            | (go_at_call 22; refine (hS.mem (fun O h hb => hC8.out _ O h hb)).mono ?_; rintro e w5 ⟨rfl, hS2⟩; clear hS; have hS := hS2; clear hS2)
            | (go_at_call 26; refine (hS.mem (fun O h hb => hHr.out _ O h hb)).mono ?_; rintro e w6 ⟨rfl, hS2⟩; clear hS; have hS := hS2; clear hS2; have hP6 := hS.fact.2))
          replace hS := hS.drew
          refine wp_region_noPanic ?_
          refine wp_region_held_drew (S := (fun w9 => Blk w9 P #[.string pn, .int .i64 pt, .int .i64 pl, .bool pi, .bool pc] 56)) (by kernel_rfl) ?_ (fun hHeld => ?_)
          · (try dsimp only); first | exact hS.fact.2 | exact hS.fact.1.2
          refine wpAnyH_take (i := 0) (oi := { dst := some 75, op := Go.Op.fieldAddr 56 (Go.Operand.tmp 10) 0, type := 0, pos := "code.go:127", after := #[], guard := none }) (v := ?v11_8) rfl (by kernel_rfl) (by kernel_rfl) (by kernel_rfl) (fun _ _ _ h => h) (Or.inl ⟨by rfl, ?hy11_8⟩) (by assumption) ?rest11_8
          case hy11_8 => (intro w hSw; (try dsimp only at hSw); have y1 := Blk.cell hSw 0; go_simp <;> with_reducible rfl)
          try simp only [Act.put, List.setIfInBounds_toArray, List.set_cons_zero, List.set_cons_succ]
          refine wpAnyH_take (i := 1) (oi := { dst := some 76, op := Go.Op.load 9 (Go.Operand.tmp 75), type := 9, pos := "code.go:127", after := #[{ on := 0, ground := Go.Ground.data }], guard := none }) (v := ?v12_8) rfl (by kernel_rfl) (by kernel_rfl) (by kernel_rfl) (fun _ _ _ h => h) (Or.inl ⟨by rfl, ?hy12_8⟩) (by assumption) ?rest12_8
          case hy12_8 => (intro w hSw; (try dsimp only at hSw); have y1 := Blk.cell hSw 0; go_simp <;> with_reducible rfl)
          try simp only [Act.put, List.setIfInBounds_toArray, List.set_cons_zero, List.set_cons_succ]
          refine wpAnyH_take (i := 2) (oi := { dst := some 77, op := Go.Op.binOp Go.BinOp.add 9 (Go.Operand.tmp 76) (Go.Operand.const (Go.Value.string { data := #[32] })) 9, type := 9, pos := "code.go:127", after := #[{ on := 1, ground := Go.Ground.data }], guard := none }) (v := ?v13_8) rfl (by kernel_rfl) (by kernel_rfl) (by kernel_rfl) (fun _ _ _ h => h) (Or.inl ⟨by rfl, ?hy13_8⟩) (by assumption) ?rest13_8
          case hy13_8 => (intro w hSw; (try dsimp only at hSw); have y1 := Blk.cell hSw 0; go_simp <;> with_reducible rfl)
          try simp only [Act.put, List.setIfInBounds_toArray, List.set_cons_zero, List.set_cons_succ]
          refine wpAnyH_take (i := 3) (oi := { dst := some 78, op := Go.Op.move (Go.Operand.tmp 0), type := 24, pos := "code.go:127", after := #[], guard := none }) (v := ?v14_8) rfl (by kernel_rfl) (by kernel_rfl) (by kernel_rfl) (fun _ _ _ h => h) (Or.inl ⟨by rfl, ?hy14_8⟩) (by assumption) ?rest14_8
          case hy14_8 => (intro w hSw; (try dsimp only at hSw); have y1 := Blk.cell hSw 0; go_simp <;> with_reducible rfl)
          try simp only [Act.put, List.setIfInBounds_toArray, List.set_cons_zero, List.set_cons_succ]
          refine wpAnyH_take (i := 4) (oi := { dst := some 79, op := Go.Op.move (Go.Operand.tmp 1), type := 2, pos := "code.go:127", after := #[], guard := none }) (v := ?v15_8) rfl (by kernel_rfl) (by kernel_rfl) (by kernel_rfl) (fun _ _ _ h => h) (Or.inl ⟨by rfl, ?hy15_8⟩) (by assumption) ?rest15_8
          case hy15_8 => (intro w hSw; (try dsimp only at hSw); have y1 := Blk.cell hSw 0; go_simp <;> with_reducible rfl)
          try simp only [Act.put, List.setIfInBounds_toArray, List.set_cons_zero, List.set_cons_succ]
          refine wpAnyH_take (i := 5) (oi := { dst := some 80, op := Go.Op.binOp Go.BinOp.add 3 (Go.Operand.tmp 79) (Go.Operand.const (Go.Value.int Go.IntKind.i64 16)) 3, type := 3, pos := "code.go:127", after := #[{ on := 4, ground := Go.Ground.data }], guard := none }) (v := ?v16_8) rfl (by kernel_rfl) (by kernel_rfl) (by kernel_rfl) (fun _ _ _ h => h) (Or.inl ⟨by rfl, ?hy16_8⟩) (by assumption) ?rest16_8
          case hy16_8 => (intro w hSw; (try dsimp only at hSw); have y1 := Blk.cell hSw 0; go_simp <;> with_reducible rfl)
          try simp only [Act.put, List.setIfInBounds_toArray, List.set_cons_zero, List.set_cons_succ]
          refine wpAnyH_take (i := 6) (oi := { dst := some 81, op := Go.Op.move (Go.Operand.tmp 11), type := 2, pos := "code.go:127", after := #[], guard := none }) (v := ?v17_8) rfl (by kernel_rfl) (by kernel_rfl) (by kernel_rfl) (fun _ _ _ h => h) (Or.inl ⟨by rfl, ?hy17_8⟩) (by assumption) ?rest17_8
          case hy17_8 => (intro w hSw; (try dsimp only at hSw); have y1 := Blk.cell hSw 0; go_simp <;> with_reducible rfl)
          try simp only [Act.put, List.setIfInBounds_toArray, List.set_cons_zero, List.set_cons_succ]
          refine wpAnyH_take (i := 10) (oi := { dst := some 85, op := Go.Op.move (Go.Operand.tmp 1), type := 2, pos := "code.go:127", after := #[{ on := 15, ground := Go.Ground.gcOnly Go.Departure.lateStores }], guard := none }) (v := ?v18_8) rfl (by kernel_rfl) (by kernel_rfl) (by kernel_rfl) (fun _ _ _ h => h) (Or.inl ⟨by rfl, ?hy18_8⟩) (by assumption) ?rest18_8
          case hy18_8 => (intro w hSw; (try dsimp only at hSw); have y1 := Blk.cell hSw 0; go_simp <;> with_reducible rfl)
          try simp only [Act.put, List.setIfInBounds_toArray, List.set_cons_zero, List.set_cons_succ]
          refine wpAnyH_take (i := 11) (oi := { dst := some 86, op := Go.Op.binOp Go.BinOp.add 2 (Go.Operand.tmp 85) (Go.Operand.const (Go.Value.int Go.IntKind.i64 16)) 2, type := 2, pos := "code.go:127", after := #[{ on := 10, ground := Go.Ground.data }, { on := 15, ground := Go.Ground.gcOnly Go.Departure.lateStores }], guard := none }) (v := ?v19_8) rfl (by kernel_rfl) (by kernel_rfl) (by kernel_rfl) (fun _ _ _ h => h) (Or.inl ⟨by rfl, ?hy19_8⟩) (by assumption) ?rest19_8
          case hy19_8 => (intro w hSw; (try dsimp only at hSw); have y1 := Blk.cell hSw 0; go_simp <;> with_reducible rfl)
          try simp only [Act.put, List.setIfInBounds_toArray, List.set_cons_zero, List.set_cons_succ]
          refine wpAnyH_take (i := 12) (oi := { dst := some 87, op := Go.Op.move (Go.Operand.tmp 11), type := 2, pos := "code.go:127", after := #[], guard := none }) (v := ?v20_8) rfl (by kernel_rfl) (by kernel_rfl) (by kernel_rfl) (fun _ _ _ h => h) (Or.inl ⟨by rfl, ?hy20_8⟩) (by assumption) ?rest20_8
          case hy20_8 => (intro w hSw; (try dsimp only at hSw); have y1 := Blk.cell hSw 0; go_simp <;> with_reducible rfl)
          try simp only [Act.put, List.setIfInBounds_toArray, List.set_cons_zero, List.set_cons_succ]
          refine wpAnyH_ready (rs := [7]) (by kernel_rfl) (by simp) ?_
          refine AllReadyH.cons (o := { dst := some 82, op := Go.Op.call { callee := Go.Callee.value (Go.Operand.func 18), args := #[Go.Operand.tmp 78, Go.Operand.tmp 80, Go.Operand.tmp 81], argTypes := #[24, 3, 3] }, type := 22, pos := "code.go:127", after := #[{ on := 3, ground := Go.Ground.data }, { on := 5, ground := Go.Ground.data }, { on := 6, ground := Go.Ground.data }], guard := none }) rfl (fun K hK => ?_) AllReadyH.nil
          go_simp
          go_at_call 18; refine (hS.load (fun O h hb => hLd.out _ O h hb)).mono ?_; rintro e w7 ⟨v7, rfl, hS2⟩; clear hS; have hS := hS2; clear hS2
          refine hK.out _ _ ?_ (fun hHeld2 => ?_)
          · (try dsimp only); first | exact hS.fact.2 | exact hS.fact.1.2
          clear hK K hHeld
          have hHeld := hHeld2
          clear hHeld2
          try simp only [Act.put, List.setIfInBounds_toArray, List.set_cons_zero, List.set_cons_succ]
          refine wpAnyH_ready (rs := [8, 13]) (by kernel_rfl) (by simp) ?_
          refine AllReadyH.cons (o := { dst := some 83, op := Go.Op.convert 22 9 (Go.Operand.tmp 82), type := 9, pos := "code.go:127", after := #[{ on := 7, ground := Go.Ground.data }], guard := none }) rfl (fun K hK => ?_) ?_
          ·
            have hst := bs_str hS.fact.2
            go_simp
            refine hK.out _ _ ?_ (fun hHeld2 => ?_)
            · (try dsimp only); first | exact hS.fact.2 | exact hS.fact.1.2
            clear hK K hHeld
            have hHeld := hHeld2
            clear hHeld2
            try simp only [Act.put, List.setIfInBounds_toArray, List.set_cons_zero, List.set_cons_succ]
            refine wpAnyH_take (i := 9) (oi := { dst := some 84, op := Go.Op.binOp Go.BinOp.add 9 (Go.Operand.tmp 77) (Go.Operand.tmp 83) 9, type := 9, pos := "code.go:127", after := #[{ on := 2, ground := Go.Ground.data }, { on := 8, ground := Go.Ground.data }], guard := none }) (v := ?v21_8) rfl (by kernel_rfl) (by kernel_rfl) (by kernel_rfl) (fun _ _ _ h => h) (Or.inl ⟨by rfl, ?hy21_8⟩) (by assumption) ?rest21_8
            case hy21_8 => (intro w hSw; (try dsimp only at hSw); have y1 := Blk.cell hSw 0; go_simp <;> with_reducible rfl)
            try simp only [Act.put, List.setIfInBounds_toArray, List.set_cons_zero, List.set_cons_succ]
            refine wpAnyH_ready (rs := [13]) (by kernel_rfl) (by simp) ?_
            refine AllReadyH.cons (o := { dst := some 88, op := Go.Op.call { callee := Go.Callee.value (Go.Operand.func 27), args := #[Go.Operand.tmp 87], argTypes := #[2] }, type := 2, pos := "code.go:127", after := #[{ on := 12, ground := Go.Ground.data }, { on := 7, ground := Go.Ground.chain }], guard := none }) rfl (fun K hK => ?_) AllReadyH.nil
            go_simp
            go_at_call 27; refine (hS.still (hAl.out _)).mono ?_; rintro e w8 ⟨rfl, hS2⟩; clear hS; have hS := hS2; clear hS2
            refine hK.out _ _ ?_ (fun hHeld2 => ?_)
            · (try dsimp only); first | exact hS.fact.2 | exact hS.fact.1.2
            clear hK K hHeld
            have hHeld := hHeld2
            clear hHeld2
            try simp only [Act.put, List.setIfInBounds_toArray, List.set_cons_zero, List.set_cons_succ]
            refine wpAnyH_take (i := 14) (oi := { dst := some 89, op := Go.Op.binOp Go.BinOp.add 2 (Go.Operand.tmp 86) (Go.Operand.tmp 88) 2, type := 2, pos := "code.go:127", after := #[{ on := 11, ground := Go.Ground.data }, { on := 13, ground := Go.Ground.data }, { on := 15, ground := Go.Ground.gcOnly Go.Departure.lateStores }], guard := none }) (v := ?v22_8) rfl (by kernel_rfl) (by kernel_rfl) (by kernel_rfl) (fun _ _ _ h => h) (Or.inl ⟨by rfl, ?hy22_8⟩) (by assumption) ?rest22_8
            case hy22_8 => (intro w hSw; (try dsimp only at hSw); have y1 := Blk.cell hSw 0; go_simp <;> with_reducible rfl)
            try simp only [Act.put, List.setIfInBounds_toArray, List.set_cons_zero, List.set_cons_succ]
            refine wpAnyH_take (i := 15) (oi := { dst := some 4, op := Go.Op.assign (Go.Operand.tmp 84), type := 9, pos := "code.go:127", after := #[{ on := 9, ground := Go.Ground.data }, { on := 13, ground := Go.Ground.chain }, { on := 0, ground := Go.Ground.phase }, { on := 1, ground := Go.Ground.phase }, { on := 2, ground := Go.Ground.phase }, { on := 3, ground := Go.Ground.phase }, { on := 4, ground := Go.Ground.phase }, { on := 5, ground := Go.Ground.phase }, { on := 6, ground := Go.Ground.phase }, { on := 7, ground := Go.Ground.phase }, { on := 8, ground := Go.Ground.phase }, { on := 9, ground := Go.Ground.phase }, { on := 10, ground := Go.Ground.textOnly Go.Departure.lateStores }, { on := 11, ground := Go.Ground.textOnly Go.Departure.lateStores }, { on := 12, ground := Go.Ground.textOnly Go.Departure.lateStores }, { on := 13, ground := Go.Ground.textOnly Go.Departure.lateStoresUnsure }, { on := 14, ground := Go.Ground.textOnly Go.Departure.lateStores }], guard := none }) (v := ?v23_8) rfl (by kernel_rfl) (by kernel_rfl) (by kernel_rfl) (fun _ _ _ h => h) (Or.inl ⟨by rfl, ?hy23_8⟩) (by assumption) ?rest23_8
            case hy23_8 => (intro w hSw; (try dsimp only at hSw); have y1 := Blk.cell hSw 0; go_simp <;> with_reducible rfl)
            try simp only [Act.put, List.setIfInBounds_toArray, List.set_cons_zero, List.set_cons_succ]
            refine wpAnyH_take (i := 16) (oi := { dst := some 5, op := Go.Op.assign (Go.Operand.tmp 89), type := 2, pos := "code.go:127", after := #[{ on := 14, ground := Go.Ground.data }, { on := 15, ground := Go.Ground.chain }, { on := 0, ground := Go.Ground.phase }, { on := 1, ground := Go.Ground.phase }, { on := 2, ground := Go.Ground.phase }, { on := 3, ground := Go.Ground.phase }, { on := 4, ground := Go.Ground.phase }, { on := 5, ground := Go.Ground.phase }, { on := 6, ground := Go.Ground.phase }, { on := 7, ground := Go.Ground.phase }, { on := 8, ground := Go.Ground.phase }, { on := 9, ground := Go.Ground.phase }, { on := 10, ground := Go.Ground.phase }, { on := 11, ground := Go.Ground.phase }, { on := 12, ground := Go.Ground.phase }, { on := 13, ground := Go.Ground.phase }, { on := 14, ground := Go.Ground.phase }, { on := 15, ground := Go.Ground.phase }], guard := none }) (v := ?v24_8) rfl (by kernel_rfl) (by kernel_rfl) (by kernel_rfl) (fun _ _ _ h => h) (Or.inl ⟨by rfl, ?hy24_8⟩) (by assumption) ?rest24_8
            case hy24_8 => (intro w hSw; (try dsimp only at hSw); have y1 := Blk.cell hSw 0; go_simp <;> with_reducible rfl)
            try simp only [Act.put, List.setIfInBounds_toArray, List.set_cons_zero, List.set_cons_succ]
            refine wpAnyH_take (i := 17) (oi := { dst := some 6, op := Go.Op.assign (Go.Operand.const (Go.Value.bool true)), type := 4, pos := "code.go:127", after := #[{ on := 16, ground := Go.Ground.chain }, { on := 0, ground := Go.Ground.phase }, { on := 1, ground := Go.Ground.phase }, { on := 2, ground := Go.Ground.phase }, { on := 3, ground := Go.Ground.phase }, { on := 4, ground := Go.Ground.phase }, { on := 5, ground := Go.Ground.phase }, { on := 6, ground := Go.Ground.phase }, { on := 7, ground := Go.Ground.phase }, { on := 8, ground := Go.Ground.phase }, { on := 9, ground := Go.Ground.phase }, { on := 10, ground := Go.Ground.phase }, { on := 11, ground := Go.Ground.phase }, { on := 12, ground := Go.Ground.phase }, { on := 13, ground := Go.Ground.phase }, { on := 14, ground := Go.Ground.phase }, { on := 15, ground := Go.Ground.phase }, { on := 16, ground := Go.Ground.phase }], guard := none }) (v := ?v25_8) rfl (by kernel_rfl) (by kernel_rfl) (by kernel_rfl) (fun _ _ _ h => h) (Or.inl ⟨by rfl, ?hy25_8⟩) (by assumption) ?rest25_8
            case hy25_8 => (intro w hSw; (try dsimp only at hSw); have y1 := Blk.cell hSw 0; go_simp <;> with_reducible rfl)
            try simp only [Act.put, List.setIfInBounds_toArray, List.set_cons_zero, List.set_cons_succ]
            refine wpAnyH_done (by kernel_rfl) ?_ _
            refine NoPanic.normal ?_
            go_wp2
            refine ⟨rfl, _, ?_, hS.memQ _⟩
            simp [results, Tryd.results10, go_sem]
          refine AllReadyH.cons (o := { dst := some 88, op := Go.Op.call { callee := Go.Callee.value (Go.Operand.func 27), args := #[Go.Operand.tmp 87], argTypes := #[2] }, type := 2, pos := "code.go:127", after := #[{ on := 12, ground := Go.Ground.data }, { on := 7, ground := Go.Ground.chain }], guard := none }) rfl (fun K hK => ?_) ?_
          ·
            go_simp
            go_at_call 27; refine (hS.still (hAl.out _)).mono ?_; rintro e w8 ⟨rfl, hS2⟩; clear hS; have hS := hS2; clear hS2
            refine hK.out _ _ ?_ (fun hHeld2 => ?_)
            · (try dsimp only); first | exact hS.fact.2 | exact hS.fact.1.2
            clear hK K hHeld
            have hHeld := hHeld2
            clear hHeld2
            try simp only [Act.put, List.setIfInBounds_toArray, List.set_cons_zero, List.set_cons_succ]
            refine wpAnyH_take (i := 14) (oi := { dst := some 89, op := Go.Op.binOp Go.BinOp.add 2 (Go.Operand.tmp 86) (Go.Operand.tmp 88) 2, type := 2, pos := "code.go:127", after := #[{ on := 11, ground := Go.Ground.data }, { on := 13, ground := Go.Ground.data }, { on := 15, ground := Go.Ground.gcOnly Go.Departure.lateStores }], guard := none }) (v := ?v26_8) rfl (by kernel_rfl) (by kernel_rfl) (by kernel_rfl) (fun _ _ _ h => h) (Or.inl ⟨by rfl, ?hy26_8⟩) (by assumption) ?rest26_8
            case hy26_8 => (intro w hSw; (try dsimp only at hSw); have y1 := Blk.cell hSw 0; go_simp <;> with_reducible rfl)
            try simp only [Act.put, List.setIfInBounds_toArray, List.set_cons_zero, List.set_cons_succ]
            refine wpAnyH_ready (rs := [8]) (by kernel_rfl) (by simp) ?_
            refine AllReadyH.cons (o := { dst := some 83, op := Go.Op.convert 22 9 (Go.Operand.tmp 82), type := 9, pos := "code.go:127", after := #[{ on := 7, ground := Go.Ground.data }], guard := none }) rfl (fun K hK => ?_) AllReadyH.nil
            have hst := bs_str hS.fact.2
            go_simp
            refine hK.out _ _ ?_ (fun hHeld2 => ?_)
            · (try dsimp only); first | exact hS.fact.2 | exact hS.fact.1.2
            clear hK K hHeld
            have hHeld := hHeld2
            clear hHeld2
            try simp only [Act.put, List.setIfInBounds_toArray, List.set_cons_zero, List.set_cons_succ]
            refine wpAnyH_take (i := 9) (oi := { dst := some 84, op := Go.Op.binOp Go.BinOp.add 9 (Go.Operand.tmp 77) (Go.Operand.tmp 83) 9, type := 9, pos := "code.go:127", after := #[{ on := 2, ground := Go.Ground.data }, { on := 8, ground := Go.Ground.data }], guard := none }) (v := ?v27_8) rfl (by kernel_rfl) (by kernel_rfl) (by kernel_rfl) (fun _ _ _ h => h) (Or.inl ⟨by rfl, ?hy27_8⟩) (by assumption) ?rest27_8
            case hy27_8 => (intro w hSw; (try dsimp only at hSw); have y1 := Blk.cell hSw 0; go_simp <;> with_reducible rfl)
            try simp only [Act.put, List.setIfInBounds_toArray, List.set_cons_zero, List.set_cons_succ]
            refine wpAnyH_take (i := 15) (oi := { dst := some 4, op := Go.Op.assign (Go.Operand.tmp 84), type := 9, pos := "code.go:127", after := #[{ on := 9, ground := Go.Ground.data }, { on := 13, ground := Go.Ground.chain }, { on := 0, ground := Go.Ground.phase }, { on := 1, ground := Go.Ground.phase }, { on := 2, ground := Go.Ground.phase }, { on := 3, ground := Go.Ground.phase }, { on := 4, ground := Go.Ground.phase }, { on := 5, ground := Go.Ground.phase }, { on := 6, ground := Go.Ground.phase }, { on := 7, ground := Go.Ground.phase }, { on := 8, ground := Go.Ground.phase }, { on := 9, ground := Go.Ground.phase }, { on := 10, ground := Go.Ground.textOnly Go.Departure.lateStores }, { on := 11, ground := Go.Ground.textOnly Go.Departure.lateStores }, { on := 12, ground := Go.Ground.textOnly Go.Departure.lateStores }, { on := 13, ground := Go.Ground.textOnly Go.Departure.lateStoresUnsure }, { on := 14, ground := Go.Ground.textOnly Go.Departure.lateStores }], guard := none }) (v := ?v28_8) rfl (by kernel_rfl) (by kernel_rfl) (by kernel_rfl) (fun _ _ _ h => h) (Or.inl ⟨by rfl, ?hy28_8⟩) (by assumption) ?rest28_8
            case hy28_8 => (intro w hSw; (try dsimp only at hSw); have y1 := Blk.cell hSw 0; go_simp <;> with_reducible rfl)
            try simp only [Act.put, List.setIfInBounds_toArray, List.set_cons_zero, List.set_cons_succ]
            refine wpAnyH_take (i := 16) (oi := { dst := some 5, op := Go.Op.assign (Go.Operand.tmp 89), type := 2, pos := "code.go:127", after := #[{ on := 14, ground := Go.Ground.data }, { on := 15, ground := Go.Ground.chain }, { on := 0, ground := Go.Ground.phase }, { on := 1, ground := Go.Ground.phase }, { on := 2, ground := Go.Ground.phase }, { on := 3, ground := Go.Ground.phase }, { on := 4, ground := Go.Ground.phase }, { on := 5, ground := Go.Ground.phase }, { on := 6, ground := Go.Ground.phase }, { on := 7, ground := Go.Ground.phase }, { on := 8, ground := Go.Ground.phase }, { on := 9, ground := Go.Ground.phase }, { on := 10, ground := Go.Ground.phase }, { on := 11, ground := Go.Ground.phase }, { on := 12, ground := Go.Ground.phase }, { on := 13, ground := Go.Ground.phase }, { on := 14, ground := Go.Ground.phase }, { on := 15, ground := Go.Ground.phase }], guard := none }) (v := ?v29_8) rfl (by kernel_rfl) (by kernel_rfl) (by kernel_rfl) (fun _ _ _ h => h) (Or.inl ⟨by rfl, ?hy29_8⟩) (by assumption) ?rest29_8
            case hy29_8 => (intro w hSw; (try dsimp only at hSw); have y1 := Blk.cell hSw 0; go_simp <;> with_reducible rfl)
            try simp only [Act.put, List.setIfInBounds_toArray, List.set_cons_zero, List.set_cons_succ]
            refine wpAnyH_take (i := 17) (oi := { dst := some 6, op := Go.Op.assign (Go.Operand.const (Go.Value.bool true)), type := 4, pos := "code.go:127", after := #[{ on := 16, ground := Go.Ground.chain }, { on := 0, ground := Go.Ground.phase }, { on := 1, ground := Go.Ground.phase }, { on := 2, ground := Go.Ground.phase }, { on := 3, ground := Go.Ground.phase }, { on := 4, ground := Go.Ground.phase }, { on := 5, ground := Go.Ground.phase }, { on := 6, ground := Go.Ground.phase }, { on := 7, ground := Go.Ground.phase }, { on := 8, ground := Go.Ground.phase }, { on := 9, ground := Go.Ground.phase }, { on := 10, ground := Go.Ground.phase }, { on := 11, ground := Go.Ground.phase }, { on := 12, ground := Go.Ground.phase }, { on := 13, ground := Go.Ground.phase }, { on := 14, ground := Go.Ground.phase }, { on := 15, ground := Go.Ground.phase }, { on := 16, ground := Go.Ground.phase }], guard := none }) (v := ?v30_8) rfl (by kernel_rfl) (by kernel_rfl) (by kernel_rfl) (fun _ _ _ h => h) (Or.inl ⟨by rfl, ?hy30_8⟩) (by assumption) ?rest30_8
            case hy30_8 => (intro w hSw; (try dsimp only at hSw); have y1 := Blk.cell hSw 0; go_simp <;> with_reducible rfl)
            try simp only [Act.put, List.setIfInBounds_toArray, List.set_cons_zero, List.set_cons_succ]
            refine wpAnyH_done (by kernel_rfl) ?_ _
            refine NoPanic.normal ?_
            go_wp2
            refine ⟨rfl, _, ?_, hS.memQ _⟩
            simp [results, Tryd.results10, go_sem]
          exact AllReadyH.nil
      · have t2 : (nx ≤ bb) = False := eq_false d2
        rw [hnot c1' (fun _ h => d2 h.2)]
        unfold lookE
        clear htxt hnot hb hb8 hhin d1 d2 hba hbb c1' c2 h1s ha16 hni hLd hAl
        rcases hcs with rfl | rfl | rfl
        · go_enter Tryd.func10, Tryd.ntmps10
          go_upto_region 6 with (first
            | (go_at_call 22; refine (hS.mem (fun O h hb => hC.out _ O h hb)).mono ?_; rintro e w1 ⟨rfl, hS2⟩; clear hS; have hS := hS2; clear hS2)
            | (go_at_call 23; refine (hS.still (hNum.out _)).mono ?_; rintro e w2 ⟨rfl, hS2⟩; clear hS; have hS := hS2; clear hS2)
            | (go_at_call 24; refine (hS.still (hOf.out _)).mono ?_; rintro e w4 ⟨rfl, hS2⟩; clear hS; have hS := hS2; clear hS2))
          have hS2 := hS.new #[.string pn, .int .i64 pt, .int .i64 pl, .bool pi, .bool pc] 56
          obtain ⟨P, hP⟩ : ∃ P, P = w4.heap.size := ⟨_, rfl⟩
          obtain ⟨w8, hw8⟩ : ∃ w8, w8 = w4.alloc (.cells #[.string pn, .int .i64 pt, .int .i64 pl, .bool pi, .bool pc] 56) := ⟨_, rfl⟩
          rw [← hw8, ← hP] at hS2 ⊢
          clear hw8 hP hS
          have hS := hS2
          clear hS2
          go_upto_region 22 with (go_at_call 22; refine (hS.mem (fun O h hb => hC8.out _ O h hb)).mono ?_; rintro e w5 ⟨rfl, hS2⟩; clear hS; have hS := hS2; clear hS2)
          go_upto_region 26 with (go_at_call 26; refine (hS.mem (fun O h hb => hHr.out _ O h hb)).mono ?_; rintro e w6 ⟨rfl, hS2⟩; clear hS; have hS := hS2; clear hS2; have hP6 := hS.fact.2)
          have y1 := Blk.cell hS.fact.2 0
          go_wp2
          refine ⟨rfl, _, ?_, hS.memQ _⟩
          simp [results, Tryd.results10, go_sem]
        · go_enter Tryd.func10, Tryd.ntmps10
          go_upto_region 6 with (first
            | (go_at_call 22; refine (hS.mem (fun O h hb => hC.out _ O h hb)).mono ?_; rintro e w1 ⟨rfl, hS2⟩; clear hS; have hS := hS2; clear hS2)
            | (go_at_call 23; refine (hS.still (hNum.out _)).mono ?_; rintro e w2 ⟨rfl, hS2⟩; clear hS; have hS := hS2; clear hS2)
            | (go_at_call 24; refine (hS.still (hOf.out _)).mono ?_; rintro e w4 ⟨rfl, hS2⟩; clear hS; have hS := hS2; clear hS2))
          have hS2 := hS.new #[.string pn, .int .i64 pt, .int .i64 pl, .bool pi, .bool pc] 56
          obtain ⟨P, hP⟩ : ∃ P, P = w4.heap.size := ⟨_, rfl⟩
          obtain ⟨w8, hw8⟩ : ∃ w8, w8 = w4.alloc (.cells #[.string pn, .int .i64 pt, .int .i64 pl, .bool pi, .bool pc] 56) := ⟨_, rfl⟩
          rw [← hw8, ← hP] at hS2 ⊢
          clear hw8 hP hS
          have hS := hS2
          clear hS2
          go_upto_region 22 with (go_at_call 22; refine (hS.mem (fun O h hb => hC8.out _ O h hb)).mono ?_; rintro e w5 ⟨rfl, hS2⟩; clear hS; have hS := hS2; clear hS2)
          go_upto_region 26 with (go_at_call 26; refine (hS.mem (fun O h hb => hHr.out _ O h hb)).mono ?_; rintro e w6 ⟨rfl, hS2⟩; clear hS; have hS := hS2; clear hS2; have hP6 := hS.fact.2)
          have y1 := Blk.cell hS.fact.2 0
          go_wp2
          refine ⟨rfl, _, ?_, hS.memQ _⟩
          simp [results, Tryd.results10, go_sem]
        · go_enter Tryd.func10, Tryd.ntmps10
          go_upto_region 6 with (first
            | (go_at_call 22; refine (hS.mem (fun O h hb => hC.out _ O h hb)).mono ?_; rintro e w1 ⟨rfl, hS2⟩; clear hS; have hS := hS2; clear hS2)
            | (go_at_call 23; refine (hS.still (hNum.out _)).mono ?_; rintro e w2 ⟨rfl, hS2⟩; clear hS; have hS := hS2; clear hS2)
            | (go_at_call 24; refine (hS.still (hOf.out _)).mono ?_; rintro e w4 ⟨rfl, hS2⟩; clear hS; have hS := hS2; clear hS2))
          have hS2 := hS.new #[.string pn, .int .i64 pt, .int .i64 pl, .bool pi, .bool pc] 56
          obtain ⟨P, hP⟩ : ∃ P, P = w4.heap.size := ⟨_, rfl⟩
          obtain ⟨w8, hw8⟩ : ∃ w8, w8 = w4.alloc (.cells #[.string pn, .int .i64 pt, .int .i64 pl, .bool pi, .bool pc] 56) := ⟨_, rfl⟩
          rw [← hw8, ← hP] at hS2 ⊢
          clear hw8 hP hS
          have hS := hS2
          clear hS2
          go_upto_region 22 with (go_at_call 22; refine (hS.mem (fun O h hb => hC8.out _ O h hb)).mono ?_; rintro e w5 ⟨rfl, hS2⟩; clear hS; have hS := hS2; clear hS2)
          go_upto_region 26 with (go_at_call 26; refine (hS.mem (fun O h hb => hHr.out _ O h hb)).mono ?_; rintro e w6 ⟨rfl, hS2⟩; clear hS; have hS := hS2; clear hS2; have hP6 := hS.fact.2)
          have y1 := Blk.cell hS.fact.2 0
          go_wp2
          refine ⟨rfl, _, ?_, hS.memQ _⟩
          simp [results, Tryd.results10, go_sem]
    · have t1 : (0 ≤ nx) = False := eq_false d1
      rw [hnot c1' (fun _ h => d1 h.1)]
      unfold lookE
      clear htxt hnot hb hb8 hhin d1 hba hbb c1' c2 h1s ha16 hni hLd hAl hHr
      rcases hcs with rfl | rfl | rfl
      · go_enter Tryd.func10, Tryd.ntmps10
        go_upto_region 6 with (first
          | (go_at_call 22; refine (hS.mem (fun O h hb => hC.out _ O h hb)).mono ?_; rintro e w1 ⟨rfl, hS2⟩; clear hS; have hS := hS2; clear hS2)
          | (go_at_call 23; refine (hS.still (hNum.out _)).mono ?_; rintro e w2 ⟨rfl, hS2⟩; clear hS; have hS := hS2; clear hS2)
          | (go_at_call 24; refine (hS.still (hOf.out _)).mono ?_; rintro e w4 ⟨rfl, hS2⟩; clear hS; have hS := hS2; clear hS2))
        have hS2 := hS.new #[.string pn, .int .i64 pt, .int .i64 pl, .bool pi, .bool pc] 56
        obtain ⟨P, hP⟩ : ∃ P, P = w4.heap.size := ⟨_, rfl⟩
        obtain ⟨w8, hw8⟩ : ∃ w8, w8 = w4.alloc (.cells #[.string pn, .int .i64 pt, .int .i64 pl, .bool pi, .bool pc] 56) := ⟨_, rfl⟩
        rw [← hw8, ← hP] at hS2 ⊢
        clear hw8 hP hS
        have hS := hS2
        clear hS2
        go_upto_region 26 with (go_at_call 22; refine (hS.mem (fun O h hb => hC8.out _ O h hb)).mono ?_; rintro e w5 ⟨rfl, hS2⟩; clear hS; have hS := hS2; clear hS2)
        have y1 := Blk.cell hS.fact.2 0
        go_wp2
        refine ⟨rfl, _, ?_, hS.memQ _⟩
        simp [results, Tryd.results10, go_sem]
      · go_enter Tryd.func10, Tryd.ntmps10
        go_upto_region 6 with (first
          | (go_at_call 22; refine (hS.mem (fun O h hb => hC.out _ O h hb)).mono ?_; rintro e w1 ⟨rfl, hS2⟩; clear hS; have hS := hS2; clear hS2)
          | (go_at_call 23; refine (hS.still (hNum.out _)).mono ?_; rintro e w2 ⟨rfl, hS2⟩; clear hS; have hS := hS2; clear hS2)
          | (go_at_call 24; refine (hS.still (hOf.out _)).mono ?_; rintro e w4 ⟨rfl, hS2⟩; clear hS; have hS := hS2; clear hS2))
        have hS2 := hS.new #[.string pn, .int .i64 pt, .int .i64 pl, .bool pi, .bool pc] 56
        obtain ⟨P, hP⟩ : ∃ P, P = w4.heap.size := ⟨_, rfl⟩
        obtain ⟨w8, hw8⟩ : ∃ w8, w8 = w4.alloc (.cells #[.string pn, .int .i64 pt, .int .i64 pl, .bool pi, .bool pc] 56) := ⟨_, rfl⟩
        rw [← hw8, ← hP] at hS2 ⊢
        clear hw8 hP hS
        have hS := hS2
        clear hS2
        go_upto_region 26 with (go_at_call 22; refine (hS.mem (fun O h hb => hC8.out _ O h hb)).mono ?_; rintro e w5 ⟨rfl, hS2⟩; clear hS; have hS := hS2; clear hS2)
        have y1 := Blk.cell hS.fact.2 0
        go_wp2
        refine ⟨rfl, _, ?_, hS.memQ _⟩
        simp [results, Tryd.results10, go_sem]
      · go_enter Tryd.func10, Tryd.ntmps10
        go_upto_region 6 with (first
          | (go_at_call 22; refine (hS.mem (fun O h hb => hC.out _ O h hb)).mono ?_; rintro e w1 ⟨rfl, hS2⟩; clear hS; have hS := hS2; clear hS2)
          | (go_at_call 23; refine (hS.still (hNum.out _)).mono ?_; rintro e w2 ⟨rfl, hS2⟩; clear hS; have hS := hS2; clear hS2)
          | (go_at_call 24; refine (hS.still (hOf.out _)).mono ?_; rintro e w4 ⟨rfl, hS2⟩; clear hS; have hS := hS2; clear hS2))
        have hS2 := hS.new #[.string pn, .int .i64 pt, .int .i64 pl, .bool pi, .bool pc] 56
        obtain ⟨P, hP⟩ : ∃ P, P = w4.heap.size := ⟨_, rfl⟩
        obtain ⟨w8, hw8⟩ : ∃ w8, w8 = w4.alloc (.cells #[.string pn, .int .i64 pt, .int .i64 pl, .bool pi, .bool pc] 56) := ⟨_, rfl⟩
        rw [← hw8, ← hP] at hS2 ⊢
        clear hw8 hP hS
        have hS := hS2
        clear hS2
        go_upto_region 26 with (go_at_call 22; refine (hS.mem (fun O h hb => hC8.out _ O h hb)).mono ?_; rintro e w5 ⟨rfl, hS2⟩; clear hS; have hS := hS2; clear hS2)
        have y1 := Blk.cell hS.fact.2 0
        go_wp2
        refine ⟨rfl, _, ?_, hS.memQ _⟩
        simp [results, Tryd.results10, go_sem]
  · have c2' : isTxt n = false := by simpa using c2
    rw [hnot c1' (fun h => absurd h c2)]
    have f8 : (n == 8) = false := by unfold isTxt at c2'; simp at c2' ⊢; omega
    have f9 : (n == 9) = false := by unfold isTxt at c2'; simp at c2' ⊢; omega
    have f10 : (n == 10) = false := by unfold isTxt at c2'; simp at c2' ⊢; omega
    unfold lookE
    clear htxt hnot hb hb8 hhin c1' c2 c2' h1s ha16 hni hLd hAl hHr hx1 hx2 hIs hnum
    go_enter Tryd.func10, Tryd.ntmps10
    go_upto_region 6 with (first
      | (go_at_call 22; refine (hS.mem (fun O h hb => hC.out _ O h hb)).mono ?_; rintro e w1 ⟨rfl, hS2⟩; clear hS; have hS := hS2; clear hS2)
      | (go_at_call 23; refine (hS.still (hNum.out _)).mono ?_; rintro e w2 ⟨rfl, hS2⟩; clear hS; have hS := hS2; clear hS2)
      | (go_at_call 24; refine (hS.still (hOf.out _)).mono ?_; rintro e w4 ⟨rfl, hS2⟩; clear hS; have hS := hS2; clear hS2))
    have hS2 := hS.new #[.string pn, .int .i64 pt, .int .i64 pl, .bool pi, .bool pc] 56
    obtain ⟨P, hP⟩ : ∃ P, P = w4.heap.size := ⟨_, rfl⟩
    obtain ⟨w8, hw8⟩ : ∃ w8, w8 = w4.alloc (.cells #[.string pn, .int .i64 pt, .int .i64 pl, .bool pi, .bool pc] 56) := ⟨_, rfl⟩
    rw [← hw8, ← hP] at hS2 ⊢
    clear hw8 hP hS
    have hS := hS2
    clear hS2
    go_upto_region 26 with (go_at_call 22; refine (hS.mem (fun O h hb => hC8.out _ O h hb)).mono ?_; rintro e w5 ⟨rfl, hS2⟩; clear hS; have hS := hS2; clear hS2)
    have y1 := Blk.cell hS.fact.2 0
    go_wp2
    refine ⟨rfl, _, ?_, hS.memQ _⟩
    simp [results, Tryd.results10, go_sem]
end Go.Proofs.YtjihhojlakapnaaDoor
