/- 'awake', 'CodeLooks'. -/
import Derived.Test.YtjihhojlakapnaaDoorC7
import Derived.Test.YtjihhojlakapnaaDoorC5
import Derived.Test.YtjihhojlakapnaaDoorQ4
namespace Go.Proofs.YtjihhojlakapnaaDoor
open Go.RowKit Go.Shelf
set_option linter.unusedVariables false
set_option linter.unusedSimpArgs false
attribute [local go_sem] cell_set set_set m_undef

theorem Uno.layU {W w : World} {mb : Nat} {M : List UInt8} {K : Kp} (h : Uno W w mb M K) {w1 : World} {u : Value} {l : List UInt8} (hb : Below w.heap.size w w1) (hu : Bs w1 w.heap.size u l) (hl : l.length ≤ 1000000) :
    Calls Tryd.prog 38 #[.pointer (some ⟨mb, 0, none⟩), u, .bool true] w1 fun e w' => ∃ t, e = .returned (.int .i64 t) ∧ (t = lyV M l ∧ Uno W w' mb (lyM M l) K) :=
  (Uno.memK (h.newBs hb hu) (fun B O h1 h2 hk => kLay h1 h2 hk.right.1 hl (fun k hk2 => (hk.right.2 k hk2).2))).mono fun e w' ⟨he, h2⟩ => ⟨_, he, rfl, h2.weak⟩
theorem Uno.literal {W w : World} {mb : Nat} {M : List UInt8} {K : Kp} (h : Uno W w mb M K) (n : Int) (hn : isI n) :
    Calls Tryd.prog 12 #[.pointer (some ⟨mb, 0, none⟩), .int .i64 n] w fun e w' => e = .returned (.int .i64 (lyV M (cellsB [16, n]))) ∧ Uno W w' mb (lyM M (cellsB [16, n])) K :=
  (wLiteral w (some ⟨mb, 0, none⟩) n hn (Q := fun t w' => t = lyV M (cellsB [16, n]) ∧ Uno W w' mb (lyM M (cellsB [16, n])) K) (fun w1 u hb hu => h.layU hb hu (by rw [cellsB_len]; simp))).mono fun e w' ⟨t, he, ht, hT⟩ => ⟨by rw [he, ht], hT⟩
theorem Uno.look {W w : World} {mb : Nat} {M : List UInt8} {K : Kp} (h : Uno W w mb M (PW.and K)) (a : Int) (ha : isI a) :
    Calls Tryd.prog 10 #[.pointer (some ⟨mb, 0, none⟩), .int .i64 a] w fun e w' => e = .returned (lookE (lookV M a)) ∧ Uno W w' mb M (PW.and K) :=
  h.memK fun B O h1 h2 hk => kLook h1 h2 hk.left a ha
def litB : ByteArray := ⟨#[40, 108, 105, 116, 41, 32]⟩
theorem nm_lit : nmP 2 ++ spB = litB := by
  have h : (rowL.getD 2 default).1 = ⟨#[40, 108, 105, 116, 41]⟩ := by kernel_rfl
  unfold nmP
  rw [show (2 : Int).toNat = 2 from rfl, h]
  rfl
theorem look_lit {M : List UInt8} {l : List Int} {k j : Nat} {x : Int} (h : Lits M l k) (hk : k ≤ 100) (hj : j < k) (hx : l[j]? = some x) : lookV M (1536 + 16 * (j : Int)) = (litB ++ itoaS x, 1536 + 16 * (j : Int) + 16, true) := by
  have hh := h.here
  have i1 : insL M (1536 + 16 * (j : Int)) = true := by unfold insL; rw [decide_eq_true_iff, hh]; omega
  have i2 : insL M (1536 + 16 * (j : Int) + 8) = true := by unfold insL; rw [decide_eq_true_iff, hh]; omega
  have n2 : numF 16 = 2 := by decide
  rw [look_in i1 (h.at0 j hj) n2 (by decide) i2, h.at1 j x hj hx, lookP_num (by decide), nm_lit]
theorem look_litEnd {M : List UInt8} {l : List Int} {k : Nat} (h : Lits M l k) : lookV M (1536 + 16 * (k : Int)) = (⟨#[]⟩, 0, false) := by
  refine look_no ?_
  unfold insL
  rw [h.here]
  exact decide_eq_false (by omega)
theorem lookV_isI (M : List UInt8) (a : Int) : isI (lookV M a).2.1 := by
  have h5 := hereL_in M
  unfold lookV
  cases h : insL M a with
  | false =>
    rw [if_neg (by decide)]
    exact ⟨by decide, by decide⟩
  | true =>
    have hb := insL_in h
    have e8 : isI (a + 8) := by unfold isI; omega
    rw [if_pos rfl]
    split
    · exact e8
    · split
      · unfold lookP
        split
        · show isI (a + 16)
          unfold isI; omega
        · split
          · rename_i h2
            simp only [Bool.and_eq_true, decide_eq_true_eq] at h2
            have := alignZ_small (getM M (a + 8)) (by omega)
            show isI (a + 16 + alignZ (getM M (a + 8)))
            unfold isI; omega
          · exact e8
      · exact e8
def lit5B : ByteArray := ⟨#[40, 108, 105, 116, 41, 32, 53]⟩
theorem lit5 : litB ++ itoaS 5 = lit5B := by
  have h : Lib.itoa 5 = [53] := by kernel_rfl
  unfold itoaS
  rw [h]
  rfl
theorem pow_pos {w : World} (h : Pow10 w) : 0 < w.heap.size := by
  simp only [Pow10, Lib.TabIs, World.var?, gTab, Option.bind_some] at h
  cases e : w.heap[0]? with
  | none => rw [e] at h; cases h
  | some o => exact (Array.getElem?_eq_some_iff.1 e).1
attribute [local irreducible] lyM lyV lookV
set_option maxRecDepth 100000 in
set_option maxHeartbeats 1000000 in
theorem wAwake (w : World) (hPW : Pow10 w) (h0 : 0 < w.heap.size) : Calls Tryd.prog 7 #[] w fun e w' => e = .returned (.bool true) ∧ Below w.heap.size w w' := by
  have hst := (Lits.zero [5]).step (by omega) rfl (by unfold isI; omega)
  have hF1 := fun (w9 : World) => wFlat w9 0 (.slice none 0 0) [] (Bs.nil _ _)
  unfold FlatQ at hF1
  generalize flatL [] = M0 at *
  obtain ⟨hv, hl⟩ := hst
  have hlk := look_lit hl (by omega) (show 0 < 1 by omega) rfl
  have hg := hl.at0 0 (by omega)
  rw [show (1536 : Int) + 16 * ((0 : Nat) : Int) = 1536 from rfl] at hlk hg
  rw [lit5] at hlk
  have hLt := fun (w9 : World) (mb : Nat) (h : Uno w w9 mb M0 (PW.and .emp)) => Uno.literal h 5 (by unfold isI; omega)
  rw [hv] at hLt
  generalize lyM M0 (cellsB [16, 5]) = M1 at *
  have hLk := fun (w9 : World) (mb : Nat) (h : Uno w w9 mb M1 (PW.and .emp)) => h.look 1536 (by unfold isI; omega)
  rw [hlk] at hLk
  unfold lookE lit5B at hLk
  dsimp only at hLk
  have hGt := fun (w9 : World) (B mb : Nat) (O : Nat → Prop) (h : MemP w9 B mb M1 O) (hb : B ≤ w9.heap.size) => mGet h hb 1536 (by unfold isI; omega)
  rw [hg] at hGt
  replace hF1 := Lib.hid hF1
  replace hLt := Lib.hid hLt
  replace hLk := Lib.hid hLk
  replace hGt := Lib.hid hGt
  have hK0 : Keep w (fun _ => False) (PW.and .emp) := Keep.and ⟨hPW, fun k hk => ⟨by have : k = 0 := hk; omega, id⟩⟩ (Keep.emp _ _)
  clear hv hl hlk hg
  go_enter Tryd.func7, Tryd.ntmps7
  go_wp2_with (first
    | (go_at_call 8; refine (hF1.out _).mono ?_; rintro e w2 ⟨mb, O2, rfl, hP2, hb2⟩; have hT := Uno.make (Below.refl _ _) hK0 hP2 hb2; clear hP2 hb2)
    | (go_at_call 12; refine (hLt.out _ _ hT).mono ?_; rintro e w3 ⟨rfl, hT2⟩; clear hT; have hT := hT2; clear hT2)
    | (go_at_call 10; refine (hLk.out _ _ hT).mono ?_; rintro e w4 ⟨rfl, hT2⟩; clear hT; have hT := hT2; clear hT2)
    | (go_at_call 17; refine (hT.mem (fun B O h hb => hGt.out _ _ _ _ h hb)).mono ?_; rintro e w5 ⟨rfl, hT2⟩; clear hT; have hT := hT2; clear hT2))
  go_ret
  exact ⟨rfl, hT.bel⟩
set_option maxRecDepth 100000 in
set_option maxHeartbeats 2000000 in
theorem codeLooks {w : World} (v : Value) (l : List UInt8) (h : Rb w v l) (a0 : Int) (ha0 : isI a0) (hPW : Pow10 w) : Calls Tryd.prog 3 #[v, .int .i64 a0] w fun e w' => e = .returned (.bool true) ∧ Below w.heap.size w w' := by
  have h0 : 0 < w.heap.size := pow_pos hPW
  obtain ⟨ad, cap, rfl⟩ := h.form
  have hA := Lib.hid (wAwake w hPW h0)
  by_cases hl : 9000 < l.length
  · clear h hPW
    have t1 : ((9000 : Int) < (l.length : Int)) = True := by simp; omega
    go_enter Tryd.func3, Tryd.ntmps3
    go_wp2_with (go_at_call 7; refine hA.out.mono ?_; rintro e w1 ⟨rfl, hb1⟩)
    go_ret
    exact ⟨rfl, hb1⟩
  have t1 : ((9000 : Int) < (l.length : Int)) = False := by simp; omega
  have hF1 := fun (w9 : World) (h9 : Rb w9 (.slice ad l.length cap) l) => wFlatR w9 _ l h9
  have hF2 := fun (w9 : World) (h9 : Rb w9 (.slice ad l.length cap) l) => rFlat w9 _ l h9
  unfold FlatQ at hF1
  generalize flatL l = M at *
  have hK0 : Keep w (fun _ => False) PW := ⟨hPW, fun k hk => ⟨by have : k = 0 := hk; omega, id⟩⟩
  replace h := Lib.hid h
  replace hF1 := Lib.hid hF1
  replace hF2 := Lib.hid hF2
  replace hK0 := Lib.hid hK0
  clear hl hPW
  go_enter Tryd.func3, Tryd.ntmps3
  go_wp2_with (first
    | (go_at_call 7; refine hA.out.mono ?_; rintro e w1 ⟨rfl, hb1⟩; have h1 := Lib.hid (h.out.below hb1); have hK1 := Lib.hid (hK0.out.turn (Turn.of_below hb1 _)); replace hb1 := Lib.hid hb1)
    | (go_at_call 8; refine (hF1.out _ h1.out).mono ?_; rintro e w2 ⟨mb, O2, rfl, hP2, hb2⟩; have h2 := Lib.hid (h1.out.below hb2); replace hP2 := Lib.hid hP2; replace hb2 := Lib.hid hb2)
    | (go_at_call 9; refine (hF2.out _ h2.out).mono ?_; rintro e w3 ⟨rb, R3, rfl, hP3, hb3⟩; have hT := Two.make hb1.out hK1.out hP2.out hb2.out hP3 hb3; clear hP3 hb3))
  clear h hF1 hF2 hK0 hK1 h1 h2 hP2 hb2 hb1 hA
  go_loopw [1, 7] (fun p q wr => ∃ (a : Int) (i : Nat), p = .int .i64 a ∧ q = .int .i64 (i : Int) ∧ isI a ∧ i ≤ 40 ∧ Two w wr mb rb M M PW) (fun p q wr => 40 - (intOf q).toNat)
  case atStart => exact ⟨a0, 0, rfl, rfl, ha0, by omega, hT⟩
  case round =>
    clear hT
    obtain ⟨a, i, rfl, rfl, ha, hi, hT⟩ := hrel
    by_cases hlt : i < 40
    · have t2 : ((i : Int) < 40) = True := eq_true (by omega)
      have wi : IntKind.i64.wrap ((i : Int) + 1) = ((i + 1 : Nat) : Int) := by rw [IntKind.wrap_i64]; omega
      have hk := Lib.hid (fun (w9 : World) (B : Nat) (O : Nat → Prop) (h : MemP w9 B mb M O) (hb : B ≤ w9.heap.size) (hk : Keep w9 O PW) => kLook h hb hk a ha)
      have hr := Lib.hid (fun (w9 : World) (B : Nat) (O : Nat → Prop) (h : RefP w9 B rb M O) (hb : B ≤ w9.heap.size) (hk : Keep w9 O PW) => rLook h hb hk a ha)
      have hni := lookV_isI M a
      generalize lookV M a = r at *
      obtain ⟨s, nx, is⟩ := r
      unfold lookE at hk hr
      dsimp only at hk hr hni
      replace hni := Lib.hid hni
      replace hlt := Lib.hid hlt
      clear hi
      go_upto_region 11 with (first
        | (go_at_call 10; refine (hT.memK (fun B O h hb h2 => hk.out _ B O h hb h2)).mono ?_; rintro e w4 ⟨rfl, hT2⟩; clear hT; have hT := hT2; clear hT2)
        | (go_at_call 11; refine (hT.refK (fun B O h hb h2 => hr.out _ B O h hb h2)).mono ?_; rintro e w5 ⟨rfl, hT2⟩; clear hT; have hT := hT2; clear hT2))
      cases is with
      | true =>
        go_wp2
        go_roundw
        case rel => exact ⟨nx, i + 1, rfl, rfl, hni.out, hlt.out, hT⟩
        case measure => have := hlt.out; simp [intOf]; omega
      | false =>
        go_wp2
        go_ret
        exact ⟨rfl, hT.bel⟩
    · have t2 : ((i : Int) < 40) = False := eq_false (by omega)
      go_wp2
      go_ret
      exact ⟨rfl, hT.bel⟩
end Go.Proofs.YtjihhojlakapnaaDoor
