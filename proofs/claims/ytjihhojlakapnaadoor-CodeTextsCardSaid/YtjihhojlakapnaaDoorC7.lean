/- The reference's 'Look'. -/
import Derived.Test.YtjihhojlakapnaaDoorC6
namespace Go.Proofs.YtjihhojlakapnaaDoor
open Go.RowKit Go.Shelf
set_option linter.unusedVariables false
set_option linter.unusedSimpArgs false
attribute [local go_sem] cell_set set_set m_undef
attribute [local irreducible] cells19 cells20 rowL tabL wordsL latestL rdOk rdV linkL nameL immL hidL rdXt loadL hereL othS itoaS getM insL numF nmP isNum isTxt lookP lookV
set_option maxRecDepth 100000 in
set_option maxHeartbeats 4000000 in
theorem rLook {w : World} {B rb : Nat} {M : List UInt8} {R : Nat → Prop} (h : RefP w B rb M R) (hB : B ≤ w.heap.size) (hk : Keep w R PW) (a : Int) (ha : isI a) :
    Calls Tryd.prog 11 #[.pointer (some ⟨rb, 0, none⟩), .int .i64 a] w fun e w' => RefQ w w' B rb M R (lookE (lookV M a)) e := by
  have hS := Onr.startK h hB hk
  have hIn := Lib.hid (fun (w9 : World) (O : Nat → Prop) (h : RefP w9 B rb M O) => rInside h a ha)
  clear h hB hk
  cases hin : insL M a with
  | false =>
    rw [look_no hin]
    rw [hin] at hIn
    clear hin
    unfold lookE
    go_enter Tryd.func11, Tryd.ntmps11
    go_wp2_with (go_at_call 28; refine (hS.read (fun O h => hIn.out _ O h)).mono ?_; rintro e w1 ⟨rfl, hS2⟩; clear hS; have hS := hS2; clear hS2)
    refine ⟨rfl, _, ?_, hS.refQ _⟩
    simp [results, Tryd.results11, go_sem]
  | true =>
  have hb := insL_in hin
  rw [hin] at hIn
  obtain ⟨xt, hx⟩ : ∃ xt, getM M a = xt := ⟨_, rfl⟩
  have hxi : isI xt := by rw [← hx]; exact isI_getC _ _
  have hGa := Lib.hid (fun (w9 : World) (O : Nat → Prop) (h : RefP w9 B rb M O) => rGet h a ha)
  rw [hx] at hGa
  have hNum := Lib.hid (fun (w9 : World) => rNumber xt hxi w9)
  obtain ⟨a8, ha8⟩ : ∃ a8, a8 = a + 8 := ⟨_, rfl⟩
  have w8 : IntKind.i64.wrap (a + 8) = a8 := by rw [ha8]; exact wrap_id (by omega)
  by_cases h0 : numF xt = 0
  · rw [look_oth hin hx h0, ← ha8]
    rw [h0] at hNum
    have hOf := Lib.hid (fun (w9 : World) => rOf_no 0 (by omega) w9)
    unfold primV noPrim at hOf
    unfold lookE
    have hWd := Lib.hid (fun (w9 : World) (O : Nat → Prop) (h : RefP w9 B rb M O) => rWords h)
    have hxk := Lib.hid (fun (k : Nat) (x : Int) (hx : (wordsL M)[k]? = some x) => wordsL_ok hx)
    have hfa := Lib.hid (fun (k : Nat) (x : Int) (hx : (wordsL M)[k]? = some x) => @oth_at M xt k x hx)
    have hfn := Lib.hid (@oth_no M xt)
    have hln := wordsL_len M
    generalize wordsL M = xs at *
    obtain ⟨N, hN⟩ : ∃ N, N = xs.length := ⟨_, rfl⟩
    rw [← hN] at hWd hln
    replace hN := Lib.hid hN
    have hb' := Lib.hid hb
    replace hxi := Lib.hid hxi
    clear hin hx h0 hb ha8 ha
    go_enter Tryd.func11, Tryd.ntmps11
    go_upto_region 6 with (first
      | (go_at_call 28; refine (hS.read (fun O h => hIn.out _ O h)).mono ?_; rintro e w1 ⟨rfl, hS2⟩; clear hS; have hS := hS2; clear hS2)
      | (go_at_call_of 29 a; refine (hS.read (fun O h => hGa.out _ O h)).mono ?_; rintro e w2 ⟨rfl, hS2⟩; clear hS; have hS := hS2; clear hS2)
      | (go_at_call 30; refine (hS.still (hNum.out _)).mono ?_; rintro e w3 ⟨rfl, hS2⟩; clear hS; have hS := hS2; clear hS2)
      | (go_at_call 31; refine (hS.still (hOf.out _)).mono ?_; rintro e w4 ⟨rfl, hS2⟩; clear hS; have hS := hS2; clear hS2))
    have hS2 := hS.alloc (.cells #[.string ⟨#[]⟩, .int .i64 0, .int .i64 0, .bool false, .bool false] 56)
    clear hS; have hS := hS2; clear hS2
    go_wp2_with (go_at_call 32; refine (hS.refX (fun O h hb => hWd.out _ _ h)).mono ?_; rintro e w1 ⟨v, rfl, hS2⟩; obtain ⟨ad, cp, rfl, hle⟩ := hS2.fact.2.1.form; clear hle; clear hS; have hS := hS2; clear hS2)
    replace hS := hS.keep (L := (PW.and (.vs 6 (.slice ad N cp) N (hcs M xs)))) fun O h => h.left.and h.right.left
    go_loopw [33] (fun i wr => ∃ k : Nat, i = .int .i64 (k : Int) ∧ k ≤ N ∧ (∀ y ∈ xs.take k, (rdXt M y == xt) = false) ∧ Onr w wr B rb M R (PW.and (.vs 6 (.slice ad N cp) N (hcs M xs)))) (fun i _ => N - (intOf i).toNat)
    case atStart => exact ⟨0, rfl, Nat.zero_le _, fun y hy => by simp at hy, hS⟩
    case round =>
    obtain ⟨k, rfl, hk, hpre, hS⟩ := hrel
    by_cases hlt : k < N
    · obtain ⟨bv, o, cq, e⟩ := hS.fact.2.some_of (by omega)
      cases e
      obtain ⟨x, hx⟩ : ∃ x, xs[k]? = some x := ⟨xs[k]'(by rw [← hN.out]; exact hlt), List.getElem?_eq_getElem _⟩
      have hat := hfa.out k x hx
      have hcell : ∀ (i : Nat) (u : Value), (hc M x)[i]? = some u → wr.cell? ⟨bv, o + k * 6 + i, none⟩ = some u := fun i u hu => by
        have := hS.fact.2.cell (k * 6 + i) u (hcs_at M xs k i x u hx hu)
        rwa [← Nat.add_assoc] at this
      have z0 : wr.cell? ⟨bv, o + k * 6, none⟩ = some (.int .i64 x) := hcell 0 _ rfl
      have z1 := hcell 1 _ rfl
      have z2 := hcell 2 _ rfl
      have z3 := hcell 3 _ rfl
      have z4 := hcell 4 _ rfl
      have z5 := hcell 5 _ rfl
      have htk := take_next hx
      have hfx : rdXt M x = rdXt M x := rfl
      clear hcell
      obtain ⟨X, hX⟩ : ∃ X, X = rdXt M x := ⟨_, rfl⟩
      rw [← hX] at z5 hat
      generalize linkL M x = Y at *
      generalize immL M x = I at *
      generalize hidL M x = D at *
      generalize (⟨(nameL M x).toArray⟩ : ByteArray) = H at *
      replace hat := Lib.hid hat
      replace hX := Lib.hid hX
      replace htk := Lib.hid htk
      replace hpre := Lib.hid hpre
      have hlt' := Lib.hid hlt
      replace hx := Lib.hid hx
      have hlN : N ≤ 8192 := hln
      have hw1 : IntKind.i64.wrap ((k : Int) + 1) = ((k + 1 : Nat) : Int) := by rw [IntKind.wrap_i64]; omega
      have hS2 := hS.new #[.int .i64 x, .int .i64 Y, .string H, .bool I, .bool D, .int .i64 X] 65
      obtain ⟨b1, hb1⟩ : ∃ b1, b1 = wr.heap.size := ⟨_, rfl⟩
      obtain ⟨w3, hw3⟩ : ∃ w3, w3 = wr.alloc (.cells #[.int .i64 x, .int .i64 Y, .string H, .bool I, .bool D, .int .i64 X] 65) := ⟨_, rfl⟩
      go_upto_region 10 with fail
      rw [← hw3, ← hb1] at hS2 ⊢
      clear hS hw3 hb1 z0 z1 z2 z3 z4 z5 hfx
      have hS := hS2
      clear hS2
      obtain ⟨y1, y2, y3, y4, y5, y6⟩ := hS.fact.2.c6
      cases hq : (X == xt) with
      | true =>
        have hF := Lib.hid (hat.out hpre.out (by exact hq))
        go_wp2
        refine ⟨rfl, .tuple #[.string (othS M xt), .int .i64 a8, .bool true], ?_, hS.refQ _⟩
        rw [hF.out]
        simp [results, Tryd.results11, go_sem]
      | false =>
        have hq' := Lib.hid hq
        go_wp2
        go_roundw
        case rel => exact ⟨k + 1, rfl, hlt'.out, fun z hz => by rw [htk.out] at hz; rcases List.mem_append.1 hz with hz | hz; exact hpre.out z hz; rw [List.mem_singleton.1 hz, ← hX.out]; exact hq'.out, hS.keep fun O h => h.left⟩
        case measure => simp [intOf]; have := hlt'.out; omega
    · have hkN : k = N := by omega
      have hpre2 : ∀ y ∈ xs, (rdXt M y == xt) = false := by
        rw [hkN, hN.out, List.take_length] at hpre
        exact hpre
      have hfd := hfn.out hpre2
      replace hfd := Lib.hid hfd
      have t1 : ¬ k < N := hlt
      clear hpre hpre2 hkN
      go_wp2_with (go_at_call 13; refine (hS.still (fmtS xt hxi.out _ hS.fact.1)).mono ?_; rintro e w7 ⟨rfl, hS2⟩; clear hS; have hS := hS2; clear hS2)
      refine ⟨rfl, .tuple #[.string (othS M xt), .int .i64 a8, .bool true], ?_, hS.refQ _⟩
      rw [hfd.out]
      simp [results, Tryd.results11, go_sem]
  have hn := numF_in xt h0
  obtain ⟨n, hnn⟩ : ∃ n, numF xt = n := ⟨_, rfl⟩
  rw [hnn] at hNum h0 hn
  have hOf := Lib.hid (fun (w9 : World) => rOf n hn.1 hn.2 w9)
  have hnm : nmP n = (rowL.getD n.toNat default).1 := by unfold nmP; rfl
  have hns := nmP_small n
  rw [hnm] at hns
  generalize rowL.getD n.toNat default = ro at *
  obtain ⟨pn, pt, pl, pi, pc⟩ := ro
  unfold primV at hOf
  dsimp only at hnm hns hOf
  have hIn8 := Lib.hid (fun (w9 : World) (O : Nat → Prop) (h : RefP w9 B rb M O) => rInside h a8 (by unfold isI; omega))
  have hG8 := Lib.hid (fun (w9 : World) (O : Nat → Prop) (h : RefP w9 B rb M O) => rGet h a8 (by unfold isI; omega))
  obtain ⟨nx, hnx⟩ : ∃ nx, getM M a8 = nx := ⟨_, rfl⟩
  rw [hnx] at hG8
  cases hi8 : insL M a8 with
  | false =>
    rw [look_end hin hx hnn h0 (by rw [← ha8]; exact hi8), ← ha8, hnm]
    rw [hi8] at hIn8
    unfold lookE
    have hane : a ≠ a8 := by omega
    clear hin hx hb ha8 hxi hnm hns hnn hi8 ha hn hnx
    go_enter Tryd.func11, Tryd.ntmps11
    go_upto_region 6 with (first
      | (go_at_call 28; refine (hS.read (fun O h => hIn.out _ O h)).mono ?_; rintro e w1 ⟨rfl, hS2⟩; clear hS; have hS := hS2; clear hS2)
      | (go_at_call_of 29 a; refine (hS.read (fun O h => hGa.out _ O h)).mono ?_; rintro e w2 ⟨rfl, hS2⟩; clear hS; have hS := hS2; clear hS2)
      | (go_at_call 30; refine (hS.still (hNum.out _)).mono ?_; rintro e w3 ⟨rfl, hS2⟩; clear hS; have hS := hS2; clear hS2)
      | (go_at_call 31; refine (hS.still (hOf.out _)).mono ?_; rintro e w4 ⟨rfl, hS2⟩; clear hS; have hS := hS2; clear hS2))
    have hS2 := hS.new #[.string pn, .int .i64 pt, .int .i64 pl, .bool pi, .bool pc] 56
    obtain ⟨P, hP⟩ : ∃ P, P = w4.heap.size := ⟨_, rfl⟩
    obtain ⟨w8, hw8⟩ : ∃ w8, w8 = w4.alloc (.cells #[.string pn, .int .i64 pt, .int .i64 pl, .bool pi, .bool pc] 56) := ⟨_, rfl⟩
    rw [← hw8, ← hP] at hS2 ⊢
    clear hw8 hP hS
    have hS := hS2
    clear hS2
    go_wp2_with (first
      | (go_at_call_of 29 a8; refine (hS.read (fun O h => hG8.out _ O h)).mono ?_; rintro e w6 ⟨rfl, hS2⟩; clear hS; have hS := hS2; clear hS2)
      | (go_at_call 28; refine (hS.read (fun O h => hIn8.out _ O h)).mono ?_; rintro e w5 ⟨rfl, hS2⟩; clear hS; have hS := hS2; clear hS2; have y1 := Blk.cell hS.fact.2 0))
    refine ⟨rfl, _, ?_, hS.refQ _⟩
    simp [results, Tryd.results11, go_sem]
  | true =>
  have hb8 := insL_in hi8
  rw [look_in hin hx hnn h0 (by rw [← ha8]; exact hi8)]
  rw [← ha8]
  rw [hi8] at hIn8
  rw [hnx]
  have hni : isI nx := by rw [← hnx]; exact isI_getC _ _
  have hIs := itoaS_small nx hni
  have hx1 := add_str pn spB (by omega) (by decide)
  have h1s : (pn ++ spB).size ≤ 17 := by rw [ByteArray.size_append]; have : spB.size = 1 := rfl; omega
  unfold spB at hx1
  obtain ⟨s1, hs1⟩ : ∃ s1, s1 = pn ++ spB := ⟨_, rfl⟩
  rw [show pn ++ (⟨#[32]⟩ : ByteArray) = s1 from hs1.symm] at hx1
  rw [← hs1] at h1s
  have hx2 := add_str s1 (itoaS nx) (by omega) (by omega)
  obtain ⟨s2, hs2⟩ : ∃ s2, s2 = s1 ++ itoaS nx := ⟨_, rfl⟩
  rw [← hs2] at hx2
  obtain ⟨a16, ha16⟩ : ∃ a16, a16 = a + 16 := ⟨_, rfl⟩
  have w16 : IntKind.i64.wrap (a + 16) = a16 := by rw [ha16]; exact wrap_id (by omega)
  have hnum : isNum n = true → lookP M a n nx = (s2, a16, true) := fun h => by rw [lookP_num h, hnm, ← hs1, ← hs2, ← ha16]
  have htxt := fun (h1 : isNum n = false) (h2 : isTxt n = true) (h3 : 0 ≤ nx ∧ nx ≤ hereL M - a - 16) => lookP_txt (M := M) (a := a) (x := nx) h1 h2 h3
  have hnot := fun (h1 : isNum n = false) (h2 : isTxt n = true → ¬ (0 ≤ nx ∧ nx ≤ hereL M - a - 16)) => lookP_no (M := M) (a := a) (x := nx) h1 h2
  rw [hnm, ← hs1, ← ha16] at htxt
  rw [hnm, ← ha8] at hnot
  replace hni := Lib.hid hni
  clear hin hx ha8 hxi hnm hns hnn hi8 ha hn h0 hs1 hs2 hnx
  have hLd := Lib.hid (fun (w9 : World) (O : Nat → Prop) (h : RefP w9 B rb M O) => rLoad h a16 nx (by unfold isI; omega))
  have hAl := Lib.hid (fun (w9 : World) => calls_still (rAlign w9 nx hni.out))
  have hHr := Lib.hid (fun (w9 : World) (O : Nat → Prop) (h : RefP w9 B rb M O) => rHere h)
  have hhin := hereL_in M
  by_cases c1 : isNum n = true
  · rw [hnum c1]
    unfold lookE
    clear hnum htxt hnot hLd hAl hHr ha16 hb hb8 hIs h1s hhin
    have hcs : n = 2 ∨ n = 3 ∨ n = 4 ∨ n = 6 ∨ n = 7 := by unfold isNum at c1; simp at c1; omega
    clear c1
    rcases hcs with rfl | rfl | rfl | rfl | rfl
    · go_enter Tryd.func11, Tryd.ntmps11
      go_upto_region 6 with (first
        | (go_at_call 28; refine (hS.read (fun O h => hIn.out _ O h)).mono ?_; rintro e w1 ⟨rfl, hS2⟩; clear hS; have hS := hS2; clear hS2)
        | (go_at_call_of 29 a; refine (hS.read (fun O h => hGa.out _ O h)).mono ?_; rintro e w2 ⟨rfl, hS2⟩; clear hS; have hS := hS2; clear hS2)
        | (go_at_call 30; refine (hS.still (hNum.out _)).mono ?_; rintro e w3 ⟨rfl, hS2⟩; clear hS; have hS := hS2; clear hS2)
        | (go_at_call 31; refine (hS.still (hOf.out _)).mono ?_; rintro e w4 ⟨rfl, hS2⟩; clear hS; have hS := hS2; clear hS2))
      have hS2 := hS.new #[.string pn, .int .i64 pt, .int .i64 pl, .bool pi, .bool pc] 56
      obtain ⟨P, hP⟩ : ∃ P, P = w4.heap.size := ⟨_, rfl⟩
      obtain ⟨w8, hw8⟩ : ∃ w8, w8 = w4.alloc (.cells #[.string pn, .int .i64 pt, .int .i64 pl, .bool pi, .bool pc] 56) := ⟨_, rfl⟩
      rw [← hw8, ← hP] at hS2 ⊢
      clear hw8 hP hS
      have hS := hS2
      clear hS2
      go_upto_region 23 with (first
        | (go_at_call_of 29 a8; refine (hS.read (fun O h => hG8.out _ O h)).mono ?_; rintro e w6 ⟨rfl, hS2⟩; clear hS; have hS := hS2; clear hS2)
        | (go_at_call 28; refine (hS.read (fun O h => hIn8.out _ O h)).mono ?_; rintro e w5 ⟨rfl, hS2⟩; clear hS; have hS := hS2; clear hS2; have y1 := Blk.cell hS.fact.2 0))
      replace hS := hS.drew
      refine wp_region_noPanic ?_
      refine wp_region_held_drew (S := (fun w9 => Blk w9 P #[.string pn, .int .i64 pt, .int .i64 pl, .bool pi, .bool pc] 56)) (by kernel_rfl) ?_ (fun hHeld => ?_)
      · (try dsimp only); first | exact hS.fact.2 | exact hS.fact.1.2
      refine wpAnyH_take (i := 0) (oi := { dst := some 70, op := Go.Op.fieldAddr 56 (Go.Operand.tmp 9) 0, type := 0, pos := "ref.go:98", after := #[], guard := none }) (v := ?v1_1) rfl (by kernel_rfl) (by kernel_rfl) (by kernel_rfl) (fun _ _ _ h => h) (Or.inl ⟨by rfl, ?hy1_1⟩) (by assumption) ?rest1_1
      case hy1_1 => (intro w hSw; (try dsimp only at hSw); have y1 := Blk.cell hSw 0; go_simp <;> with_reducible rfl)
      try simp only [Act.put, List.setIfInBounds_toArray, List.set_cons_zero, List.set_cons_succ]
      refine wpAnyH_take (i := 1) (oi := { dst := some 71, op := Go.Op.load 9 (Go.Operand.tmp 70), type := 9, pos := "ref.go:98", after := #[{ on := 0, ground := Go.Ground.data }], guard := none }) (v := ?v2_1) rfl (by kernel_rfl) (by kernel_rfl) (by kernel_rfl) (fun _ _ _ h => h) (Or.inl ⟨by rfl, ?hy2_1⟩) (by assumption) ?rest2_1
      case hy2_1 => (intro w hSw; (try dsimp only at hSw); have y1 := Blk.cell hSw 0; go_simp <;> with_reducible rfl)
      try simp only [Act.put, List.setIfInBounds_toArray, List.set_cons_zero, List.set_cons_succ]
      refine wpAnyH_take (i := 2) (oi := { dst := some 72, op := Go.Op.binOp Go.BinOp.add 9 (Go.Operand.tmp 71) (Go.Operand.const (Go.Value.string { data := #[32] })) 9, type := 9, pos := "ref.go:98", after := #[{ on := 1, ground := Go.Ground.data }], guard := none }) (v := ?v3_1) rfl (by kernel_rfl) (by kernel_rfl) (by kernel_rfl) (fun _ _ _ h => h) (Or.inl ⟨by rfl, ?hy3_1⟩) (by assumption) ?rest3_1
      case hy3_1 => (intro w hSw; (try dsimp only at hSw); have y1 := Blk.cell hSw 0; go_simp <;> with_reducible rfl)
      try simp only [Act.put, List.setIfInBounds_toArray, List.set_cons_zero, List.set_cons_succ]
      refine wpAnyH_take (i := 3) (oi := { dst := some 73, op := Go.Op.move (Go.Operand.tmp 13), type := 2, pos := "ref.go:98", after := #[], guard := none }) (v := ?v4_1) rfl (by kernel_rfl) (by kernel_rfl) (by kernel_rfl) (fun _ _ _ h => h) (Or.inl ⟨by rfl, ?hy4_1⟩) (by assumption) ?rest4_1
      case hy4_1 => (intro w hSw; (try dsimp only at hSw); have y1 := Blk.cell hSw 0; go_simp <;> with_reducible rfl)
      try simp only [Act.put, List.setIfInBounds_toArray, List.set_cons_zero, List.set_cons_succ]
      refine wpAnyH_take (i := 6) (oi := { dst := some 76, op := Go.Op.move (Go.Operand.tmp 1), type := 2, pos := "ref.go:98", after := #[{ on := 8, ground := Go.Ground.gcOnly Go.Departure.lateStores }], guard := none }) (v := ?v5_1) rfl (by kernel_rfl) (by kernel_rfl) (by kernel_rfl) (fun _ _ _ h => h) (Or.inl ⟨by rfl, ?hy5_1⟩) (by assumption) ?rest5_1
      case hy5_1 => (intro w hSw; (try dsimp only at hSw); have y1 := Blk.cell hSw 0; go_simp <;> with_reducible rfl)
      try simp only [Act.put, List.setIfInBounds_toArray, List.set_cons_zero, List.set_cons_succ]
      refine wpAnyH_take (i := 7) (oi := { dst := some 77, op := Go.Op.binOp Go.BinOp.add 2 (Go.Operand.tmp 76) (Go.Operand.const (Go.Value.int Go.IntKind.i64 16)) 2, type := 2, pos := "ref.go:98", after := #[{ on := 6, ground := Go.Ground.data }, { on := 8, ground := Go.Ground.gcOnly Go.Departure.lateStores }], guard := none }) (v := ?v6_1) rfl (by kernel_rfl) (by kernel_rfl) (by kernel_rfl) (fun _ _ _ h => h) (Or.inl ⟨by rfl, ?hy6_1⟩) (by assumption) ?rest6_1
      case hy6_1 => (intro w hSw; (try dsimp only at hSw); have y1 := Blk.cell hSw 0; go_simp <;> with_reducible rfl)
      try simp only [Act.put, List.setIfInBounds_toArray, List.set_cons_zero, List.set_cons_succ]
      refine wpAnyH_ready (rs := [4]) (by kernel_rfl) (by simp) ?_
      refine AllReadyH.cons (o := { dst := some 74, op := Go.Op.call { callee := Go.Callee.value (Go.Operand.func 13), args := #[Go.Operand.tmp 73, Go.Operand.const (Go.Value.int Go.IntKind.i64 10)], argTypes := #[2, 3] }, type := 9, pos := "ref.go:98", after := #[{ on := 3, ground := Go.Ground.data }], guard := none }) rfl (fun K hK => ?_) AllReadyH.nil
      go_simp
      go_at_call 13; refine (hS.still (fmtS nx hni.out _ hS.fact.1)).mono ?_; rintro e w7 ⟨rfl, hS2⟩; clear hS; have hS := hS2; clear hS2
      refine hK.out _ _ ?_ (fun hHeld2 => ?_)
      · (try dsimp only); first | exact hS.fact.2 | exact hS.fact.1.2
      clear hK K hHeld
      have hHeld := hHeld2
      clear hHeld2
      try simp only [Act.put, List.setIfInBounds_toArray, List.set_cons_zero, List.set_cons_succ]
      refine wpAnyH_take (i := 5) (oi := { dst := some 75, op := Go.Op.binOp Go.BinOp.add 9 (Go.Operand.tmp 72) (Go.Operand.tmp 74) 9, type := 9, pos := "ref.go:98", after := #[{ on := 2, ground := Go.Ground.data }, { on := 4, ground := Go.Ground.data }], guard := none }) (v := ?v7_1) rfl (by kernel_rfl) (by kernel_rfl) (by kernel_rfl) (fun _ _ _ h => h) (Or.inl ⟨by rfl, ?hy7_1⟩) (by assumption) ?rest7_1
      case hy7_1 => (intro w hSw; (try dsimp only at hSw); have y1 := Blk.cell hSw 0; go_simp <;> with_reducible rfl)
      try simp only [Act.put, List.setIfInBounds_toArray, List.set_cons_zero, List.set_cons_succ]
      refine wpAnyH_take (i := 8) (oi := { dst := some 4, op := Go.Op.assign (Go.Operand.tmp 75), type := 9, pos := "ref.go:98", after := #[{ on := 5, ground := Go.Ground.data }, { on := 4, ground := Go.Ground.chain }, { on := 0, ground := Go.Ground.phase }, { on := 1, ground := Go.Ground.phase }, { on := 2, ground := Go.Ground.phase }, { on := 3, ground := Go.Ground.phase }, { on := 4, ground := Go.Ground.phase }, { on := 5, ground := Go.Ground.phase }, { on := 6, ground := Go.Ground.textOnly Go.Departure.lateStores }, { on := 7, ground := Go.Ground.textOnly Go.Departure.lateStores }], guard := none }) (v := ?v8_1) rfl (by kernel_rfl) (by kernel_rfl) (by kernel_rfl) (fun _ _ _ h => h) (Or.inl ⟨by rfl, ?hy8_1⟩) (by assumption) ?rest8_1
      case hy8_1 => (intro w hSw; (try dsimp only at hSw); have y1 := Blk.cell hSw 0; go_simp <;> with_reducible rfl)
      try simp only [Act.put, List.setIfInBounds_toArray, List.set_cons_zero, List.set_cons_succ]
      refine wpAnyH_take (i := 9) (oi := { dst := some 5, op := Go.Op.assign (Go.Operand.tmp 77), type := 2, pos := "ref.go:98", after := #[{ on := 7, ground := Go.Ground.data }, { on := 8, ground := Go.Ground.chain }, { on := 0, ground := Go.Ground.phase }, { on := 1, ground := Go.Ground.phase }, { on := 2, ground := Go.Ground.phase }, { on := 3, ground := Go.Ground.phase }, { on := 4, ground := Go.Ground.phase }, { on := 5, ground := Go.Ground.phase }, { on := 6, ground := Go.Ground.phase }, { on := 7, ground := Go.Ground.phase }, { on := 8, ground := Go.Ground.phase }], guard := none }) (v := ?v9_1) rfl (by kernel_rfl) (by kernel_rfl) (by kernel_rfl) (fun _ _ _ h => h) (Or.inl ⟨by rfl, ?hy9_1⟩) (by assumption) ?rest9_1
      case hy9_1 => (intro w hSw; (try dsimp only at hSw); have y1 := Blk.cell hSw 0; go_simp <;> with_reducible rfl)
      try simp only [Act.put, List.setIfInBounds_toArray, List.set_cons_zero, List.set_cons_succ]
      refine wpAnyH_take (i := 10) (oi := { dst := some 6, op := Go.Op.assign (Go.Operand.const (Go.Value.bool true)), type := 4, pos := "ref.go:98", after := #[{ on := 9, ground := Go.Ground.chain }, { on := 0, ground := Go.Ground.phase }, { on := 1, ground := Go.Ground.phase }, { on := 2, ground := Go.Ground.phase }, { on := 3, ground := Go.Ground.phase }, { on := 4, ground := Go.Ground.phase }, { on := 5, ground := Go.Ground.phase }, { on := 6, ground := Go.Ground.phase }, { on := 7, ground := Go.Ground.phase }, { on := 8, ground := Go.Ground.phase }, { on := 9, ground := Go.Ground.phase }], guard := none }) (v := ?v10_1) rfl (by kernel_rfl) (by kernel_rfl) (by kernel_rfl) (fun _ _ _ h => h) (Or.inl ⟨by rfl, ?hy10_1⟩) (by assumption) ?rest10_1
      case hy10_1 => (intro w hSw; (try dsimp only at hSw); have y1 := Blk.cell hSw 0; go_simp <;> with_reducible rfl)
      try simp only [Act.put, List.setIfInBounds_toArray, List.set_cons_zero, List.set_cons_succ]
      refine wpAnyH_done (by kernel_rfl) ?_ _
      refine NoPanic.normal ?_
      go_wp2
      refine ⟨rfl, _, ?_, hS.refQ _⟩
      simp [results, Tryd.results11, go_sem]
    · go_enter Tryd.func11, Tryd.ntmps11
      go_upto_region 6 with (first
        | (go_at_call 28; refine (hS.read (fun O h => hIn.out _ O h)).mono ?_; rintro e w1 ⟨rfl, hS2⟩; clear hS; have hS := hS2; clear hS2)
        | (go_at_call_of 29 a; refine (hS.read (fun O h => hGa.out _ O h)).mono ?_; rintro e w2 ⟨rfl, hS2⟩; clear hS; have hS := hS2; clear hS2)
        | (go_at_call 30; refine (hS.still (hNum.out _)).mono ?_; rintro e w3 ⟨rfl, hS2⟩; clear hS; have hS := hS2; clear hS2)
        | (go_at_call 31; refine (hS.still (hOf.out _)).mono ?_; rintro e w4 ⟨rfl, hS2⟩; clear hS; have hS := hS2; clear hS2))
      have hS2 := hS.new #[.string pn, .int .i64 pt, .int .i64 pl, .bool pi, .bool pc] 56
      obtain ⟨P, hP⟩ : ∃ P, P = w4.heap.size := ⟨_, rfl⟩
      obtain ⟨w8, hw8⟩ : ∃ w8, w8 = w4.alloc (.cells #[.string pn, .int .i64 pt, .int .i64 pl, .bool pi, .bool pc] 56) := ⟨_, rfl⟩
      rw [← hw8, ← hP] at hS2 ⊢
      clear hw8 hP hS
      have hS := hS2
      clear hS2
      go_upto_region 23 with (first
        | (go_at_call_of 29 a8; refine (hS.read (fun O h => hG8.out _ O h)).mono ?_; rintro e w6 ⟨rfl, hS2⟩; clear hS; have hS := hS2; clear hS2)
        | (go_at_call 28; refine (hS.read (fun O h => hIn8.out _ O h)).mono ?_; rintro e w5 ⟨rfl, hS2⟩; clear hS; have hS := hS2; clear hS2; have y1 := Blk.cell hS.fact.2 0))
      replace hS := hS.drew
      refine wp_region_noPanic ?_
      refine wp_region_held_drew (S := (fun w9 => Blk w9 P #[.string pn, .int .i64 pt, .int .i64 pl, .bool pi, .bool pc] 56)) (by kernel_rfl) ?_ (fun hHeld => ?_)
      · (try dsimp only); first | exact hS.fact.2 | exact hS.fact.1.2
      refine wpAnyH_take (i := 0) (oi := { dst := some 70, op := Go.Op.fieldAddr 56 (Go.Operand.tmp 9) 0, type := 0, pos := "ref.go:98", after := #[], guard := none }) (v := ?v1_2) rfl (by kernel_rfl) (by kernel_rfl) (by kernel_rfl) (fun _ _ _ h => h) (Or.inl ⟨by rfl, ?hy1_2⟩) (by assumption) ?rest1_2
      case hy1_2 => (intro w hSw; (try dsimp only at hSw); have y1 := Blk.cell hSw 0; go_simp <;> with_reducible rfl)
      try simp only [Act.put, List.setIfInBounds_toArray, List.set_cons_zero, List.set_cons_succ]
      refine wpAnyH_take (i := 1) (oi := { dst := some 71, op := Go.Op.load 9 (Go.Operand.tmp 70), type := 9, pos := "ref.go:98", after := #[{ on := 0, ground := Go.Ground.data }], guard := none }) (v := ?v2_2) rfl (by kernel_rfl) (by kernel_rfl) (by kernel_rfl) (fun _ _ _ h => h) (Or.inl ⟨by rfl, ?hy2_2⟩) (by assumption) ?rest2_2
      case hy2_2 => (intro w hSw; (try dsimp only at hSw); have y1 := Blk.cell hSw 0; go_simp <;> with_reducible rfl)
      try simp only [Act.put, List.setIfInBounds_toArray, List.set_cons_zero, List.set_cons_succ]
      refine wpAnyH_take (i := 2) (oi := { dst := some 72, op := Go.Op.binOp Go.BinOp.add 9 (Go.Operand.tmp 71) (Go.Operand.const (Go.Value.string { data := #[32] })) 9, type := 9, pos := "ref.go:98", after := #[{ on := 1, ground := Go.Ground.data }], guard := none }) (v := ?v3_2) rfl (by kernel_rfl) (by kernel_rfl) (by kernel_rfl) (fun _ _ _ h => h) (Or.inl ⟨by rfl, ?hy3_2⟩) (by assumption) ?rest3_2
      case hy3_2 => (intro w hSw; (try dsimp only at hSw); have y1 := Blk.cell hSw 0; go_simp <;> with_reducible rfl)
      try simp only [Act.put, List.setIfInBounds_toArray, List.set_cons_zero, List.set_cons_succ]
      refine wpAnyH_take (i := 3) (oi := { dst := some 73, op := Go.Op.move (Go.Operand.tmp 13), type := 2, pos := "ref.go:98", after := #[], guard := none }) (v := ?v4_2) rfl (by kernel_rfl) (by kernel_rfl) (by kernel_rfl) (fun _ _ _ h => h) (Or.inl ⟨by rfl, ?hy4_2⟩) (by assumption) ?rest4_2
      case hy4_2 => (intro w hSw; (try dsimp only at hSw); have y1 := Blk.cell hSw 0; go_simp <;> with_reducible rfl)
      try simp only [Act.put, List.setIfInBounds_toArray, List.set_cons_zero, List.set_cons_succ]
      refine wpAnyH_take (i := 6) (oi := { dst := some 76, op := Go.Op.move (Go.Operand.tmp 1), type := 2, pos := "ref.go:98", after := #[{ on := 8, ground := Go.Ground.gcOnly Go.Departure.lateStores }], guard := none }) (v := ?v5_2) rfl (by kernel_rfl) (by kernel_rfl) (by kernel_rfl) (fun _ _ _ h => h) (Or.inl ⟨by rfl, ?hy5_2⟩) (by assumption) ?rest5_2
      case hy5_2 => (intro w hSw; (try dsimp only at hSw); have y1 := Blk.cell hSw 0; go_simp <;> with_reducible rfl)
      try simp only [Act.put, List.setIfInBounds_toArray, List.set_cons_zero, List.set_cons_succ]
      refine wpAnyH_take (i := 7) (oi := { dst := some 77, op := Go.Op.binOp Go.BinOp.add 2 (Go.Operand.tmp 76) (Go.Operand.const (Go.Value.int Go.IntKind.i64 16)) 2, type := 2, pos := "ref.go:98", after := #[{ on := 6, ground := Go.Ground.data }, { on := 8, ground := Go.Ground.gcOnly Go.Departure.lateStores }], guard := none }) (v := ?v6_2) rfl (by kernel_rfl) (by kernel_rfl) (by kernel_rfl) (fun _ _ _ h => h) (Or.inl ⟨by rfl, ?hy6_2⟩) (by assumption) ?rest6_2
      case hy6_2 => (intro w hSw; (try dsimp only at hSw); have y1 := Blk.cell hSw 0; go_simp <;> with_reducible rfl)
      try simp only [Act.put, List.setIfInBounds_toArray, List.set_cons_zero, List.set_cons_succ]
      refine wpAnyH_ready (rs := [4]) (by kernel_rfl) (by simp) ?_
      refine AllReadyH.cons (o := { dst := some 74, op := Go.Op.call { callee := Go.Callee.value (Go.Operand.func 13), args := #[Go.Operand.tmp 73, Go.Operand.const (Go.Value.int Go.IntKind.i64 10)], argTypes := #[2, 3] }, type := 9, pos := "ref.go:98", after := #[{ on := 3, ground := Go.Ground.data }], guard := none }) rfl (fun K hK => ?_) AllReadyH.nil
      go_simp
      go_at_call 13; refine (hS.still (fmtS nx hni.out _ hS.fact.1)).mono ?_; rintro e w7 ⟨rfl, hS2⟩; clear hS; have hS := hS2; clear hS2
      refine hK.out _ _ ?_ (fun hHeld2 => ?_)
      · (try dsimp only); first | exact hS.fact.2 | exact hS.fact.1.2
      clear hK K hHeld
      have hHeld := hHeld2
      clear hHeld2
      try simp only [Act.put, List.setIfInBounds_toArray, List.set_cons_zero, List.set_cons_succ]
      refine wpAnyH_take (i := 5) (oi := { dst := some 75, op := Go.Op.binOp Go.BinOp.add 9 (Go.Operand.tmp 72) (Go.Operand.tmp 74) 9, type := 9, pos := "ref.go:98", after := #[{ on := 2, ground := Go.Ground.data }, { on := 4, ground := Go.Ground.data }], guard := none }) (v := ?v7_2) rfl (by kernel_rfl) (by kernel_rfl) (by kernel_rfl) (fun _ _ _ h => h) (Or.inl ⟨by rfl, ?hy7_2⟩) (by assumption) ?rest7_2
      case hy7_2 => (intro w hSw; (try dsimp only at hSw); have y1 := Blk.cell hSw 0; go_simp <;> with_reducible rfl)
      try simp only [Act.put, List.setIfInBounds_toArray, List.set_cons_zero, List.set_cons_succ]
      refine wpAnyH_take (i := 8) (oi := { dst := some 4, op := Go.Op.assign (Go.Operand.tmp 75), type := 9, pos := "ref.go:98", after := #[{ on := 5, ground := Go.Ground.data }, { on := 4, ground := Go.Ground.chain }, { on := 0, ground := Go.Ground.phase }, { on := 1, ground := Go.Ground.phase }, { on := 2, ground := Go.Ground.phase }, { on := 3, ground := Go.Ground.phase }, { on := 4, ground := Go.Ground.phase }, { on := 5, ground := Go.Ground.phase }, { on := 6, ground := Go.Ground.textOnly Go.Departure.lateStores }, { on := 7, ground := Go.Ground.textOnly Go.Departure.lateStores }], guard := none }) (v := ?v8_2) rfl (by kernel_rfl) (by kernel_rfl) (by kernel_rfl) (fun _ _ _ h => h) (Or.inl ⟨by rfl, ?hy8_2⟩) (by assumption) ?rest8_2
      case hy8_2 => (intro w hSw; (try dsimp only at hSw); have y1 := Blk.cell hSw 0; go_simp <;> with_reducible rfl)
      try simp only [Act.put, List.setIfInBounds_toArray, List.set_cons_zero, List.set_cons_succ]
      refine wpAnyH_take (i := 9) (oi := { dst := some 5, op := Go.Op.assign (Go.Operand.tmp 77), type := 2, pos := "ref.go:98", after := #[{ on := 7, ground := Go.Ground.data }, { on := 8, ground := Go.Ground.chain }, { on := 0, ground := Go.Ground.phase }, { on := 1, ground := Go.Ground.phase }, { on := 2, ground := Go.Ground.phase }, { on := 3, ground := Go.Ground.phase }, { on := 4, ground := Go.Ground.phase }, { on := 5, ground := Go.Ground.phase }, { on := 6, ground := Go.Ground.phase }, { on := 7, ground := Go.Ground.phase }, { on := 8, ground := Go.Ground.phase }], guard := none }) (v := ?v9_2) rfl (by kernel_rfl) (by kernel_rfl) (by kernel_rfl) (fun _ _ _ h => h) (Or.inl ⟨by rfl, ?hy9_2⟩) (by assumption) ?rest9_2
      case hy9_2 => (intro w hSw; (try dsimp only at hSw); have y1 := Blk.cell hSw 0; go_simp <;> with_reducible rfl)
      try simp only [Act.put, List.setIfInBounds_toArray, List.set_cons_zero, List.set_cons_succ]
      refine wpAnyH_take (i := 10) (oi := { dst := some 6, op := Go.Op.assign (Go.Operand.const (Go.Value.bool true)), type := 4, pos := "ref.go:98", after := #[{ on := 9, ground := Go.Ground.chain }, { on := 0, ground := Go.Ground.phase }, { on := 1, ground := Go.Ground.phase }, { on := 2, ground := Go.Ground.phase }, { on := 3, ground := Go.Ground.phase }, { on := 4, ground := Go.Ground.phase }, { on := 5, ground := Go.Ground.phase }, { on := 6, ground := Go.Ground.phase }, { on := 7, ground := Go.Ground.phase }, { on := 8, ground := Go.Ground.phase }, { on := 9, ground := Go.Ground.phase }], guard := none }) (v := ?v10_2) rfl (by kernel_rfl) (by kernel_rfl) (by kernel_rfl) (fun _ _ _ h => h) (Or.inl ⟨by rfl, ?hy10_2⟩) (by assumption) ?rest10_2
      case hy10_2 => (intro w hSw; (try dsimp only at hSw); have y1 := Blk.cell hSw 0; go_simp <;> with_reducible rfl)
      try simp only [Act.put, List.setIfInBounds_toArray, List.set_cons_zero, List.set_cons_succ]
      refine wpAnyH_done (by kernel_rfl) ?_ _
      refine NoPanic.normal ?_
      go_wp2
      refine ⟨rfl, _, ?_, hS.refQ _⟩
      simp [results, Tryd.results11, go_sem]
    · go_enter Tryd.func11, Tryd.ntmps11
      go_upto_region 6 with (first
        | (go_at_call 28; refine (hS.read (fun O h => hIn.out _ O h)).mono ?_; rintro e w1 ⟨rfl, hS2⟩; clear hS; have hS := hS2; clear hS2)
        | (go_at_call_of 29 a; refine (hS.read (fun O h => hGa.out _ O h)).mono ?_; rintro e w2 ⟨rfl, hS2⟩; clear hS; have hS := hS2; clear hS2)
        | (go_at_call 30; refine (hS.still (hNum.out _)).mono ?_; rintro e w3 ⟨rfl, hS2⟩; clear hS; have hS := hS2; clear hS2)
        | (go_at_call 31; refine (hS.still (hOf.out _)).mono ?_; rintro e w4 ⟨rfl, hS2⟩; clear hS; have hS := hS2; clear hS2))
      have hS2 := hS.new #[.string pn, .int .i64 pt, .int .i64 pl, .bool pi, .bool pc] 56
      obtain ⟨P, hP⟩ : ∃ P, P = w4.heap.size := ⟨_, rfl⟩
      obtain ⟨w8, hw8⟩ : ∃ w8, w8 = w4.alloc (.cells #[.string pn, .int .i64 pt, .int .i64 pl, .bool pi, .bool pc] 56) := ⟨_, rfl⟩
      rw [← hw8, ← hP] at hS2 ⊢
      clear hw8 hP hS
      have hS := hS2
      clear hS2
      go_upto_region 23 with (first
        | (go_at_call_of 29 a8; refine (hS.read (fun O h => hG8.out _ O h)).mono ?_; rintro e w6 ⟨rfl, hS2⟩; clear hS; have hS := hS2; clear hS2)
        | (go_at_call 28; refine (hS.read (fun O h => hIn8.out _ O h)).mono ?_; rintro e w5 ⟨rfl, hS2⟩; clear hS; have hS := hS2; clear hS2; have y1 := Blk.cell hS.fact.2 0))
      replace hS := hS.drew
      refine wp_region_noPanic ?_
      refine wp_region_held_drew (S := (fun w9 => Blk w9 P #[.string pn, .int .i64 pt, .int .i64 pl, .bool pi, .bool pc] 56)) (by kernel_rfl) ?_ (fun hHeld => ?_)
      · (try dsimp only); first | exact hS.fact.2 | exact hS.fact.1.2
      refine wpAnyH_take (i := 0) (oi := { dst := some 70, op := Go.Op.fieldAddr 56 (Go.Operand.tmp 9) 0, type := 0, pos := "ref.go:98", after := #[], guard := none }) (v := ?v1_3) rfl (by kernel_rfl) (by kernel_rfl) (by kernel_rfl) (fun _ _ _ h => h) (Or.inl ⟨by rfl, ?hy1_3⟩) (by assumption) ?rest1_3
      case hy1_3 => (intro w hSw; (try dsimp only at hSw); have y1 := Blk.cell hSw 0; go_simp <;> with_reducible rfl)
      try simp only [Act.put, List.setIfInBounds_toArray, List.set_cons_zero, List.set_cons_succ]
      refine wpAnyH_take (i := 1) (oi := { dst := some 71, op := Go.Op.load 9 (Go.Operand.tmp 70), type := 9, pos := "ref.go:98", after := #[{ on := 0, ground := Go.Ground.data }], guard := none }) (v := ?v2_3) rfl (by kernel_rfl) (by kernel_rfl) (by kernel_rfl) (fun _ _ _ h => h) (Or.inl ⟨by rfl, ?hy2_3⟩) (by assumption) ?rest2_3
      case hy2_3 => (intro w hSw; (try dsimp only at hSw); have y1 := Blk.cell hSw 0; go_simp <;> with_reducible rfl)
      try simp only [Act.put, List.setIfInBounds_toArray, List.set_cons_zero, List.set_cons_succ]
      refine wpAnyH_take (i := 2) (oi := { dst := some 72, op := Go.Op.binOp Go.BinOp.add 9 (Go.Operand.tmp 71) (Go.Operand.const (Go.Value.string { data := #[32] })) 9, type := 9, pos := "ref.go:98", after := #[{ on := 1, ground := Go.Ground.data }], guard := none }) (v := ?v3_3) rfl (by kernel_rfl) (by kernel_rfl) (by kernel_rfl) (fun _ _ _ h => h) (Or.inl ⟨by rfl, ?hy3_3⟩) (by assumption) ?rest3_3
      case hy3_3 => (intro w hSw; (try dsimp only at hSw); have y1 := Blk.cell hSw 0; go_simp <;> with_reducible rfl)
      try simp only [Act.put, List.setIfInBounds_toArray, List.set_cons_zero, List.set_cons_succ]
      refine wpAnyH_take (i := 3) (oi := { dst := some 73, op := Go.Op.move (Go.Operand.tmp 13), type := 2, pos := "ref.go:98", after := #[], guard := none }) (v := ?v4_3) rfl (by kernel_rfl) (by kernel_rfl) (by kernel_rfl) (fun _ _ _ h => h) (Or.inl ⟨by rfl, ?hy4_3⟩) (by assumption) ?rest4_3
      case hy4_3 => (intro w hSw; (try dsimp only at hSw); have y1 := Blk.cell hSw 0; go_simp <;> with_reducible rfl)
      try simp only [Act.put, List.setIfInBounds_toArray, List.set_cons_zero, List.set_cons_succ]
      refine wpAnyH_take (i := 6) (oi := { dst := some 76, op := Go.Op.move (Go.Operand.tmp 1), type := 2, pos := "ref.go:98", after := #[{ on := 8, ground := Go.Ground.gcOnly Go.Departure.lateStores }], guard := none }) (v := ?v5_3) rfl (by kernel_rfl) (by kernel_rfl) (by kernel_rfl) (fun _ _ _ h => h) (Or.inl ⟨by rfl, ?hy5_3⟩) (by assumption) ?rest5_3
      case hy5_3 => (intro w hSw; (try dsimp only at hSw); have y1 := Blk.cell hSw 0; go_simp <;> with_reducible rfl)
      try simp only [Act.put, List.setIfInBounds_toArray, List.set_cons_zero, List.set_cons_succ]
      refine wpAnyH_take (i := 7) (oi := { dst := some 77, op := Go.Op.binOp Go.BinOp.add 2 (Go.Operand.tmp 76) (Go.Operand.const (Go.Value.int Go.IntKind.i64 16)) 2, type := 2, pos := "ref.go:98", after := #[{ on := 6, ground := Go.Ground.data }, { on := 8, ground := Go.Ground.gcOnly Go.Departure.lateStores }], guard := none }) (v := ?v6_3) rfl (by kernel_rfl) (by kernel_rfl) (by kernel_rfl) (fun _ _ _ h => h) (Or.inl ⟨by rfl, ?hy6_3⟩) (by assumption) ?rest6_3
      case hy6_3 => (intro w hSw; (try dsimp only at hSw); have y1 := Blk.cell hSw 0; go_simp <;> with_reducible rfl)
      try simp only [Act.put, List.setIfInBounds_toArray, List.set_cons_zero, List.set_cons_succ]
      refine wpAnyH_ready (rs := [4]) (by kernel_rfl) (by simp) ?_
      refine AllReadyH.cons (o := { dst := some 74, op := Go.Op.call { callee := Go.Callee.value (Go.Operand.func 13), args := #[Go.Operand.tmp 73, Go.Operand.const (Go.Value.int Go.IntKind.i64 10)], argTypes := #[2, 3] }, type := 9, pos := "ref.go:98", after := #[{ on := 3, ground := Go.Ground.data }], guard := none }) rfl (fun K hK => ?_) AllReadyH.nil
      go_simp
      go_at_call 13; refine (hS.still (fmtS nx hni.out _ hS.fact.1)).mono ?_; rintro e w7 ⟨rfl, hS2⟩; clear hS; have hS := hS2; clear hS2
      refine hK.out _ _ ?_ (fun hHeld2 => ?_)
      · (try dsimp only); first | exact hS.fact.2 | exact hS.fact.1.2
      clear hK K hHeld
      have hHeld := hHeld2
      clear hHeld2
      try simp only [Act.put, List.setIfInBounds_toArray, List.set_cons_zero, List.set_cons_succ]
      refine wpAnyH_take (i := 5) (oi := { dst := some 75, op := Go.Op.binOp Go.BinOp.add 9 (Go.Operand.tmp 72) (Go.Operand.tmp 74) 9, type := 9, pos := "ref.go:98", after := #[{ on := 2, ground := Go.Ground.data }, { on := 4, ground := Go.Ground.data }], guard := none }) (v := ?v7_3) rfl (by kernel_rfl) (by kernel_rfl) (by kernel_rfl) (fun _ _ _ h => h) (Or.inl ⟨by rfl, ?hy7_3⟩) (by assumption) ?rest7_3
      case hy7_3 => (intro w hSw; (try dsimp only at hSw); have y1 := Blk.cell hSw 0; go_simp <;> with_reducible rfl)
      try simp only [Act.put, List.setIfInBounds_toArray, List.set_cons_zero, List.set_cons_succ]
      refine wpAnyH_take (i := 8) (oi := { dst := some 4, op := Go.Op.assign (Go.Operand.tmp 75), type := 9, pos := "ref.go:98", after := #[{ on := 5, ground := Go.Ground.data }, { on := 4, ground := Go.Ground.chain }, { on := 0, ground := Go.Ground.phase }, { on := 1, ground := Go.Ground.phase }, { on := 2, ground := Go.Ground.phase }, { on := 3, ground := Go.Ground.phase }, { on := 4, ground := Go.Ground.phase }, { on := 5, ground := Go.Ground.phase }, { on := 6, ground := Go.Ground.textOnly Go.Departure.lateStores }, { on := 7, ground := Go.Ground.textOnly Go.Departure.lateStores }], guard := none }) (v := ?v8_3) rfl (by kernel_rfl) (by kernel_rfl) (by kernel_rfl) (fun _ _ _ h => h) (Or.inl ⟨by rfl, ?hy8_3⟩) (by assumption) ?rest8_3
      case hy8_3 => (intro w hSw; (try dsimp only at hSw); have y1 := Blk.cell hSw 0; go_simp <;> with_reducible rfl)
      try simp only [Act.put, List.setIfInBounds_toArray, List.set_cons_zero, List.set_cons_succ]
      refine wpAnyH_take (i := 9) (oi := { dst := some 5, op := Go.Op.assign (Go.Operand.tmp 77), type := 2, pos := "ref.go:98", after := #[{ on := 7, ground := Go.Ground.data }, { on := 8, ground := Go.Ground.chain }, { on := 0, ground := Go.Ground.phase }, { on := 1, ground := Go.Ground.phase }, { on := 2, ground := Go.Ground.phase }, { on := 3, ground := Go.Ground.phase }, { on := 4, ground := Go.Ground.phase }, { on := 5, ground := Go.Ground.phase }, { on := 6, ground := Go.Ground.phase }, { on := 7, ground := Go.Ground.phase }, { on := 8, ground := Go.Ground.phase }], guard := none }) (v := ?v9_3) rfl (by kernel_rfl) (by kernel_rfl) (by kernel_rfl) (fun _ _ _ h => h) (Or.inl ⟨by rfl, ?hy9_3⟩) (by assumption) ?rest9_3
      case hy9_3 => (intro w hSw; (try dsimp only at hSw); have y1 := Blk.cell hSw 0; go_simp <;> with_reducible rfl)
      try simp only [Act.put, List.setIfInBounds_toArray, List.set_cons_zero, List.set_cons_succ]
      refine wpAnyH_take (i := 10) (oi := { dst := some 6, op := Go.Op.assign (Go.Operand.const (Go.Value.bool true)), type := 4, pos := "ref.go:98", after := #[{ on := 9, ground := Go.Ground.chain }, { on := 0, ground := Go.Ground.phase }, { on := 1, ground := Go.Ground.phase }, { on := 2, ground := Go.Ground.phase }, { on := 3, ground := Go.Ground.phase }, { on := 4, ground := Go.Ground.phase }, { on := 5, ground := Go.Ground.phase }, { on := 6, ground := Go.Ground.phase }, { on := 7, ground := Go.Ground.phase }, { on := 8, ground := Go.Ground.phase }, { on := 9, ground := Go.Ground.phase }], guard := none }) (v := ?v10_3) rfl (by kernel_rfl) (by kernel_rfl) (by kernel_rfl) (fun _ _ _ h => h) (Or.inl ⟨by rfl, ?hy10_3⟩) (by assumption) ?rest10_3
      case hy10_3 => (intro w hSw; (try dsimp only at hSw); have y1 := Blk.cell hSw 0; go_simp <;> with_reducible rfl)
      try simp only [Act.put, List.setIfInBounds_toArray, List.set_cons_zero, List.set_cons_succ]
      refine wpAnyH_done (by kernel_rfl) ?_ _
      refine NoPanic.normal ?_
      go_wp2
      refine ⟨rfl, _, ?_, hS.refQ _⟩
      simp [results, Tryd.results11, go_sem]
    · go_enter Tryd.func11, Tryd.ntmps11
      go_upto_region 6 with (first
        | (go_at_call 28; refine (hS.read (fun O h => hIn.out _ O h)).mono ?_; rintro e w1 ⟨rfl, hS2⟩; clear hS; have hS := hS2; clear hS2)
        | (go_at_call_of 29 a; refine (hS.read (fun O h => hGa.out _ O h)).mono ?_; rintro e w2 ⟨rfl, hS2⟩; clear hS; have hS := hS2; clear hS2)
        | (go_at_call 30; refine (hS.still (hNum.out _)).mono ?_; rintro e w3 ⟨rfl, hS2⟩; clear hS; have hS := hS2; clear hS2)
        | (go_at_call 31; refine (hS.still (hOf.out _)).mono ?_; rintro e w4 ⟨rfl, hS2⟩; clear hS; have hS := hS2; clear hS2))
      have hS2 := hS.new #[.string pn, .int .i64 pt, .int .i64 pl, .bool pi, .bool pc] 56
      obtain ⟨P, hP⟩ : ∃ P, P = w4.heap.size := ⟨_, rfl⟩
      obtain ⟨w8, hw8⟩ : ∃ w8, w8 = w4.alloc (.cells #[.string pn, .int .i64 pt, .int .i64 pl, .bool pi, .bool pc] 56) := ⟨_, rfl⟩
      rw [← hw8, ← hP] at hS2 ⊢
      clear hw8 hP hS
      have hS := hS2
      clear hS2
      go_upto_region 23 with (first
        | (go_at_call_of 29 a8; refine (hS.read (fun O h => hG8.out _ O h)).mono ?_; rintro e w6 ⟨rfl, hS2⟩; clear hS; have hS := hS2; clear hS2)
        | (go_at_call 28; refine (hS.read (fun O h => hIn8.out _ O h)).mono ?_; rintro e w5 ⟨rfl, hS2⟩; clear hS; have hS := hS2; clear hS2; have y1 := Blk.cell hS.fact.2 0))
      replace hS := hS.drew
      refine wp_region_noPanic ?_
      refine wp_region_held_drew (S := (fun w9 => Blk w9 P #[.string pn, .int .i64 pt, .int .i64 pl, .bool pi, .bool pc] 56)) (by kernel_rfl) ?_ (fun hHeld => ?_)
      · (try dsimp only); first | exact hS.fact.2 | exact hS.fact.1.2
      refine wpAnyH_take (i := 0) (oi := { dst := some 70, op := Go.Op.fieldAddr 56 (Go.Operand.tmp 9) 0, type := 0, pos := "ref.go:98", after := #[], guard := none }) (v := ?v1_4) rfl (by kernel_rfl) (by kernel_rfl) (by kernel_rfl) (fun _ _ _ h => h) (Or.inl ⟨by rfl, ?hy1_4⟩) (by assumption) ?rest1_4
      case hy1_4 => (intro w hSw; (try dsimp only at hSw); have y1 := Blk.cell hSw 0; go_simp <;> with_reducible rfl)
      try simp only [Act.put, List.setIfInBounds_toArray, List.set_cons_zero, List.set_cons_succ]
      refine wpAnyH_take (i := 1) (oi := { dst := some 71, op := Go.Op.load 9 (Go.Operand.tmp 70), type := 9, pos := "ref.go:98", after := #[{ on := 0, ground := Go.Ground.data }], guard := none }) (v := ?v2_4) rfl (by kernel_rfl) (by kernel_rfl) (by kernel_rfl) (fun _ _ _ h => h) (Or.inl ⟨by rfl, ?hy2_4⟩) (by assumption) ?rest2_4
      case hy2_4 => (intro w hSw; (try dsimp only at hSw); have y1 := Blk.cell hSw 0; go_simp <;> with_reducible rfl)
      try simp only [Act.put, List.setIfInBounds_toArray, List.set_cons_zero, List.set_cons_succ]
      refine wpAnyH_take (i := 2) (oi := { dst := some 72, op := Go.Op.binOp Go.BinOp.add 9 (Go.Operand.tmp 71) (Go.Operand.const (Go.Value.string { data := #[32] })) 9, type := 9, pos := "ref.go:98", after := #[{ on := 1, ground := Go.Ground.data }], guard := none }) (v := ?v3_4) rfl (by kernel_rfl) (by kernel_rfl) (by kernel_rfl) (fun _ _ _ h => h) (Or.inl ⟨by rfl, ?hy3_4⟩) (by assumption) ?rest3_4
      case hy3_4 => (intro w hSw; (try dsimp only at hSw); have y1 := Blk.cell hSw 0; go_simp <;> with_reducible rfl)
      try simp only [Act.put, List.setIfInBounds_toArray, List.set_cons_zero, List.set_cons_succ]
      refine wpAnyH_take (i := 3) (oi := { dst := some 73, op := Go.Op.move (Go.Operand.tmp 13), type := 2, pos := "ref.go:98", after := #[], guard := none }) (v := ?v4_4) rfl (by kernel_rfl) (by kernel_rfl) (by kernel_rfl) (fun _ _ _ h => h) (Or.inl ⟨by rfl, ?hy4_4⟩) (by assumption) ?rest4_4
      case hy4_4 => (intro w hSw; (try dsimp only at hSw); have y1 := Blk.cell hSw 0; go_simp <;> with_reducible rfl)
      try simp only [Act.put, List.setIfInBounds_toArray, List.set_cons_zero, List.set_cons_succ]
      refine wpAnyH_take (i := 6) (oi := { dst := some 76, op := Go.Op.move (Go.Operand.tmp 1), type := 2, pos := "ref.go:98", after := #[{ on := 8, ground := Go.Ground.gcOnly Go.Departure.lateStores }], guard := none }) (v := ?v5_4) rfl (by kernel_rfl) (by kernel_rfl) (by kernel_rfl) (fun _ _ _ h => h) (Or.inl ⟨by rfl, ?hy5_4⟩) (by assumption) ?rest5_4
      case hy5_4 => (intro w hSw; (try dsimp only at hSw); have y1 := Blk.cell hSw 0; go_simp <;> with_reducible rfl)
      try simp only [Act.put, List.setIfInBounds_toArray, List.set_cons_zero, List.set_cons_succ]
      refine wpAnyH_take (i := 7) (oi := { dst := some 77, op := Go.Op.binOp Go.BinOp.add 2 (Go.Operand.tmp 76) (Go.Operand.const (Go.Value.int Go.IntKind.i64 16)) 2, type := 2, pos := "ref.go:98", after := #[{ on := 6, ground := Go.Ground.data }, { on := 8, ground := Go.Ground.gcOnly Go.Departure.lateStores }], guard := none }) (v := ?v6_4) rfl (by kernel_rfl) (by kernel_rfl) (by kernel_rfl) (fun _ _ _ h => h) (Or.inl ⟨by rfl, ?hy6_4⟩) (by assumption) ?rest6_4
      case hy6_4 => (intro w hSw; (try dsimp only at hSw); have y1 := Blk.cell hSw 0; go_simp <;> with_reducible rfl)
      try simp only [Act.put, List.setIfInBounds_toArray, List.set_cons_zero, List.set_cons_succ]
      refine wpAnyH_ready (rs := [4]) (by kernel_rfl) (by simp) ?_
      refine AllReadyH.cons (o := { dst := some 74, op := Go.Op.call { callee := Go.Callee.value (Go.Operand.func 13), args := #[Go.Operand.tmp 73, Go.Operand.const (Go.Value.int Go.IntKind.i64 10)], argTypes := #[2, 3] }, type := 9, pos := "ref.go:98", after := #[{ on := 3, ground := Go.Ground.data }], guard := none }) rfl (fun K hK => ?_) AllReadyH.nil
      go_simp
      go_at_call 13; refine (hS.still (fmtS nx hni.out _ hS.fact.1)).mono ?_; rintro e w7 ⟨rfl, hS2⟩; clear hS; have hS := hS2; clear hS2
      refine hK.out _ _ ?_ (fun hHeld2 => ?_)
      · (try dsimp only); first | exact hS.fact.2 | exact hS.fact.1.2
      clear hK K hHeld
      have hHeld := hHeld2
      clear hHeld2
      try simp only [Act.put, List.setIfInBounds_toArray, List.set_cons_zero, List.set_cons_succ]
      refine wpAnyH_take (i := 5) (oi := { dst := some 75, op := Go.Op.binOp Go.BinOp.add 9 (Go.Operand.tmp 72) (Go.Operand.tmp 74) 9, type := 9, pos := "ref.go:98", after := #[{ on := 2, ground := Go.Ground.data }, { on := 4, ground := Go.Ground.data }], guard := none }) (v := ?v7_4) rfl (by kernel_rfl) (by kernel_rfl) (by kernel_rfl) (fun _ _ _ h => h) (Or.inl ⟨by rfl, ?hy7_4⟩) (by assumption) ?rest7_4
      case hy7_4 => (intro w hSw; (try dsimp only at hSw); have y1 := Blk.cell hSw 0; go_simp <;> with_reducible rfl)
      try simp only [Act.put, List.setIfInBounds_toArray, List.set_cons_zero, List.set_cons_succ]
      refine wpAnyH_take (i := 8) (oi := { dst := some 4, op := Go.Op.assign (Go.Operand.tmp 75), type := 9, pos := "ref.go:98", after := #[{ on := 5, ground := Go.Ground.data }, { on := 4, ground := Go.Ground.chain }, { on := 0, ground := Go.Ground.phase }, { on := 1, ground := Go.Ground.phase }, { on := 2, ground := Go.Ground.phase }, { on := 3, ground := Go.Ground.phase }, { on := 4, ground := Go.Ground.phase }, { on := 5, ground := Go.Ground.phase }, { on := 6, ground := Go.Ground.textOnly Go.Departure.lateStores }, { on := 7, ground := Go.Ground.textOnly Go.Departure.lateStores }], guard := none }) (v := ?v8_4) rfl (by kernel_rfl) (by kernel_rfl) (by kernel_rfl) (fun _ _ _ h => h) (Or.inl ⟨by rfl, ?hy8_4⟩) (by assumption) ?rest8_4
      case hy8_4 => (intro w hSw; (try dsimp only at hSw); have y1 := Blk.cell hSw 0; go_simp <;> with_reducible rfl)
      try simp only [Act.put, List.setIfInBounds_toArray, List.set_cons_zero, List.set_cons_succ]
      refine wpAnyH_take (i := 9) (oi := { dst := some 5, op := Go.Op.assign (Go.Operand.tmp 77), type := 2, pos := "ref.go:98", after := #[{ on := 7, ground := Go.Ground.data }, { on := 8, ground := Go.Ground.chain }, { on := 0, ground := Go.Ground.phase }, { on := 1, ground := Go.Ground.phase }, { on := 2, ground := Go.Ground.phase }, { on := 3, ground := Go.Ground.phase }, { on := 4, ground := Go.Ground.phase }, { on := 5, ground := Go.Ground.phase }, { on := 6, ground := Go.Ground.phase }, { on := 7, ground := Go.Ground.phase }, { on := 8, ground := Go.Ground.phase }], guard := none }) (v := ?v9_4) rfl (by kernel_rfl) (by kernel_rfl) (by kernel_rfl) (fun _ _ _ h => h) (Or.inl ⟨by rfl, ?hy9_4⟩) (by assumption) ?rest9_4
      case hy9_4 => (intro w hSw; (try dsimp only at hSw); have y1 := Blk.cell hSw 0; go_simp <;> with_reducible rfl)
      try simp only [Act.put, List.setIfInBounds_toArray, List.set_cons_zero, List.set_cons_succ]
      refine wpAnyH_take (i := 10) (oi := { dst := some 6, op := Go.Op.assign (Go.Operand.const (Go.Value.bool true)), type := 4, pos := "ref.go:98", after := #[{ on := 9, ground := Go.Ground.chain }, { on := 0, ground := Go.Ground.phase }, { on := 1, ground := Go.Ground.phase }, { on := 2, ground := Go.Ground.phase }, { on := 3, ground := Go.Ground.phase }, { on := 4, ground := Go.Ground.phase }, { on := 5, ground := Go.Ground.phase }, { on := 6, ground := Go.Ground.phase }, { on := 7, ground := Go.Ground.phase }, { on := 8, ground := Go.Ground.phase }, { on := 9, ground := Go.Ground.phase }], guard := none }) (v := ?v10_4) rfl (by kernel_rfl) (by kernel_rfl) (by kernel_rfl) (fun _ _ _ h => h) (Or.inl ⟨by rfl, ?hy10_4⟩) (by assumption) ?rest10_4
      case hy10_4 => (intro w hSw; (try dsimp only at hSw); have y1 := Blk.cell hSw 0; go_simp <;> with_reducible rfl)
      try simp only [Act.put, List.setIfInBounds_toArray, List.set_cons_zero, List.set_cons_succ]
      refine wpAnyH_done (by kernel_rfl) ?_ _
      refine NoPanic.normal ?_
      go_wp2
      refine ⟨rfl, _, ?_, hS.refQ _⟩
      simp [results, Tryd.results11, go_sem]
    · go_enter Tryd.func11, Tryd.ntmps11
      go_upto_region 6 with (first
        | (go_at_call 28; refine (hS.read (fun O h => hIn.out _ O h)).mono ?_; rintro e w1 ⟨rfl, hS2⟩; clear hS; have hS := hS2; clear hS2)
        | (go_at_call_of 29 a; refine (hS.read (fun O h => hGa.out _ O h)).mono ?_; rintro e w2 ⟨rfl, hS2⟩; clear hS; have hS := hS2; clear hS2)
        | (go_at_call 30; refine (hS.still (hNum.out _)).mono ?_; rintro e w3 ⟨rfl, hS2⟩; clear hS; have hS := hS2; clear hS2)
        | (go_at_call 31; refine (hS.still (hOf.out _)).mono ?_; rintro e w4 ⟨rfl, hS2⟩; clear hS; have hS := hS2; clear hS2))
      have hS2 := hS.new #[.string pn, .int .i64 pt, .int .i64 pl, .bool pi, .bool pc] 56
      obtain ⟨P, hP⟩ : ∃ P, P = w4.heap.size := ⟨_, rfl⟩
      obtain ⟨w8, hw8⟩ : ∃ w8, w8 = w4.alloc (.cells #[.string pn, .int .i64 pt, .int .i64 pl, .bool pi, .bool pc] 56) := ⟨_, rfl⟩
      rw [← hw8, ← hP] at hS2 ⊢
      clear hw8 hP hS
      have hS := hS2
      clear hS2
      go_upto_region 23 with (first
        | (go_at_call_of 29 a8; refine (hS.read (fun O h => hG8.out _ O h)).mono ?_; rintro e w6 ⟨rfl, hS2⟩; clear hS; have hS := hS2; clear hS2)
        | (go_at_call 28; refine (hS.read (fun O h => hIn8.out _ O h)).mono ?_; rintro e w5 ⟨rfl, hS2⟩; clear hS; have hS := hS2; clear hS2; have y1 := Blk.cell hS.fact.2 0))
      replace hS := hS.drew
      refine wp_region_noPanic ?_
      refine wp_region_held_drew (S := (fun w9 => Blk w9 P #[.string pn, .int .i64 pt, .int .i64 pl, .bool pi, .bool pc] 56)) (by kernel_rfl) ?_ (fun hHeld => ?_)
      · (try dsimp only); first | exact hS.fact.2 | exact hS.fact.1.2
      refine wpAnyH_take (i := 0) (oi := { dst := some 70, op := Go.Op.fieldAddr 56 (Go.Operand.tmp 9) 0, type := 0, pos := "ref.go:98", after := #[], guard := none }) (v := ?v1_5) rfl (by kernel_rfl) (by kernel_rfl) (by kernel_rfl) (fun _ _ _ h => h) (Or.inl ⟨by rfl, ?hy1_5⟩) (by assumption) ?rest1_5
      case hy1_5 => (intro w hSw; (try dsimp only at hSw); have y1 := Blk.cell hSw 0; go_simp <;> with_reducible rfl)
      try simp only [Act.put, List.setIfInBounds_toArray, List.set_cons_zero, List.set_cons_succ]
      refine wpAnyH_take (i := 1) (oi := { dst := some 71, op := Go.Op.load 9 (Go.Operand.tmp 70), type := 9, pos := "ref.go:98", after := #[{ on := 0, ground := Go.Ground.data }], guard := none }) (v := ?v2_5) rfl (by kernel_rfl) (by kernel_rfl) (by kernel_rfl) (fun _ _ _ h => h) (Or.inl ⟨by rfl, ?hy2_5⟩) (by assumption) ?rest2_5
      case hy2_5 => (intro w hSw; (try dsimp only at hSw); have y1 := Blk.cell hSw 0; go_simp <;> with_reducible rfl)
      try simp only [Act.put, List.setIfInBounds_toArray, List.set_cons_zero, List.set_cons_succ]
      refine wpAnyH_take (i := 2) (oi := { dst := some 72, op := Go.Op.binOp Go.BinOp.add 9 (Go.Operand.tmp 71) (Go.Operand.const (Go.Value.string { data := #[32] })) 9, type := 9, pos := "ref.go:98", after := #[{ on := 1, ground := Go.Ground.data }], guard := none }) (v := ?v3_5) rfl (by kernel_rfl) (by kernel_rfl) (by kernel_rfl) (fun _ _ _ h => h) (Or.inl ⟨by rfl, ?hy3_5⟩) (by assumption) ?rest3_5
      case hy3_5 => (intro w hSw; (try dsimp only at hSw); have y1 := Blk.cell hSw 0; go_simp <;> with_reducible rfl)
      try simp only [Act.put, List.setIfInBounds_toArray, List.set_cons_zero, List.set_cons_succ]
      refine wpAnyH_take (i := 3) (oi := { dst := some 73, op := Go.Op.move (Go.Operand.tmp 13), type := 2, pos := "ref.go:98", after := #[], guard := none }) (v := ?v4_5) rfl (by kernel_rfl) (by kernel_rfl) (by kernel_rfl) (fun _ _ _ h => h) (Or.inl ⟨by rfl, ?hy4_5⟩) (by assumption) ?rest4_5
      case hy4_5 => (intro w hSw; (try dsimp only at hSw); have y1 := Blk.cell hSw 0; go_simp <;> with_reducible rfl)
      try simp only [Act.put, List.setIfInBounds_toArray, List.set_cons_zero, List.set_cons_succ]
      refine wpAnyH_take (i := 6) (oi := { dst := some 76, op := Go.Op.move (Go.Operand.tmp 1), type := 2, pos := "ref.go:98", after := #[{ on := 8, ground := Go.Ground.gcOnly Go.Departure.lateStores }], guard := none }) (v := ?v5_5) rfl (by kernel_rfl) (by kernel_rfl) (by kernel_rfl) (fun _ _ _ h => h) (Or.inl ⟨by rfl, ?hy5_5⟩) (by assumption) ?rest5_5
      case hy5_5 => (intro w hSw; (try dsimp only at hSw); have y1 := Blk.cell hSw 0; go_simp <;> with_reducible rfl)
      try simp only [Act.put, List.setIfInBounds_toArray, List.set_cons_zero, List.set_cons_succ]
      refine wpAnyH_take (i := 7) (oi := { dst := some 77, op := Go.Op.binOp Go.BinOp.add 2 (Go.Operand.tmp 76) (Go.Operand.const (Go.Value.int Go.IntKind.i64 16)) 2, type := 2, pos := "ref.go:98", after := #[{ on := 6, ground := Go.Ground.data }, { on := 8, ground := Go.Ground.gcOnly Go.Departure.lateStores }], guard := none }) (v := ?v6_5) rfl (by kernel_rfl) (by kernel_rfl) (by kernel_rfl) (fun _ _ _ h => h) (Or.inl ⟨by rfl, ?hy6_5⟩) (by assumption) ?rest6_5
      case hy6_5 => (intro w hSw; (try dsimp only at hSw); have y1 := Blk.cell hSw 0; go_simp <;> with_reducible rfl)
      try simp only [Act.put, List.setIfInBounds_toArray, List.set_cons_zero, List.set_cons_succ]
      refine wpAnyH_ready (rs := [4]) (by kernel_rfl) (by simp) ?_
      refine AllReadyH.cons (o := { dst := some 74, op := Go.Op.call { callee := Go.Callee.value (Go.Operand.func 13), args := #[Go.Operand.tmp 73, Go.Operand.const (Go.Value.int Go.IntKind.i64 10)], argTypes := #[2, 3] }, type := 9, pos := "ref.go:98", after := #[{ on := 3, ground := Go.Ground.data }], guard := none }) rfl (fun K hK => ?_) AllReadyH.nil
      go_simp
      go_at_call 13; refine (hS.still (fmtS nx hni.out _ hS.fact.1)).mono ?_; rintro e w7 ⟨rfl, hS2⟩; clear hS; have hS := hS2; clear hS2
      refine hK.out _ _ ?_ (fun hHeld2 => ?_)
      · (try dsimp only); first | exact hS.fact.2 | exact hS.fact.1.2
      clear hK K hHeld
      have hHeld := hHeld2
      clear hHeld2
      try simp only [Act.put, List.setIfInBounds_toArray, List.set_cons_zero, List.set_cons_succ]
      refine wpAnyH_take (i := 5) (oi := { dst := some 75, op := Go.Op.binOp Go.BinOp.add 9 (Go.Operand.tmp 72) (Go.Operand.tmp 74) 9, type := 9, pos := "ref.go:98", after := #[{ on := 2, ground := Go.Ground.data }, { on := 4, ground := Go.Ground.data }], guard := none }) (v := ?v7_5) rfl (by kernel_rfl) (by kernel_rfl) (by kernel_rfl) (fun _ _ _ h => h) (Or.inl ⟨by rfl, ?hy7_5⟩) (by assumption) ?rest7_5
      case hy7_5 => (intro w hSw; (try dsimp only at hSw); have y1 := Blk.cell hSw 0; go_simp <;> with_reducible rfl)
      try simp only [Act.put, List.setIfInBounds_toArray, List.set_cons_zero, List.set_cons_succ]
      refine wpAnyH_take (i := 8) (oi := { dst := some 4, op := Go.Op.assign (Go.Operand.tmp 75), type := 9, pos := "ref.go:98", after := #[{ on := 5, ground := Go.Ground.data }, { on := 4, ground := Go.Ground.chain }, { on := 0, ground := Go.Ground.phase }, { on := 1, ground := Go.Ground.phase }, { on := 2, ground := Go.Ground.phase }, { on := 3, ground := Go.Ground.phase }, { on := 4, ground := Go.Ground.phase }, { on := 5, ground := Go.Ground.phase }, { on := 6, ground := Go.Ground.textOnly Go.Departure.lateStores }, { on := 7, ground := Go.Ground.textOnly Go.Departure.lateStores }], guard := none }) (v := ?v8_5) rfl (by kernel_rfl) (by kernel_rfl) (by kernel_rfl) (fun _ _ _ h => h) (Or.inl ⟨by rfl, ?hy8_5⟩) (by assumption) ?rest8_5
      case hy8_5 => (intro w hSw; (try dsimp only at hSw); have y1 := Blk.cell hSw 0; go_simp <;> with_reducible rfl)
      try simp only [Act.put, List.setIfInBounds_toArray, List.set_cons_zero, List.set_cons_succ]
      refine wpAnyH_take (i := 9) (oi := { dst := some 5, op := Go.Op.assign (Go.Operand.tmp 77), type := 2, pos := "ref.go:98", after := #[{ on := 7, ground := Go.Ground.data }, { on := 8, ground := Go.Ground.chain }, { on := 0, ground := Go.Ground.phase }, { on := 1, ground := Go.Ground.phase }, { on := 2, ground := Go.Ground.phase }, { on := 3, ground := Go.Ground.phase }, { on := 4, ground := Go.Ground.phase }, { on := 5, ground := Go.Ground.phase }, { on := 6, ground := Go.Ground.phase }, { on := 7, ground := Go.Ground.phase }, { on := 8, ground := Go.Ground.phase }], guard := none }) (v := ?v9_5) rfl (by kernel_rfl) (by kernel_rfl) (by kernel_rfl) (fun _ _ _ h => h) (Or.inl ⟨by rfl, ?hy9_5⟩) (by assumption) ?rest9_5
      case hy9_5 => (intro w hSw; (try dsimp only at hSw); have y1 := Blk.cell hSw 0; go_simp <;> with_reducible rfl)
      try simp only [Act.put, List.setIfInBounds_toArray, List.set_cons_zero, List.set_cons_succ]
      refine wpAnyH_take (i := 10) (oi := { dst := some 6, op := Go.Op.assign (Go.Operand.const (Go.Value.bool true)), type := 4, pos := "ref.go:98", after := #[{ on := 9, ground := Go.Ground.chain }, { on := 0, ground := Go.Ground.phase }, { on := 1, ground := Go.Ground.phase }, { on := 2, ground := Go.Ground.phase }, { on := 3, ground := Go.Ground.phase }, { on := 4, ground := Go.Ground.phase }, { on := 5, ground := Go.Ground.phase }, { on := 6, ground := Go.Ground.phase }, { on := 7, ground := Go.Ground.phase }, { on := 8, ground := Go.Ground.phase }, { on := 9, ground := Go.Ground.phase }], guard := none }) (v := ?v10_5) rfl (by kernel_rfl) (by kernel_rfl) (by kernel_rfl) (fun _ _ _ h => h) (Or.inl ⟨by rfl, ?hy10_5⟩) (by assumption) ?rest10_5
      case hy10_5 => (intro w hSw; (try dsimp only at hSw); have y1 := Blk.cell hSw 0; go_simp <;> with_reducible rfl)
      try simp only [Act.put, List.setIfInBounds_toArray, List.set_cons_zero, List.set_cons_succ]
      refine wpAnyH_done (by kernel_rfl) ?_ _
      refine NoPanic.normal ?_
      go_wp2
      refine ⟨rfl, _, ?_, hS.refQ _⟩
      simp [results, Tryd.results11, go_sem]
  have c1' : isNum n = false := by simpa using c1
  have f2 : (n == 2) = false := by unfold isNum at c1'; simp at c1' ⊢; omega
  have f3 : (n == 3) = false := by unfold isNum at c1'; simp at c1' ⊢; omega
  have f4 : (n == 4) = false := by unfold isNum at c1'; simp at c1' ⊢; omega
  have f6 : (n == 6) = false := by unfold isNum at c1'; simp at c1' ⊢; omega
  have f7 : (n == 7) = false := by unfold isNum at c1'; simp at c1' ⊢; omega
  by_cases c2 : isTxt n = true
  · obtain ⟨here, hhe⟩ : ∃ here, here = hereL M := ⟨_, rfl⟩
    rw [← hhe] at hHr hhin htxt hnot
    have wa : IntKind.i64.wrap (here - a) = here - a := wrap_id (by omega)
    obtain ⟨ba, hba⟩ : ∃ ba, ba = here - a := ⟨_, rfl⟩
    rw [← hba] at wa htxt hnot
    have wa2 : IntKind.i64.wrap (here - a) = ba := by rw [hba]; rw [hba] at wa; exact wa
    have wb : IntKind.i64.wrap (ba - 16) = ba - 16 := wrap_id (by omega)
    obtain ⟨bb, hbb⟩ : ∃ bb, bb = ba - 16 := ⟨_, rfl⟩
    rw [← hbb] at htxt hnot
    have wb2 : IntKind.i64.wrap (ba - 16) = bb := by rw [hbb]; exact wb
    have hcs : n = 8 ∨ n = 9 ∨ n = 10 := by unfold isTxt at c2; simp at c2; omega
    clear hnum hhe wa wb c1 hx2 hIs
    by_cases d1 : 0 ≤ nx
    · have t1 : (0 ≤ nx) = True := eq_true d1
      by_cases d2 : nx ≤ bb
      · have t2 : (nx ≤ bb) = True := eq_true d2
        rw [htxt c1' c2 ⟨d1, d2⟩]
        have hLs := loadL_len M a16 nx
        have hal : alignZ nx < nx + 8 ∧ nx ≤ alignZ nx := by have := alignZ_small nx (by omega); omega
        have hx3 := add_str s1 ⟨(loadL M a16 nx).toArray⟩ (by omega) (by show (loadL M a16 nx).toArray.size ≤ 100000; rw [List.size_toArray, hLs]; omega)
        generalize loadL M a16 nx = L at *
        obtain ⟨s3, hs3⟩ : ∃ s3, s3 = s1 ++ (⟨L.toArray⟩ : ByteArray) := ⟨_, rfl⟩
        rw [← hs3] at hx3 ⊢
        generalize alignZ nx = al at *
        obtain ⟨ax, hax⟩ : ∃ ax, ax = a16 + al := ⟨_, rfl⟩
        have wx : IntKind.i64.wrap (a16 + al) = ax := by rw [hax]; exact wrap_id (by omega)
        rw [← hax]
        unfold lookE
        clear htxt hnot hb hb8 hhin d1 d2 hba hbb hax hs3 hLs hal c1' c2 h1s ha16 hni
        rcases hcs with rfl | rfl | rfl
        · go_enter Tryd.func11, Tryd.ntmps11
          go_upto_region 6 with (first
            | (go_at_call 28; refine (hS.read (fun O h => hIn.out _ O h)).mono ?_; rintro e w1 ⟨rfl, hS2⟩; clear hS; have hS := hS2; clear hS2)
            | (go_at_call_of 29 a; refine (hS.read (fun O h => hGa.out _ O h)).mono ?_; rintro e w2 ⟨rfl, hS2⟩; clear hS; have hS := hS2; clear hS2)
            | (go_at_call 30; refine (hS.still (hNum.out _)).mono ?_; rintro e w3 ⟨rfl, hS2⟩; clear hS; have hS := hS2; clear hS2)
            | (go_at_call 31; refine (hS.still (hOf.out _)).mono ?_; rintro e w4 ⟨rfl, hS2⟩; clear hS; have hS := hS2; clear hS2))
          have hS2 := hS.new #[.string pn, .int .i64 pt, .int .i64 pl, .bool pi, .bool pc] 56
          obtain ⟨P, hP⟩ : ∃ P, P = w4.heap.size := ⟨_, rfl⟩
          obtain ⟨w8, hw8⟩ : ∃ w8, w8 = w4.alloc (.cells #[.string pn, .int .i64 pt, .int .i64 pl, .bool pi, .bool pc] 56) := ⟨_, rfl⟩
          rw [← hw8, ← hP] at hS2 ⊢
          clear hw8 hP hS
          have hS := hS2
          clear hS2
          go_upto_region 28 with (first
            | (go_at_call_of 29 a8; refine (hS.read (fun O h => hG8.out _ O h)).mono ?_; rintro e w6 ⟨rfl, hS2⟩; clear hS; have hS := hS2; clear hS2)
            | (go_at_call 28; refine (hS.read (fun O h => hIn8.out _ O h)).mono ?_; rintro e w5 ⟨rfl, hS2⟩; clear hS; have hS := hS2; clear hS2; have y1 := Blk.cell hS.fact.2 0)
            | (go_at_call 33; refine (hS.read (fun O h => hHr.out _ O h)).mono ?_; rintro e w7 ⟨rfl, hS2⟩; clear hS; have hS := hS2; clear hS2; have y1 := Blk.cell hS.fact.2 0))
          replace hS := hS.drew
          refine wp_region_noPanic ?_
          refine wp_region_held_drew (S := (fun w9 => Blk w9 P #[.string pn, .int .i64 pt, .int .i64 pl, .bool pi, .bool pc] 56)) (by kernel_rfl) ?_ (fun hHeld => ?_)
          · (try dsimp only); first | exact hS.fact.2 | exact hS.fact.1.2
          refine wpAnyH_take (i := 0) (oi := { dst := some 93, op := Go.Op.fieldAddr 56 (Go.Operand.tmp 9) 0, type := 0, pos := "ref.go:101", after := #[], guard := none }) (v := ?v11_6) rfl (by kernel_rfl) (by kernel_rfl) (by kernel_rfl) (fun _ _ _ h => h) (Or.inl ⟨by rfl, ?hy11_6⟩) (by assumption) ?rest11_6
          case hy11_6 => (intro w hSw; (try dsimp only at hSw); have y1 := Blk.cell hSw 0; go_simp <;> with_reducible rfl)
          try simp only [Act.put, List.setIfInBounds_toArray, List.set_cons_zero, List.set_cons_succ]
          refine wpAnyH_take (i := 1) (oi := { dst := some 94, op := Go.Op.load 9 (Go.Operand.tmp 93), type := 9, pos := "ref.go:101", after := #[{ on := 0, ground := Go.Ground.data }], guard := none }) (v := ?v12_6) rfl (by kernel_rfl) (by kernel_rfl) (by kernel_rfl) (fun _ _ _ h => h) (Or.inl ⟨by rfl, ?hy12_6⟩) (by assumption) ?rest12_6
          case hy12_6 => (intro w hSw; (try dsimp only at hSw); have y1 := Blk.cell hSw 0; go_simp <;> with_reducible rfl)
          try simp only [Act.put, List.setIfInBounds_toArray, List.set_cons_zero, List.set_cons_succ]
          refine wpAnyH_take (i := 2) (oi := { dst := some 95, op := Go.Op.binOp Go.BinOp.add 9 (Go.Operand.tmp 94) (Go.Operand.const (Go.Value.string { data := #[32] })) 9, type := 9, pos := "ref.go:101", after := #[{ on := 1, ground := Go.Ground.data }], guard := none }) (v := ?v13_6) rfl (by kernel_rfl) (by kernel_rfl) (by kernel_rfl) (fun _ _ _ h => h) (Or.inl ⟨by rfl, ?hy13_6⟩) (by assumption) ?rest13_6
          case hy13_6 => (intro w hSw; (try dsimp only at hSw); have y1 := Blk.cell hSw 0; go_simp <;> with_reducible rfl)
          try simp only [Act.put, List.setIfInBounds_toArray, List.set_cons_zero, List.set_cons_succ]
          refine wpAnyH_take (i := 3) (oi := { dst := some 96, op := Go.Op.move (Go.Operand.tmp 0), type := 26, pos := "ref.go:101", after := #[], guard := none }) (v := ?v14_6) rfl (by kernel_rfl) (by kernel_rfl) (by kernel_rfl) (fun _ _ _ h => h) (Or.inl ⟨by rfl, ?hy14_6⟩) (by assumption) ?rest14_6
          case hy14_6 => (intro w hSw; (try dsimp only at hSw); have y1 := Blk.cell hSw 0; go_simp <;> with_reducible rfl)
          try simp only [Act.put, List.setIfInBounds_toArray, List.set_cons_zero, List.set_cons_succ]
          refine wpAnyH_take (i := 4) (oi := { dst := some 97, op := Go.Op.move (Go.Operand.tmp 1), type := 2, pos := "ref.go:101", after := #[], guard := none }) (v := ?v15_6) rfl (by kernel_rfl) (by kernel_rfl) (by kernel_rfl) (fun _ _ _ h => h) (Or.inl ⟨by rfl, ?hy15_6⟩) (by assumption) ?rest15_6
          case hy15_6 => (intro w hSw; (try dsimp only at hSw); have y1 := Blk.cell hSw 0; go_simp <;> with_reducible rfl)
          try simp only [Act.put, List.setIfInBounds_toArray, List.set_cons_zero, List.set_cons_succ]
          refine wpAnyH_take (i := 5) (oi := { dst := some 98, op := Go.Op.binOp Go.BinOp.add 3 (Go.Operand.tmp 97) (Go.Operand.const (Go.Value.int Go.IntKind.i64 16)) 3, type := 3, pos := "ref.go:101", after := #[{ on := 4, ground := Go.Ground.data }], guard := none }) (v := ?v16_6) rfl (by kernel_rfl) (by kernel_rfl) (by kernel_rfl) (fun _ _ _ h => h) (Or.inl ⟨by rfl, ?hy16_6⟩) (by assumption) ?rest16_6
          case hy16_6 => (intro w hSw; (try dsimp only at hSw); have y1 := Blk.cell hSw 0; go_simp <;> with_reducible rfl)
          try simp only [Act.put, List.setIfInBounds_toArray, List.set_cons_zero, List.set_cons_succ]
          refine wpAnyH_take (i := 6) (oi := { dst := some 99, op := Go.Op.move (Go.Operand.tmp 13), type := 2, pos := "ref.go:101", after := #[], guard := none }) (v := ?v17_6) rfl (by kernel_rfl) (by kernel_rfl) (by kernel_rfl) (fun _ _ _ h => h) (Or.inl ⟨by rfl, ?hy17_6⟩) (by assumption) ?rest17_6
          case hy17_6 => (intro w hSw; (try dsimp only at hSw); have y1 := Blk.cell hSw 0; go_simp <;> with_reducible rfl)
          try simp only [Act.put, List.setIfInBounds_toArray, List.set_cons_zero, List.set_cons_succ]
          refine wpAnyH_take (i := 10) (oi := { dst := some 103, op := Go.Op.move (Go.Operand.tmp 1), type := 2, pos := "ref.go:101", after := #[{ on := 15, ground := Go.Ground.gcOnly Go.Departure.lateStores }], guard := none }) (v := ?v18_6) rfl (by kernel_rfl) (by kernel_rfl) (by kernel_rfl) (fun _ _ _ h => h) (Or.inl ⟨by rfl, ?hy18_6⟩) (by assumption) ?rest18_6
          case hy18_6 => (intro w hSw; (try dsimp only at hSw); have y1 := Blk.cell hSw 0; go_simp <;> with_reducible rfl)
          try simp only [Act.put, List.setIfInBounds_toArray, List.set_cons_zero, List.set_cons_succ]
          refine wpAnyH_take (i := 11) (oi := { dst := some 104, op := Go.Op.binOp Go.BinOp.add 2 (Go.Operand.tmp 103) (Go.Operand.const (Go.Value.int Go.IntKind.i64 16)) 2, type := 2, pos := "ref.go:101", after := #[{ on := 10, ground := Go.Ground.data }, { on := 15, ground := Go.Ground.gcOnly Go.Departure.lateStores }], guard := none }) (v := ?v19_6) rfl (by kernel_rfl) (by kernel_rfl) (by kernel_rfl) (fun _ _ _ h => h) (Or.inl ⟨by rfl, ?hy19_6⟩) (by assumption) ?rest19_6
          case hy19_6 => (intro w hSw; (try dsimp only at hSw); have y1 := Blk.cell hSw 0; go_simp <;> with_reducible rfl)
          try simp only [Act.put, List.setIfInBounds_toArray, List.set_cons_zero, List.set_cons_succ]
          refine wpAnyH_take (i := 12) (oi := { dst := some 105, op := Go.Op.move (Go.Operand.tmp 13), type := 2, pos := "ref.go:101", after := #[], guard := none }) (v := ?v20_6) rfl (by kernel_rfl) (by kernel_rfl) (by kernel_rfl) (fun _ _ _ h => h) (Or.inl ⟨by rfl, ?hy20_6⟩) (by assumption) ?rest20_6
          case hy20_6 => (intro w hSw; (try dsimp only at hSw); have y1 := Blk.cell hSw 0; go_simp <;> with_reducible rfl)
          try simp only [Act.put, List.setIfInBounds_toArray, List.set_cons_zero, List.set_cons_succ]
          refine wpAnyH_ready (rs := [7]) (by kernel_rfl) (by simp) ?_
          refine AllReadyH.cons (o := { dst := some 100, op := Go.Op.call { callee := Go.Callee.value (Go.Operand.func 34), args := #[Go.Operand.tmp 96, Go.Operand.tmp 98, Go.Operand.tmp 99], argTypes := #[26, 3, 3] }, type := 22, pos := "ref.go:101", after := #[{ on := 3, ground := Go.Ground.data }, { on := 5, ground := Go.Ground.data }, { on := 6, ground := Go.Ground.data }], guard := none }) rfl (fun K hK => ?_) AllReadyH.nil
          go_simp
          go_at_call 34; refine (hS.load (fun O h hb => hLd.out _ O h)).mono ?_; rintro e w7 ⟨v7, rfl, hS2⟩; clear hS; have hS := hS2; clear hS2
          refine hK.out _ _ ?_ (fun hHeld2 => ?_)
          · (try dsimp only); first | exact hS.fact.2 | exact hS.fact.1.2
          clear hK K hHeld
          have hHeld := hHeld2
          clear hHeld2
          try simp only [Act.put, List.setIfInBounds_toArray, List.set_cons_zero, List.set_cons_succ]
          refine wpAnyH_ready (rs := [8, 13]) (by kernel_rfl) (by simp) ?_
          refine AllReadyH.cons (o := { dst := some 101, op := Go.Op.convert 22 9 (Go.Operand.tmp 100), type := 9, pos := "ref.go:101", after := #[{ on := 7, ground := Go.Ground.data }], guard := none }) rfl (fun K hK => ?_) ?_
          ·
            have hst := bs_str hS.fact.2
            go_simp
            refine hK.out _ _ ?_ (fun hHeld2 => ?_)
            · (try dsimp only); first | exact hS.fact.2 | exact hS.fact.1.2
            clear hK K hHeld
            have hHeld := hHeld2
            clear hHeld2
            try simp only [Act.put, List.setIfInBounds_toArray, List.set_cons_zero, List.set_cons_succ]
            refine wpAnyH_take (i := 9) (oi := { dst := some 102, op := Go.Op.binOp Go.BinOp.add 9 (Go.Operand.tmp 95) (Go.Operand.tmp 101) 9, type := 9, pos := "ref.go:101", after := #[{ on := 2, ground := Go.Ground.data }, { on := 8, ground := Go.Ground.data }], guard := none }) (v := ?v21_6) rfl (by kernel_rfl) (by kernel_rfl) (by kernel_rfl) (fun _ _ _ h => h) (Or.inl ⟨by rfl, ?hy21_6⟩) (by assumption) ?rest21_6
            case hy21_6 => (intro w hSw; (try dsimp only at hSw); have y1 := Blk.cell hSw 0; go_simp <;> with_reducible rfl)
            try simp only [Act.put, List.setIfInBounds_toArray, List.set_cons_zero, List.set_cons_succ]
            refine wpAnyH_ready (rs := [13]) (by kernel_rfl) (by simp) ?_
            refine AllReadyH.cons (o := { dst := some 106, op := Go.Op.call { callee := Go.Callee.value (Go.Operand.func 16), args := #[Go.Operand.tmp 105], argTypes := #[2] }, type := 2, pos := "ref.go:101", after := #[{ on := 12, ground := Go.Ground.data }, { on := 7, ground := Go.Ground.chain }], guard := none }) rfl (fun K hK => ?_) AllReadyH.nil
            go_simp
            go_at_call 16; refine (hS.still (hAl.out _)).mono ?_; rintro e w8 ⟨rfl, hS2⟩; clear hS; have hS := hS2; clear hS2
            refine hK.out _ _ ?_ (fun hHeld2 => ?_)
            · (try dsimp only); first | exact hS.fact.2 | exact hS.fact.1.2
            clear hK K hHeld
            have hHeld := hHeld2
            clear hHeld2
            try simp only [Act.put, List.setIfInBounds_toArray, List.set_cons_zero, List.set_cons_succ]
            refine wpAnyH_take (i := 14) (oi := { dst := some 107, op := Go.Op.binOp Go.BinOp.add 2 (Go.Operand.tmp 104) (Go.Operand.tmp 106) 2, type := 2, pos := "ref.go:101", after := #[{ on := 11, ground := Go.Ground.data }, { on := 13, ground := Go.Ground.data }, { on := 15, ground := Go.Ground.gcOnly Go.Departure.lateStores }], guard := none }) (v := ?v22_6) rfl (by kernel_rfl) (by kernel_rfl) (by kernel_rfl) (fun _ _ _ h => h) (Or.inl ⟨by rfl, ?hy22_6⟩) (by assumption) ?rest22_6
            case hy22_6 => (intro w hSw; (try dsimp only at hSw); have y1 := Blk.cell hSw 0; go_simp <;> with_reducible rfl)
            try simp only [Act.put, List.setIfInBounds_toArray, List.set_cons_zero, List.set_cons_succ]
            refine wpAnyH_take (i := 15) (oi := { dst := some 4, op := Go.Op.assign (Go.Operand.tmp 102), type := 9, pos := "ref.go:101", after := #[{ on := 9, ground := Go.Ground.data }, { on := 13, ground := Go.Ground.chain }, { on := 0, ground := Go.Ground.phase }, { on := 1, ground := Go.Ground.phase }, { on := 2, ground := Go.Ground.phase }, { on := 3, ground := Go.Ground.phase }, { on := 4, ground := Go.Ground.phase }, { on := 5, ground := Go.Ground.phase }, { on := 6, ground := Go.Ground.phase }, { on := 7, ground := Go.Ground.phase }, { on := 8, ground := Go.Ground.phase }, { on := 9, ground := Go.Ground.phase }, { on := 10, ground := Go.Ground.textOnly Go.Departure.lateStores }, { on := 11, ground := Go.Ground.textOnly Go.Departure.lateStores }, { on := 12, ground := Go.Ground.textOnly Go.Departure.lateStores }, { on := 13, ground := Go.Ground.textOnly Go.Departure.lateStoresUnsure }, { on := 14, ground := Go.Ground.textOnly Go.Departure.lateStores }], guard := none }) (v := ?v23_6) rfl (by kernel_rfl) (by kernel_rfl) (by kernel_rfl) (fun _ _ _ h => h) (Or.inl ⟨by rfl, ?hy23_6⟩) (by assumption) ?rest23_6
            case hy23_6 => (intro w hSw; (try dsimp only at hSw); have y1 := Blk.cell hSw 0; go_simp <;> with_reducible rfl)
            try simp only [Act.put, List.setIfInBounds_toArray, List.set_cons_zero, List.set_cons_succ]
            refine wpAnyH_take (i := 16) (oi := { dst := some 5, op := Go.Op.assign (Go.Operand.tmp 107), type := 2, pos := "ref.go:101", after := #[{ on := 14, ground := Go.Ground.data }, { on := 15, ground := Go.Ground.chain }, { on := 0, ground := Go.Ground.phase }, { on := 1, ground := Go.Ground.phase }, { on := 2, ground := Go.Ground.phase }, { on := 3, ground := Go.Ground.phase }, { on := 4, ground := Go.Ground.phase }, { on := 5, ground := Go.Ground.phase }, { on := 6, ground := Go.Ground.phase }, { on := 7, ground := Go.Ground.phase }, { on := 8, ground := Go.Ground.phase }, { on := 9, ground := Go.Ground.phase }, { on := 10, ground := Go.Ground.phase }, { on := 11, ground := Go.Ground.phase }, { on := 12, ground := Go.Ground.phase }, { on := 13, ground := Go.Ground.phase }, { on := 14, ground := Go.Ground.phase }, { on := 15, ground := Go.Ground.phase }], guard := none }) (v := ?v24_6) rfl (by kernel_rfl) (by kernel_rfl) (by kernel_rfl) (fun _ _ _ h => h) (Or.inl ⟨by rfl, ?hy24_6⟩) (by assumption) ?rest24_6
            case hy24_6 => (intro w hSw; (try dsimp only at hSw); have y1 := Blk.cell hSw 0; go_simp <;> with_reducible rfl)
            try simp only [Act.put, List.setIfInBounds_toArray, List.set_cons_zero, List.set_cons_succ]
            refine wpAnyH_take (i := 17) (oi := { dst := some 6, op := Go.Op.assign (Go.Operand.const (Go.Value.bool true)), type := 4, pos := "ref.go:101", after := #[{ on := 16, ground := Go.Ground.chain }, { on := 0, ground := Go.Ground.phase }, { on := 1, ground := Go.Ground.phase }, { on := 2, ground := Go.Ground.phase }, { on := 3, ground := Go.Ground.phase }, { on := 4, ground := Go.Ground.phase }, { on := 5, ground := Go.Ground.phase }, { on := 6, ground := Go.Ground.phase }, { on := 7, ground := Go.Ground.phase }, { on := 8, ground := Go.Ground.phase }, { on := 9, ground := Go.Ground.phase }, { on := 10, ground := Go.Ground.phase }, { on := 11, ground := Go.Ground.phase }, { on := 12, ground := Go.Ground.phase }, { on := 13, ground := Go.Ground.phase }, { on := 14, ground := Go.Ground.phase }, { on := 15, ground := Go.Ground.phase }, { on := 16, ground := Go.Ground.phase }], guard := none }) (v := ?v25_6) rfl (by kernel_rfl) (by kernel_rfl) (by kernel_rfl) (fun _ _ _ h => h) (Or.inl ⟨by rfl, ?hy25_6⟩) (by assumption) ?rest25_6
            case hy25_6 => (intro w hSw; (try dsimp only at hSw); have y1 := Blk.cell hSw 0; go_simp <;> with_reducible rfl)
            try simp only [Act.put, List.setIfInBounds_toArray, List.set_cons_zero, List.set_cons_succ]
            refine wpAnyH_done (by kernel_rfl) ?_ _
            refine NoPanic.normal ?_
            go_wp2
            refine ⟨rfl, _, ?_, hS.refQ _⟩
            simp [results, Tryd.results11, go_sem]
          refine AllReadyH.cons (o := { dst := some 106, op := Go.Op.call { callee := Go.Callee.value (Go.Operand.func 16), args := #[Go.Operand.tmp 105], argTypes := #[2] }, type := 2, pos := "ref.go:101", after := #[{ on := 12, ground := Go.Ground.data }, { on := 7, ground := Go.Ground.chain }], guard := none }) rfl (fun K hK => ?_) ?_
          ·
            go_simp
            go_at_call 16; refine (hS.still (hAl.out _)).mono ?_; rintro e w8 ⟨rfl, hS2⟩; clear hS; have hS := hS2; clear hS2
            refine hK.out _ _ ?_ (fun hHeld2 => ?_)
            · (try dsimp only); first | exact hS.fact.2 | exact hS.fact.1.2
            clear hK K hHeld
            have hHeld := hHeld2
            clear hHeld2
            try simp only [Act.put, List.setIfInBounds_toArray, List.set_cons_zero, List.set_cons_succ]
            refine wpAnyH_take (i := 14) (oi := { dst := some 107, op := Go.Op.binOp Go.BinOp.add 2 (Go.Operand.tmp 104) (Go.Operand.tmp 106) 2, type := 2, pos := "ref.go:101", after := #[{ on := 11, ground := Go.Ground.data }, { on := 13, ground := Go.Ground.data }, { on := 15, ground := Go.Ground.gcOnly Go.Departure.lateStores }], guard := none }) (v := ?v26_6) rfl (by kernel_rfl) (by kernel_rfl) (by kernel_rfl) (fun _ _ _ h => h) (Or.inl ⟨by rfl, ?hy26_6⟩) (by assumption) ?rest26_6
            case hy26_6 => (intro w hSw; (try dsimp only at hSw); have y1 := Blk.cell hSw 0; go_simp <;> with_reducible rfl)
            try simp only [Act.put, List.setIfInBounds_toArray, List.set_cons_zero, List.set_cons_succ]
            refine wpAnyH_ready (rs := [8]) (by kernel_rfl) (by simp) ?_
            refine AllReadyH.cons (o := { dst := some 101, op := Go.Op.convert 22 9 (Go.Operand.tmp 100), type := 9, pos := "ref.go:101", after := #[{ on := 7, ground := Go.Ground.data }], guard := none }) rfl (fun K hK => ?_) AllReadyH.nil
            have hst := bs_str hS.fact.2
            go_simp
            refine hK.out _ _ ?_ (fun hHeld2 => ?_)
            · (try dsimp only); first | exact hS.fact.2 | exact hS.fact.1.2
            clear hK K hHeld
            have hHeld := hHeld2
            clear hHeld2
            try simp only [Act.put, List.setIfInBounds_toArray, List.set_cons_zero, List.set_cons_succ]
            refine wpAnyH_take (i := 9) (oi := { dst := some 102, op := Go.Op.binOp Go.BinOp.add 9 (Go.Operand.tmp 95) (Go.Operand.tmp 101) 9, type := 9, pos := "ref.go:101", after := #[{ on := 2, ground := Go.Ground.data }, { on := 8, ground := Go.Ground.data }], guard := none }) (v := ?v27_6) rfl (by kernel_rfl) (by kernel_rfl) (by kernel_rfl) (fun _ _ _ h => h) (Or.inl ⟨by rfl, ?hy27_6⟩) (by assumption) ?rest27_6
            case hy27_6 => (intro w hSw; (try dsimp only at hSw); have y1 := Blk.cell hSw 0; go_simp <;> with_reducible rfl)
            try simp only [Act.put, List.setIfInBounds_toArray, List.set_cons_zero, List.set_cons_succ]
            refine wpAnyH_take (i := 15) (oi := { dst := some 4, op := Go.Op.assign (Go.Operand.tmp 102), type := 9, pos := "ref.go:101", after := #[{ on := 9, ground := Go.Ground.data }, { on := 13, ground := Go.Ground.chain }, { on := 0, ground := Go.Ground.phase }, { on := 1, ground := Go.Ground.phase }, { on := 2, ground := Go.Ground.phase }, { on := 3, ground := Go.Ground.phase }, { on := 4, ground := Go.Ground.phase }, { on := 5, ground := Go.Ground.phase }, { on := 6, ground := Go.Ground.phase }, { on := 7, ground := Go.Ground.phase }, { on := 8, ground := Go.Ground.phase }, { on := 9, ground := Go.Ground.phase }, { on := 10, ground := Go.Ground.textOnly Go.Departure.lateStores }, { on := 11, ground := Go.Ground.textOnly Go.Departure.lateStores }, { on := 12, ground := Go.Ground.textOnly Go.Departure.lateStores }, { on := 13, ground := Go.Ground.textOnly Go.Departure.lateStoresUnsure }, { on := 14, ground := Go.Ground.textOnly Go.Departure.lateStores }], guard := none }) (v := ?v28_6) rfl (by kernel_rfl) (by kernel_rfl) (by kernel_rfl) (fun _ _ _ h => h) (Or.inl ⟨by rfl, ?hy28_6⟩) (by assumption) ?rest28_6
            case hy28_6 => (intro w hSw; (try dsimp only at hSw); have y1 := Blk.cell hSw 0; go_simp <;> with_reducible rfl)
            try simp only [Act.put, List.setIfInBounds_toArray, List.set_cons_zero, List.set_cons_succ]
            refine wpAnyH_take (i := 16) (oi := { dst := some 5, op := Go.Op.assign (Go.Operand.tmp 107), type := 2, pos := "ref.go:101", after := #[{ on := 14, ground := Go.Ground.data }, { on := 15, ground := Go.Ground.chain }, { on := 0, ground := Go.Ground.phase }, { on := 1, ground := Go.Ground.phase }, { on := 2, ground := Go.Ground.phase }, { on := 3, ground := Go.Ground.phase }, { on := 4, ground := Go.Ground.phase }, { on := 5, ground := Go.Ground.phase }, { on := 6, ground := Go.Ground.phase }, { on := 7, ground := Go.Ground.phase }, { on := 8, ground := Go.Ground.phase }, { on := 9, ground := Go.Ground.phase }, { on := 10, ground := Go.Ground.phase }, { on := 11, ground := Go.Ground.phase }, { on := 12, ground := Go.Ground.phase }, { on := 13, ground := Go.Ground.phase }, { on := 14, ground := Go.Ground.phase }, { on := 15, ground := Go.Ground.phase }], guard := none }) (v := ?v29_6) rfl (by kernel_rfl) (by kernel_rfl) (by kernel_rfl) (fun _ _ _ h => h) (Or.inl ⟨by rfl, ?hy29_6⟩) (by assumption) ?rest29_6
            case hy29_6 => (intro w hSw; (try dsimp only at hSw); have y1 := Blk.cell hSw 0; go_simp <;> with_reducible rfl)
            try simp only [Act.put, List.setIfInBounds_toArray, List.set_cons_zero, List.set_cons_succ]
            refine wpAnyH_take (i := 17) (oi := { dst := some 6, op := Go.Op.assign (Go.Operand.const (Go.Value.bool true)), type := 4, pos := "ref.go:101", after := #[{ on := 16, ground := Go.Ground.chain }, { on := 0, ground := Go.Ground.phase }, { on := 1, ground := Go.Ground.phase }, { on := 2, ground := Go.Ground.phase }, { on := 3, ground := Go.Ground.phase }, { on := 4, ground := Go.Ground.phase }, { on := 5, ground := Go.Ground.phase }, { on := 6, ground := Go.Ground.phase }, { on := 7, ground := Go.Ground.phase }, { on := 8, ground := Go.Ground.phase }, { on := 9, ground := Go.Ground.phase }, { on := 10, ground := Go.Ground.phase }, { on := 11, ground := Go.Ground.phase }, { on := 12, ground := Go.Ground.phase }, { on := 13, ground := Go.Ground.phase }, { on := 14, ground := Go.Ground.phase }, { on := 15, ground := Go.Ground.phase }, { on := 16, ground := Go.Ground.phase }], guard := none }) (v := ?v30_6) rfl (by kernel_rfl) (by kernel_rfl) (by kernel_rfl) (fun _ _ _ h => h) (Or.inl ⟨by rfl, ?hy30_6⟩) (by assumption) ?rest30_6
            case hy30_6 => (intro w hSw; (try dsimp only at hSw); have y1 := Blk.cell hSw 0; go_simp <;> with_reducible rfl)
            try simp only [Act.put, List.setIfInBounds_toArray, List.set_cons_zero, List.set_cons_succ]
            refine wpAnyH_done (by kernel_rfl) ?_ _
            refine NoPanic.normal ?_
            go_wp2
            refine ⟨rfl, _, ?_, hS.refQ _⟩
            simp [results, Tryd.results11, go_sem]
          exact AllReadyH.nil
        · go_enter Tryd.func11, Tryd.ntmps11
          go_upto_region 6 with (first
            | (go_at_call 28; refine (hS.read (fun O h => hIn.out _ O h)).mono ?_; rintro e w1 ⟨rfl, hS2⟩; clear hS; have hS := hS2; clear hS2)
            | (go_at_call_of 29 a; refine (hS.read (fun O h => hGa.out _ O h)).mono ?_; rintro e w2 ⟨rfl, hS2⟩; clear hS; have hS := hS2; clear hS2)
            | (go_at_call 30; refine (hS.still (hNum.out _)).mono ?_; rintro e w3 ⟨rfl, hS2⟩; clear hS; have hS := hS2; clear hS2)
            | (go_at_call 31; refine (hS.still (hOf.out _)).mono ?_; rintro e w4 ⟨rfl, hS2⟩; clear hS; have hS := hS2; clear hS2))
          have hS2 := hS.new #[.string pn, .int .i64 pt, .int .i64 pl, .bool pi, .bool pc] 56
          obtain ⟨P, hP⟩ : ∃ P, P = w4.heap.size := ⟨_, rfl⟩
          obtain ⟨w8, hw8⟩ : ∃ w8, w8 = w4.alloc (.cells #[.string pn, .int .i64 pt, .int .i64 pl, .bool pi, .bool pc] 56) := ⟨_, rfl⟩
          rw [← hw8, ← hP] at hS2 ⊢
          clear hw8 hP hS
          have hS := hS2
          clear hS2
          go_upto_region 28 with (first
            | (go_at_call_of 29 a8; refine (hS.read (fun O h => hG8.out _ O h)).mono ?_; rintro e w6 ⟨rfl, hS2⟩; clear hS; have hS := hS2; clear hS2)
            | (go_at_call 28; refine (hS.read (fun O h => hIn8.out _ O h)).mono ?_; rintro e w5 ⟨rfl, hS2⟩; clear hS; have hS := hS2; clear hS2; have y1 := Blk.cell hS.fact.2 0)
            | (go_at_call 33; refine (hS.read (fun O h => hHr.out _ O h)).mono ?_; rintro e w7 ⟨rfl, hS2⟩; clear hS; have hS := hS2; clear hS2; have y1 := Blk.cell hS.fact.2 0))
          replace hS := hS.drew
          refine wp_region_noPanic ?_
          refine wp_region_held_drew (S := (fun w9 => Blk w9 P #[.string pn, .int .i64 pt, .int .i64 pl, .bool pi, .bool pc] 56)) (by kernel_rfl) ?_ (fun hHeld => ?_)
          · (try dsimp only); first | exact hS.fact.2 | exact hS.fact.1.2
          refine wpAnyH_take (i := 0) (oi := { dst := some 93, op := Go.Op.fieldAddr 56 (Go.Operand.tmp 9) 0, type := 0, pos := "ref.go:101", after := #[], guard := none }) (v := ?v11_7) rfl (by kernel_rfl) (by kernel_rfl) (by kernel_rfl) (fun _ _ _ h => h) (Or.inl ⟨by rfl, ?hy11_7⟩) (by assumption) ?rest11_7
          case hy11_7 => (intro w hSw; (try dsimp only at hSw); have y1 := Blk.cell hSw 0; go_simp <;> with_reducible rfl)
          try simp only [Act.put, List.setIfInBounds_toArray, List.set_cons_zero, List.set_cons_succ]
          refine wpAnyH_take (i := 1) (oi := { dst := some 94, op := Go.Op.load 9 (Go.Operand.tmp 93), type := 9, pos := "ref.go:101", after := #[{ on := 0, ground := Go.Ground.data }], guard := none }) (v := ?v12_7) rfl (by kernel_rfl) (by kernel_rfl) (by kernel_rfl) (fun _ _ _ h => h) (Or.inl ⟨by rfl, ?hy12_7⟩) (by assumption) ?rest12_7
          case hy12_7 => (intro w hSw; (try dsimp only at hSw); have y1 := Blk.cell hSw 0; go_simp <;> with_reducible rfl)
          try simp only [Act.put, List.setIfInBounds_toArray, List.set_cons_zero, List.set_cons_succ]
          refine wpAnyH_take (i := 2) (oi := { dst := some 95, op := Go.Op.binOp Go.BinOp.add 9 (Go.Operand.tmp 94) (Go.Operand.const (Go.Value.string { data := #[32] })) 9, type := 9, pos := "ref.go:101", after := #[{ on := 1, ground := Go.Ground.data }], guard := none }) (v := ?v13_7) rfl (by kernel_rfl) (by kernel_rfl) (by kernel_rfl) (fun _ _ _ h => h) (Or.inl ⟨by rfl, ?hy13_7⟩) (by assumption) ?rest13_7
          case hy13_7 => (intro w hSw; (try dsimp only at hSw); have y1 := Blk.cell hSw 0; go_simp <;> with_reducible rfl)
          try simp only [Act.put, List.setIfInBounds_toArray, List.set_cons_zero, List.set_cons_succ]
          refine wpAnyH_take (i := 3) (oi := { dst := some 96, op := Go.Op.move (Go.Operand.tmp 0), type := 26, pos := "ref.go:101", after := #[], guard := none }) (v := ?v14_7) rfl (by kernel_rfl) (by kernel_rfl) (by kernel_rfl) (fun _ _ _ h => h) (Or.inl ⟨by rfl, ?hy14_7⟩) (by assumption) ?rest14_7
          case hy14_7 => (intro w hSw; (try dsimp only at hSw); have y1 := Blk.cell hSw 0; go_simp <;> with_reducible rfl)
          try simp only [Act.put, List.setIfInBounds_toArray, List.set_cons_zero, List.set_cons_succ]
          refine wpAnyH_take (i := 4) (oi := { dst := some 97, op := Go.Op.move (Go.Operand.tmp 1), type := 2, pos := "ref.go:101", after := #[], guard := none }) (v := ?v15_7) rfl (by kernel_rfl) (by kernel_rfl) (by kernel_rfl) (fun _ _ _ h => h) (Or.inl ⟨by rfl, ?hy15_7⟩) (by assumption) ?rest15_7
          case hy15_7 => (intro w hSw; (try dsimp only at hSw); have y1 := Blk.cell hSw 0; go_simp <;> with_reducible rfl)
          try simp only [Act.put, List.setIfInBounds_toArray, List.set_cons_zero, List.set_cons_succ]
          refine wpAnyH_take (i := 5) (oi := { dst := some 98, op := Go.Op.binOp Go.BinOp.add 3 (Go.Operand.tmp 97) (Go.Operand.const (Go.Value.int Go.IntKind.i64 16)) 3, type := 3, pos := "ref.go:101", after := #[{ on := 4, ground := Go.Ground.data }], guard := none }) (v := ?v16_7) rfl (by kernel_rfl) (by kernel_rfl) (by kernel_rfl) (fun _ _ _ h => h) (Or.inl ⟨by rfl, ?hy16_7⟩) (by assumption) ?rest16_7
          case hy16_7 => (intro w hSw; (try dsimp only at hSw); have y1 := Blk.cell hSw 0; go_simp <;> with_reducible rfl)
          try simp only [Act.put, List.setIfInBounds_toArray, List.set_cons_zero, List.set_cons_succ]
          refine wpAnyH_take (i := 6) (oi := { dst := some 99, op := Go.Op.move (Go.Operand.tmp 13), type := 2, pos := "ref.go:101", after := #[], guard := none }) (v := ?v17_7) rfl (by kernel_rfl) (by kernel_rfl) (by kernel_rfl) (fun _ _ _ h => h) (Or.inl ⟨by rfl, ?hy17_7⟩) (by assumption) ?rest17_7
          case hy17_7 => (intro w hSw; (try dsimp only at hSw); have y1 := Blk.cell hSw 0; go_simp <;> with_reducible rfl)
          try simp only [Act.put, List.setIfInBounds_toArray, List.set_cons_zero, List.set_cons_succ]
          refine wpAnyH_take (i := 10) (oi := { dst := some 103, op := Go.Op.move (Go.Operand.tmp 1), type := 2, pos := "ref.go:101", after := #[{ on := 15, ground := Go.Ground.gcOnly Go.Departure.lateStores }], guard := none }) (v := ?v18_7) rfl (by kernel_rfl) (by kernel_rfl) (by kernel_rfl) (fun _ _ _ h => h) (Or.inl ⟨by rfl, ?hy18_7⟩) (by assumption) ?rest18_7
          case hy18_7 => (intro w hSw; (try dsimp only at hSw); have y1 := Blk.cell hSw 0; go_simp <;> with_reducible rfl)
          try simp only [Act.put, List.setIfInBounds_toArray, List.set_cons_zero, List.set_cons_succ]
          refine wpAnyH_take (i := 11) (oi := { dst := some 104, op := Go.Op.binOp Go.BinOp.add 2 (Go.Operand.tmp 103) (Go.Operand.const (Go.Value.int Go.IntKind.i64 16)) 2, type := 2, pos := "ref.go:101", after := #[{ on := 10, ground := Go.Ground.data }, { on := 15, ground := Go.Ground.gcOnly Go.Departure.lateStores }], guard := none }) (v := ?v19_7) rfl (by kernel_rfl) (by kernel_rfl) (by kernel_rfl) (fun _ _ _ h => h) (Or.inl ⟨by rfl, ?hy19_7⟩) (by assumption) ?rest19_7
          case hy19_7 => (intro w hSw; (try dsimp only at hSw); have y1 := Blk.cell hSw 0; go_simp <;> with_reducible rfl)
          try simp only [Act.put, List.setIfInBounds_toArray, List.set_cons_zero, List.set_cons_succ]
          refine wpAnyH_take (i := 12) (oi := { dst := some 105, op := Go.Op.move (Go.Operand.tmp 13), type := 2, pos := "ref.go:101", after := #[], guard := none }) (v := ?v20_7) rfl (by kernel_rfl) (by kernel_rfl) (by kernel_rfl) (fun _ _ _ h => h) (Or.inl ⟨by rfl, ?hy20_7⟩) (by assumption) ?rest20_7
          case hy20_7 => (intro w hSw; (try dsimp only at hSw); have y1 := Blk.cell hSw 0; go_simp <;> with_reducible rfl)
          try simp only [Act.put, List.setIfInBounds_toArray, List.set_cons_zero, List.set_cons_succ]
          refine wpAnyH_ready (rs := [7]) (by kernel_rfl) (by simp) ?_
          refine AllReadyH.cons (o := { dst := some 100, op := Go.Op.call { callee := Go.Callee.value (Go.Operand.func 34), args := #[Go.Operand.tmp 96, Go.Operand.tmp 98, Go.Operand.tmp 99], argTypes := #[26, 3, 3] }, type := 22, pos := "ref.go:101", after := #[{ on := 3, ground := Go.Ground.data }, { on := 5, ground := Go.Ground.data }, { on := 6, ground := Go.Ground.data }], guard := none }) rfl (fun K hK => ?_) AllReadyH.nil
          go_simp
          go_at_call 34; refine (hS.load (fun O h hb => hLd.out _ O h)).mono ?_; rintro e w7 ⟨v7, rfl, hS2⟩; clear hS; have hS := hS2; clear hS2
          refine hK.out _ _ ?_ (fun hHeld2 => ?_)
          · (try dsimp only); first | exact hS.fact.2 | exact hS.fact.1.2
          clear hK K hHeld
          have hHeld := hHeld2
          clear hHeld2
          try simp only [Act.put, List.setIfInBounds_toArray, List.set_cons_zero, List.set_cons_succ]
          refine wpAnyH_ready (rs := [8, 13]) (by kernel_rfl) (by simp) ?_
          refine AllReadyH.cons (o := { dst := some 101, op := Go.Op.convert 22 9 (Go.Operand.tmp 100), type := 9, pos := "ref.go:101", after := #[{ on := 7, ground := Go.Ground.data }], guard := none }) rfl (fun K hK => ?_) ?_
          ·
            have hst := bs_str hS.fact.2
            go_simp
            refine hK.out _ _ ?_ (fun hHeld2 => ?_)
            · (try dsimp only); first | exact hS.fact.2 | exact hS.fact.1.2
            clear hK K hHeld
            have hHeld := hHeld2
            clear hHeld2
            try simp only [Act.put, List.setIfInBounds_toArray, List.set_cons_zero, List.set_cons_succ]
            refine wpAnyH_take (i := 9) (oi := { dst := some 102, op := Go.Op.binOp Go.BinOp.add 9 (Go.Operand.tmp 95) (Go.Operand.tmp 101) 9, type := 9, pos := "ref.go:101", after := #[{ on := 2, ground := Go.Ground.data }, { on := 8, ground := Go.Ground.data }], guard := none }) (v := ?v21_7) rfl (by kernel_rfl) (by kernel_rfl) (by kernel_rfl) (fun _ _ _ h => h) (Or.inl ⟨by rfl, ?hy21_7⟩) (by assumption) ?rest21_7
            case hy21_7 => (intro w hSw; (try dsimp only at hSw); have y1 := Blk.cell hSw 0; go_simp <;> with_reducible rfl)
            try simp only [Act.put, List.setIfInBounds_toArray, List.set_cons_zero, List.set_cons_succ]
            refine wpAnyH_ready (rs := [13]) (by kernel_rfl) (by simp) ?_
            refine AllReadyH.cons (o := { dst := some 106, op := Go.Op.call { callee := Go.Callee.value (Go.Operand.func 16), args := #[Go.Operand.tmp 105], argTypes := #[2] }, type := 2, pos := "ref.go:101", after := #[{ on := 12, ground := Go.Ground.data }, { on := 7, ground := Go.Ground.chain }], guard := none }) rfl (fun K hK => ?_) AllReadyH.nil
            go_simp
            go_at_call 16; refine (hS.still (hAl.out _)).mono ?_; rintro e w8 ⟨rfl, hS2⟩; clear hS; have hS := hS2; clear hS2
            refine hK.out _ _ ?_ (fun hHeld2 => ?_)
            · (try dsimp only); first | exact hS.fact.2 | exact hS.fact.1.2
            clear hK K hHeld
            have hHeld := hHeld2
            clear hHeld2
            try simp only [Act.put, List.setIfInBounds_toArray, List.set_cons_zero, List.set_cons_succ]
            refine wpAnyH_take (i := 14) (oi := { dst := some 107, op := Go.Op.binOp Go.BinOp.add 2 (Go.Operand.tmp 104) (Go.Operand.tmp 106) 2, type := 2, pos := "ref.go:101", after := #[{ on := 11, ground := Go.Ground.data }, { on := 13, ground := Go.Ground.data }, { on := 15, ground := Go.Ground.gcOnly Go.Departure.lateStores }], guard := none }) (v := ?v22_7) rfl (by kernel_rfl) (by kernel_rfl) (by kernel_rfl) (fun _ _ _ h => h) (Or.inl ⟨by rfl, ?hy22_7⟩) (by assumption) ?rest22_7
            case hy22_7 => (intro w hSw; (try dsimp only at hSw); have y1 := Blk.cell hSw 0; go_simp <;> with_reducible rfl)
            try simp only [Act.put, List.setIfInBounds_toArray, List.set_cons_zero, List.set_cons_succ]
            refine wpAnyH_take (i := 15) (oi := { dst := some 4, op := Go.Op.assign (Go.Operand.tmp 102), type := 9, pos := "ref.go:101", after := #[{ on := 9, ground := Go.Ground.data }, { on := 13, ground := Go.Ground.chain }, { on := 0, ground := Go.Ground.phase }, { on := 1, ground := Go.Ground.phase }, { on := 2, ground := Go.Ground.phase }, { on := 3, ground := Go.Ground.phase }, { on := 4, ground := Go.Ground.phase }, { on := 5, ground := Go.Ground.phase }, { on := 6, ground := Go.Ground.phase }, { on := 7, ground := Go.Ground.phase }, { on := 8, ground := Go.Ground.phase }, { on := 9, ground := Go.Ground.phase }, { on := 10, ground := Go.Ground.textOnly Go.Departure.lateStores }, { on := 11, ground := Go.Ground.textOnly Go.Departure.lateStores }, { on := 12, ground := Go.Ground.textOnly Go.Departure.lateStores }, { on := 13, ground := Go.Ground.textOnly Go.Departure.lateStoresUnsure }, { on := 14, ground := Go.Ground.textOnly Go.Departure.lateStores }], guard := none }) (v := ?v23_7) rfl (by kernel_rfl) (by kernel_rfl) (by kernel_rfl) (fun _ _ _ h => h) (Or.inl ⟨by rfl, ?hy23_7⟩) (by assumption) ?rest23_7
            case hy23_7 => (intro w hSw; (try dsimp only at hSw); have y1 := Blk.cell hSw 0; go_simp <;> with_reducible rfl)
            try simp only [Act.put, List.setIfInBounds_toArray, List.set_cons_zero, List.set_cons_succ]
            refine wpAnyH_take (i := 16) (oi := { dst := some 5, op := Go.Op.assign (Go.Operand.tmp 107), type := 2, pos := "ref.go:101", after := #[{ on := 14, ground := Go.Ground.data }, { on := 15, ground := Go.Ground.chain }, { on := 0, ground := Go.Ground.phase }, { on := 1, ground := Go.Ground.phase }, { on := 2, ground := Go.Ground.phase }, { on := 3, ground := Go.Ground.phase }, { on := 4, ground := Go.Ground.phase }, { on := 5, ground := Go.Ground.phase }, { on := 6, ground := Go.Ground.phase }, { on := 7, ground := Go.Ground.phase }, { on := 8, ground := Go.Ground.phase }, { on := 9, ground := Go.Ground.phase }, { on := 10, ground := Go.Ground.phase }, { on := 11, ground := Go.Ground.phase }, { on := 12, ground := Go.Ground.phase }, { on := 13, ground := Go.Ground.phase }, { on := 14, ground := Go.Ground.phase }, { on := 15, ground := Go.Ground.phase }], guard := none }) (v := ?v24_7) rfl (by kernel_rfl) (by kernel_rfl) (by kernel_rfl) (fun _ _ _ h => h) (Or.inl ⟨by rfl, ?hy24_7⟩) (by assumption) ?rest24_7
            case hy24_7 => (intro w hSw; (try dsimp only at hSw); have y1 := Blk.cell hSw 0; go_simp <;> with_reducible rfl)
            try simp only [Act.put, List.setIfInBounds_toArray, List.set_cons_zero, List.set_cons_succ]
            refine wpAnyH_take (i := 17) (oi := { dst := some 6, op := Go.Op.assign (Go.Operand.const (Go.Value.bool true)), type := 4, pos := "ref.go:101", after := #[{ on := 16, ground := Go.Ground.chain }, { on := 0, ground := Go.Ground.phase }, { on := 1, ground := Go.Ground.phase }, { on := 2, ground := Go.Ground.phase }, { on := 3, ground := Go.Ground.phase }, { on := 4, ground := Go.Ground.phase }, { on := 5, ground := Go.Ground.phase }, { on := 6, ground := Go.Ground.phase }, { on := 7, ground := Go.Ground.phase }, { on := 8, ground := Go.Ground.phase }, { on := 9, ground := Go.Ground.phase }, { on := 10, ground := Go.Ground.phase }, { on := 11, ground := Go.Ground.phase }, { on := 12, ground := Go.Ground.phase }, { on := 13, ground := Go.Ground.phase }, { on := 14, ground := Go.Ground.phase }, { on := 15, ground := Go.Ground.phase }, { on := 16, ground := Go.Ground.phase }], guard := none }) (v := ?v25_7) rfl (by kernel_rfl) (by kernel_rfl) (by kernel_rfl) (fun _ _ _ h => h) (Or.inl ⟨by rfl, ?hy25_7⟩) (by assumption) ?rest25_7
            case hy25_7 => (intro w hSw; (try dsimp only at hSw); have y1 := Blk.cell hSw 0; go_simp <;> with_reducible rfl)
            try simp only [Act.put, List.setIfInBounds_toArray, List.set_cons_zero, List.set_cons_succ]
            refine wpAnyH_done (by kernel_rfl) ?_ _
            refine NoPanic.normal ?_
            go_wp2
            refine ⟨rfl, _, ?_, hS.refQ _⟩
            simp [results, Tryd.results11, go_sem]
          refine AllReadyH.cons (o := { dst := some 106, op := Go.Op.call { callee := Go.Callee.value (Go.Operand.func 16), args := #[Go.Operand.tmp 105], argTypes := #[2] }, type := 2, pos := "ref.go:101", after := #[{ on := 12, ground := Go.Ground.data }, { on := 7, ground := Go.Ground.chain }], guard := none }) rfl (fun K hK => ?_) ?_
          ·
            go_simp
            go_at_call 16; refine (hS.still (hAl.out _)).mono ?_; rintro e w8 ⟨rfl, hS2⟩; clear hS; have hS := hS2; clear hS2
            refine hK.out _ _ ?_ (fun hHeld2 => ?_)
            · (try dsimp only); first | exact hS.fact.2 | exact hS.fact.1.2
            clear hK K hHeld
            have hHeld := hHeld2
            clear hHeld2
            try simp only [Act.put, List.setIfInBounds_toArray, List.set_cons_zero, List.set_cons_succ]
            refine wpAnyH_take (i := 14) (oi := { dst := some 107, op := Go.Op.binOp Go.BinOp.add 2 (Go.Operand.tmp 104) (Go.Operand.tmp 106) 2, type := 2, pos := "ref.go:101", after := #[{ on := 11, ground := Go.Ground.data }, { on := 13, ground := Go.Ground.data }, { on := 15, ground := Go.Ground.gcOnly Go.Departure.lateStores }], guard := none }) (v := ?v26_7) rfl (by kernel_rfl) (by kernel_rfl) (by kernel_rfl) (fun _ _ _ h => h) (Or.inl ⟨by rfl, ?hy26_7⟩) (by assumption) ?rest26_7
            case hy26_7 => (intro w hSw; (try dsimp only at hSw); have y1 := Blk.cell hSw 0; go_simp <;> with_reducible rfl)
            try simp only [Act.put, List.setIfInBounds_toArray, List.set_cons_zero, List.set_cons_succ]
            refine wpAnyH_ready (rs := [8]) (by kernel_rfl) (by simp) ?_
            refine AllReadyH.cons (o := { dst := some 101, op := Go.Op.convert 22 9 (Go.Operand.tmp 100), type := 9, pos := "ref.go:101", after := #[{ on := 7, ground := Go.Ground.data }], guard := none }) rfl (fun K hK => ?_) AllReadyH.nil
            have hst := bs_str hS.fact.2
            go_simp
            refine hK.out _ _ ?_ (fun hHeld2 => ?_)
            · (try dsimp only); first | exact hS.fact.2 | exact hS.fact.1.2
            clear hK K hHeld
            have hHeld := hHeld2
            clear hHeld2
            try simp only [Act.put, List.setIfInBounds_toArray, List.set_cons_zero, List.set_cons_succ]
            refine wpAnyH_take (i := 9) (oi := { dst := some 102, op := Go.Op.binOp Go.BinOp.add 9 (Go.Operand.tmp 95) (Go.Operand.tmp 101) 9, type := 9, pos := "ref.go:101", after := #[{ on := 2, ground := Go.Ground.data }, { on := 8, ground := Go.Ground.data }], guard := none }) (v := ?v27_7) rfl (by kernel_rfl) (by kernel_rfl) (by kernel_rfl) (fun _ _ _ h => h) (Or.inl ⟨by rfl, ?hy27_7⟩) (by assumption) ?rest27_7
            case hy27_7 => (intro w hSw; (try dsimp only at hSw); have y1 := Blk.cell hSw 0; go_simp <;> with_reducible rfl)
            try simp only [Act.put, List.setIfInBounds_toArray, List.set_cons_zero, List.set_cons_succ]
            refine wpAnyH_take (i := 15) (oi := { dst := some 4, op := Go.Op.assign (Go.Operand.tmp 102), type := 9, pos := "ref.go:101", after := #[{ on := 9, ground := Go.Ground.data }, { on := 13, ground := Go.Ground.chain }, { on := 0, ground := Go.Ground.phase }, { on := 1, ground := Go.Ground.phase }, { on := 2, ground := Go.Ground.phase }, { on := 3, ground := Go.Ground.phase }, { on := 4, ground := Go.Ground.phase }, { on := 5, ground := Go.Ground.phase }, { on := 6, ground := Go.Ground.phase }, { on := 7, ground := Go.Ground.phase }, { on := 8, ground := Go.Ground.phase }, { on := 9, ground := Go.Ground.phase }, { on := 10, ground := Go.Ground.textOnly Go.Departure.lateStores }, { on := 11, ground := Go.Ground.textOnly Go.Departure.lateStores }, { on := 12, ground := Go.Ground.textOnly Go.Departure.lateStores }, { on := 13, ground := Go.Ground.textOnly Go.Departure.lateStoresUnsure }, { on := 14, ground := Go.Ground.textOnly Go.Departure.lateStores }], guard := none }) (v := ?v28_7) rfl (by kernel_rfl) (by kernel_rfl) (by kernel_rfl) (fun _ _ _ h => h) (Or.inl ⟨by rfl, ?hy28_7⟩) (by assumption) ?rest28_7
            case hy28_7 => (intro w hSw; (try dsimp only at hSw); have y1 := Blk.cell hSw 0; go_simp <;> with_reducible rfl)
            try simp only [Act.put, List.setIfInBounds_toArray, List.set_cons_zero, List.set_cons_succ]
            refine wpAnyH_take (i := 16) (oi := { dst := some 5, op := Go.Op.assign (Go.Operand.tmp 107), type := 2, pos := "ref.go:101", after := #[{ on := 14, ground := Go.Ground.data }, { on := 15, ground := Go.Ground.chain }, { on := 0, ground := Go.Ground.phase }, { on := 1, ground := Go.Ground.phase }, { on := 2, ground := Go.Ground.phase }, { on := 3, ground := Go.Ground.phase }, { on := 4, ground := Go.Ground.phase }, { on := 5, ground := Go.Ground.phase }, { on := 6, ground := Go.Ground.phase }, { on := 7, ground := Go.Ground.phase }, { on := 8, ground := Go.Ground.phase }, { on := 9, ground := Go.Ground.phase }, { on := 10, ground := Go.Ground.phase }, { on := 11, ground := Go.Ground.phase }, { on := 12, ground := Go.Ground.phase }, { on := 13, ground := Go.Ground.phase }, { on := 14, ground := Go.Ground.phase }, { on := 15, ground := Go.Ground.phase }], guard := none }) (v := ?v29_7) rfl (by kernel_rfl) (by kernel_rfl) (by kernel_rfl) (fun _ _ _ h => h) (Or.inl ⟨by rfl, ?hy29_7⟩) (by assumption) ?rest29_7
            case hy29_7 => (intro w hSw; (try dsimp only at hSw); have y1 := Blk.cell hSw 0; go_simp <;> with_reducible rfl)
            try simp only [Act.put, List.setIfInBounds_toArray, List.set_cons_zero, List.set_cons_succ]
            refine wpAnyH_take (i := 17) (oi := { dst := some 6, op := Go.Op.assign (Go.Operand.const (Go.Value.bool true)), type := 4, pos := "ref.go:101", after := #[{ on := 16, ground := Go.Ground.chain }, { on := 0, ground := Go.Ground.phase }, { on := 1, ground := Go.Ground.phase }, { on := 2, ground := Go.Ground.phase }, { on := 3, ground := Go.Ground.phase }, { on := 4, ground := Go.Ground.phase }, { on := 5, ground := Go.Ground.phase }, { on := 6, ground := Go.Ground.phase }, { on := 7, ground := Go.Ground.phase }, { on := 8, ground := Go.Ground.phase }, { on := 9, ground := Go.Ground.phase }, { on := 10, ground := Go.Ground.phase }, { on := 11, ground := Go.Ground.phase }, { on := 12, ground := Go.Ground.phase }, { on := 13, ground := Go.Ground.phase }, { on := 14, ground := Go.Ground.phase }, { on := 15, ground := Go.Ground.phase }, { on := 16, ground := Go.Ground.phase }], guard := none }) (v := ?v30_7) rfl (by kernel_rfl) (by kernel_rfl) (by kernel_rfl) (fun _ _ _ h => h) (Or.inl ⟨by rfl, ?hy30_7⟩) (by assumption) ?rest30_7
            case hy30_7 => (intro w hSw; (try dsimp only at hSw); have y1 := Blk.cell hSw 0; go_simp <;> with_reducible rfl)
            try simp only [Act.put, List.setIfInBounds_toArray, List.set_cons_zero, List.set_cons_succ]
            refine wpAnyH_done (by kernel_rfl) ?_ _
            refine NoPanic.normal ?_
            go_wp2
            refine ⟨rfl, _, ?_, hS.refQ _⟩
            simp [results, Tryd.results11, go_sem]
          exact AllReadyH.nil
        · go_enter Tryd.func11, Tryd.ntmps11
          go_upto_region 6 with (first
            | (go_at_call 28; refine (hS.read (fun O h => hIn.out _ O h)).mono ?_; rintro e w1 ⟨rfl, hS2⟩; clear hS; have hS := hS2; clear hS2)
            | (go_at_call_of 29 a; refine (hS.read (fun O h => hGa.out _ O h)).mono ?_; rintro e w2 ⟨rfl, hS2⟩; clear hS; have hS := hS2; clear hS2)
            | (go_at_call 30; refine (hS.still (hNum.out _)).mono ?_; rintro e w3 ⟨rfl, hS2⟩; clear hS; have hS := hS2; clear hS2)
            | (go_at_call 31; refine (hS.still (hOf.out _)).mono ?_; rintro e w4 ⟨rfl, hS2⟩; clear hS; have hS := hS2; clear hS2))
          have hS2 := hS.new #[.string pn, .int .i64 pt, .int .i64 pl, .bool pi, .bool pc] 56
          obtain ⟨P, hP⟩ : ∃ P, P = w4.heap.size := ⟨_, rfl⟩
          obtain ⟨w8, hw8⟩ : ∃ w8, w8 = w4.alloc (.cells #[.string pn, .int .i64 pt, .int .i64 pl, .bool pi, .bool pc] 56) := ⟨_, rfl⟩
          rw [← hw8, ← hP] at hS2 ⊢
          clear hw8 hP hS
          have hS := hS2
          clear hS2
          go_upto_region 28 with (first
            | (go_at_call_of 29 a8; refine (hS.read (fun O h => hG8.out _ O h)).mono ?_; rintro e w6 ⟨rfl, hS2⟩; clear hS; have hS := hS2; clear hS2)
            | (go_at_call 28; refine (hS.read (fun O h => hIn8.out _ O h)).mono ?_; rintro e w5 ⟨rfl, hS2⟩; clear hS; have hS := hS2; clear hS2; have y1 := Blk.cell hS.fact.2 0)
            | (go_at_call 33; refine (hS.read (fun O h => hHr.out _ O h)).mono ?_; rintro e w7 ⟨rfl, hS2⟩; clear hS; have hS := hS2; clear hS2; have y1 := Blk.cell hS.fact.2 0))
          replace hS := hS.drew
          refine wp_region_noPanic ?_
          refine wp_region_held_drew (S := (fun w9 => Blk w9 P #[.string pn, .int .i64 pt, .int .i64 pl, .bool pi, .bool pc] 56)) (by kernel_rfl) ?_ (fun hHeld => ?_)
          · (try dsimp only); first | exact hS.fact.2 | exact hS.fact.1.2
          refine wpAnyH_take (i := 0) (oi := { dst := some 93, op := Go.Op.fieldAddr 56 (Go.Operand.tmp 9) 0, type := 0, pos := "ref.go:101", after := #[], guard := none }) (v := ?v11_8) rfl (by kernel_rfl) (by kernel_rfl) (by kernel_rfl) (fun _ _ _ h => h) (Or.inl ⟨by rfl, ?hy11_8⟩) (by assumption) ?rest11_8
          case hy11_8 => (intro w hSw; (try dsimp only at hSw); have y1 := Blk.cell hSw 0; go_simp <;> with_reducible rfl)
          try simp only [Act.put, List.setIfInBounds_toArray, List.set_cons_zero, List.set_cons_succ]
          refine wpAnyH_take (i := 1) (oi := { dst := some 94, op := Go.Op.load 9 (Go.Operand.tmp 93), type := 9, pos := "ref.go:101", after := #[{ on := 0, ground := Go.Ground.data }], guard := none }) (v := ?v12_8) rfl (by kernel_rfl) (by kernel_rfl) (by kernel_rfl) (fun _ _ _ h => h) (Or.inl ⟨by rfl, ?hy12_8⟩) (by assumption) ?rest12_8
          case hy12_8 => (intro w hSw; (try dsimp only at hSw); have y1 := Blk.cell hSw 0; go_simp <;> with_reducible rfl)
          try simp only [Act.put, List.setIfInBounds_toArray, List.set_cons_zero, List.set_cons_succ]
          refine wpAnyH_take (i := 2) (oi := { dst := some 95, op := Go.Op.binOp Go.BinOp.add 9 (Go.Operand.tmp 94) (Go.Operand.const (Go.Value.string { data := #[32] })) 9, type := 9, pos := "ref.go:101", after := #[{ on := 1, ground := Go.Ground.data }], guard := none }) (v := ?v13_8) rfl (by kernel_rfl) (by kernel_rfl) (by kernel_rfl) (fun _ _ _ h => h) (Or.inl ⟨by rfl, ?hy13_8⟩) (by assumption) ?rest13_8
          case hy13_8 => (intro w hSw; (try dsimp only at hSw); have y1 := Blk.cell hSw 0; go_simp <;> with_reducible rfl)
          try simp only [Act.put, List.setIfInBounds_toArray, List.set_cons_zero, List.set_cons_succ]
          refine wpAnyH_take (i := 3) (oi := { dst := some 96, op := Go.Op.move (Go.Operand.tmp 0), type := 26, pos := "ref.go:101", after := #[], guard := none }) (v := ?v14_8) rfl (by kernel_rfl) (by kernel_rfl) (by kernel_rfl) (fun _ _ _ h => h) (Or.inl ⟨by rfl, ?hy14_8⟩) (by assumption) ?rest14_8
          case hy14_8 => (intro w hSw; (try dsimp only at hSw); have y1 := Blk.cell hSw 0; go_simp <;> with_reducible rfl)
          try simp only [Act.put, List.setIfInBounds_toArray, List.set_cons_zero, List.set_cons_succ]
          refine wpAnyH_take (i := 4) (oi := { dst := some 97, op := Go.Op.move (Go.Operand.tmp 1), type := 2, pos := "ref.go:101", after := #[], guard := none }) (v := ?v15_8) rfl (by kernel_rfl) (by kernel_rfl) (by kernel_rfl) (fun _ _ _ h => h) (Or.inl ⟨by rfl, ?hy15_8⟩) (by assumption) ?rest15_8
          case hy15_8 => (intro w hSw; (try dsimp only at hSw); have y1 := Blk.cell hSw 0; go_simp <;> with_reducible rfl)
          try simp only [Act.put, List.setIfInBounds_toArray, List.set_cons_zero, List.set_cons_succ]
          refine wpAnyH_take (i := 5) (oi := { dst := some 98, op := Go.Op.binOp Go.BinOp.add 3 (Go.Operand.tmp 97) (Go.Operand.const (Go.Value.int Go.IntKind.i64 16)) 3, type := 3, pos := "ref.go:101", after := #[{ on := 4, ground := Go.Ground.data }], guard := none }) (v := ?v16_8) rfl (by kernel_rfl) (by kernel_rfl) (by kernel_rfl) (fun _ _ _ h => h) (Or.inl ⟨by rfl, ?hy16_8⟩) (by assumption) ?rest16_8
          case hy16_8 => (intro w hSw; (try dsimp only at hSw); have y1 := Blk.cell hSw 0; go_simp <;> with_reducible rfl)
          try simp only [Act.put, List.setIfInBounds_toArray, List.set_cons_zero, List.set_cons_succ]
          refine wpAnyH_take (i := 6) (oi := { dst := some 99, op := Go.Op.move (Go.Operand.tmp 13), type := 2, pos := "ref.go:101", after := #[], guard := none }) (v := ?v17_8) rfl (by kernel_rfl) (by kernel_rfl) (by kernel_rfl) (fun _ _ _ h => h) (Or.inl ⟨by rfl, ?hy17_8⟩) (by assumption) ?rest17_8
          case hy17_8 => (intro w hSw; (try dsimp only at hSw); have y1 := Blk.cell hSw 0; go_simp <;> with_reducible rfl)
          try simp only [Act.put, List.setIfInBounds_toArray, List.set_cons_zero, List.set_cons_succ]
          refine wpAnyH_take (i := 10) (oi := { dst := some 103, op := Go.Op.move (Go.Operand.tmp 1), type := 2, pos := "ref.go:101", after := #[{ on := 15, ground := Go.Ground.gcOnly Go.Departure.lateStores }], guard := none }) (v := ?v18_8) rfl (by kernel_rfl) (by kernel_rfl) (by kernel_rfl) (fun _ _ _ h => h) (Or.inl ⟨by rfl, ?hy18_8⟩) (by assumption) ?rest18_8
          case hy18_8 => (intro w hSw; (try dsimp only at hSw); have y1 := Blk.cell hSw 0; go_simp <;> with_reducible rfl)
          try simp only [Act.put, List.setIfInBounds_toArray, List.set_cons_zero, List.set_cons_succ]
          refine wpAnyH_take (i := 11) (oi := { dst := some 104, op := Go.Op.binOp Go.BinOp.add 2 (Go.Operand.tmp 103) (Go.Operand.const (Go.Value.int Go.IntKind.i64 16)) 2, type := 2, pos := "ref.go:101", after := #[{ on := 10, ground := Go.Ground.data }, { on := 15, ground := Go.Ground.gcOnly Go.Departure.lateStores }], guard := none }) (v := ?v19_8) rfl (by kernel_rfl) (by kernel_rfl) (by kernel_rfl) (fun _ _ _ h => h) (Or.inl ⟨by rfl, ?hy19_8⟩) (by assumption) ?rest19_8
          case hy19_8 => (intro w hSw; (try dsimp only at hSw); have y1 := Blk.cell hSw 0; go_simp <;> with_reducible rfl)
          try simp only [Act.put, List.setIfInBounds_toArray, List.set_cons_zero, List.set_cons_succ]
          refine wpAnyH_take (i := 12) (oi := { dst := some 105, op := Go.Op.move (Go.Operand.tmp 13), type := 2, pos := "ref.go:101", after := #[], guard := none }) (v := ?v20_8) rfl (by kernel_rfl) (by kernel_rfl) (by kernel_rfl) (fun _ _ _ h => h) (Or.inl ⟨by rfl, ?hy20_8⟩) (by assumption) ?rest20_8
          case hy20_8 => (intro w hSw; (try dsimp only at hSw); have y1 := Blk.cell hSw 0; go_simp <;> with_reducible rfl)
          try simp only [Act.put, List.setIfInBounds_toArray, List.set_cons_zero, List.set_cons_succ]
          refine wpAnyH_ready (rs := [7]) (by kernel_rfl) (by simp) ?_
          refine AllReadyH.cons (o := { dst := some 100, op := Go.Op.call { callee := Go.Callee.value (Go.Operand.func 34), args := #[Go.Operand.tmp 96, Go.Operand.tmp 98, Go.Operand.tmp 99], argTypes := #[26, 3, 3] }, type := 22, pos := "ref.go:101", after := #[{ on := 3, ground := Go.Ground.data }, { on := 5, ground := Go.Ground.data }, { on := 6, ground := Go.Ground.data }], guard := none }) rfl (fun K hK => ?_) AllReadyH.nil
          go_simp
          go_at_call 34; refine (hS.load (fun O h hb => hLd.out _ O h)).mono ?_; rintro e w7 ⟨v7, rfl, hS2⟩; clear hS; have hS := hS2; clear hS2
          refine hK.out _ _ ?_ (fun hHeld2 => ?_)
          · (try dsimp only); first | exact hS.fact.2 | exact hS.fact.1.2
          clear hK K hHeld
          have hHeld := hHeld2
          clear hHeld2
          try simp only [Act.put, List.setIfInBounds_toArray, List.set_cons_zero, List.set_cons_succ]
          refine wpAnyH_ready (rs := [8, 13]) (by kernel_rfl) (by simp) ?_
          refine AllReadyH.cons (o := { dst := some 101, op := Go.Op.convert 22 9 (Go.Operand.tmp 100), type := 9, pos := "ref.go:101", after := #[{ on := 7, ground := Go.Ground.data }], guard := none }) rfl (fun K hK => ?_) ?_
          ·
            have hst := bs_str hS.fact.2
            go_simp
            refine hK.out _ _ ?_ (fun hHeld2 => ?_)
            · (try dsimp only); first | exact hS.fact.2 | exact hS.fact.1.2
            clear hK K hHeld
            have hHeld := hHeld2
            clear hHeld2
            try simp only [Act.put, List.setIfInBounds_toArray, List.set_cons_zero, List.set_cons_succ]
            refine wpAnyH_take (i := 9) (oi := { dst := some 102, op := Go.Op.binOp Go.BinOp.add 9 (Go.Operand.tmp 95) (Go.Operand.tmp 101) 9, type := 9, pos := "ref.go:101", after := #[{ on := 2, ground := Go.Ground.data }, { on := 8, ground := Go.Ground.data }], guard := none }) (v := ?v21_8) rfl (by kernel_rfl) (by kernel_rfl) (by kernel_rfl) (fun _ _ _ h => h) (Or.inl ⟨by rfl, ?hy21_8⟩) (by assumption) ?rest21_8
            case hy21_8 => (intro w hSw; (try dsimp only at hSw); have y1 := Blk.cell hSw 0; go_simp <;> with_reducible rfl)
            try simp only [Act.put, List.setIfInBounds_toArray, List.set_cons_zero, List.set_cons_succ]
            refine wpAnyH_ready (rs := [13]) (by kernel_rfl) (by simp) ?_
            refine AllReadyH.cons (o := { dst := some 106, op := Go.Op.call { callee := Go.Callee.value (Go.Operand.func 16), args := #[Go.Operand.tmp 105], argTypes := #[2] }, type := 2, pos := "ref.go:101", after := #[{ on := 12, ground := Go.Ground.data }, { on := 7, ground := Go.Ground.chain }], guard := none }) rfl (fun K hK => ?_) AllReadyH.nil
            go_simp
            go_at_call 16; refine (hS.still (hAl.out _)).mono ?_; rintro e w8 ⟨rfl, hS2⟩; clear hS; have hS := hS2; clear hS2
            refine hK.out _ _ ?_ (fun hHeld2 => ?_)
            · (try dsimp only); first | exact hS.fact.2 | exact hS.fact.1.2
            clear hK K hHeld
            have hHeld := hHeld2
            clear hHeld2
            try simp only [Act.put, List.setIfInBounds_toArray, List.set_cons_zero, List.set_cons_succ]
            refine wpAnyH_take (i := 14) (oi := { dst := some 107, op := Go.Op.binOp Go.BinOp.add 2 (Go.Operand.tmp 104) (Go.Operand.tmp 106) 2, type := 2, pos := "ref.go:101", after := #[{ on := 11, ground := Go.Ground.data }, { on := 13, ground := Go.Ground.data }, { on := 15, ground := Go.Ground.gcOnly Go.Departure.lateStores }], guard := none }) (v := ?v22_8) rfl (by kernel_rfl) (by kernel_rfl) (by kernel_rfl) (fun _ _ _ h => h) (Or.inl ⟨by rfl, ?hy22_8⟩) (by assumption) ?rest22_8
            case hy22_8 => (intro w hSw; (try dsimp only at hSw); have y1 := Blk.cell hSw 0; go_simp <;> with_reducible rfl)
            try simp only [Act.put, List.setIfInBounds_toArray, List.set_cons_zero, List.set_cons_succ]
            refine wpAnyH_take (i := 15) (oi := { dst := some 4, op := Go.Op.assign (Go.Operand.tmp 102), type := 9, pos := "ref.go:101", after := #[{ on := 9, ground := Go.Ground.data }, { on := 13, ground := Go.Ground.chain }, { on := 0, ground := Go.Ground.phase }, { on := 1, ground := Go.Ground.phase }, { on := 2, ground := Go.Ground.phase }, { on := 3, ground := Go.Ground.phase }, { on := 4, ground := Go.Ground.phase }, { on := 5, ground := Go.Ground.phase }, { on := 6, ground := Go.Ground.phase }, { on := 7, ground := Go.Ground.phase }, { on := 8, ground := Go.Ground.phase }, { on := 9, ground := Go.Ground.phase }, { on := 10, ground := Go.Ground.textOnly Go.Departure.lateStores }, { on := 11, ground := Go.Ground.textOnly Go.Departure.lateStores }, { on := 12, ground := Go.Ground.textOnly Go.Departure.lateStores }, { on := 13, ground := Go.Ground.textOnly Go.Departure.lateStoresUnsure }, { on := 14, ground := Go.Ground.textOnly Go.Departure.lateStores }], guard := none }) (v := ?v23_8) rfl (by kernel_rfl) (by kernel_rfl) (by kernel_rfl) (fun _ _ _ h => h) (Or.inl ⟨by rfl, ?hy23_8⟩) (by assumption) ?rest23_8
            case hy23_8 => (intro w hSw; (try dsimp only at hSw); have y1 := Blk.cell hSw 0; go_simp <;> with_reducible rfl)
            try simp only [Act.put, List.setIfInBounds_toArray, List.set_cons_zero, List.set_cons_succ]
            refine wpAnyH_take (i := 16) (oi := { dst := some 5, op := Go.Op.assign (Go.Operand.tmp 107), type := 2, pos := "ref.go:101", after := #[{ on := 14, ground := Go.Ground.data }, { on := 15, ground := Go.Ground.chain }, { on := 0, ground := Go.Ground.phase }, { on := 1, ground := Go.Ground.phase }, { on := 2, ground := Go.Ground.phase }, { on := 3, ground := Go.Ground.phase }, { on := 4, ground := Go.Ground.phase }, { on := 5, ground := Go.Ground.phase }, { on := 6, ground := Go.Ground.phase }, { on := 7, ground := Go.Ground.phase }, { on := 8, ground := Go.Ground.phase }, { on := 9, ground := Go.Ground.phase }, { on := 10, ground := Go.Ground.phase }, { on := 11, ground := Go.Ground.phase }, { on := 12, ground := Go.Ground.phase }, { on := 13, ground := Go.Ground.phase }, { on := 14, ground := Go.Ground.phase }, { on := 15, ground := Go.Ground.phase }], guard := none }) (v := ?v24_8) rfl (by kernel_rfl) (by kernel_rfl) (by kernel_rfl) (fun _ _ _ h => h) (Or.inl ⟨by rfl, ?hy24_8⟩) (by assumption) ?rest24_8
            case hy24_8 => (intro w hSw; (try dsimp only at hSw); have y1 := Blk.cell hSw 0; go_simp <;> with_reducible rfl)
            try simp only [Act.put, List.setIfInBounds_toArray, List.set_cons_zero, List.set_cons_succ]
            refine wpAnyH_take (i := 17) (oi := { dst := some 6, op := Go.Op.assign (Go.Operand.const (Go.Value.bool true)), type := 4, pos := "ref.go:101", after := #[{ on := 16, ground := Go.Ground.chain }, { on := 0, ground := Go.Ground.phase }, { on := 1, ground := Go.Ground.phase }, { on := 2, ground := Go.Ground.phase }, { on := 3, ground := Go.Ground.phase }, { on := 4, ground := Go.Ground.phase }, { on := 5, ground := Go.Ground.phase }, { on := 6, ground := Go.Ground.phase }, { on := 7, ground := Go.Ground.phase }, { on := 8, ground := Go.Ground.phase }, { on := 9, ground := Go.Ground.phase }, { on := 10, ground := Go.Ground.phase }, { on := 11, ground := Go.Ground.phase }, { on := 12, ground := Go.Ground.phase }, { on := 13, ground := Go.Ground.phase }, { on := 14, ground := Go.Ground.phase }, { on := 15, ground := Go.Ground.phase }, { on := 16, ground := Go.Ground.phase }], guard := none }) (v := ?v25_8) rfl (by kernel_rfl) (by kernel_rfl) (by kernel_rfl) (fun _ _ _ h => h) (Or.inl ⟨by rfl, ?hy25_8⟩) (by assumption) ?rest25_8
            case hy25_8 => (intro w hSw; (try dsimp only at hSw); have y1 := Blk.cell hSw 0; go_simp <;> with_reducible rfl)
            try simp only [Act.put, List.setIfInBounds_toArray, List.set_cons_zero, List.set_cons_succ]
            refine wpAnyH_done (by kernel_rfl) ?_ _
            refine NoPanic.normal ?_
            go_wp2
            refine ⟨rfl, _, ?_, hS.refQ _⟩
            simp [results, Tryd.results11, go_sem]
          refine AllReadyH.cons (o := { dst := some 106, op := Go.Op.call { callee := Go.Callee.value (Go.Operand.func 16), args := #[Go.Operand.tmp 105], argTypes := #[2] }, type := 2, pos := "ref.go:101", after := #[{ on := 12, ground := Go.Ground.data }, { on := 7, ground := Go.Ground.chain }], guard := none }) rfl (fun K hK => ?_) ?_
          ·
            go_simp
            go_at_call 16; refine (hS.still (hAl.out _)).mono ?_; rintro e w8 ⟨rfl, hS2⟩; clear hS; have hS := hS2; clear hS2
            refine hK.out _ _ ?_ (fun hHeld2 => ?_)
            · (try dsimp only); first | exact hS.fact.2 | exact hS.fact.1.2
            clear hK K hHeld
            have hHeld := hHeld2
            clear hHeld2
            try simp only [Act.put, List.setIfInBounds_toArray, List.set_cons_zero, List.set_cons_succ]
            refine wpAnyH_take (i := 14) (oi := { dst := some 107, op := Go.Op.binOp Go.BinOp.add 2 (Go.Operand.tmp 104) (Go.Operand.tmp 106) 2, type := 2, pos := "ref.go:101", after := #[{ on := 11, ground := Go.Ground.data }, { on := 13, ground := Go.Ground.data }, { on := 15, ground := Go.Ground.gcOnly Go.Departure.lateStores }], guard := none }) (v := ?v26_8) rfl (by kernel_rfl) (by kernel_rfl) (by kernel_rfl) (fun _ _ _ h => h) (Or.inl ⟨by rfl, ?hy26_8⟩) (by assumption) ?rest26_8
            case hy26_8 => (intro w hSw; (try dsimp only at hSw); have y1 := Blk.cell hSw 0; go_simp <;> with_reducible rfl)
            try simp only [Act.put, List.setIfInBounds_toArray, List.set_cons_zero, List.set_cons_succ]
            refine wpAnyH_ready (rs := [8]) (by kernel_rfl) (by simp) ?_
            refine AllReadyH.cons (o := { dst := some 101, op := Go.Op.convert 22 9 (Go.Operand.tmp 100), type := 9, pos := "ref.go:101", after := #[{ on := 7, ground := Go.Ground.data }], guard := none }) rfl (fun K hK => ?_) AllReadyH.nil
            have hst := bs_str hS.fact.2
            go_simp
            refine hK.out _ _ ?_ (fun hHeld2 => ?_)
            · (try dsimp only); first | exact hS.fact.2 | exact hS.fact.1.2
            clear hK K hHeld
            have hHeld := hHeld2
            clear hHeld2
            try simp only [Act.put, List.setIfInBounds_toArray, List.set_cons_zero, List.set_cons_succ]
            refine wpAnyH_take (i := 9) (oi := { dst := some 102, op := Go.Op.binOp Go.BinOp.add 9 (Go.Operand.tmp 95) (Go.Operand.tmp 101) 9, type := 9, pos := "ref.go:101", after := #[{ on := 2, ground := Go.Ground.data }, { on := 8, ground := Go.Ground.data }], guard := none }) (v := ?v27_8) rfl (by kernel_rfl) (by kernel_rfl) (by kernel_rfl) (fun _ _ _ h => h) (Or.inl ⟨by rfl, ?hy27_8⟩) (by assumption) ?rest27_8
            case hy27_8 => (intro w hSw; (try dsimp only at hSw); have y1 := Blk.cell hSw 0; go_simp <;> with_reducible rfl)
            try simp only [Act.put, List.setIfInBounds_toArray, List.set_cons_zero, List.set_cons_succ]
            refine wpAnyH_take (i := 15) (oi := { dst := some 4, op := Go.Op.assign (Go.Operand.tmp 102), type := 9, pos := "ref.go:101", after := #[{ on := 9, ground := Go.Ground.data }, { on := 13, ground := Go.Ground.chain }, { on := 0, ground := Go.Ground.phase }, { on := 1, ground := Go.Ground.phase }, { on := 2, ground := Go.Ground.phase }, { on := 3, ground := Go.Ground.phase }, { on := 4, ground := Go.Ground.phase }, { on := 5, ground := Go.Ground.phase }, { on := 6, ground := Go.Ground.phase }, { on := 7, ground := Go.Ground.phase }, { on := 8, ground := Go.Ground.phase }, { on := 9, ground := Go.Ground.phase }, { on := 10, ground := Go.Ground.textOnly Go.Departure.lateStores }, { on := 11, ground := Go.Ground.textOnly Go.Departure.lateStores }, { on := 12, ground := Go.Ground.textOnly Go.Departure.lateStores }, { on := 13, ground := Go.Ground.textOnly Go.Departure.lateStoresUnsure }, { on := 14, ground := Go.Ground.textOnly Go.Departure.lateStores }], guard := none }) (v := ?v28_8) rfl (by kernel_rfl) (by kernel_rfl) (by kernel_rfl) (fun _ _ _ h => h) (Or.inl ⟨by rfl, ?hy28_8⟩) (by assumption) ?rest28_8
            case hy28_8 => (intro w hSw; (try dsimp only at hSw); have y1 := Blk.cell hSw 0; go_simp <;> with_reducible rfl)
            try simp only [Act.put, List.setIfInBounds_toArray, List.set_cons_zero, List.set_cons_succ]
            refine wpAnyH_take (i := 16) (oi := { dst := some 5, op := Go.Op.assign (Go.Operand.tmp 107), type := 2, pos := "ref.go:101", after := #[{ on := 14, ground := Go.Ground.data }, { on := 15, ground := Go.Ground.chain }, { on := 0, ground := Go.Ground.phase }, { on := 1, ground := Go.Ground.phase }, { on := 2, ground := Go.Ground.phase }, { on := 3, ground := Go.Ground.phase }, { on := 4, ground := Go.Ground.phase }, { on := 5, ground := Go.Ground.phase }, { on := 6, ground := Go.Ground.phase }, { on := 7, ground := Go.Ground.phase }, { on := 8, ground := Go.Ground.phase }, { on := 9, ground := Go.Ground.phase }, { on := 10, ground := Go.Ground.phase }, { on := 11, ground := Go.Ground.phase }, { on := 12, ground := Go.Ground.phase }, { on := 13, ground := Go.Ground.phase }, { on := 14, ground := Go.Ground.phase }, { on := 15, ground := Go.Ground.phase }], guard := none }) (v := ?v29_8) rfl (by kernel_rfl) (by kernel_rfl) (by kernel_rfl) (fun _ _ _ h => h) (Or.inl ⟨by rfl, ?hy29_8⟩) (by assumption) ?rest29_8
            case hy29_8 => (intro w hSw; (try dsimp only at hSw); have y1 := Blk.cell hSw 0; go_simp <;> with_reducible rfl)
            try simp only [Act.put, List.setIfInBounds_toArray, List.set_cons_zero, List.set_cons_succ]
            refine wpAnyH_take (i := 17) (oi := { dst := some 6, op := Go.Op.assign (Go.Operand.const (Go.Value.bool true)), type := 4, pos := "ref.go:101", after := #[{ on := 16, ground := Go.Ground.chain }, { on := 0, ground := Go.Ground.phase }, { on := 1, ground := Go.Ground.phase }, { on := 2, ground := Go.Ground.phase }, { on := 3, ground := Go.Ground.phase }, { on := 4, ground := Go.Ground.phase }, { on := 5, ground := Go.Ground.phase }, { on := 6, ground := Go.Ground.phase }, { on := 7, ground := Go.Ground.phase }, { on := 8, ground := Go.Ground.phase }, { on := 9, ground := Go.Ground.phase }, { on := 10, ground := Go.Ground.phase }, { on := 11, ground := Go.Ground.phase }, { on := 12, ground := Go.Ground.phase }, { on := 13, ground := Go.Ground.phase }, { on := 14, ground := Go.Ground.phase }, { on := 15, ground := Go.Ground.phase }, { on := 16, ground := Go.Ground.phase }], guard := none }) (v := ?v30_8) rfl (by kernel_rfl) (by kernel_rfl) (by kernel_rfl) (fun _ _ _ h => h) (Or.inl ⟨by rfl, ?hy30_8⟩) (by assumption) ?rest30_8
            case hy30_8 => (intro w hSw; (try dsimp only at hSw); have y1 := Blk.cell hSw 0; go_simp <;> with_reducible rfl)
            try simp only [Act.put, List.setIfInBounds_toArray, List.set_cons_zero, List.set_cons_succ]
            refine wpAnyH_done (by kernel_rfl) ?_ _
            refine NoPanic.normal ?_
            go_wp2
            refine ⟨rfl, _, ?_, hS.refQ _⟩
            simp [results, Tryd.results11, go_sem]
          exact AllReadyH.nil
      · have t2 : (nx ≤ bb) = False := eq_false d2
        rw [hnot c1' (fun _ h => d2 h.2)]
        unfold lookE
        clear htxt hnot hb hb8 hhin d1 d2 hba hbb c1' c2 h1s ha16 hni hLd hAl
        rcases hcs with rfl | rfl | rfl
        · go_enter Tryd.func11, Tryd.ntmps11
          go_upto_region 6 with (first
            | (go_at_call 28; refine (hS.read (fun O h => hIn.out _ O h)).mono ?_; rintro e w1 ⟨rfl, hS2⟩; clear hS; have hS := hS2; clear hS2)
            | (go_at_call_of 29 a; refine (hS.read (fun O h => hGa.out _ O h)).mono ?_; rintro e w2 ⟨rfl, hS2⟩; clear hS; have hS := hS2; clear hS2)
            | (go_at_call 30; refine (hS.still (hNum.out _)).mono ?_; rintro e w3 ⟨rfl, hS2⟩; clear hS; have hS := hS2; clear hS2)
            | (go_at_call 31; refine (hS.still (hOf.out _)).mono ?_; rintro e w4 ⟨rfl, hS2⟩; clear hS; have hS := hS2; clear hS2))
          have hS2 := hS.new #[.string pn, .int .i64 pt, .int .i64 pl, .bool pi, .bool pc] 56
          obtain ⟨P, hP⟩ : ∃ P, P = w4.heap.size := ⟨_, rfl⟩
          obtain ⟨w8, hw8⟩ : ∃ w8, w8 = w4.alloc (.cells #[.string pn, .int .i64 pt, .int .i64 pl, .bool pi, .bool pc] 56) := ⟨_, rfl⟩
          rw [← hw8, ← hP] at hS2 ⊢
          clear hw8 hP hS
          have hS := hS2
          clear hS2
          go_upto_region 27 with (first
            | (go_at_call_of 29 a8; refine (hS.read (fun O h => hG8.out _ O h)).mono ?_; rintro e w6 ⟨rfl, hS2⟩; clear hS; have hS := hS2; clear hS2)
            | (go_at_call 28; refine (hS.read (fun O h => hIn8.out _ O h)).mono ?_; rintro e w5 ⟨rfl, hS2⟩; clear hS; have hS := hS2; clear hS2; have y1 := Blk.cell hS.fact.2 0))
          go_wp2_with (go_at_call 33; refine (hS.read (fun O h => hHr.out _ O h)).mono ?_; rintro e w7 ⟨rfl, hS2⟩; clear hS; have hS := hS2; clear hS2; have y1 := Blk.cell hS.fact.2 0)
          refine ⟨rfl, _, ?_, hS.refQ _⟩
          simp [results, Tryd.results11, go_sem]
        · go_enter Tryd.func11, Tryd.ntmps11
          go_upto_region 6 with (first
            | (go_at_call 28; refine (hS.read (fun O h => hIn.out _ O h)).mono ?_; rintro e w1 ⟨rfl, hS2⟩; clear hS; have hS := hS2; clear hS2)
            | (go_at_call_of 29 a; refine (hS.read (fun O h => hGa.out _ O h)).mono ?_; rintro e w2 ⟨rfl, hS2⟩; clear hS; have hS := hS2; clear hS2)
            | (go_at_call 30; refine (hS.still (hNum.out _)).mono ?_; rintro e w3 ⟨rfl, hS2⟩; clear hS; have hS := hS2; clear hS2)
            | (go_at_call 31; refine (hS.still (hOf.out _)).mono ?_; rintro e w4 ⟨rfl, hS2⟩; clear hS; have hS := hS2; clear hS2))
          have hS2 := hS.new #[.string pn, .int .i64 pt, .int .i64 pl, .bool pi, .bool pc] 56
          obtain ⟨P, hP⟩ : ∃ P, P = w4.heap.size := ⟨_, rfl⟩
          obtain ⟨w8, hw8⟩ : ∃ w8, w8 = w4.alloc (.cells #[.string pn, .int .i64 pt, .int .i64 pl, .bool pi, .bool pc] 56) := ⟨_, rfl⟩
          rw [← hw8, ← hP] at hS2 ⊢
          clear hw8 hP hS
          have hS := hS2
          clear hS2
          go_upto_region 27 with (first
            | (go_at_call_of 29 a8; refine (hS.read (fun O h => hG8.out _ O h)).mono ?_; rintro e w6 ⟨rfl, hS2⟩; clear hS; have hS := hS2; clear hS2)
            | (go_at_call 28; refine (hS.read (fun O h => hIn8.out _ O h)).mono ?_; rintro e w5 ⟨rfl, hS2⟩; clear hS; have hS := hS2; clear hS2; have y1 := Blk.cell hS.fact.2 0))
          go_wp2_with (go_at_call 33; refine (hS.read (fun O h => hHr.out _ O h)).mono ?_; rintro e w7 ⟨rfl, hS2⟩; clear hS; have hS := hS2; clear hS2; have y1 := Blk.cell hS.fact.2 0)
          refine ⟨rfl, _, ?_, hS.refQ _⟩
          simp [results, Tryd.results11, go_sem]
        · go_enter Tryd.func11, Tryd.ntmps11
          go_upto_region 6 with (first
            | (go_at_call 28; refine (hS.read (fun O h => hIn.out _ O h)).mono ?_; rintro e w1 ⟨rfl, hS2⟩; clear hS; have hS := hS2; clear hS2)
            | (go_at_call_of 29 a; refine (hS.read (fun O h => hGa.out _ O h)).mono ?_; rintro e w2 ⟨rfl, hS2⟩; clear hS; have hS := hS2; clear hS2)
            | (go_at_call 30; refine (hS.still (hNum.out _)).mono ?_; rintro e w3 ⟨rfl, hS2⟩; clear hS; have hS := hS2; clear hS2)
            | (go_at_call 31; refine (hS.still (hOf.out _)).mono ?_; rintro e w4 ⟨rfl, hS2⟩; clear hS; have hS := hS2; clear hS2))
          have hS2 := hS.new #[.string pn, .int .i64 pt, .int .i64 pl, .bool pi, .bool pc] 56
          obtain ⟨P, hP⟩ : ∃ P, P = w4.heap.size := ⟨_, rfl⟩
          obtain ⟨w8, hw8⟩ : ∃ w8, w8 = w4.alloc (.cells #[.string pn, .int .i64 pt, .int .i64 pl, .bool pi, .bool pc] 56) := ⟨_, rfl⟩
          rw [← hw8, ← hP] at hS2 ⊢
          clear hw8 hP hS
          have hS := hS2
          clear hS2
          go_upto_region 27 with (first
            | (go_at_call_of 29 a8; refine (hS.read (fun O h => hG8.out _ O h)).mono ?_; rintro e w6 ⟨rfl, hS2⟩; clear hS; have hS := hS2; clear hS2)
            | (go_at_call 28; refine (hS.read (fun O h => hIn8.out _ O h)).mono ?_; rintro e w5 ⟨rfl, hS2⟩; clear hS; have hS := hS2; clear hS2; have y1 := Blk.cell hS.fact.2 0))
          go_wp2_with (go_at_call 33; refine (hS.read (fun O h => hHr.out _ O h)).mono ?_; rintro e w7 ⟨rfl, hS2⟩; clear hS; have hS := hS2; clear hS2; have y1 := Blk.cell hS.fact.2 0)
          refine ⟨rfl, _, ?_, hS.refQ _⟩
          simp [results, Tryd.results11, go_sem]
    · have t1 : (0 ≤ nx) = False := eq_false d1
      rw [hnot c1' (fun _ h => d1 h.1)]
      unfold lookE
      clear htxt hnot hb hb8 hhin d1 hba hbb c1' c2 h1s ha16 hni hLd hAl hHr
      rcases hcs with rfl | rfl | rfl
      · go_enter Tryd.func11, Tryd.ntmps11
        go_upto_region 6 with (first
          | (go_at_call 28; refine (hS.read (fun O h => hIn.out _ O h)).mono ?_; rintro e w1 ⟨rfl, hS2⟩; clear hS; have hS := hS2; clear hS2)
          | (go_at_call_of 29 a; refine (hS.read (fun O h => hGa.out _ O h)).mono ?_; rintro e w2 ⟨rfl, hS2⟩; clear hS; have hS := hS2; clear hS2)
          | (go_at_call 30; refine (hS.still (hNum.out _)).mono ?_; rintro e w3 ⟨rfl, hS2⟩; clear hS; have hS := hS2; clear hS2)
          | (go_at_call 31; refine (hS.still (hOf.out _)).mono ?_; rintro e w4 ⟨rfl, hS2⟩; clear hS; have hS := hS2; clear hS2))
        have hS2 := hS.new #[.string pn, .int .i64 pt, .int .i64 pl, .bool pi, .bool pc] 56
        obtain ⟨P, hP⟩ : ∃ P, P = w4.heap.size := ⟨_, rfl⟩
        obtain ⟨w8, hw8⟩ : ∃ w8, w8 = w4.alloc (.cells #[.string pn, .int .i64 pt, .int .i64 pl, .bool pi, .bool pc] 56) := ⟨_, rfl⟩
        rw [← hw8, ← hP] at hS2 ⊢
        clear hw8 hP hS
        have hS := hS2
        clear hS2
        go_wp2_with (first
          | (go_at_call_of 29 a8; refine (hS.read (fun O h => hG8.out _ O h)).mono ?_; rintro e w6 ⟨rfl, hS2⟩; clear hS; have hS := hS2; clear hS2)
          | (go_at_call 28; refine (hS.read (fun O h => hIn8.out _ O h)).mono ?_; rintro e w5 ⟨rfl, hS2⟩; clear hS; have hS := hS2; clear hS2; have y1 := Blk.cell hS.fact.2 0))
        refine ⟨rfl, _, ?_, hS.refQ _⟩
        simp [results, Tryd.results11, go_sem]
      · go_enter Tryd.func11, Tryd.ntmps11
        go_upto_region 6 with (first
          | (go_at_call 28; refine (hS.read (fun O h => hIn.out _ O h)).mono ?_; rintro e w1 ⟨rfl, hS2⟩; clear hS; have hS := hS2; clear hS2)
          | (go_at_call_of 29 a; refine (hS.read (fun O h => hGa.out _ O h)).mono ?_; rintro e w2 ⟨rfl, hS2⟩; clear hS; have hS := hS2; clear hS2)
          | (go_at_call 30; refine (hS.still (hNum.out _)).mono ?_; rintro e w3 ⟨rfl, hS2⟩; clear hS; have hS := hS2; clear hS2)
          | (go_at_call 31; refine (hS.still (hOf.out _)).mono ?_; rintro e w4 ⟨rfl, hS2⟩; clear hS; have hS := hS2; clear hS2))
        have hS2 := hS.new #[.string pn, .int .i64 pt, .int .i64 pl, .bool pi, .bool pc] 56
        obtain ⟨P, hP⟩ : ∃ P, P = w4.heap.size := ⟨_, rfl⟩
        obtain ⟨w8, hw8⟩ : ∃ w8, w8 = w4.alloc (.cells #[.string pn, .int .i64 pt, .int .i64 pl, .bool pi, .bool pc] 56) := ⟨_, rfl⟩
        rw [← hw8, ← hP] at hS2 ⊢
        clear hw8 hP hS
        have hS := hS2
        clear hS2
        go_wp2_with (first
          | (go_at_call_of 29 a8; refine (hS.read (fun O h => hG8.out _ O h)).mono ?_; rintro e w6 ⟨rfl, hS2⟩; clear hS; have hS := hS2; clear hS2)
          | (go_at_call 28; refine (hS.read (fun O h => hIn8.out _ O h)).mono ?_; rintro e w5 ⟨rfl, hS2⟩; clear hS; have hS := hS2; clear hS2; have y1 := Blk.cell hS.fact.2 0))
        refine ⟨rfl, _, ?_, hS.refQ _⟩
        simp [results, Tryd.results11, go_sem]
      · go_enter Tryd.func11, Tryd.ntmps11
        go_upto_region 6 with (first
          | (go_at_call 28; refine (hS.read (fun O h => hIn.out _ O h)).mono ?_; rintro e w1 ⟨rfl, hS2⟩; clear hS; have hS := hS2; clear hS2)
          | (go_at_call_of 29 a; refine (hS.read (fun O h => hGa.out _ O h)).mono ?_; rintro e w2 ⟨rfl, hS2⟩; clear hS; have hS := hS2; clear hS2)
          | (go_at_call 30; refine (hS.still (hNum.out _)).mono ?_; rintro e w3 ⟨rfl, hS2⟩; clear hS; have hS := hS2; clear hS2)
          | (go_at_call 31; refine (hS.still (hOf.out _)).mono ?_; rintro e w4 ⟨rfl, hS2⟩; clear hS; have hS := hS2; clear hS2))
        have hS2 := hS.new #[.string pn, .int .i64 pt, .int .i64 pl, .bool pi, .bool pc] 56
        obtain ⟨P, hP⟩ : ∃ P, P = w4.heap.size := ⟨_, rfl⟩
        obtain ⟨w8, hw8⟩ : ∃ w8, w8 = w4.alloc (.cells #[.string pn, .int .i64 pt, .int .i64 pl, .bool pi, .bool pc] 56) := ⟨_, rfl⟩
        rw [← hw8, ← hP] at hS2 ⊢
        clear hw8 hP hS
        have hS := hS2
        clear hS2
        go_wp2_with (first
          | (go_at_call_of 29 a8; refine (hS.read (fun O h => hG8.out _ O h)).mono ?_; rintro e w6 ⟨rfl, hS2⟩; clear hS; have hS := hS2; clear hS2)
          | (go_at_call 28; refine (hS.read (fun O h => hIn8.out _ O h)).mono ?_; rintro e w5 ⟨rfl, hS2⟩; clear hS; have hS := hS2; clear hS2; have y1 := Blk.cell hS.fact.2 0))
        refine ⟨rfl, _, ?_, hS.refQ _⟩
        simp [results, Tryd.results11, go_sem]
  · have c2' : isTxt n = false := by simpa using c2
    rw [hnot c1' (fun h => absurd h c2)]
    have f8 : (n == 8) = false := by unfold isTxt at c2'; simp at c2' ⊢; omega
    have f9 : (n == 9) = false := by unfold isTxt at c2'; simp at c2' ⊢; omega
    have f10 : (n == 10) = false := by unfold isTxt at c2'; simp at c2' ⊢; omega
    unfold lookE
    clear htxt hnot hb hb8 hhin c1' c2 c2' h1s ha16 hni hLd hAl hHr hx1 hx2 hIs hnum
    go_enter Tryd.func11, Tryd.ntmps11
    go_upto_region 6 with (first
      | (go_at_call 28; refine (hS.read (fun O h => hIn.out _ O h)).mono ?_; rintro e w1 ⟨rfl, hS2⟩; clear hS; have hS := hS2; clear hS2)
      | (go_at_call_of 29 a; refine (hS.read (fun O h => hGa.out _ O h)).mono ?_; rintro e w2 ⟨rfl, hS2⟩; clear hS; have hS := hS2; clear hS2)
      | (go_at_call 30; refine (hS.still (hNum.out _)).mono ?_; rintro e w3 ⟨rfl, hS2⟩; clear hS; have hS := hS2; clear hS2)
      | (go_at_call 31; refine (hS.still (hOf.out _)).mono ?_; rintro e w4 ⟨rfl, hS2⟩; clear hS; have hS := hS2; clear hS2))
    have hS2 := hS.new #[.string pn, .int .i64 pt, .int .i64 pl, .bool pi, .bool pc] 56
    obtain ⟨P, hP⟩ : ∃ P, P = w4.heap.size := ⟨_, rfl⟩
    obtain ⟨w8, hw8⟩ : ∃ w8, w8 = w4.alloc (.cells #[.string pn, .int .i64 pt, .int .i64 pl, .bool pi, .bool pc] 56) := ⟨_, rfl⟩
    rw [← hw8, ← hP] at hS2 ⊢
    clear hw8 hP hS
    have hS := hS2
    clear hS2
    go_wp2_with (first
      | (go_at_call_of 29 a8; refine (hS.read (fun O h => hG8.out _ O h)).mono ?_; rintro e w6 ⟨rfl, hS2⟩; clear hS; have hS := hS2; clear hS2)
      | (go_at_call 28; refine (hS.read (fun O h => hIn8.out _ O h)).mono ?_; rintro e w5 ⟨rfl, hS2⟩; clear hS; have hS := hS2; clear hS2; have y1 := Blk.cell hS.fact.2 0))
    refine ⟨rfl, _, ?_, hS.refQ _⟩
    simp [results, Tryd.results11, go_sem]
end Go.Proofs.YtjihhojlakapnaaDoor
