/- Texts merged: W25. -/
import Derived.Test.YtkcmphjgflbchaaZ13
/- 'ControlDoes'. -/
namespace Go.Proofs.Ytkcmphjgflbchaa
open Go.RowKit
set_option linter.unusedVariables false
set_option linter.unusedSimpArgs false
attribute [local go_sem] cell_set set_set m_undef
attribute [local irreducible] cells19 cells20 rowL tabL ctlV ctlM isC pushM pushT layL loadL

theorem icAtC (K : List Int) (k : Nat) (h : k < K.length) : (ic K)[k]? = some (.int .i64 K[k]) := by simp [ic, List.getElem?_eq_getElem h]
theorem Rv.cellAtC {w : World} {ad : Option Addr} {n n' cap : Nat} {cs : List Value} (h : Rv w 1 (.slice ad n cap) n' cs) (k : Nat) (u : Value) (hu : cs[k]? = some u) : ∃ a, ad = some a ∧ w.cell? (a.add k) = some u := by
  rcases h.2.2 with ⟨e, e2⟩ | ⟨a, cap', e, h5⟩
  · have h1 := h.1
    have := (List.getElem?_eq_some_iff.1 hu).1
    omega
  · cases e; exact ⟨a, rfl, h5 k u hu⟩
theorem push_lay {M : List UInt8} (hM : M.length = 8192) (x : Int) : layL M 0 (loadL (pushM M 32 256 512 x) 0 768) = pushM M 32 256 512 x :=
  lay_load hM (by delta pushM; split <;> first | exact hM | (rw [setM_len, setM_len]; exact hM)) fun z hz => push_far hM x z hz
theorem push_no {M : List UInt8} {x : Int} (h : pushT M 32 256 512 (-3) ≠ 0) : pushM M 32 256 512 x = M := by
  delta pushT at h
  delta pushM
  split
  · rfl
  · rename_i c
    rw [if_neg c] at h
    exact absurd rfl h
set_option maxRecDepth 100000 in
set_option maxHeartbeats 4000000 in
theorem controlDoes {w : World} (v : Value) (l : List UInt8) (h : Rb w v l) (v1 : Value) (K1 : List Int) (hK1 : Rv w 1 v1 K1.length (ic K1)) (_ : ∀ z ∈ K1, isI z)
    (v2 : Value) (K2 : List Int) (hK2 : Rv w 1 v2 K2.length (ic K2)) (_ : ∀ z ∈ K2, isI z) (hn1 : K1.length ≤ 9223372036854775807) (hn2 : K2.length ≤ 9223372036854775807) :
    Calls Try.prog 3 #[v, v1, v2] w fun e w' => e = .returned (.bool true) ∧ Below w.heap.size w w' := by
  obtain ⟨ad, cap, rfl⟩ := h.form
  obtain ⟨ad1, cap1, rfl⟩ := hK1.form
  obtain ⟨ad2, cap2, rfl⟩ := hK2.form
  have hA := Lib.hid (fun w9 => wAwakeC w9)
  by_cases hl : 9000 < l.length
  · clear h hK1 hK2
    have t1 : ((9000 : Int) < (l.length : Int)) = True := by simp; omega
    go_enter Try.func3, Try.ntmps3
    go_wp2_with (go_at_call 6; refine (hA.out _).mono ?_; rintro e w1 ⟨rfl, hb1⟩)
    go_ret
    exact ⟨rfl, hb1⟩
  have t1 : ((9000 : Int) < (l.length : Int)) = False := by simp; omega
  by_cases hn : 200 < K1.length
  · clear h hK1 hK2
    have t2 : ((200 : Int) < (K1.length : Int)) = True := by simp; omega
    go_enter Try.func3, Try.ntmps3
    go_wp2_with (go_at_call 6; refine (hA.out _).mono ?_; rintro e w1 ⟨rfl, hb1⟩)
    go_ret
    exact ⟨rfl, hb1⟩
  have t2 : ((200 : Int) < (K1.length : Int)) = False := by simp; omega
  by_cases hm : 32 < K2.length
  · clear h hK1 hK2
    have t3 : ((32 : Int) < (K2.length : Int)) = True := by simp; omega
    go_enter Try.func3, Try.ntmps3
    go_wp2_with (go_at_call 6; refine (hA.out _).mono ?_; rintro e w1 ⟨rfl, hb1⟩)
    go_ret
    exact ⟨rfl, hb1⟩
  have t3 : ((32 : Int) < (K2.length : Int)) = False := by simp; omega
  have hF1 := Lib.hid (fun (w9 : World) (h9 : Rb w9 (.slice ad l.length cap) l) => wFlatR w9 _ l h9)
  have hF2 := Lib.hid (fun (w9 : World) (h9 : Rb w9 (.slice ad l.length cap) l) => rFlat w9 _ l h9)
  unfold FlatQ at hF1
  have hML := flatL_len l
  generalize flatL l = M at *
  replace h := Lib.hid h
  replace hK1 := Lib.hid hK1
  replace hK2 := Lib.hid hK2
  clear hl
  go_enter Try.func3, Try.ntmps3
  go_wp2_with (first
    | (go_at_call 6; refine (hA.out _).mono ?_; rintro e w1 ⟨rfl, hb1⟩; have h1 := Lib.hid (h.out.below hb1); replace hb1 := Lib.hid hb1)
    | (go_at_call 7; refine (hF1.out _ h1.out).mono ?_; rintro e w2 ⟨mb, O2, rfl, hP2, hb2⟩; have h2 := Lib.hid (h1.out.below hb2); replace hP2 := Lib.hid hP2; replace hb2 := Lib.hid hb2)
    | (go_at_call 8; refine (hF2.out _ h2.out).mono ?_; rintro e w3 ⟨rb, R, rfl, hR3, hb3⟩; have hT := Two.make hb1.out (Keep.emp _ _) hP2.out hb2.out hR3 hb3; clear hR3 hb3))
  clear h1 h2 hb2 hP2 hF1 hF2 hA h hb1
  go_loopw [36] (fun i wr => ∃ (k : Nat) (M' : List UInt8), i = .int .i64 (k : Int) ∧ k ≤ K2.length ∧ M'.length = 8192 ∧ Two w wr mb rb M' M' .emp) (fun i _ => (K2.length - (intOf i).toNat))
  case atStart => exact ⟨0, M, rfl, by omega, hML, hT⟩
  case round =>
    clear hT
    obtain ⟨k, M', rfl, hk, hML', hT⟩ := hrel
    by_cases hlt : k < K2.length
    · have t5 : ((k : Int) < (K2.length : Int)) = True := by simp; omega
      have i1 : (0 : Int) ≤ (k : Int) := by omega
      have i2 : (k : Int) < (K2.length : Int) := by omega
      have wk : IntKind.i64.wrap ((k : Int) + 1) = ((k + 1 : Nat) : Int) := by rw [IntKind.wrap_i64]; omega
      obtain ⟨a, rfl, z0⟩ := hK2.out.cellAtC k _ (icAtC K2 k hlt)
      have z1 := (hT.bel.cell (World.block_lt_of_cell? w _ z0)).trans z0
      clear z0
      generalize K2[k] = x at *
      have hPu := fun (w9 : World) (B rb : Nat) (R : Nat → Prop) (h : RefP w9 B rb M' R) => rPush h x
      have hpl := push_lay hML' x
      have hpn := @push_no M' x
      generalize pushM M' 32 256 512 x = N at *
      obtain ⟨pt, hpt⟩ : ∃ pt, pt = pushT M' 32 256 512 (-3) := ⟨_, rfl⟩
      rw [← hpt] at hPu hpn
      clear hpt
      replace hPu := Lib.hid hPu
      have hlt' := Lib.hid hlt
      by_cases c : pt = 0
      · have tp : (pt == 0) = true := by simp; exact c
        have hLl : (loadL N 0 768).length ≤ 1000000 := by rw [loadL_len]; omega
        have hLy := fun (w9 : World) (B mb : Nat) (O : Nat → Prop) (h : MemP w9 B mb M' O) (hb : B ≤ w9.heap.size) (v9 : Value) (hv : Bs w9 0 v9 (loadL N 0 768)) (hO : ∀ k, v9.ownBlock = some k → ¬ O k) => mLay h hb 0 (by unfold isI; omega) hv hLl hO
        rw [hpl] at hLy
        replace hLy := Lib.hid hLy
        clear c hpl hpn hlt hk hLl
        go_wp2_with (first
      | (go_at_call 12; refine (hT.mem (fun B O h hb => hDw.out _ _ _ _ h hb)).mono ?_; rintro e w7 ⟨rfl, hT2⟩; clear hT; have hT := hT2; clear hT2)
      | (go_at_call 13; refine (hT.ref (fun B R h hb => hDr.out _ _ _ _ h hb)).mono ?_; rintro e w8 ⟨rfl, hT2⟩; clear hT; have hT := hT2; clear hT2)
      | (go_at_call 14; refine (hT.still (hIw.out _)).mono ?_; rintro e w9 ⟨rfl, hT2⟩; clear hT; have hT := hT2; clear hT2)
      | (go_at_call 15; refine (hT.still (hIr.out _)).mono ?_; rintro e w9 ⟨rfl, hT2⟩; clear hT; have hT := hT2; clear hT2)
      | (go_at_call 9; refine (hT.ref (fun B R h hb => hPu.out _ _ _ _ h)).mono ?_; rintro e w4 ⟨rfl, hT2⟩; clear hT; have hT := hT2; clear hT2)
      | (go_at_call 11; refine (hT.refBs (fun B R h => rLoad h 0 768 (by unfold isI; omega))).mono ?_; rintro e w5 ⟨v5, rfl, hT2⟩; clear hT; have hT := hT2; clear hT2)
      | (go_at_call 10; refine (hT.memK (fun B O h hb hk => hLy.out _ _ _ _ h hb _ hk.right.1 (fun k hk2 => (hk.right.2 k hk2).2))).mono ?_; rintro e w6 ⟨rfl, hT2⟩; clear hT; have hT := hT2.weak; clear hT2))
        go_roundw
        case rel => exact ⟨k + 1, N, rfl, hlt'.out, Two.lenM hT, hT⟩
        case measure => have := hlt'.out; simp [intOf]; omega
      · have tp : (pt == 0) = false := by simp; exact c
        have hNM := hpn c
        subst hNM
        clear c hpl hpn hlt hk
        go_wp2_with (first
      | (go_at_call 12; refine (hT.mem (fun B O h hb => hDw.out _ _ _ _ h hb)).mono ?_; rintro e w7 ⟨rfl, hT2⟩; clear hT; have hT := hT2; clear hT2)
      | (go_at_call 13; refine (hT.ref (fun B R h hb => hDr.out _ _ _ _ h hb)).mono ?_; rintro e w8 ⟨rfl, hT2⟩; clear hT; have hT := hT2; clear hT2)
      | (go_at_call 14; refine (hT.still (hIw.out _)).mono ?_; rintro e w9 ⟨rfl, hT2⟩; clear hT; have hT := hT2; clear hT2)
      | (go_at_call 15; refine (hT.still (hIr.out _)).mono ?_; rintro e w9 ⟨rfl, hT2⟩; clear hT; have hT := hT2; clear hT2)
      | (go_at_call 9; refine (hT.ref (fun B R h hb => hPu.out _ _ _ _ h)).mono ?_; rintro e w4 ⟨rfl, hT2⟩; clear hT; have hT := hT2; clear hT2)
      | (go_at_call 11; refine (hT.refBs (fun B R h => rLoad h 0 768 (by unfold isI; omega))).mono ?_; rintro e w5 ⟨v5, rfl, hT2⟩; clear hT; have hT := hT2; clear hT2)
      | (go_at_call 10; refine (hT.memK (fun B O h hb hk => hLy.out _ _ _ _ h hb _ hk.right.1 (fun k hk2 => (hk.right.2 k hk2).2))).mono ?_; rintro e w6 ⟨rfl, hT2⟩; clear hT; have hT := hT2.weak; clear hT2))
        go_roundw
        case rel => exact ⟨k + 1, _, rfl, hlt'.out, Two.lenM hT, hT⟩
        case measure => have := hlt'.out; simp [intOf]; omega
    · have t5 : ((k : Int) < (K2.length : Int)) = False := by simp; omega
      clear hlt hk
      go_wp2
      go_loopw [51] (fun i wr => ∃ (k : Nat) (M' : List UInt8), i = .int .i64 (k : Int) ∧ k ≤ K1.length ∧ Two w wr mb rb M' M' .emp) (fun i _ => (K1.length - (intOf i).toNat))
      case atStart => exact ⟨0, M', rfl, by omega, hT⟩
      case round =>
      clear hT
      obtain ⟨j, N, rfl, hk, hT⟩ := hrel
      by_cases hlt : j < K1.length
      · have t6 : ((j : Int) < (K1.length : Int)) = True := by simp; omega
        have i1 : (0 : Int) ≤ (j : Int) := by omega
        have i2 : (j : Int) < (K1.length : Int) := by omega
        have wk : IntKind.i64.wrap ((j : Int) + 1) = ((j + 1 : Nat) : Int) := by rw [IntKind.wrap_i64]; omega
        obtain ⟨a, rfl, z0⟩ := hK1.out.cellAtC j _ (icAtC K1 j hlt)
        have z1 := (hT.bel.cell (World.block_lt_of_cell? w _ z0)).trans z0
        clear z0
        generalize K1[j] = x at *
        have hDw := fun (w9 : World) (B mb : Nat) (O : Nat → Prop) (h : MemP w9 B mb N O) (hb : B ≤ w9.heap.size) => kDo h hb x
        have hDr := fun (w9 : World) (B rb : Nat) (R : Nat → Prop) (h : RefP w9 B rb N R) (hb : B ≤ w9.heap.size) => rDo h hb x
        have hIw := Lib.hid (fun (w9 : World) => wIsC x w9)
        have hIr := Lib.hid (fun (w9 : World) => rIsC x w9)
        generalize ctlM N x = N2 at *
        generalize ctlV N x = t at *
        generalize isC x = b at *
        replace hDw := Lib.hid hDw
        replace hDr := Lib.hid hDr
        have hlt' := Lib.hid hlt
        have tn : (t != t) = false := by simp
        have tb : (b != b) = false := by simp
        clear hlt hk
        go_wp2_with (first
      | (go_at_call 12; refine (hT.mem (fun B O h hb => hDw.out _ _ _ _ h hb)).mono ?_; rintro e w7 ⟨rfl, hT2⟩; clear hT; have hT := hT2; clear hT2)
      | (go_at_call 13; refine (hT.ref (fun B R h hb => hDr.out _ _ _ _ h hb)).mono ?_; rintro e w8 ⟨rfl, hT2⟩; clear hT; have hT := hT2; clear hT2)
      | (go_at_call 14; refine (hT.still (hIw.out _)).mono ?_; rintro e w9 ⟨rfl, hT2⟩; clear hT; have hT := hT2; clear hT2)
      | (go_at_call 15; refine (hT.still (hIr.out _)).mono ?_; rintro e w9 ⟨rfl, hT2⟩; clear hT; have hT := hT2; clear hT2)
      | (go_at_call 9; refine (hT.ref (fun B R h hb => hPu.out _ _ _ _ h)).mono ?_; rintro e w4 ⟨rfl, hT2⟩; clear hT; have hT := hT2; clear hT2)
      | (go_at_call 11; refine (hT.refBs (fun B R h => rLoad h 0 768 (by unfold isI; omega))).mono ?_; rintro e w5 ⟨v5, rfl, hT2⟩; clear hT; have hT := hT2; clear hT2)
      | (go_at_call 10; refine (hT.memK (fun B O h hb hk => hLy.out _ _ _ _ h hb _ hk.right.1 (fun k hk2 => (hk.right.2 k hk2).2))).mono ?_; rintro e w6 ⟨rfl, hT2⟩; clear hT; have hT := hT2.weak; clear hT2))
        go_roundw
        case rel => exact ⟨j + 1, N2, rfl, hlt'.out, hT⟩
        case measure => have := hlt'.out; simp [intOf]; omega
      · have t6 : ((j : Int) < (K1.length : Int)) = False := by simp; omega
        clear hlt hk
        go_upto_region 20 with fail
        replace hT := hT.drew
        obtain ⟨s2, hS⟩ := hT.val
        obtain ⟨vb, ob, cp, rfl⟩ := hS.form
        clear hT
        have hT := hS
        clear hS
        refine wp_region_noPanic ?_
        refine wp_region_held_drew (S := (fun _ => True)) (by kernel_rfl) ?_ (fun hHeld => ?_)
        · (try dsimp only); (try trivial)
        refine wpAnyH_take (i := 0) (oi := { dst := some 70, op := Go.Op.move (Go.Operand.tmp 7), type := 26, pos := "law.go:49", after := #[], guard := none }) (v := ?v1) rfl (by kernel_rfl) (by kernel_rfl) (by kernel_rfl) (fun _ _ _ h => h) (Or.inl ⟨by rfl, ?hy1⟩) (by assumption) ?rest1
        case hy1 => (intro w hSw; (try dsimp only at hSw); go_simp <;> with_reducible rfl)
        try simp only [Act.put, List.setIfInBounds_toArray, List.set_cons_zero, List.set_cons_succ]
        refine wpAnyH_take (i := 3) (oi := { dst := some 73, op := Go.Op.move (Go.Operand.tmp 8), type := 28, pos := "law.go:49", after := #[], guard := none }) (v := ?v2) rfl (by kernel_rfl) (by kernel_rfl) (by kernel_rfl) (fun _ _ _ h => h) (Or.inl ⟨by rfl, ?hy2⟩) (by assumption) ?rest2
        case hy2 => (intro w hSw; (try dsimp only at hSw); go_simp <;> with_reducible rfl)
        try simp only [Act.put, List.setIfInBounds_toArray, List.set_cons_zero, List.set_cons_succ]
        refine wpAnyH_take (i := 4) (oi := { dst := some 74, op := Go.Op.nilCheck (Go.Operand.tmp 73), type := 0, pos := "law.go:49", after := #[{ on := 3, ground := Go.Ground.data }], guard := none }) (v := ?v3) rfl (by kernel_rfl) (by kernel_rfl) (by kernel_rfl) (fun _ _ _ h => h) (Or.inl ⟨by rfl, ?hy3⟩) (by assumption) ?rest3
        case hy3 => (intro w hSw; (try dsimp only at hSw); go_simp <;> with_reducible rfl)
        try simp only [Act.put, List.setIfInBounds_toArray, List.set_cons_zero, List.set_cons_succ]
        refine wpAnyH_take (i := 5) (oi := { dst := some 75, op := Go.Op.fieldAddr 38 (Go.Operand.tmp 74) 0, type := 0, pos := "law.go:49", after := #[{ on := 4, ground := Go.Ground.data }], guard := none }) (v := ?v4) rfl (by kernel_rfl) (by kernel_rfl) (by kernel_rfl) (fun _ _ _ h => h) (Or.inl ⟨by rfl, ?hy4⟩) (by assumption) ?rest4
        case hy4 => (intro w hSw; (try dsimp only at hSw); go_simp <;> with_reducible rfl)
        try simp only [Act.put, List.setIfInBounds_toArray, List.set_cons_zero, List.set_cons_succ]
        refine wpAnyH_ready (rs := [1, 6]) (by kernel_rfl) (by simp) ?_
        refine AllReadyH.cons (o := { dst := some 71, op := Go.Op.call { callee := Go.Callee.value (Go.Operand.func 16), args := #[Go.Operand.tmp 70], argTypes := #[26] }, type := 22, pos := "law.go:49", after := #[{ on := 0, ground := Go.Ground.data }], guard := none }) rfl (fun K hK => ?_) ?_
        ·
          go_simp
          go_at_call 16; refine (hT.load (fun B O hP hB => mBytes hP hB)).mono ?_; rintro e w5 ⟨v5, rfl, hT2⟩; obtain ⟨a5, c5, rfl, hle5⟩ := hT2.fact.2.len; clear hle5; clear hT; have hT := hT2; clear hT2
          refine hK.out _ _ ?_ (fun hHeld2 => ?_)
          · (try dsimp only); (try trivial)
          clear hK K hHeld
          have hHeld := hHeld2
          clear hHeld2
          try simp only [Act.put, List.setIfInBounds_toArray, List.set_cons_zero, List.set_cons_succ]
          refine wpAnyH_ready (rs := [2, 6]) (by kernel_rfl) (by simp) ?_
          refine AllReadyH.cons (o := { dst := some 72, op := Go.Op.convert 22 9 (Go.Operand.tmp 71), type := 9, pos := "law.go:49", after := #[{ on := 1, ground := Go.Ground.data }], guard := none }) rfl (fun K hK => ?_) ?_
          ·
            have estr := Bs.str (P := Try.prog) hT.fact.2 (src := 22) (dst := 9) Try.underlying22 Try.underlying5 Try.underlying9
            go_simp
            refine hK.out _ _ ?_ (fun hHeld2 => ?_)
            · (try dsimp only); (try trivial)
            clear hK K hHeld
            have hHeld := hHeld2
            clear hHeld2
            try simp only [Act.put, List.setIfInBounds_toArray, List.set_cons_zero, List.set_cons_succ]
            refine wpAnyH_ready (rs := [6]) (by kernel_rfl) (by simp) ?_
            refine AllReadyH.cons (o := { dst := some 76, op := Go.Op.load 22 (Go.Operand.tmp 75), type := 22, pos := "law.go:49", after := #[{ on := 5, ground := Go.Ground.data }], guard := none }) rfl (fun K hK => ?_) AllReadyH.nil
            have rc := hT.cell
            go_simp
            refine hK.out _ _ ?_ (fun hHeld2 => ?_)
            · (try dsimp only); (try trivial)
            clear hK K hHeld
            have hHeld := hHeld2
            clear hHeld2
            try simp only [Act.put, List.setIfInBounds_toArray, List.set_cons_zero, List.set_cons_succ]
            refine wpAnyH_ready (rs := [7]) (by kernel_rfl) (by simp) ?_
            refine AllReadyH.cons (o := { dst := some 77, op := Go.Op.convert 22 9 (Go.Operand.tmp 76), type := 9, pos := "law.go:49", after := #[{ on := 6, ground := Go.Ground.data }], guard := none }) rfl (fun K hK => ?_) AllReadyH.nil
            have rstr := Bs.str (P := Try.prog) hT.bs (src := 22) (dst := 9) Try.underlying22 Try.underlying5 Try.underlying9
            go_simp
            refine hK.out _ _ ?_ (fun hHeld2 => ?_)
            · (try dsimp only); (try trivial)
            clear hK K hHeld
            have hHeld := hHeld2
            clear hHeld2
            try simp only [Act.put, List.setIfInBounds_toArray, List.set_cons_zero, List.set_cons_succ]
            refine wpAnyH_take (i := 8) (oi := { dst := some 78, op := Go.Op.binOp Go.BinOp.eql 9 (Go.Operand.tmp 72) (Go.Operand.tmp 77) 9, type := 4, pos := "law.go:49", after := #[{ on := 2, ground := Go.Ground.data }, { on := 7, ground := Go.Ground.data }], guard := none }) (v := ?v5) rfl (by kernel_rfl) (by kernel_rfl) (by kernel_rfl) (fun _ _ _ h => h) (Or.inl ⟨by rfl, ?hy5⟩) (by assumption) ?rest5
            case hy5 => (intro w hSw; (try dsimp only at hSw); go_simp <;> with_reducible rfl)
            try simp only [Act.put, List.setIfInBounds_toArray, List.set_cons_zero, List.set_cons_succ]
            refine wpAnyH_take (i := 9) (oi := { dst := some 6, op := Go.Op.assign (Go.Operand.tmp 78), type := 4, pos := "law.go:49", after := #[{ on := 8, ground := Go.Ground.data }, { on := 1, ground := Go.Ground.chain }, { on := 0, ground := Go.Ground.phase }, { on := 1, ground := Go.Ground.phase }, { on := 2, ground := Go.Ground.phase }, { on := 3, ground := Go.Ground.phase }, { on := 4, ground := Go.Ground.phase }, { on := 5, ground := Go.Ground.phase }, { on := 6, ground := Go.Ground.phase }, { on := 7, ground := Go.Ground.phase }, { on := 8, ground := Go.Ground.phase }], guard := none }) (v := ?v6) rfl (by kernel_rfl) (by kernel_rfl) (by kernel_rfl) (fun _ _ _ h => h) (Or.inl ⟨by rfl, ?hy6⟩) (by assumption) ?rest6
            case hy6 => (intro w hSw; (try dsimp only at hSw); go_simp <;> with_reducible rfl)
            try simp only [Act.put, List.setIfInBounds_toArray, List.set_cons_zero, List.set_cons_succ]
            refine wpAnyH_done (by kernel_rfl) ?_ _
            refine NoPanic.normal ?_
            go_wp2
            go_ret
            exact ⟨rfl, hT.two.bel⟩
          refine AllReadyH.cons (o := { dst := some 76, op := Go.Op.load 22 (Go.Operand.tmp 75), type := 22, pos := "law.go:49", after := #[{ on := 5, ground := Go.Ground.data }], guard := none }) rfl (fun K hK => ?_) ?_
          ·
            have rc := hT.cell
            go_simp
            refine hK.out _ _ ?_ (fun hHeld2 => ?_)
            · (try dsimp only); (try trivial)
            clear hK K hHeld
            have hHeld := hHeld2
            clear hHeld2
            try simp only [Act.put, List.setIfInBounds_toArray, List.set_cons_zero, List.set_cons_succ]
            refine wpAnyH_ready (rs := [2, 7]) (by kernel_rfl) (by simp) ?_
            refine AllReadyH.cons (o := { dst := some 72, op := Go.Op.convert 22 9 (Go.Operand.tmp 71), type := 9, pos := "law.go:49", after := #[{ on := 1, ground := Go.Ground.data }], guard := none }) rfl (fun K hK => ?_) ?_
            ·
              have estr := Bs.str (P := Try.prog) hT.fact.2 (src := 22) (dst := 9) Try.underlying22 Try.underlying5 Try.underlying9
              go_simp
              refine hK.out _ _ ?_ (fun hHeld2 => ?_)
              · (try dsimp only); (try trivial)
              clear hK K hHeld
              have hHeld := hHeld2
              clear hHeld2
              try simp only [Act.put, List.setIfInBounds_toArray, List.set_cons_zero, List.set_cons_succ]
              refine wpAnyH_ready (rs := [7]) (by kernel_rfl) (by simp) ?_
              refine AllReadyH.cons (o := { dst := some 77, op := Go.Op.convert 22 9 (Go.Operand.tmp 76), type := 9, pos := "law.go:49", after := #[{ on := 6, ground := Go.Ground.data }], guard := none }) rfl (fun K hK => ?_) AllReadyH.nil
              have rstr := Bs.str (P := Try.prog) hT.bs (src := 22) (dst := 9) Try.underlying22 Try.underlying5 Try.underlying9
              go_simp
              refine hK.out _ _ ?_ (fun hHeld2 => ?_)
              · (try dsimp only); (try trivial)
              clear hK K hHeld
              have hHeld := hHeld2
              clear hHeld2
              try simp only [Act.put, List.setIfInBounds_toArray, List.set_cons_zero, List.set_cons_succ]
              refine wpAnyH_take (i := 8) (oi := { dst := some 78, op := Go.Op.binOp Go.BinOp.eql 9 (Go.Operand.tmp 72) (Go.Operand.tmp 77) 9, type := 4, pos := "law.go:49", after := #[{ on := 2, ground := Go.Ground.data }, { on := 7, ground := Go.Ground.data }], guard := none }) (v := ?v7) rfl (by kernel_rfl) (by kernel_rfl) (by kernel_rfl) (fun _ _ _ h => h) (Or.inl ⟨by rfl, ?hy7⟩) (by assumption) ?rest7
              case hy7 => (intro w hSw; (try dsimp only at hSw); go_simp <;> with_reducible rfl)
              try simp only [Act.put, List.setIfInBounds_toArray, List.set_cons_zero, List.set_cons_succ]
              refine wpAnyH_take (i := 9) (oi := { dst := some 6, op := Go.Op.assign (Go.Operand.tmp 78), type := 4, pos := "law.go:49", after := #[{ on := 8, ground := Go.Ground.data }, { on := 1, ground := Go.Ground.chain }, { on := 0, ground := Go.Ground.phase }, { on := 1, ground := Go.Ground.phase }, { on := 2, ground := Go.Ground.phase }, { on := 3, ground := Go.Ground.phase }, { on := 4, ground := Go.Ground.phase }, { on := 5, ground := Go.Ground.phase }, { on := 6, ground := Go.Ground.phase }, { on := 7, ground := Go.Ground.phase }, { on := 8, ground := Go.Ground.phase }], guard := none }) (v := ?v8) rfl (by kernel_rfl) (by kernel_rfl) (by kernel_rfl) (fun _ _ _ h => h) (Or.inl ⟨by rfl, ?hy8⟩) (by assumption) ?rest8
              case hy8 => (intro w hSw; (try dsimp only at hSw); go_simp <;> with_reducible rfl)
              try simp only [Act.put, List.setIfInBounds_toArray, List.set_cons_zero, List.set_cons_succ]
              refine wpAnyH_done (by kernel_rfl) ?_ _
              refine NoPanic.normal ?_
              go_wp2
              go_ret
              exact ⟨rfl, hT.two.bel⟩
            refine AllReadyH.cons (o := { dst := some 77, op := Go.Op.convert 22 9 (Go.Operand.tmp 76), type := 9, pos := "law.go:49", after := #[{ on := 6, ground := Go.Ground.data }], guard := none }) rfl (fun K hK => ?_) ?_
            ·
              have rstr := Bs.str (P := Try.prog) hT.bs (src := 22) (dst := 9) Try.underlying22 Try.underlying5 Try.underlying9
              go_simp
              refine hK.out _ _ ?_ (fun hHeld2 => ?_)
              · (try dsimp only); (try trivial)
              clear hK K hHeld
              have hHeld := hHeld2
              clear hHeld2
              try simp only [Act.put, List.setIfInBounds_toArray, List.set_cons_zero, List.set_cons_succ]
              refine wpAnyH_ready (rs := [2]) (by kernel_rfl) (by simp) ?_
              refine AllReadyH.cons (o := { dst := some 72, op := Go.Op.convert 22 9 (Go.Operand.tmp 71), type := 9, pos := "law.go:49", after := #[{ on := 1, ground := Go.Ground.data }], guard := none }) rfl (fun K hK => ?_) AllReadyH.nil
              have estr := Bs.str (P := Try.prog) hT.fact.2 (src := 22) (dst := 9) Try.underlying22 Try.underlying5 Try.underlying9
              go_simp
              refine hK.out _ _ ?_ (fun hHeld2 => ?_)
              · (try dsimp only); (try trivial)
              clear hK K hHeld
              have hHeld := hHeld2
              clear hHeld2
              try simp only [Act.put, List.setIfInBounds_toArray, List.set_cons_zero, List.set_cons_succ]
              refine wpAnyH_take (i := 8) (oi := { dst := some 78, op := Go.Op.binOp Go.BinOp.eql 9 (Go.Operand.tmp 72) (Go.Operand.tmp 77) 9, type := 4, pos := "law.go:49", after := #[{ on := 2, ground := Go.Ground.data }, { on := 7, ground := Go.Ground.data }], guard := none }) (v := ?v9) rfl (by kernel_rfl) (by kernel_rfl) (by kernel_rfl) (fun _ _ _ h => h) (Or.inl ⟨by rfl, ?hy9⟩) (by assumption) ?rest9
              case hy9 => (intro w hSw; (try dsimp only at hSw); go_simp <;> with_reducible rfl)
              try simp only [Act.put, List.setIfInBounds_toArray, List.set_cons_zero, List.set_cons_succ]
              refine wpAnyH_take (i := 9) (oi := { dst := some 6, op := Go.Op.assign (Go.Operand.tmp 78), type := 4, pos := "law.go:49", after := #[{ on := 8, ground := Go.Ground.data }, { on := 1, ground := Go.Ground.chain }, { on := 0, ground := Go.Ground.phase }, { on := 1, ground := Go.Ground.phase }, { on := 2, ground := Go.Ground.phase }, { on := 3, ground := Go.Ground.phase }, { on := 4, ground := Go.Ground.phase }, { on := 5, ground := Go.Ground.phase }, { on := 6, ground := Go.Ground.phase }, { on := 7, ground := Go.Ground.phase }, { on := 8, ground := Go.Ground.phase }], guard := none }) (v := ?v10) rfl (by kernel_rfl) (by kernel_rfl) (by kernel_rfl) (fun _ _ _ h => h) (Or.inl ⟨by rfl, ?hy10⟩) (by assumption) ?rest10
              case hy10 => (intro w hSw; (try dsimp only at hSw); go_simp <;> with_reducible rfl)
              try simp only [Act.put, List.setIfInBounds_toArray, List.set_cons_zero, List.set_cons_succ]
              refine wpAnyH_done (by kernel_rfl) ?_ _
              refine NoPanic.normal ?_
              go_wp2
              go_ret
              exact ⟨rfl, hT.two.bel⟩
            exact AllReadyH.nil
          exact AllReadyH.nil
        refine AllReadyH.cons (o := { dst := some 76, op := Go.Op.load 22 (Go.Operand.tmp 75), type := 22, pos := "law.go:49", after := #[{ on := 5, ground := Go.Ground.data }], guard := none }) rfl (fun K hK => ?_) ?_
        ·
          have rc := hT.cell
          go_simp
          refine hK.out _ _ ?_ (fun hHeld2 => ?_)
          · (try dsimp only); (try trivial)
          clear hK K hHeld
          have hHeld := hHeld2
          clear hHeld2
          try simp only [Act.put, List.setIfInBounds_toArray, List.set_cons_zero, List.set_cons_succ]
          refine wpAnyH_ready (rs := [1, 7]) (by kernel_rfl) (by simp) ?_
          refine AllReadyH.cons (o := { dst := some 71, op := Go.Op.call { callee := Go.Callee.value (Go.Operand.func 16), args := #[Go.Operand.tmp 70], argTypes := #[26] }, type := 22, pos := "law.go:49", after := #[{ on := 0, ground := Go.Ground.data }], guard := none }) rfl (fun K hK => ?_) ?_
          ·
            go_simp
            go_at_call 16; refine (hT.load (fun B O hP hB => mBytes hP hB)).mono ?_; rintro e w5 ⟨v5, rfl, hT2⟩; obtain ⟨a5, c5, rfl, hle5⟩ := hT2.fact.2.len; clear hle5; clear hT; have hT := hT2; clear hT2
            refine hK.out _ _ ?_ (fun hHeld2 => ?_)
            · (try dsimp only); (try trivial)
            clear hK K hHeld
            have hHeld := hHeld2
            clear hHeld2
            try simp only [Act.put, List.setIfInBounds_toArray, List.set_cons_zero, List.set_cons_succ]
            refine wpAnyH_ready (rs := [2, 7]) (by kernel_rfl) (by simp) ?_
            refine AllReadyH.cons (o := { dst := some 72, op := Go.Op.convert 22 9 (Go.Operand.tmp 71), type := 9, pos := "law.go:49", after := #[{ on := 1, ground := Go.Ground.data }], guard := none }) rfl (fun K hK => ?_) ?_
            ·
              have estr := Bs.str (P := Try.prog) hT.fact.2 (src := 22) (dst := 9) Try.underlying22 Try.underlying5 Try.underlying9
              go_simp
              refine hK.out _ _ ?_ (fun hHeld2 => ?_)
              · (try dsimp only); (try trivial)
              clear hK K hHeld
              have hHeld := hHeld2
              clear hHeld2
              try simp only [Act.put, List.setIfInBounds_toArray, List.set_cons_zero, List.set_cons_succ]
              refine wpAnyH_ready (rs := [7]) (by kernel_rfl) (by simp) ?_
              refine AllReadyH.cons (o := { dst := some 77, op := Go.Op.convert 22 9 (Go.Operand.tmp 76), type := 9, pos := "law.go:49", after := #[{ on := 6, ground := Go.Ground.data }], guard := none }) rfl (fun K hK => ?_) AllReadyH.nil
              have rstr := Bs.str (P := Try.prog) hT.bs (src := 22) (dst := 9) Try.underlying22 Try.underlying5 Try.underlying9
              go_simp
              refine hK.out _ _ ?_ (fun hHeld2 => ?_)
              · (try dsimp only); (try trivial)
              clear hK K hHeld
              have hHeld := hHeld2
              clear hHeld2
              try simp only [Act.put, List.setIfInBounds_toArray, List.set_cons_zero, List.set_cons_succ]
              refine wpAnyH_take (i := 8) (oi := { dst := some 78, op := Go.Op.binOp Go.BinOp.eql 9 (Go.Operand.tmp 72) (Go.Operand.tmp 77) 9, type := 4, pos := "law.go:49", after := #[{ on := 2, ground := Go.Ground.data }, { on := 7, ground := Go.Ground.data }], guard := none }) (v := ?v11) rfl (by kernel_rfl) (by kernel_rfl) (by kernel_rfl) (fun _ _ _ h => h) (Or.inl ⟨by rfl, ?hy11⟩) (by assumption) ?rest11
              case hy11 => (intro w hSw; (try dsimp only at hSw); go_simp <;> with_reducible rfl)
              try simp only [Act.put, List.setIfInBounds_toArray, List.set_cons_zero, List.set_cons_succ]
              refine wpAnyH_take (i := 9) (oi := { dst := some 6, op := Go.Op.assign (Go.Operand.tmp 78), type := 4, pos := "law.go:49", after := #[{ on := 8, ground := Go.Ground.data }, { on := 1, ground := Go.Ground.chain }, { on := 0, ground := Go.Ground.phase }, { on := 1, ground := Go.Ground.phase }, { on := 2, ground := Go.Ground.phase }, { on := 3, ground := Go.Ground.phase }, { on := 4, ground := Go.Ground.phase }, { on := 5, ground := Go.Ground.phase }, { on := 6, ground := Go.Ground.phase }, { on := 7, ground := Go.Ground.phase }, { on := 8, ground := Go.Ground.phase }], guard := none }) (v := ?v12) rfl (by kernel_rfl) (by kernel_rfl) (by kernel_rfl) (fun _ _ _ h => h) (Or.inl ⟨by rfl, ?hy12⟩) (by assumption) ?rest12
              case hy12 => (intro w hSw; (try dsimp only at hSw); go_simp <;> with_reducible rfl)
              try simp only [Act.put, List.setIfInBounds_toArray, List.set_cons_zero, List.set_cons_succ]
              refine wpAnyH_done (by kernel_rfl) ?_ _
              refine NoPanic.normal ?_
              go_wp2
              go_ret
              exact ⟨rfl, hT.two.bel⟩
            refine AllReadyH.cons (o := { dst := some 77, op := Go.Op.convert 22 9 (Go.Operand.tmp 76), type := 9, pos := "law.go:49", after := #[{ on := 6, ground := Go.Ground.data }], guard := none }) rfl (fun K hK => ?_) ?_
            ·
              have rstr := Bs.str (P := Try.prog) hT.bs (src := 22) (dst := 9) Try.underlying22 Try.underlying5 Try.underlying9
              go_simp
              refine hK.out _ _ ?_ (fun hHeld2 => ?_)
              · (try dsimp only); (try trivial)
              clear hK K hHeld
              have hHeld := hHeld2
              clear hHeld2
              try simp only [Act.put, List.setIfInBounds_toArray, List.set_cons_zero, List.set_cons_succ]
              refine wpAnyH_ready (rs := [2]) (by kernel_rfl) (by simp) ?_
              refine AllReadyH.cons (o := { dst := some 72, op := Go.Op.convert 22 9 (Go.Operand.tmp 71), type := 9, pos := "law.go:49", after := #[{ on := 1, ground := Go.Ground.data }], guard := none }) rfl (fun K hK => ?_) AllReadyH.nil
              have estr := Bs.str (P := Try.prog) hT.fact.2 (src := 22) (dst := 9) Try.underlying22 Try.underlying5 Try.underlying9
              go_simp
              refine hK.out _ _ ?_ (fun hHeld2 => ?_)
              · (try dsimp only); (try trivial)
              clear hK K hHeld
              have hHeld := hHeld2
              clear hHeld2
              try simp only [Act.put, List.setIfInBounds_toArray, List.set_cons_zero, List.set_cons_succ]
              refine wpAnyH_take (i := 8) (oi := { dst := some 78, op := Go.Op.binOp Go.BinOp.eql 9 (Go.Operand.tmp 72) (Go.Operand.tmp 77) 9, type := 4, pos := "law.go:49", after := #[{ on := 2, ground := Go.Ground.data }, { on := 7, ground := Go.Ground.data }], guard := none }) (v := ?v13) rfl (by kernel_rfl) (by kernel_rfl) (by kernel_rfl) (fun _ _ _ h => h) (Or.inl ⟨by rfl, ?hy13⟩) (by assumption) ?rest13
              case hy13 => (intro w hSw; (try dsimp only at hSw); go_simp <;> with_reducible rfl)
              try simp only [Act.put, List.setIfInBounds_toArray, List.set_cons_zero, List.set_cons_succ]
              refine wpAnyH_take (i := 9) (oi := { dst := some 6, op := Go.Op.assign (Go.Operand.tmp 78), type := 4, pos := "law.go:49", after := #[{ on := 8, ground := Go.Ground.data }, { on := 1, ground := Go.Ground.chain }, { on := 0, ground := Go.Ground.phase }, { on := 1, ground := Go.Ground.phase }, { on := 2, ground := Go.Ground.phase }, { on := 3, ground := Go.Ground.phase }, { on := 4, ground := Go.Ground.phase }, { on := 5, ground := Go.Ground.phase }, { on := 6, ground := Go.Ground.phase }, { on := 7, ground := Go.Ground.phase }, { on := 8, ground := Go.Ground.phase }], guard := none }) (v := ?v14) rfl (by kernel_rfl) (by kernel_rfl) (by kernel_rfl) (fun _ _ _ h => h) (Or.inl ⟨by rfl, ?hy14⟩) (by assumption) ?rest14
              case hy14 => (intro w hSw; (try dsimp only at hSw); go_simp <;> with_reducible rfl)
              try simp only [Act.put, List.setIfInBounds_toArray, List.set_cons_zero, List.set_cons_succ]
              refine wpAnyH_done (by kernel_rfl) ?_ _
              refine NoPanic.normal ?_
              go_wp2
              go_ret
              exact ⟨rfl, hT.two.bel⟩
            exact AllReadyH.nil
          refine AllReadyH.cons (o := { dst := some 77, op := Go.Op.convert 22 9 (Go.Operand.tmp 76), type := 9, pos := "law.go:49", after := #[{ on := 6, ground := Go.Ground.data }], guard := none }) rfl (fun K hK => ?_) ?_
          ·
            have rstr := Bs.str (P := Try.prog) hT.bs (src := 22) (dst := 9) Try.underlying22 Try.underlying5 Try.underlying9
            go_simp
            refine hK.out _ _ ?_ (fun hHeld2 => ?_)
            · (try dsimp only); (try trivial)
            clear hK K hHeld
            have hHeld := hHeld2
            clear hHeld2
            try simp only [Act.put, List.setIfInBounds_toArray, List.set_cons_zero, List.set_cons_succ]
            refine wpAnyH_ready (rs := [1]) (by kernel_rfl) (by simp) ?_
            refine AllReadyH.cons (o := { dst := some 71, op := Go.Op.call { callee := Go.Callee.value (Go.Operand.func 16), args := #[Go.Operand.tmp 70], argTypes := #[26] }, type := 22, pos := "law.go:49", after := #[{ on := 0, ground := Go.Ground.data }], guard := none }) rfl (fun K hK => ?_) AllReadyH.nil
            go_simp
            go_at_call 16; refine (hT.load (fun B O hP hB => mBytes hP hB)).mono ?_; rintro e w5 ⟨v5, rfl, hT2⟩; obtain ⟨a5, c5, rfl, hle5⟩ := hT2.fact.2.len; clear hle5; clear hT; have hT := hT2; clear hT2
            refine hK.out _ _ ?_ (fun hHeld2 => ?_)
            · (try dsimp only); (try trivial)
            clear hK K hHeld
            have hHeld := hHeld2
            clear hHeld2
            try simp only [Act.put, List.setIfInBounds_toArray, List.set_cons_zero, List.set_cons_succ]
            refine wpAnyH_ready (rs := [2]) (by kernel_rfl) (by simp) ?_
            refine AllReadyH.cons (o := { dst := some 72, op := Go.Op.convert 22 9 (Go.Operand.tmp 71), type := 9, pos := "law.go:49", after := #[{ on := 1, ground := Go.Ground.data }], guard := none }) rfl (fun K hK => ?_) AllReadyH.nil
            have estr := Bs.str (P := Try.prog) hT.fact.2 (src := 22) (dst := 9) Try.underlying22 Try.underlying5 Try.underlying9
            go_simp
            refine hK.out _ _ ?_ (fun hHeld2 => ?_)
            · (try dsimp only); (try trivial)
            clear hK K hHeld
            have hHeld := hHeld2
            clear hHeld2
            try simp only [Act.put, List.setIfInBounds_toArray, List.set_cons_zero, List.set_cons_succ]
            refine wpAnyH_take (i := 8) (oi := { dst := some 78, op := Go.Op.binOp Go.BinOp.eql 9 (Go.Operand.tmp 72) (Go.Operand.tmp 77) 9, type := 4, pos := "law.go:49", after := #[{ on := 2, ground := Go.Ground.data }, { on := 7, ground := Go.Ground.data }], guard := none }) (v := ?v15) rfl (by kernel_rfl) (by kernel_rfl) (by kernel_rfl) (fun _ _ _ h => h) (Or.inl ⟨by rfl, ?hy15⟩) (by assumption) ?rest15
            case hy15 => (intro w hSw; (try dsimp only at hSw); go_simp <;> with_reducible rfl)
            try simp only [Act.put, List.setIfInBounds_toArray, List.set_cons_zero, List.set_cons_succ]
            refine wpAnyH_take (i := 9) (oi := { dst := some 6, op := Go.Op.assign (Go.Operand.tmp 78), type := 4, pos := "law.go:49", after := #[{ on := 8, ground := Go.Ground.data }, { on := 1, ground := Go.Ground.chain }, { on := 0, ground := Go.Ground.phase }, { on := 1, ground := Go.Ground.phase }, { on := 2, ground := Go.Ground.phase }, { on := 3, ground := Go.Ground.phase }, { on := 4, ground := Go.Ground.phase }, { on := 5, ground := Go.Ground.phase }, { on := 6, ground := Go.Ground.phase }, { on := 7, ground := Go.Ground.phase }, { on := 8, ground := Go.Ground.phase }], guard := none }) (v := ?v16) rfl (by kernel_rfl) (by kernel_rfl) (by kernel_rfl) (fun _ _ _ h => h) (Or.inl ⟨by rfl, ?hy16⟩) (by assumption) ?rest16
            case hy16 => (intro w hSw; (try dsimp only at hSw); go_simp <;> with_reducible rfl)
            try simp only [Act.put, List.setIfInBounds_toArray, List.set_cons_zero, List.set_cons_succ]
            refine wpAnyH_done (by kernel_rfl) ?_ _
            refine NoPanic.normal ?_
            go_wp2
            go_ret
            exact ⟨rfl, hT.two.bel⟩
          exact AllReadyH.nil
        exact AllReadyH.nil
end Go.Proofs.Ytkcmphjgflbchaa
