/- Whether two maps stand alike. -/
import Derived.Test.YtekfceolignihaaDoorS20
namespace Go.Proofs.YtekfceolignihaaDoor
open Go.RowKit
set_option linter.unusedVariables false
set_option linter.unusedSimpArgs false
attribute [local go_sem] cell_set set_set m_undef
attribute [local irreducible] freeW cnt freeL

set_option maxHeartbeats 4000000 in
theorem wAlike {W w : World} {K : Kp} {mb cb fb cc fc rb hb rc : Nat} {C : List Int} {T U R : List Value} {mk : Bool} (h : Pls W w ((K.and (RefB rb hb C rc R)).and (MapC mb cb fb C cc fc T U mk)))
    (hn : C.length ≤ 1000000) {b : Int} (hg : Good b C) :
    Calls Tryd.prog 16 #[.pointer (some ⟨mb, 0, none⟩), .pointer (some ⟨rb, 0, none⟩)] w fun e w' => e = .returned (.bool true) ∧ Pls W w' ((K.and (RefB rb hb C rc R)).and (MapC mb cb fb C cc fc T U mk)) := by
  have hlu : (usedL C).length ≤ 1000000 := by
    have : (usedL C).length ≤ C.length := usedTo_len C C.length
    omega
  go_enter Tryd.func16, Tryd.ntmps16
  go_upto_region 1 with fail
  go_upto_region 2 with (first
    | (go_at_call 12; refine (kUsed h hn).mono ?_; rintro e w2 ⟨v, rfl, hS1, hown1⟩; have hS2 : Pls W w2 (((K.and (MapC mb cb fb C cc fc T U mk)).and (.vs 1 v (usedL C).length (ints (usedL C)))).and (RefB rb hb C rc R)) := hS1.keep (fun h => ⟨⟨⟨h.1.1.1, h.1.2⟩, h.2⟩, h.1.1.2⟩) (fun k hk => by
        rcases hk with ((hk | hk) | hk) | hk
        · exact .inl (.inl (.inl hk))
        · exact .inl (.inr hk)
        · exact .inr hk
        · exact .inl (.inl (.inr hk))); clear hS1 hown1)
    | (go_at_call 27; refine (rUsed hS2 hn hg).mono ?_; rintro e w3 ⟨v2, rfl, hS3, hown2⟩; clear hS2 hown2))
  obtain ⟨au, cu, rfl, hcu⟩ := (show Vs w3 0 1 v _ _ from hS3.fact.1.1.2).form
  obtain ⟨au2, cu2, rfl, hcu2⟩ := (show Vs w3 0 1 v2 _ _ from hS3.fact.2).form
  obtain ⟨L, hL⟩ : ∃ L, L = usedL C := ⟨_, rfl⟩
  rw [← hL] at hS3 hlu ⊢
  clear hcu hcu2 hL
  have hS4 : Pls W w3 ((((K.and (MapC mb cb fb C cc fc T U mk)).and (.vs 1 (.slice au L.length cu) L.length (ints L))).and (.vs 1 (.slice au2 L.length cu2) L.length (ints L))).and (RefB rb hb C rc R)) := Pls.swap2 hS3
  clear hS3
  replace h := Lib.hid h
  go_upto_region 4 with (first
    | (go_at_call 13; refine (kFree (w := w3) hS4.fact.1.1.1.2 hn).mono ?_; rintro e w8 ⟨rfl, rfl⟩)
    | (go_at_call 28; refine (rFree hS4 hn hg).mono ?_; rintro e w4 ⟨rfl, hS5⟩))
  have hS := Pls.swap2 hS5
  have hS : Pls W w4 ((((K.and (MapC mb cb fb C cc fc T U mk)).and (.vs 1 (.slice au L.length cu) L.length (ints L))).and (RefB rb hb C rc R)).and (.vs 1 (.slice au2 L.length cu2) L.length (ints L))) := hS
  clear hS5 hS4
  go_wp2
  go_loopw [26] (fun i wr2 => ∃ j : Nat, i = .int .i64 (j : Int) ∧ j ≤ L.length ∧ Pls W wr2 ((((K.and (MapC mb cb fb C cc fc T U mk)).and (.vs 1 (.slice au L.length cu) L.length (ints L))).and (RefB rb hb C rc R)).and (.vs 1 (.slice au2 L.length cu2) L.length (ints L)))) (fun i _ => (L.length - (intOf i).toNat))
  case atStart => exact ⟨0, rfl, by omega, hS⟩
  case round =>
    obtain ⟨j, rfl, hj, hS⟩ := hrel
    by_cases hjl : j < L.length
    · obtain ⟨bv, o, cp, e⟩ := (show Vs wr 0 1 (.slice au L.length cu) L.length (ints L) from hS.fact.1.1.2).some_of (by omega)
      cases e
      obtain ⟨bv2, o2, cp2, e⟩ := (show Vs wr 0 1 (.slice au2 L.length cu2) L.length (ints L) from hS.fact.2).some_of (by omega)
      cases e
      have hx : L[j]? = some L[j] := List.getElem?_eq_getElem hjl
      have c1 := (show Vs wr.drew 0 1 (.slice (some ⟨bv, o, none⟩) L.length cu) L.length (ints L) from hS.fact.1.1.2).cell j (.int .i64 L[j]) (by simp [ints, hx])
      have c2 := (show Vs wr.drew 0 1 (.slice (some ⟨bv2, o2, none⟩) L.length cu2) L.length (ints L) from hS.fact.2).cell j (.int .i64 L[j]) (by simp [ints, hx])
      have t7 : ((j : Int) < (L.length : Int)) = True := eq_true (by omega)
      have i1 : (0 : Int) ≤ (j : Int) := by omega
      have i2 : (j : Int) < (L.length : Int) := by omega
      have wj : IntKind.i64.wrap ((j : Int) + 1) = ((j + 1 : Nat) : Int) := by rw [IntKind.wrap_i64]; omega
      generalize L[j] = x at *
      replace hS := Lib.hid hS
      replace hjl := Lib.hid hjl
      clear hx hj
      go_upto_region 7 with fail
      refine wp_region_noPanic ?_
      refine wp_region_held_drew (S := (fun w' => w'.cell? ⟨bv, o + j, none⟩ = some (.int .i64 x) ∧ w'.cell? ⟨bv2, o2 + j, none⟩ = some (.int .i64 x))) (by kernel_rfl) ?_ (fun hHeld => ?_)
      · (try dsimp only); exact ⟨c1, c2⟩
      refine wpAnyH_take (i := 0) (oi := { dst := some 29, op := Go.Op.move (Go.Operand.tmp 5), type := 32, pos := "law.go:52", after := #[], guard := none }) (v := ?v1) rfl (by kernel_rfl) (by kernel_rfl) (by kernel_rfl) (fun _ _ _ h => h) (Or.inl ⟨by rfl, ?hy1⟩) (by assumption) ?rest1
      case hy1 => (intro w hSw; (try dsimp only at hSw); obtain ⟨c1, c2⟩ := hSw; go_simp <;> with_reducible rfl)
      try simp only [Act.put, List.setIfInBounds_toArray, List.set_cons_zero, List.set_cons_succ]
      refine wpAnyH_take (i := 1) (oi := { dst := some 30, op := Go.Op.move (Go.Operand.tmp 7), type := 3, pos := "law.go:52", after := #[], guard := none }) (v := ?v2) rfl (by kernel_rfl) (by kernel_rfl) (by kernel_rfl) (fun _ _ _ h => h) (Or.inl ⟨by rfl, ?hy2⟩) (by assumption) ?rest2
      case hy2 => (intro w hSw; (try dsimp only at hSw); obtain ⟨c1, c2⟩ := hSw; go_simp <;> with_reducible rfl)
      try simp only [Act.put, List.setIfInBounds_toArray, List.set_cons_zero, List.set_cons_succ]
      refine wpAnyH_take (i := 2) (oi := { dst := some 31, op := Go.Op.indexAddr 32 (Go.Operand.tmp 29) (Go.Operand.tmp 30), type := 0, pos := "law.go:52", after := #[{ on := 0, ground := Go.Ground.data }, { on := 1, ground := Go.Ground.data }], guard := none }) (v := ?v3) rfl (by kernel_rfl) (by kernel_rfl) (by kernel_rfl) (fun _ _ _ h => h) (Or.inl ⟨by rfl, ?hy3⟩) (by assumption) ?rest3
      case hy3 => (intro w hSw; (try dsimp only at hSw); obtain ⟨c1, c2⟩ := hSw; go_simp <;> with_reducible rfl)
      try simp only [Act.put, List.setIfInBounds_toArray, List.set_cons_zero, List.set_cons_succ]
      refine wpAnyH_take (i := 3) (oi := { dst := some 32, op := Go.Op.load 3 (Go.Operand.tmp 31), type := 3, pos := "law.go:52", after := #[{ on := 2, ground := Go.Ground.data }], guard := none }) (v := ?v4) rfl (by kernel_rfl) (by kernel_rfl) (by kernel_rfl) (fun _ _ _ h => h) (Or.inl ⟨by rfl, ?hy4⟩) (by assumption) ?rest4
      case hy4 => (intro w hSw; (try dsimp only at hSw); obtain ⟨c1, c2⟩ := hSw; go_simp <;> with_reducible rfl)
      try simp only [Act.put, List.setIfInBounds_toArray, List.set_cons_zero, List.set_cons_succ]
      refine wpAnyH_take (i := 4) (oi := { dst := some 33, op := Go.Op.move (Go.Operand.tmp 6), type := 32, pos := "law.go:52", after := #[], guard := none }) (v := ?v5) rfl (by kernel_rfl) (by kernel_rfl) (by kernel_rfl) (fun _ _ _ h => h) (Or.inl ⟨by rfl, ?hy5⟩) (by assumption) ?rest5
      case hy5 => (intro w hSw; (try dsimp only at hSw); obtain ⟨c1, c2⟩ := hSw; go_simp <;> with_reducible rfl)
      try simp only [Act.put, List.setIfInBounds_toArray, List.set_cons_zero, List.set_cons_succ]
      refine wpAnyH_take (i := 5) (oi := { dst := some 34, op := Go.Op.move (Go.Operand.tmp 7), type := 3, pos := "law.go:52", after := #[], guard := none }) (v := ?v6) rfl (by kernel_rfl) (by kernel_rfl) (by kernel_rfl) (fun _ _ _ h => h) (Or.inl ⟨by rfl, ?hy6⟩) (by assumption) ?rest6
      case hy6 => (intro w hSw; (try dsimp only at hSw); obtain ⟨c1, c2⟩ := hSw; go_simp <;> with_reducible rfl)
      try simp only [Act.put, List.setIfInBounds_toArray, List.set_cons_zero, List.set_cons_succ]
      refine wpAnyH_take (i := 6) (oi := { dst := some 35, op := Go.Op.indexAddr 32 (Go.Operand.tmp 33) (Go.Operand.tmp 34), type := 0, pos := "law.go:52", after := #[{ on := 4, ground := Go.Ground.data }, { on := 5, ground := Go.Ground.data }], guard := none }) (v := ?v7) rfl (by kernel_rfl) (by kernel_rfl) (by kernel_rfl) (fun _ _ _ h => h) (Or.inl ⟨by rfl, ?hy7⟩) (by assumption) ?rest7
      case hy7 => (intro w hSw; (try dsimp only at hSw); obtain ⟨c1, c2⟩ := hSw; go_simp <;> with_reducible rfl)
      try simp only [Act.put, List.setIfInBounds_toArray, List.set_cons_zero, List.set_cons_succ]
      refine wpAnyH_take (i := 7) (oi := { dst := some 36, op := Go.Op.load 3 (Go.Operand.tmp 35), type := 3, pos := "law.go:52", after := #[{ on := 6, ground := Go.Ground.data }], guard := none }) (v := ?v8) rfl (by kernel_rfl) (by kernel_rfl) (by kernel_rfl) (fun _ _ _ h => h) (Or.inl ⟨by rfl, ?hy8⟩) (by assumption) ?rest8
      case hy8 => (intro w hSw; (try dsimp only at hSw); obtain ⟨c1, c2⟩ := hSw; go_simp <;> with_reducible rfl)
      try simp only [Act.put, List.setIfInBounds_toArray, List.set_cons_zero, List.set_cons_succ]
      refine wpAnyH_take (i := 8) (oi := { dst := some 37, op := Go.Op.binOp Go.BinOp.neq 3 (Go.Operand.tmp 32) (Go.Operand.tmp 36) 3, type := 4, pos := "law.go:52", after := #[{ on := 3, ground := Go.Ground.data }, { on := 7, ground := Go.Ground.data }], guard := none }) (v := ?v9) rfl (by kernel_rfl) (by kernel_rfl) (by kernel_rfl) (fun _ _ _ h => h) (Or.inl ⟨by rfl, ?hy9⟩) (by assumption) ?rest9
      case hy9 => (intro w hSw; (try dsimp only at hSw); obtain ⟨c1, c2⟩ := hSw; go_simp <;> with_reducible rfl)
      try simp only [Act.put, List.setIfInBounds_toArray, List.set_cons_zero, List.set_cons_succ]
      refine wpAnyH_take (i := 9) (oi := { dst := some 38, op := Go.Op.move (Go.Operand.tmp 37), type := 4, pos := "law.go:52", after := #[{ on := 8, ground := Go.Ground.data }], guard := none }) (v := ?v10) rfl (by kernel_rfl) (by kernel_rfl) (by kernel_rfl) (fun _ _ _ h => h) (Or.inl ⟨by rfl, ?hy10⟩) (by assumption) ?rest10
      case hy10 => (intro w hSw; (try dsimp only at hSw); obtain ⟨c1, c2⟩ := hSw; go_simp <;> with_reducible rfl)
      try simp only [Act.put, List.setIfInBounds_toArray, List.set_cons_zero, List.set_cons_succ]
      refine wpAnyH_take (i := 10) (oi := { dst := some 39, op := Go.Op.move (Go.Operand.tmp 0), type := 24, pos := "law.go:52", after := #[{ on := 9, ground := Go.Ground.guard }], guard := some (9, false) }) (v := ?v11) rfl (by kernel_rfl) (by kernel_rfl) (by kernel_rfl) (fun _ _ _ h => h) (Or.inl ⟨by rfl, ?hy11⟩) (by assumption) ?rest11
      case hy11 => (intro w hSw; (try dsimp only at hSw); obtain ⟨c1, c2⟩ := hSw; go_simp <;> with_reducible rfl)
      try simp only [Act.put, List.setIfInBounds_toArray, List.set_cons_zero, List.set_cons_succ]
      refine wpAnyH_take (i := 11) (oi := { dst := some 40, op := Go.Op.move (Go.Operand.tmp 5), type := 32, pos := "law.go:52", after := #[{ on := 9, ground := Go.Ground.guard }], guard := some (9, false) }) (v := ?v12) rfl (by kernel_rfl) (by kernel_rfl) (by kernel_rfl) (fun _ _ _ h => h) (Or.inl ⟨by rfl, ?hy12⟩) (by assumption) ?rest12
      case hy12 => (intro w hSw; (try dsimp only at hSw); obtain ⟨c1, c2⟩ := hSw; go_simp <;> with_reducible rfl)
      try simp only [Act.put, List.setIfInBounds_toArray, List.set_cons_zero, List.set_cons_succ]
      refine wpAnyH_take (i := 12) (oi := { dst := some 41, op := Go.Op.move (Go.Operand.tmp 7), type := 3, pos := "law.go:52", after := #[{ on := 9, ground := Go.Ground.guard }], guard := some (9, false) }) (v := ?v13) rfl (by kernel_rfl) (by kernel_rfl) (by kernel_rfl) (fun _ _ _ h => h) (Or.inl ⟨by rfl, ?hy13⟩) (by assumption) ?rest13
      case hy13 => (intro w hSw; (try dsimp only at hSw); obtain ⟨c1, c2⟩ := hSw; go_simp <;> with_reducible rfl)
      try simp only [Act.put, List.setIfInBounds_toArray, List.set_cons_zero, List.set_cons_succ]
      refine wpAnyH_take (i := 13) (oi := { dst := some 42, op := Go.Op.indexAddr 32 (Go.Operand.tmp 40) (Go.Operand.tmp 41), type := 0, pos := "law.go:52", after := #[{ on := 11, ground := Go.Ground.data }, { on := 12, ground := Go.Ground.data }, { on := 9, ground := Go.Ground.guard }], guard := some (9, false) }) (v := ?v14) rfl (by kernel_rfl) (by kernel_rfl) (by kernel_rfl) (fun _ _ _ h => h) (Or.inl ⟨by rfl, ?hy14⟩) (by assumption) ?rest14
      case hy14 => (intro w hSw; (try dsimp only at hSw); obtain ⟨c1, c2⟩ := hSw; go_simp <;> with_reducible rfl)
      try simp only [Act.put, List.setIfInBounds_toArray, List.set_cons_zero, List.set_cons_succ]
      refine wpAnyH_take (i := 14) (oi := { dst := some 43, op := Go.Op.load 3 (Go.Operand.tmp 42), type := 3, pos := "law.go:52", after := #[{ on := 13, ground := Go.Ground.data }, { on := 9, ground := Go.Ground.guard }], guard := some (9, false) }) (v := ?v15) rfl (by kernel_rfl) (by kernel_rfl) (by kernel_rfl) (fun _ _ _ h => h) (Or.inl ⟨by rfl, ?hy15⟩) (by assumption) ?rest15
      case hy15 => (intro w hSw; (try dsimp only at hSw); obtain ⟨c1, c2⟩ := hSw; go_simp <;> with_reducible rfl)
      try simp only [Act.put, List.setIfInBounds_toArray, List.set_cons_zero, List.set_cons_succ]
      refine wpAnyH_take (i := 16) (oi := { dst := some 45, op := Go.Op.move (Go.Operand.tmp 1), type := 36, pos := "law.go:52", after := #[{ on := 9, ground := Go.Ground.guard }], guard := some (9, false) }) (v := ?v16) rfl (by kernel_rfl) (by kernel_rfl) (by kernel_rfl) (fun _ _ _ h => h) (Or.inl ⟨by rfl, ?hy16⟩) (by assumption) ?rest16
      case hy16 => (intro w hSw; (try dsimp only at hSw); obtain ⟨c1, c2⟩ := hSw; go_simp <;> with_reducible rfl)
      try simp only [Act.put, List.setIfInBounds_toArray, List.set_cons_zero, List.set_cons_succ]
      refine wpAnyH_take (i := 17) (oi := { dst := some 46, op := Go.Op.move (Go.Operand.tmp 5), type := 32, pos := "law.go:52", after := #[{ on := 9, ground := Go.Ground.guard }], guard := some (9, false) }) (v := ?v17) rfl (by kernel_rfl) (by kernel_rfl) (by kernel_rfl) (fun _ _ _ h => h) (Or.inl ⟨by rfl, ?hy17⟩) (by assumption) ?rest17
      case hy17 => (intro w hSw; (try dsimp only at hSw); obtain ⟨c1, c2⟩ := hSw; go_simp <;> with_reducible rfl)
      try simp only [Act.put, List.setIfInBounds_toArray, List.set_cons_zero, List.set_cons_succ]
      refine wpAnyH_take (i := 18) (oi := { dst := some 47, op := Go.Op.move (Go.Operand.tmp 7), type := 3, pos := "law.go:52", after := #[{ on := 9, ground := Go.Ground.guard }], guard := some (9, false) }) (v := ?v18) rfl (by kernel_rfl) (by kernel_rfl) (by kernel_rfl) (fun _ _ _ h => h) (Or.inl ⟨by rfl, ?hy18⟩) (by assumption) ?rest18
      case hy18 => (intro w hSw; (try dsimp only at hSw); obtain ⟨c1, c2⟩ := hSw; go_simp <;> with_reducible rfl)
      try simp only [Act.put, List.setIfInBounds_toArray, List.set_cons_zero, List.set_cons_succ]
      refine wpAnyH_take (i := 19) (oi := { dst := some 48, op := Go.Op.indexAddr 32 (Go.Operand.tmp 46) (Go.Operand.tmp 47), type := 0, pos := "law.go:52", after := #[{ on := 17, ground := Go.Ground.data }, { on := 18, ground := Go.Ground.data }, { on := 9, ground := Go.Ground.guard }], guard := some (9, false) }) (v := ?v19) rfl (by kernel_rfl) (by kernel_rfl) (by kernel_rfl) (fun _ _ _ h => h) (Or.inl ⟨by rfl, ?hy19⟩) (by assumption) ?rest19
      case hy19 => (intro w hSw; (try dsimp only at hSw); obtain ⟨c1, c2⟩ := hSw; go_simp <;> with_reducible rfl)
      try simp only [Act.put, List.setIfInBounds_toArray, List.set_cons_zero, List.set_cons_succ]
      refine wpAnyH_take (i := 20) (oi := { dst := some 49, op := Go.Op.load 3 (Go.Operand.tmp 48), type := 3, pos := "law.go:52", after := #[{ on := 19, ground := Go.Ground.data }, { on := 9, ground := Go.Ground.guard }], guard := some (9, false) }) (v := ?v20) rfl (by kernel_rfl) (by kernel_rfl) (by kernel_rfl) (fun _ _ _ h => h) (Or.inl ⟨by rfl, ?hy20⟩) (by assumption) ?rest20
      case hy20 => (intro w hSw; (try dsimp only at hSw); obtain ⟨c1, c2⟩ := hSw; go_simp <;> with_reducible rfl)
      try simp only [Act.put, List.setIfInBounds_toArray, List.set_cons_zero, List.set_cons_succ]
      refine wpAnyH_ready (rs := [15]) (by kernel_rfl) (by simp) ?_
      refine AllReadyH.cons (o := { dst := some 44, op := Go.Op.call { callee := Go.Callee.value (Go.Operand.func 18), args := #[Go.Operand.tmp 39, Go.Operand.tmp 43], argTypes := #[24, 3] }, type := 3, pos := "law.go:52", after := #[{ on := 10, ground := Go.Ground.data }, { on := 14, ground := Go.Ground.data }, { on := 9, ground := Go.Ground.chain }, { on := 9, ground := Go.Ground.guard }], guard := some (9, false) }) rfl (fun K hK => ?_) AllReadyH.nil
      go_simp
      go_at_call 18; refine (kCountF hS.out.drew.fact.1.1.1.2 x).mono ?_; rintro e w8 ⟨rfl, rfl⟩
      refine hK.out _ _ ?_ (fun hHeld2 => ?_)
      · (try dsimp only); exact ⟨c1, c2⟩
      clear hK K hHeld
      have hHeld := hHeld2
      clear hHeld2
      try simp only [Act.put, List.setIfInBounds_toArray, List.set_cons_zero, List.set_cons_succ]
      refine wpAnyH_ready (rs := [21]) (by kernel_rfl) (by simp) ?_
      refine AllReadyH.cons (o := { dst := some 50, op := Go.Op.call { callee := Go.Callee.value (Go.Operand.func 26), args := #[Go.Operand.tmp 45, Go.Operand.tmp 49], argTypes := #[36, 3] }, type := 3, pos := "law.go:52", after := #[{ on := 16, ground := Go.Ground.data }, { on := 20, ground := Go.Ground.data }, { on := 15, ground := Go.Ground.chain }, { on := 9, ground := Go.Ground.guard }], guard := some (9, false) }) rfl (fun K hK => ?_) AllReadyH.nil
      go_simp
      go_at_call 26; refine (rCountF hS.out.drew.fact.1.2 x).mono ?_; rintro e w8 ⟨rfl, rfl⟩
      refine hK.out _ _ ?_ (fun hHeld2 => ?_)
      · (try dsimp only); exact ⟨c1, c2⟩
      clear hK K hHeld
      have hHeld := hHeld2
      clear hHeld2
      try simp only [Act.put, List.setIfInBounds_toArray, List.set_cons_zero, List.set_cons_succ]
      refine wpAnyH_take (i := 22) (oi := { dst := some 51, op := Go.Op.binOp Go.BinOp.neq 3 (Go.Operand.tmp 44) (Go.Operand.tmp 50) 3, type := 4, pos := "law.go:52", after := #[{ on := 15, ground := Go.Ground.data }, { on := 21, ground := Go.Ground.data }, { on := 9, ground := Go.Ground.guard }], guard := some (9, false) }) (v := ?v21) rfl (by kernel_rfl) (by kernel_rfl) (by kernel_rfl) (fun _ _ _ h => h) (Or.inl ⟨by rfl, ?hy21⟩) (by assumption) ?rest21
      case hy21 => (intro w hSw; (try dsimp only at hSw); obtain ⟨c1, c2⟩ := hSw; go_simp <;> with_reducible rfl)
      try simp only [Act.put, List.setIfInBounds_toArray, List.set_cons_zero, List.set_cons_succ]
      refine wpAnyH_take (i := 23) (oi := { dst := some 52, op := Go.Op.pick (Go.Operand.tmp 38) (Go.Operand.const (Go.Value.bool true)) (Go.Operand.tmp 51), type := 4, pos := "law.go:52", after := #[{ on := 9, ground := Go.Ground.data }, { on := 22, ground := Go.Ground.data }], guard := none }) (v := ?v22) rfl (by kernel_rfl) (by kernel_rfl) (by kernel_rfl) (fun _ _ _ h => h) (Or.inl ⟨by rfl, ?hy22⟩) (by assumption) ?rest22
      case hy22 => (intro w hSw; (try dsimp only at hSw); obtain ⟨c1, c2⟩ := hSw; go_simp <;> with_reducible rfl)
      try simp only [Act.put, List.setIfInBounds_toArray, List.set_cons_zero, List.set_cons_succ]
      refine wpAnyH_done (by kernel_rfl) ?_ _
      refine NoPanic.normal ?_
      go_wp2
      go_roundw
      case rel => exact ⟨j + 1, rfl, by have := hjl.out; omega, hS.out.drew⟩
      case measure => have := hjl.out; simp [intOf]; omega
    · have t7 : ((j : Int) < (L.length : Int)) = False := eq_false (by omega)
      clear hjl hj
      go_wp2
      go_ret
      exact ⟨rfl, hS.keep (fun h => ⟨⟨h.1.1.1.1, h.1.2⟩, h.1.1.1.2⟩) (fun k hk => by
        rcases hk with (hk | hk) | hk
        · exact .inl (.inl (.inl (.inl hk)))
        · exact .inl (.inr hk)
        · exact .inl (.inl (.inl (.inr hk))))⟩
end Go.Proofs.YtekfceolignihaaDoor
