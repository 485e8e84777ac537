/- The reference's 'Typed', 'Keys'. -/
import Derived.Test.YtfmlbnkmckkjnaaF6
namespace Go.Proofs.Ytfmlbnkmckkjnaa
open Go.RowKit
set_option linter.unusedVariables false
set_option linter.unusedSimpArgs false
attribute [local go_sem] cell_set set_set m_undef ba_get field0 field1 field2

theorem keyV_typed (l : List UInt8) (c : UInt8) (hc : 32 ≤ c.toNat ∧ c.toNat ≤ 126) : keyV l (l.length : Int) false c = vw (typedS l c) ((typedS l c).length : Int) false := by
  have hk : clampN l (l.length : Int) = l.length := by unfold clampN; omega
  unfold keyV keyT typedS
  rw [if_neg (by simp), if_neg (by omega), if_pos hc, hk, List.take_length, List.drop_length]
  by_cases h : l.length < 200
  · rw [if_pos h, if_pos ⟨hc, h⟩]; simp
  · rw [if_neg h, if_neg (fun h2 => h h2.2)]; simp
set_option maxHeartbeats 1600000 in
theorem rTyped (w : World) (s : List UInt8) (hs : s.length ≤ 9223372036854775807) :
    Calls Try.prog 14 #[.string ⟨s.toArray⟩] w fun e w' => e = .returned (.agg #[.string ⟨(typedL s).toArray⟩, .int .i64 ((typedL s).length : Int), .bool false]) ∧ Below w.heap.size w w' := by
  go_enter Try.func14, Try.ntmps14
  go_wp2
  go_loopw [4] (fun i wr => ∃ j : Nat, j ≤ s.length ∧ i = .int .i64 (j : Int) ∧ Blk wr w.heap.size #[.string ⟨#[]⟩, .int .i64 0, .bool false] 23 ∧ Blk wr (w.heap.size + 1) #[.string ⟨(typedL (s.take j)).toArray⟩, .int .i64 ((typedL (s.take j)).length : Int), .bool false] 23 ∧ Below w.heap.size w wr) (fun i _ => (s.length - (intOf i).toNat))
  case atStart =>
    exact ⟨0, by omega, rfl, (Blk.new _ _ _).alloc _, Blk.new' (by simp), by repeat (first | (with_reducible exact Below.refl _ _) | (with_reducible assumption) | (with_reducible apply bel_alloc) | (with_reducible apply bel_drew) | (with_reducible refine bel_set ?_ (by first | exact Nat.le_refl _ | (simp; done) | omega | (simp; omega)) _) | (with_reducible refine bel_trans ?_ (by with_reducible assumption)))⟩
  case round =>
    obtain ⟨j, hj, rfl, hB1, hB2, hbel⟩ := hrel
    by_cases hjl : j < s.length
    · obtain ⟨c, hc⟩ : ∃ c, s[j] = c := ⟨_, rfl⟩
      have hstep := typedL_step s j hjl
      have hlen := typedL_len (s.take j)
      rw [hc] at hstep
      generalize typedL (s.take j) = l at *
      have t1 : ((j : Int) < (s.length : Int)) = True := by simp; omega
      have w1 : IntKind.i64.wrap ((j : Int) + 1) = ((j + 1 : Nat) : Int) := by rw [IntKind.wrap_i64]; omega
      obtain ⟨x, hx⟩ : ∃ x : Int, x = (c.toNat : Int) := ⟨_, rfl⟩
      by_cases hc1 : 32 ≤ c.toNat ∧ c.toNat ≤ 126
      · have q1 : ((32 : Int) ≤ (c.toNat : Int)) = True := by simp; omega
        have q2 : ((c.toNat : Int) ≤ 126) = True := by simp; omega
        have hk := Lib.hid (fun w => rKeyF w l (l.length : Int) false c (by omega))
        rw [keyV_typed l c hc1] at hk
        unfold vw at hk
        generalize typedS l c = l2' at *
        replace hstep := Lib.hid hstep
        clear hc1 hx
        obtain ⟨d1, d2, d3, g1, g2, g3, l2⟩ := hB2.three
        go_upto_region 6 with fail
        refine wp_region_noPanic ?_
        refine wp_region_held_drew (S := (fun _ => True)) (by kernel_rfl) ?_ (fun hHeld => ?_)
        · (try dsimp only); (try trivial)
        refine wpAnyH_take (i := 1) (oi := { dst := some 23, op := Go.Op.move (Go.Operand.tmp 0), type := 9, pos := "ref.go:81", after := #[], guard := none }) (v := ?v1) rfl (by kernel_rfl) (by kernel_rfl) (by kernel_rfl) (fun _ _ _ h => h) (Or.inl ⟨by rfl, ?hy1⟩) (by assumption) ?rest1
        case hy1 => (intro w hSw; (try dsimp only at hSw); go_simp <;> with_reducible rfl)
        try simp only [Act.put, List.setIfInBounds_toArray, List.set_cons_zero, List.set_cons_succ]
        refine wpAnyH_take (i := 2) (oi := { dst := some 24, op := Go.Op.move (Go.Operand.tmp 4), type := 3, pos := "ref.go:81", after := #[], guard := none }) (v := ?v2) rfl (by kernel_rfl) (by kernel_rfl) (by kernel_rfl) (fun _ _ _ h => h) (Or.inl ⟨by rfl, ?hy2⟩) (by assumption) ?rest2
        case hy2 => (intro w hSw; (try dsimp only at hSw); go_simp <;> with_reducible rfl)
        try simp only [Act.put, List.setIfInBounds_toArray, List.set_cons_zero, List.set_cons_succ]
        refine wpAnyH_take (i := 3) (oi := { dst := some 25, op := Go.Op.index 9 (Go.Operand.tmp 23) (Go.Operand.tmp 24), type := 5, pos := "ref.go:81", after := #[{ on := 1, ground := Go.Ground.data }, { on := 2, ground := Go.Ground.data }], guard := none }) (v := ?v3) rfl (by kernel_rfl) (by kernel_rfl) (by kernel_rfl) (fun _ _ _ h => h) (Or.inl ⟨by rfl, ?hy3⟩) (by assumption) ?rest3
        case hy3 => (intro w hSw; (try dsimp only at hSw); go_simp <;> with_reducible rfl)
        try simp only [Act.put, List.setIfInBounds_toArray, List.set_cons_zero, List.set_cons_succ]
        refine wpAnyH_ready (rs := [0]) (by kernel_rfl) (by simp) ?_
        refine AllReadyH.cons (o := { dst := some 22, op := Go.Op.load 23 (Go.Operand.tmp 3), type := 23, pos := "ref.go:81", after := #[], guard := none }) rfl (fun K hK => ?_) AllReadyH.nil
        go_simp
        refine hK.out _ _ ?_ (fun hHeld2 => ?_)
        · (try dsimp only); (try trivial)
        clear hK K hHeld
        have hHeld := hHeld2
        clear hHeld2
        try simp only [Act.put, List.setIfInBounds_toArray, List.set_cons_zero, List.set_cons_succ]
        refine wpAnyH_ready (rs := [4]) (by kernel_rfl) (by simp) ?_
        refine AllReadyH.cons (o := { dst := some 26, op := Go.Op.call { callee := Go.Callee.value (Go.Operand.func 10), args := #[Go.Operand.tmp 22, Go.Operand.tmp 25], argTypes := #[23, 5] }, type := 23, pos := "ref.go:81", after := #[{ on := 0, ground := Go.Ground.data }, { on := 3, ground := Go.Ground.data }], guard := none }) rfl (fun K hK => ?_) AllReadyH.nil
        go_simp
        go_at_call 10; refine (hk.out _).mono ?_; rintro e w5 ⟨rfl, hb5⟩; replace hB1 := hB1.drew.below hb5; replace hB2 := hB2.drew.below hb5; clear d1 d2 d3 g1 g2 g3 l2; obtain ⟨d1, d2, d3, g1, g2, g3, l2⟩ := hB2.three
        refine hK.out _ _ ?_ (fun hHeld2 => ?_)
        · (try dsimp only); (try trivial)
        clear hK K hHeld
        have hHeld := hHeld2
        clear hHeld2
        try simp only [Act.put, List.setIfInBounds_toArray, List.set_cons_zero, List.set_cons_succ]
        refine wpAnyH_ready (rs := [5]) (by kernel_rfl) (by simp) ?_
        refine AllReadyH.cons (o := { dst := none, op := Go.Op.store 23 (Go.Operand.tmp 3) (Go.Operand.tmp 26), type := 0, pos := "ref.go:81", after := #[{ on := 4, ground := Go.Ground.data }, { on := 4, ground := Go.Ground.chain }, { on := 0, ground := Go.Ground.phase }, { on := 1, ground := Go.Ground.phase }, { on := 2, ground := Go.Ground.phase }, { on := 3, ground := Go.Ground.phase }, { on := 4, ground := Go.Ground.phase }], guard := none }) rfl (fun K hK => ?_) AllReadyH.nil
        go_simp
        refine hK.out _ _ ?_ (fun hHeld2 => ?_)
        · (try dsimp only); (try trivial)
        clear hK K hHeld
        have hHeld := hHeld2
        clear hHeld2
        try simp only [Act.put, List.setIfInBounds_toArray, List.set_cons_zero, List.set_cons_succ]
        refine wpAnyH_done (by kernel_rfl) ?_ _
        refine NoPanic.normal ?_
        have hB3 := Blk.put3 (x := .string ⟨l2'.toArray⟩) (y := .int .i64 (l2'.length : Int)) (z := .bool false) hB2
        have hB4 := ((hB1.set_other (b' := w.heap.size + 1) (by omega) 0 (.string ⟨l2'.toArray⟩)).set_other (b' := w.heap.size + 1) (by omega) 1 (.int .i64 (l2'.length : Int))).set_other (b' := w.heap.size + 1) (by omega) 2 (.bool false)
        have hbel5 := bel_set (bel_set (bel_set (bel_trans (bel_drew hbel) hb5) (b := w.heap.size + 1) (by omega) (o := 0) (.string ⟨l2'.toArray⟩)) (b := w.heap.size + 1) (by omega) (o := 1) (.int .i64 (l2'.length : Int))) (b := w.heap.size + 1) (by omega) (o := 2) (.bool false)
        clear hB1 hB2 hbel hb5 d1 d2 d3 g1 g2 g3 l2 hk
        replace hB3 := Lib.hid hB3
        replace hB4 := Lib.hid hB4
        replace hbel5 := Lib.hid hbel5
        go_wp2
        go_roundw
        case rel => exact ⟨j + 1, by omega, rfl, hB4.out, by rw [hstep.out]; exact hB3.out, hbel5.out⟩
        case measure => simp [intOf]; omega
      · have hstep2 : typedS l c = l := by unfold typedS; rw [if_neg (fun h => hc1 h.1)]
        rw [hstep2] at hstep
        replace hstep := Lib.hid hstep
        clear hstep2
        replace hB1 := Lib.hid hB1
        replace hB2 := Lib.hid hB2
        replace hbel := Lib.hid hbel
        by_cases h32 : 32 ≤ c.toNat
        · have q1 : ((32 : Int) ≤ (c.toNat : Int)) = True := by simp; omega
          have q2 : ((c.toNat : Int) ≤ 126) = False := by simp; omega
          clear hc1 hx h32
          go_wp2
          go_roundw
          case rel => exact ⟨j + 1, by omega, rfl, hB1.out, by rw [hstep.out]; exact hB2.out, hbel.out⟩
          case measure => simp [intOf]; omega
        · have q1 : ((32 : Int) ≤ (c.toNat : Int)) = False := by simp; omega
          clear hc1 hx h32
          go_wp2
          go_roundw
          case rel => exact ⟨j + 1, by omega, rfl, hB1.out, by rw [hstep.out]; exact hB2.out, hbel.out⟩
          case measure => simp [intOf]; omega
    · have hjs : j = s.length := by omega
      subst hjs
      rw [List.take_length] at hB2
      have t1 : ((s.length : Int) < (s.length : Int)) = False := by simp
      obtain ⟨l, hl⟩ : ∃ l, typedL s = l := ⟨_, rfl⟩
      rw [hl] at hB2
      obtain ⟨c1, c2, c3, f1, f2, f3, l1⟩ := hB1.three
      obtain ⟨d1, d2, d3, g1, g2, g3, l2⟩ := hB2.three
      replace hB1 := Lib.hid hB1
      replace hB2 := Lib.hid hB2
      replace hbel := Lib.hid hbel
      replace hl := Lib.hid hl
      clear hj
      go_wp2
      rw [hl.out]
      refine ret_blk (v := .agg #[.string ⟨l.toArray⟩, .int .i64 (l.length : Int), .bool false]) w.heap.size #[.string ⟨l.toArray⟩, .int .i64 (l.length : Int), .bool false] 23 (Blk.put3 hB1.out) (fun w' h => by obtain ⟨c1, c2, c3, _⟩ := h.three; simp [results, Try.results14, go_sem, c1, c2, c3]) rfl ⟨rfl, ?_⟩
      have hbel := hbel.out
      repeat (first | (with_reducible exact Below.refl _ _) | (with_reducible assumption) | (with_reducible apply bel_alloc) | (with_reducible apply bel_drew) | (with_reducible refine bel_set ?_ (by first | exact Nat.le_refl _ | (simp; done) | omega | (simp; omega)) _) | (with_reducible refine bel_trans ?_ (by with_reducible assumption)))
/-- 'Keys' -/
theorem rKeys (w : World) (s : List UInt8) (hs : s.length ≤ 9223372036854775807) :
    Calls Try.prog 13 #[.string ⟨s.toArray⟩] w fun e w' => e = .returned (.string ⟨(typedL s ++ [13]).toArray⟩) ∧ Below w.heap.size w w' := by
  have hlen := typedL_len s
  obtain ⟨l, hl⟩ : ∃ l, typedL s = l := ⟨_, rfl⟩
  have h22 := rTyped w s hs
  rw [hl] at hlen h22 ⊢
  replace h22 := Lib.hid h22
  clear hl
  have e1 := ba_one l 13
  go_enter Try.func13, Try.ntmps13
  go_wp2_with (go_at_call 14; refine h22.out.mono ?_; rintro e w1 ⟨rfl, hb1⟩)
  go_ret
  exact ⟨rfl, hb1⟩
end Go.Proofs.Ytfmlbnkmckkjnaa
