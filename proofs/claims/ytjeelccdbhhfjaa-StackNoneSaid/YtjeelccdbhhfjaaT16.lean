/- Stacks in a memory that nobody made. -/
import Derived.Test.YtjeelccdbhhfjaaT11
import Derived.Test.YtjeelccdbhhfjaaNM
namespace Go.Proofs.Ytjeelccdbhhfjaa
open Go.RowKit
set_option linter.unusedVariables false
set_option linter.unusedSimpArgs false
attribute [local go_sem] cell_set set_set m_undef

theorem nTop (w : World) (a lo hi ov un : Int) (hk : Sk a lo hi) : Calls Try.prog 60 #[.agg #[.pointer none, .int .i64 a, .int .i64 lo, .int .i64 hi, .int .i64 ov, .int .i64 un]] w fun e w' => e = .returned (.int .i64 hi) ∧ Below w.heap.size w w' := by
  have t2 : ((0 : Int) < lo) = True := by unfold Sk at hk; simp; omega
  obtain ⟨w0, hw0⟩ : ∃ w0, w0 = w.alloc (.cells #[.pointer none, .int .i64 a, .int .i64 lo, .int .i64 hi, .int .i64 ov, .int .i64 un] 60) := ⟨_, rfl⟩
  have hB : Blk w0 w.heap.size #[.pointer none, .int .i64 a, .int .i64 lo, .int .i64 hi, .int .i64 ov, .int .i64 un] 60 := by subst hw0; exact Blk.new _ _ _
  have hb := Lib.hid (show Below w.heap.size w w0 by subst hw0; exact bel_alloc (Below.refl _ _) _)
  obtain ⟨y1, y2, y3, y4, y5, y6⟩ := hB.c6
  clear hk
  go_enter Try.func60, Try.ntmps60
  go_upto_region 1 with fail
  rw [← hw0]
  clear hw0
  go_wp2_with (go_at_call 30; refine (nGet _ a).mono ?_; rintro e w2 ⟨rfl, hb2⟩; have hB2 := hB.below hb2; clear hB; have hB := hB2; clear hB2; replace hb := Lib.hid (bel_trans hb.out hb2); clear hb2; clear y1 y2 y3 y4 y5 y6; obtain ⟨y1, y2, y3, y4, y5, y6⟩ := hB.c6)
  go_ret
  exact ⟨rfl, hb.out⟩
theorem nSetT (w : World) (a lo hi ov un : Int) (x : Int) : Calls Try.prog 40 #[.agg #[.pointer none, .int .i64 a, .int .i64 lo, .int .i64 hi, .int .i64 ov, .int .i64 un], .int .i64 x] w fun e w' => e = .returned (.tuple #[]) ∧ Below w.heap.size w w' := by
  obtain ⟨w0, hw0⟩ : ∃ w0, w0 = w.alloc (.cells #[.pointer none, .int .i64 a, .int .i64 lo, .int .i64 hi, .int .i64 ov, .int .i64 un] 60) := ⟨_, rfl⟩
  have hB : Blk w0 w.heap.size #[.pointer none, .int .i64 a, .int .i64 lo, .int .i64 hi, .int .i64 ov, .int .i64 un] 60 := by subst hw0; exact Blk.new _ _ _
  have hb := Lib.hid (show Below w.heap.size w w0 by subst hw0; exact bel_alloc (Below.refl _ _) _)
  obtain ⟨y1, y2, y3, y4, y5, y6⟩ := hB.c6
  go_enter Try.func40, Try.ntmps40
  go_upto_region 1 with fail
  rw [← hw0]
  clear hw0
  go_wp2_with (go_at_call 14; refine (nSet _ a x).mono ?_; rintro e w2 ⟨rfl, hb2⟩; have hB2 := hB.below hb2; clear hB; have hB := hB2; clear hB2; replace hb := Lib.hid (bel_trans hb.out hb2); clear hb2; clear y1 y2 y3 y4 y5 y6; obtain ⟨y1, y2, y3, y4, y5, y6⟩ := hB.c6)
  (try go_end0)
  exact ⟨rfl, hb.out⟩
set_option maxRecDepth 100000 in
theorem nDep (w : World) (a lo hi ov un : Int) (hk : Sk a lo hi) : Calls Try.prog 43 #[.agg #[.pointer none, .int .i64 a, .int .i64 lo, .int .i64 hi, .int .i64 ov, .int .i64 un]] w fun e w' => e = .returned (.int .i64 0) ∧ Below w.heap.size w w' := by
  have hTp := Lib.hid (fun w9 => nTop w9 a lo hi ov un hk)
  have w1 : IntKind.i64.wrap (hi - hi) = 0 := by rw [IntKind.wrap_i64]; omega
  have w2 : hi - hi = 0 := by omega
  clear hk
  obtain ⟨w0, hw0⟩ : ∃ w0, w0 = w.alloc (.cells #[.pointer none, .int .i64 a, .int .i64 lo, .int .i64 hi, .int .i64 ov, .int .i64 un] 60) := ⟨_, rfl⟩
  have hB : Blk w0 w.heap.size #[.pointer none, .int .i64 a, .int .i64 lo, .int .i64 hi, .int .i64 ov, .int .i64 un] 60 := by subst hw0; exact Blk.new _ _ _
  have hb := Lib.hid (show Below w.heap.size w w0 by subst hw0; exact bel_alloc (Below.refl _ _) _)
  obtain ⟨y1, y2, y3, y4, y5, y6⟩ := hB.c6
  go_enter Try.func43, Try.ntmps43
  go_upto_region 1 with fail
  rw [← hw0]
  clear hw0
  have hBd := hB.drew
  clear hB
  have hB := hBd
  clear hBd
  replace hb := Lib.hid (bel_drew hb.out)
  refine wp_region_noPanic ?_
  refine wp_region_held_drew (S := (fun w' => w'.cell? ⟨w.heap.size, 0, none⟩ = some (.pointer none) ∧ w'.cell? ⟨w.heap.size, 1, none⟩ = some (.int .i64 a) ∧ w'.cell? ⟨w.heap.size, 2, none⟩ = some (.int .i64 lo) ∧ w'.cell? ⟨w.heap.size, 3, none⟩ = some (.int .i64 hi) ∧ w'.cell? ⟨w.heap.size, 4, none⟩ = some (.int .i64 ov) ∧ w'.cell? ⟨w.heap.size, 5, none⟩ = some (.int .i64 un))) (by kernel_rfl) ?_ (fun hHeld => ?_)
  · (try dsimp only); exact ⟨y1, y2, y3, y4, y5, y6⟩
  refine wpAnyH_take (i := 0) (oi := { dst := some 3, op := Go.Op.fieldAddr 60 (Go.Operand.tmp 1) 3, type := 0, pos := "stack.go:41", after := #[], guard := none }) (v := ?v1) rfl (by kernel_rfl) (by kernel_rfl) (by kernel_rfl) (fun _ _ _ h => h) (Or.inl ⟨by rfl, ?hy1⟩) (by assumption) ?rest1
  case hy1 => (intro w hSw; (try dsimp only at hSw); obtain ⟨y1, y2, y3, y4, y5, y6⟩ := hSw; go_simp <;> with_reducible rfl)
  try simp only [Act.put, List.setIfInBounds_toArray, List.set_cons_zero, List.set_cons_succ]
  refine wpAnyH_take (i := 1) (oi := { dst := some 4, op := Go.Op.load 3 (Go.Operand.tmp 3), type := 3, pos := "stack.go:41", after := #[{ on := 0, ground := Go.Ground.data }], guard := none }) (v := ?v2) rfl (by kernel_rfl) (by kernel_rfl) (by kernel_rfl) (fun _ _ _ h => h) (Or.inl ⟨by rfl, ?hy2⟩) (by assumption) ?rest2
  case hy2 => (intro w hSw; (try dsimp only at hSw); obtain ⟨y1, y2, y3, y4, y5, y6⟩ := hSw; go_simp <;> with_reducible rfl)
  try simp only [Act.put, List.setIfInBounds_toArray, List.set_cons_zero, List.set_cons_succ]
  refine wpAnyH_take (i := 2) (oi := { dst := some 5, op := Go.Op.load 60 (Go.Operand.tmp 1), type := 60, pos := "stack.go:41", after := #[], guard := none }) (v := ?v3) rfl (by kernel_rfl) (by kernel_rfl) (by kernel_rfl) (fun _ _ _ h => h) (Or.inl ⟨by rfl, ?hy3⟩) (by assumption) ?rest3
  case hy3 => (intro w hSw; (try dsimp only at hSw); obtain ⟨y1, y2, y3, y4, y5, y6⟩ := hSw; go_simp <;> with_reducible rfl)
  try simp only [Act.put, List.setIfInBounds_toArray, List.set_cons_zero, List.set_cons_succ]
  refine wpAnyH_ready (rs := [3]) (by kernel_rfl) (by simp) ?_
  refine AllReadyH.cons (o := { dst := some 6, op := Go.Op.call { callee := Go.Callee.value (Go.Operand.func 60), args := #[Go.Operand.tmp 5], argTypes := #[60] }, type := 3, pos := "stack.go:41", after := #[{ on := 2, ground := Go.Ground.data }], guard := none }) rfl (fun K hK => ?_) AllReadyH.nil
  go_simp
  go_at_call 60; refine (hTp.out _).mono ?_; rintro e w2 ⟨rfl, hb2⟩; have hB2 := hB.below hb2; clear hB; have hB := hB2; clear hB2; replace hb := Lib.hid (bel_trans hb.out hb2); clear hb2; clear y1 y2 y3 y4 y5 y6; obtain ⟨y1, y2, y3, y4, y5, y6⟩ := hB.c6
  refine hK.out _ _ ?_ (fun hHeld2 => ?_)
  · (try dsimp only); exact ⟨y1, y2, y3, y4, y5, y6⟩
  clear hK K hHeld
  have hHeld := hHeld2
  clear hHeld2
  try simp only [Act.put, List.setIfInBounds_toArray, List.set_cons_zero, List.set_cons_succ]
  refine wpAnyH_take (i := 4) (oi := { dst := some 7, op := Go.Op.binOp Go.BinOp.sub 3 (Go.Operand.tmp 4) (Go.Operand.tmp 6) 3, type := 3, pos := "stack.go:41", after := #[{ on := 1, ground := Go.Ground.data }, { on := 3, ground := Go.Ground.data }], guard := none }) (v := ?v4) rfl (by kernel_rfl) (by kernel_rfl) (by kernel_rfl) (fun _ _ _ h => h) (Or.inl ⟨by rfl, ?hy4⟩) (by assumption) ?rest4
  case hy4 => (intro w hSw; (try dsimp only at hSw); obtain ⟨y1, y2, y3, y4, y5, y6⟩ := hSw; go_simp <;> with_reducible rfl)
  try simp only [Act.put, List.setIfInBounds_toArray, List.set_cons_zero, List.set_cons_succ]
  refine wpAnyH_take (i := 5) (oi := { dst := some 8, op := Go.Op.binOp Go.BinOp.shr 3 (Go.Operand.tmp 7) (Go.Operand.const (Go.Value.int Go.IntKind.u64 3)) 91, type := 3, pos := "stack.go:41", after := #[{ on := 4, ground := Go.Ground.data }], guard := none }) (v := ?v5) rfl (by kernel_rfl) (by kernel_rfl) (by kernel_rfl) (fun _ _ _ h => h) (Or.inl ⟨by rfl, ?hy5⟩) (by assumption) ?rest5
  case hy5 => (intro w hSw; (try dsimp only at hSw); obtain ⟨y1, y2, y3, y4, y5, y6⟩ := hSw; go_simp <;> with_reducible rfl)
  try simp only [Act.put, List.setIfInBounds_toArray, List.set_cons_zero, List.set_cons_succ]
  refine wpAnyH_take (i := 6) (oi := { dst := some 2, op := Go.Op.assign (Go.Operand.tmp 8), type := 3, pos := "stack.go:41", after := #[{ on := 5, ground := Go.Ground.data }, { on := 3, ground := Go.Ground.chain }, { on := 0, ground := Go.Ground.phase }, { on := 1, ground := Go.Ground.phase }, { on := 2, ground := Go.Ground.phase }, { on := 3, ground := Go.Ground.phase }, { on := 4, ground := Go.Ground.phase }, { on := 5, ground := Go.Ground.phase }], guard := none }) (v := ?v6) rfl (by kernel_rfl) (by kernel_rfl) (by kernel_rfl) (fun _ _ _ h => h) (Or.inl ⟨by rfl, ?hy6⟩) (by assumption) ?rest6
  case hy6 => (intro w hSw; (try dsimp only at hSw); obtain ⟨y1, y2, y3, y4, y5, y6⟩ := hSw; go_simp <;> with_reducible rfl)
  try simp only [Act.put, List.setIfInBounds_toArray, List.set_cons_zero, List.set_cons_succ]
  refine wpAnyH_done (by kernel_rfl) ?_ _
  refine NoPanic.normal ?_
  go_wp2
  go_ret
  exact ⟨rfl, hb.out⟩
theorem nPush (w : World) (a lo hi ov un : Int) (hk : Sk a lo hi) (n : Int) : Calls Try.prog 32 #[.agg #[.pointer none, .int .i64 a, .int .i64 lo, .int .i64 hi, .int .i64 ov, .int .i64 un], .int .i64 n] w fun e w' => e = .returned (.int .i64 ov) ∧ Below w.heap.size w w' := by
  have hTp := Lib.hid (fun w9 => nTop w9 a lo hi ov un hk)
  unfold Sk at hk
  have t1 : (hi - 8 < lo) = False := by simp; omega
  have w1 : IntKind.i64.wrap (hi - 8) = hi - 8 := by rw [IntKind.wrap_i64]; omega
  clear hk
  obtain ⟨w0, hw0⟩ : ∃ w0, w0 = w.alloc (.cells #[.pointer none, .int .i64 a, .int .i64 lo, .int .i64 hi, .int .i64 ov, .int .i64 un] 60) := ⟨_, rfl⟩
  have hB : Blk w0 w.heap.size #[.pointer none, .int .i64 a, .int .i64 lo, .int .i64 hi, .int .i64 ov, .int .i64 un] 60 := by subst hw0; exact Blk.new _ _ _
  have hb := Lib.hid (show Below w.heap.size w w0 by subst hw0; exact bel_alloc (Below.refl _ _) _)
  obtain ⟨y1, y2, y3, y4, y5, y6⟩ := hB.c6
  go_enter Try.func32, Try.ntmps32
  go_upto_region 1 with fail
  rw [← hw0]
  clear hw0
  go_wp2_with (go_at_call 60; refine (hTp.out _).mono ?_; rintro e w2 ⟨rfl, hb2⟩; have hB2 := hB.below hb2; clear hB; have hB := hB2; clear hB2; replace hb := Lib.hid (bel_trans hb.out hb2); clear hb2; clear y1 y2 y3 y4 y5 y6; obtain ⟨y1, y2, y3, y4, y5, y6⟩ := hB.c6)
  go_ret
  exact ⟨rfl, hb.out⟩
set_option maxRecDepth 100000 in
theorem nPeek (w : World) (a lo hi ov un : Int) (hk : Sk a lo hi) : Calls Try.prog 41 #[.agg #[.pointer none, .int .i64 a, .int .i64 lo, .int .i64 hi, .int .i64 ov, .int .i64 un], .int .i64 0] w fun e w' => e = .returned (.tuple #[.int .i64 0, .int .i64 un]) ∧ Below w.heap.size w w' := by
  have hDp := Lib.hid (fun w9 => nDep w9 a lo hi ov un hk)
  clear hk
  obtain ⟨w0, hw0⟩ : ∃ w0, w0 = w.alloc (.cells #[.pointer none, .int .i64 a, .int .i64 lo, .int .i64 hi, .int .i64 ov, .int .i64 un] 60) := ⟨_, rfl⟩
  have hB : Blk w0 w.heap.size #[.pointer none, .int .i64 a, .int .i64 lo, .int .i64 hi, .int .i64 ov, .int .i64 un] 60 := by subst hw0; exact Blk.new _ _ _
  have hb := Lib.hid (show Below w.heap.size w w0 by subst hw0; exact bel_alloc (Below.refl _ _) _)
  obtain ⟨y1, y2, y3, y4, y5, y6⟩ := hB.c6
  go_enter Try.func41, Try.ntmps41
  go_upto_region 1 with fail
  rw [← hw0]
  clear hw0
  go_upto_region 2 with (go_at_call 43; refine (hDp.out _).mono ?_; rintro e w2 ⟨rfl, hb2⟩; have hB2 := hB.below hb2; clear hB; have hB := hB2; clear hB2; replace hb := Lib.hid (bel_trans hb.out hb2); clear hb2; clear y1 y2 y3 y4 y5 y6; obtain ⟨y1, y2, y3, y4, y5, y6⟩ := hB.c6)
  have hBd := hB.drew
  clear hB
  have hB := hBd
  clear hBd
  replace hb := Lib.hid (bel_drew hb.out)
  refine wp_region_noPanic ?_
  refine wp_region_held_drew (S := (fun w' => w'.cell? ⟨w.heap.size, 0, none⟩ = some (.pointer none) ∧ w'.cell? ⟨w.heap.size, 1, none⟩ = some (.int .i64 a) ∧ w'.cell? ⟨w.heap.size, 2, none⟩ = some (.int .i64 lo) ∧ w'.cell? ⟨w.heap.size, 3, none⟩ = some (.int .i64 hi) ∧ w'.cell? ⟨w.heap.size, 4, none⟩ = some (.int .i64 ov) ∧ w'.cell? ⟨w.heap.size, 5, none⟩ = some (.int .i64 un))) (by kernel_rfl) ?_ (fun hHeld => ?_)
  · (try dsimp only); exact ⟨y1, y2, y3, y4, y5, y6⟩
  refine wpAnyH_take (i := 0) (oi := { dst := some 14, op := Go.Op.fieldAddr 60 (Go.Operand.tmp 2) 5, type := 0, pos := "stack.go:57", after := #[{ on := 2, ground := Go.Ground.gcOnly Go.Departure.lateStores }], guard := none }) (v := ?v7) rfl (by kernel_rfl) (by kernel_rfl) (by kernel_rfl) (fun _ _ _ h => h) (Or.inl ⟨by rfl, ?hy7⟩) (by assumption) ?rest7
  case hy7 => (intro w hSw; (try dsimp only at hSw); obtain ⟨y1, y2, y3, y4, y5, y6⟩ := hSw; go_simp <;> with_reducible rfl)
  try simp only [Act.put, List.setIfInBounds_toArray, List.set_cons_zero, List.set_cons_succ]
  refine wpAnyH_take (i := 1) (oi := { dst := some 15, op := Go.Op.load 3 (Go.Operand.tmp 14), type := 3, pos := "stack.go:57", after := #[{ on := 0, ground := Go.Ground.data }, { on := 2, ground := Go.Ground.gcOnly Go.Departure.lateStores }], guard := none }) (v := ?v8) rfl (by kernel_rfl) (by kernel_rfl) (by kernel_rfl) (fun _ _ _ h => h) (Or.inl ⟨by rfl, ?hy8⟩) (by assumption) ?rest8
  case hy8 => (intro w hSw; (try dsimp only at hSw); obtain ⟨y1, y2, y3, y4, y5, y6⟩ := hSw; go_simp <;> with_reducible rfl)
  try simp only [Act.put, List.setIfInBounds_toArray, List.set_cons_zero, List.set_cons_succ]
  refine wpAnyH_take (i := 2) (oi := { dst := some 4, op := Go.Op.assign (Go.Operand.const (Go.Value.int Go.IntKind.i64 0)), type := 2, pos := "stack.go:57", after := #[{ on := 0, ground := Go.Ground.textOnly Go.Departure.lateStores }, { on := 1, ground := Go.Ground.textOnly Go.Departure.lateStores }], guard := none }) (v := ?v9) rfl (by kernel_rfl) (by kernel_rfl) (by kernel_rfl) (fun _ _ _ h => h) (Or.inl ⟨by rfl, ?hy9⟩) (by assumption) ?rest9
  case hy9 => (intro w hSw; (try dsimp only at hSw); obtain ⟨y1, y2, y3, y4, y5, y6⟩ := hSw; go_simp <;> with_reducible rfl)
  try simp only [Act.put, List.setIfInBounds_toArray, List.set_cons_zero, List.set_cons_succ]
  refine wpAnyH_take (i := 3) (oi := { dst := some 5, op := Go.Op.assign (Go.Operand.tmp 15), type := 3, pos := "stack.go:57", after := #[{ on := 1, ground := Go.Ground.data }, { on := 2, ground := Go.Ground.chain }, { on := 0, ground := Go.Ground.phase }, { on := 1, ground := Go.Ground.phase }, { on := 2, ground := Go.Ground.phase }], guard := none }) (v := ?v10) rfl (by kernel_rfl) (by kernel_rfl) (by kernel_rfl) (fun _ _ _ h => h) (Or.inl ⟨by rfl, ?hy10⟩) (by assumption) ?rest10
  case hy10 => (intro w hSw; (try dsimp only at hSw); obtain ⟨y1, y2, y3, y4, y5, y6⟩ := hSw; go_simp <;> with_reducible rfl)
  try simp only [Act.put, List.setIfInBounds_toArray, List.set_cons_zero, List.set_cons_succ]
  refine wpAnyH_done (by kernel_rfl) ?_ _
  refine NoPanic.normal ?_
  go_wp2
  go_ret2
  exact ⟨rfl, hb.out⟩
theorem nPop (w : World) (a lo hi ov un : Int) (hk : Sk a lo hi) (hun : (un == 0) = false) : Calls Try.prog 34 #[.agg #[.pointer none, .int .i64 a, .int .i64 lo, .int .i64 hi, .int .i64 ov, .int .i64 un]] w fun e w' => e = .returned (.tuple #[.int .i64 0, .int .i64 un]) ∧ Below w.heap.size w w' := by
  have hPk := Lib.hid (fun w9 => nPeek w9 a lo hi ov un hk)
  clear hk
  obtain ⟨w0, hw0⟩ : ∃ w0, w0 = w.alloc (.cells #[.pointer none, .int .i64 a, .int .i64 lo, .int .i64 hi, .int .i64 ov, .int .i64 un] 60) := ⟨_, rfl⟩
  have hB : Blk w0 w.heap.size #[.pointer none, .int .i64 a, .int .i64 lo, .int .i64 hi, .int .i64 ov, .int .i64 un] 60 := by subst hw0; exact Blk.new _ _ _
  have hb := Lib.hid (show Below w.heap.size w w0 by subst hw0; exact bel_alloc (Below.refl _ _) _)
  obtain ⟨y1, y2, y3, y4, y5, y6⟩ := hB.c6
  go_enter Try.func34, Try.ntmps34
  go_upto_region 1 with fail
  rw [← hw0]
  clear hw0
  go_wp2_with (go_at_call 41; refine (hPk.out _).mono ?_; rintro e w2 ⟨rfl, hb2⟩; have hB2 := hB.below hb2; clear hB; have hB := hB2; clear hB2; replace hb := Lib.hid (bel_trans hb.out hb2); clear hb2; clear y1 y2 y3 y4 y5 y6; obtain ⟨y1, y2, y3, y4, y5, y6⟩ := hB.c6)
  go_ret2
  exact ⟨rfl, hb.out⟩
theorem nDepth' (w : World) : Calls Try.prog 22 #[.pointer none] w fun e w' => e = .returned (.int .i64 0) ∧ Below w.heap.size w w' := by
  go_enter Try.func22, Try.ntmps22
  go_wp2_with (first
    | (go_at_call 31; refine (mdata _ none).mono ?_; rintro e w1 ⟨rfl, hb1⟩; replace hb1 := Lib.hid hb1)
    | (go_at_call 43; refine (nDep _ 32 256 512 (-3) (-4) (by unfold Sk; omega)).mono ?_; rintro e w2 ⟨rfl, hb2⟩; replace hb2 := Lib.hid hb2))
  go_ret
  exact ⟨rfl, bel_trans hb1.out hb2.out⟩
theorem nDeep' (w : World) : Calls Try.prog 23 #[.pointer none] w fun e w' => e = .returned (.int .i64 0) ∧ Below w.heap.size w w' := by
  go_enter Try.func23, Try.ntmps23
  go_wp2_with (first
    | (go_at_call 33; refine (mback _ none).mono ?_; rintro e w1 ⟨rfl, hb1⟩; replace hb1 := Lib.hid hb1)
    | (go_at_call 43; refine (nDep _ 40 512 768 (-5) (-6) (by unfold Sk; omega)).mono ?_; rintro e w2 ⟨rfl, hb2⟩; replace hb2 := Lib.hid hb2))
  go_ret
  exact ⟨rfl, bel_trans hb1.out hb2.out⟩
theorem nPush' (w : World) (n : Int) : Calls Try.prog 9 #[.pointer none, .int .i64 n] w fun e w' => e = .returned (.int .i64 (-3)) ∧ Below w.heap.size w w' := by
  go_enter Try.func9, Try.ntmps9
  go_wp2_with (first
    | (go_at_call 31; refine (mdata _ none).mono ?_; rintro e w1 ⟨rfl, hb1⟩; replace hb1 := Lib.hid hb1)
    | (go_at_call 32; refine (nPush _ 32 256 512 (-3) (-4) (by unfold Sk; omega) n).mono ?_; rintro e w2 ⟨rfl, hb2⟩; replace hb2 := Lib.hid hb2))
  go_ret
  exact ⟨rfl, bel_trans hb1.out hb2.out⟩
theorem nRPush' (w : World) (n : Int) : Calls Try.prog 10 #[.pointer none, .int .i64 n] w fun e w' => e = .returned (.int .i64 (-5)) ∧ Below w.heap.size w w' := by
  go_enter Try.func10, Try.ntmps10
  go_wp2_with (first
    | (go_at_call 33; refine (mback _ none).mono ?_; rintro e w1 ⟨rfl, hb1⟩; replace hb1 := Lib.hid hb1)
    | (go_at_call 32; refine (nPush _ 40 512 768 (-5) (-6) (by unfold Sk; omega) n).mono ?_; rintro e w2 ⟨rfl, hb2⟩; replace hb2 := Lib.hid hb2))
  go_ret
  exact ⟨rfl, bel_trans hb1.out hb2.out⟩
theorem nPop' (w : World) : Calls Try.prog 11 #[.pointer none] w fun e w' => e = .returned (.tuple #[.int .i64 0, .int .i64 (-4)]) ∧ Below w.heap.size w w' := by
  go_enter Try.func11, Try.ntmps11
  go_wp2_with (first
    | (go_at_call 31; refine (mdata _ none).mono ?_; rintro e w1 ⟨rfl, hb1⟩; replace hb1 := Lib.hid hb1)
    | (go_at_call 34; refine (nPop _ 32 256 512 (-3) (-4) (by unfold Sk; omega) (by decide)).mono ?_; rintro e w2 ⟨rfl, hb2⟩; replace hb2 := Lib.hid hb2))
  go_ret2
  exact ⟨rfl, bel_trans hb1.out hb2.out⟩
theorem nRPop' (w : World) : Calls Try.prog 12 #[.pointer none] w fun e w' => e = .returned (.tuple #[.int .i64 0, .int .i64 (-6)]) ∧ Below w.heap.size w w' := by
  go_enter Try.func12, Try.ntmps12
  go_wp2_with (first
    | (go_at_call 33; refine (mback _ none).mono ?_; rintro e w1 ⟨rfl, hb1⟩; replace hb1 := Lib.hid hb1)
    | (go_at_call 34; refine (nPop _ 40 512 768 (-5) (-6) (by unfold Sk; omega) (by decide)).mono ?_; rintro e w2 ⟨rfl, hb2⟩; replace hb2 := Lib.hid hb2))
  go_ret2
  exact ⟨rfl, bel_trans hb1.out hb2.out⟩
theorem nAt' (w : World) : Calls Try.prog 20 #[.pointer none, .int .i64 0] w fun e w' => e = .returned (.tuple #[.int .i64 0, .int .i64 (-4)]) ∧ Below w.heap.size w w' := by
  go_enter Try.func20, Try.ntmps20
  go_wp2_with (first
    | (go_at_call 31; refine (mdata _ none).mono ?_; rintro e w1 ⟨rfl, hb1⟩; replace hb1 := Lib.hid hb1)
    | (go_at_call 41; refine (nPeek _ 32 256 512 (-3) (-4) (by unfold Sk; omega)).mono ?_; rintro e w2 ⟨rfl, hb2⟩; replace hb2 := Lib.hid hb2))
  go_ret2
  exact ⟨rfl, bel_trans hb1.out hb2.out⟩
set_option maxRecDepth 100000 in
set_option maxHeartbeats 1600000 in
theorem nClear (w : World) : Calls Try.prog 19 #[.pointer none] w fun e w' => e = .returned (.tuple #[]) ∧ Below w.heap.size w w' := by
  go_enter Try.func19, Try.ntmps19
  go_wp2_with (first
    | (go_at_call 31; refine (mdata _ none).mono ?_; rintro e w1 ⟨rfl, hb1⟩; replace hb1 := Lib.hid hb1)
    | (go_at_call 33; refine (mback _ none).mono ?_; rintro e w2 ⟨rfl, hb2⟩; replace hb1 := Lib.hid (bel_trans hb1.out hb2); clear hb2))
  obtain ⟨b0, hb0⟩ : ∃ b0, b0 = w2.heap.size := ⟨_, rfl⟩
  obtain ⟨w3, hw3⟩ : ∃ w3, w3 = w2.alloc (.cells #[.pointer none, .int .i64 32, .int .i64 256, .int .i64 512, .int .i64 (-3), .int .i64 (-4), .pointer none, .int .i64 40, .int .i64 512, .int .i64 768, .int .i64 (-5), .int .i64 (-6)] 60) := ⟨_, rfl⟩
  have hB : Blk w3 b0 #[.pointer none, .int .i64 32, .int .i64 256, .int .i64 512, .int .i64 (-3), .int .i64 (-4), .pointer none, .int .i64 40, .int .i64 512, .int .i64 768, .int .i64 (-5), .int .i64 (-6)] 60 := by subst hw3 hb0; exact Blk.new _ _ _
  have hb : Below w.heap.size w w3 := by subst hw3; exact bel_alloc hb1.out _
  rw [← hw3, ← hb0]
  clear hw3 hb0 hb1
  go_loopw [10] (fun i wr => ∃ (k : Nat), i = .int .i64 (k : Int) ∧ k ≤ 2 ∧ Blk wr b0 #[.pointer none, .int .i64 32, .int .i64 256, .int .i64 512, .int .i64 (-3), .int .i64 (-4), .pointer none, .int .i64 40, .int .i64 512, .int .i64 768, .int .i64 (-5), .int .i64 (-6)] 60 ∧ Below w.heap.size w wr) (fun i _ => (2 - (intOf i).toNat))
  case atStart => exact ⟨0, rfl, by omega, hB, hb⟩
  case round =>
    clear hB hb
    obtain ⟨k, rfl, hk, hB, hb⟩ := hrel
    obtain ⟨⟨z0, z1, z2, z3, z4, z5⟩, x0, x1, x2, x3, x4, x5⟩ := hB.c12
    rcases (show k = 0 ∨ k = 1 ∨ k = 2 by omega) with rfl | rfl | rfl
    · clear x0 x1 x2 x3 x4 x5
      go_upto_region 3 with fail
      obtain ⟨b1, hb1⟩ : ∃ b1, b1 = wr.heap.size := ⟨_, rfl⟩
      obtain ⟨w3, hw3⟩ : ∃ w3, w3 = wr.alloc (.cells #[.pointer none, .int .i64 32, .int .i64 256, .int .i64 512, .int .i64 (-3), .int .i64 (-4)] 60) := ⟨_, rfl⟩
      have hN : Blk w3 b1 #[.pointer none, .int .i64 32, .int .i64 256, .int .i64 512, .int .i64 (-3), .int .i64 (-4)] 60 := by subst hw3 hb1; exact Blk.new _ _ _
      have hbx : Below wr.heap.size wr w3 := by subst hw3; exact bel_alloc (Below.refl _ _) _
      rw [← hw3, ← hb1]
      have hB3 := hB.below hbx
      replace hb := Lib.hid (bel_trans hb hbx)
      clear hB hw3 hb1 hbx z0 z1 z2 z3 z4 z5
      obtain ⟨y1, y2, y3, y4, y5, y6⟩ := hN.c6
      go_wp2_with (go_at_call 40; refine (nSetT _ 32 256 512 (-3) (-4) 512).mono ?_; rintro e w4 ⟨rfl, hb2⟩; have hB := hB3.below hb2; clear hB3; replace hb := Lib.hid (bel_trans hb.out hb2); clear hb2)
      go_roundw
      case rel => exact ⟨1, rfl, by omega, hB, hb.out⟩
      case measure => simp [intOf]
    · clear z0 z1 z2 z3 z4 z5
      have z0 := x0
      have z1 := x1
      have z2 := x2
      have z3 := x3
      have z4 := x4
      have z5 := x5
      clear x0 x1 x2 x3 x4 x5
      go_upto_region 3 with fail
      obtain ⟨b1, hb1⟩ : ∃ b1, b1 = wr.heap.size := ⟨_, rfl⟩
      obtain ⟨w3, hw3⟩ : ∃ w3, w3 = wr.alloc (.cells #[.pointer none, .int .i64 40, .int .i64 512, .int .i64 768, .int .i64 (-5), .int .i64 (-6)] 60) := ⟨_, rfl⟩
      have hN : Blk w3 b1 #[.pointer none, .int .i64 40, .int .i64 512, .int .i64 768, .int .i64 (-5), .int .i64 (-6)] 60 := by subst hw3 hb1; exact Blk.new _ _ _
      have hbx : Below wr.heap.size wr w3 := by subst hw3; exact bel_alloc (Below.refl _ _) _
      rw [← hw3, ← hb1]
      have hB3 := hB.below hbx
      replace hb := Lib.hid (bel_trans hb hbx)
      clear hB hw3 hb1 hbx z0 z1 z2 z3 z4 z5
      obtain ⟨y1, y2, y3, y4, y5, y6⟩ := hN.c6
      go_wp2_with (go_at_call 40; refine (nSetT _ 40 512 768 (-5) (-6) 768).mono ?_; rintro e w4 ⟨rfl, hb2⟩; have hB := hB3.below hb2; clear hB3; replace hb := Lib.hid (bel_trans hb.out hb2); clear hb2)
      go_roundw
      case rel => exact ⟨2, rfl, by omega, hB, hb.out⟩
      case measure => simp [intOf]
    · clear z0 z1 z2 z3 z4 z5 x0 x1 x2 x3 x4 x5
      go_wp2
      (try go_end0)
      exact ⟨rfl, hb⟩
theorem nTakes (w : World) : Calls Try.prog 21 #[.pointer none, .int .i64 1] w fun e w' => e = .returned (.tuple #[.slice none 0 0, .int .i64 (-4)]) ∧ Below w.heap.size w w' := by
  go_enter Try.func21, Try.ntmps21
  go_wp2_with (go_at_call 22; refine (nDepth' _).mono ?_; rintro e w2 ⟨rfl, hb⟩; replace hb := Lib.hid hb)
  go_ret2
  exact ⟨rfl, hb.out⟩
theorem nCells (w : World) : Calls Try.prog 24 #[.pointer none] w fun e w' => e = .returned (.slice none 0 0) ∧ Below w.heap.size w w' := by
  go_enter Try.func24, Try.ntmps24
  go_wp2_with (go_at_call 22; refine (nDepth' _).mono ?_; rintro e w2 ⟨rfl, hb⟩; replace hb := Lib.hid hb)
  go_loopw [3, 4] (fun l i wr => l = .slice none 0 0 ∧ i = .int .i64 (-1) ∧ Below w.heap.size w wr) (fun _ i _ => 0)
  case atStart => exact ⟨rfl, rfl, hb.out⟩
  case round =>
    obtain ⟨rfl, rfl, hbr⟩ := hrel
    go_wp2
    go_ret
    exact ⟨rfl, hbr⟩
set_option maxHeartbeats 1600000 in
theorem stackNone (n : Int) (hn : isI n) (w : World) : Calls Try.prog 5 #[.int .i64 n] w fun e w' => e = .returned (.bool true) ∧ Below w.heap.size w w' := by
  have hA := Lib.hid (wAwake w)
  clear hn
  go_enter Try.func5, Try.ntmps5
  go_wp2_with (first
    | (go_at_call 7; refine hA.out.mono ?_; rintro e w2 ⟨rfl, hb⟩; replace hb := Lib.hid hb)
    | (go_at_call 19; refine (nClear _).mono ?_; rintro e w2 ⟨rfl, hb2⟩; replace hb := Lib.hid (bel_trans hb.out hb2); clear hb2)
    | (go_at_call 11; refine (nPop' _).mono ?_; rintro e w2 ⟨rfl, hb2⟩; replace hb := Lib.hid (bel_trans hb.out hb2); clear hb2)
    | (go_at_call 12; refine (nRPop' _).mono ?_; rintro e w2 ⟨rfl, hb2⟩; replace hb := Lib.hid (bel_trans hb.out hb2); clear hb2)
    | (go_at_call 20; refine (nAt' _).mono ?_; rintro e w2 ⟨rfl, hb2⟩; replace hb := Lib.hid (bel_trans hb.out hb2); clear hb2)
    | (go_at_call 21; refine (nTakes _).mono ?_; rintro e w2 ⟨rfl, hb2⟩; replace hb := Lib.hid (bel_trans hb.out hb2); clear hb2)
    | (go_at_call 9; refine (nPush' _ n).mono ?_; rintro e w2 ⟨rfl, hb2⟩; replace hb := Lib.hid (bel_trans hb.out hb2); clear hb2)
    | (go_at_call 10; refine (nRPush' _ n).mono ?_; rintro e w2 ⟨rfl, hb2⟩; replace hb := Lib.hid (bel_trans hb.out hb2); clear hb2)
    | (go_at_call 22; refine (nDepth' _).mono ?_; rintro e w2 ⟨rfl, hb2⟩; replace hb := Lib.hid (bel_trans hb.out hb2); clear hb2)
    | (go_at_call 23; refine (nDeep' _).mono ?_; rintro e w2 ⟨rfl, hb2⟩; replace hb := Lib.hid (bel_trans hb.out hb2); clear hb2)
    | (go_at_call 24; refine (nCells _).mono ?_; rintro e w2 ⟨rfl, hb2⟩; replace hb := Lib.hid (bel_trans hb.out hb2); clear hb2))
  go_ret
  exact ⟨rfl, hb.out⟩
end Go.Proofs.Ytjeelccdbhhfjaa
