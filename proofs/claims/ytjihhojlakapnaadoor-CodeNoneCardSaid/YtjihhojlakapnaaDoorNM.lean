/- A memory that nobody made. -/
import Derived.Test.YtjihhojlakapnaaDoorVS
namespace Go.Proofs.YtjihhojlakapnaaDoor
open Go.RowKit
set_option linter.unusedVariables false
set_option linter.unusedSimpArgs false
attribute [local go_sem] cell_set set_set m_undef

theorem nIs (w : World) : Calls Tryd.prog 40 #[.pointer none] w fun e w' => e = .returned (.bool false) ∧ w = w' := by
  go_enter Tryd.func40, Tryd.ntmps40
  go_wp2
  go_ret
  exact ⟨rfl, rfl⟩
set_option maxRecDepth 100000 in
theorem nLoad (w : World) (a : Int) : Calls Tryd.prog 18 #[.pointer none, .int .i64 a, .int .i64 8] w fun e w' => ∃ v, e = .returned v ∧ Bs w' w.heap.size v (List.replicate 8 0) ∧ Below w.heap.size w w' := by
  have hmk : (Instr.makeSlice 22 (.int .i64 8) (.int .i64 8)).run Tryd.prog w = .ok (.slice (some ⟨w.heap.size, 0, none⟩) 8 8) (w.alloc (.cells (cb (List.replicate 8 0)).toArray 5)) := run_made w 8 (by omega)
  have hB1 : Bs (w.alloc (.cells (cb (List.replicate 8 0)).toArray 5)) 0 (.slice (some ⟨w.heap.size, 0, none⟩) 8 8) (List.replicate 8 0) := Bs.of_blk (Blk.new w (cb (List.replicate 8 0)).toArray 5) (by simp)
  have hb := bel_alloc (Below.refl _ w) (.cells (cb (List.replicate 8 0)).toArray 5)
  have hB2 := Lib.hid (hB1.rebase (B' := w.heap.size) (fun k hk => by cases hk; exact Nat.le_refl _))
  replace hb := Lib.hid hb
  clear hB1
  generalize w.alloc (.cells (cb (List.replicate 8 0)).toArray 5) = w1 at *
  go_enter Tryd.func18, Tryd.ntmps18
  go_wp2_with (go_at_call 40; refine (nIs _).mono ?_; rintro e _ ⟨rfl, rfl⟩)
  go_ret
  exact ⟨_, rfl, hB2.out, hb.out⟩
theorem cell_zero : cellL (List.replicate 8 0) 0 = 0 := by decide
theorem nGet (w : World) (a : Int) : Calls Tryd.prog 17 #[.pointer none, .int .i64 a] w fun e w' => e = .returned (.int .i64 0) ∧ Below w.heap.size w w' := by
  have hL := Lib.hid (nLoad w a)
  go_enter Tryd.func17, Tryd.ntmps17
  go_wp2_with (first
    | (go_at_call 18; refine hL.out.mono ?_; rintro e w1 ⟨v1, rfl, hv1, hb1⟩; have hC := Lib.hid (wCell w1 w.heap.size v1 (List.replicate 8 0) 0 hv1 (by unfold isI; omega) (by simp)); rw [cell_zero] at hC; obtain ⟨ad, cap, rfl, hcap⟩ := hv1.len; clear hv1 hcap; replace hb1 := Lib.hid hb1)
    | (go_at_call 39; refine hC.out.mono ?_; rintro e w2 ⟨rfl, hb2⟩))
  go_ret
  exact ⟨rfl, bel_trans hb1.out hb2⟩
theorem nLay (w : World) (a : Int) (p : Option Addr) (n c : Nat) : Calls Tryd.prog 53 #[.pointer none, .int .i64 a, .slice p n c] w fun e w' => e = .returned (.tuple #[]) ∧ w = w' := by
  go_enter Tryd.func53, Tryd.ntmps53
  go_wp2_with (go_at_call 40; refine (nIs _).mono ?_; rintro e _ ⟨rfl, rfl⟩)
  exact bodyPost_ret (v := .tuple #[]) (by simp [results, Tryd.results53, go_sem]) rfl ⟨rfl, rfl⟩
theorem nSet (w : World) (a n : Int) : Calls Tryd.prog 42 #[.pointer none, .int .i64 a, .int .i64 n] w fun e w' => e = .returned (.tuple #[]) ∧ Below w.heap.size w w' := by
  have hmk : (Instr.makeSlice 22 (.int .i64 8) (.int .i64 8)).run Tryd.prog w = .ok (.slice (some ⟨w.heap.size, 0, none⟩) 8 8) (w.alloc (.cells (cb (List.replicate 8 0)).toArray 5)) := run_made w 8 (by omega)
  have hB1 : Bs (w.alloc (.cells (cb (List.replicate 8 0)).toArray 5)) 0 (.slice (some ⟨w.heap.size, 0, none⟩) 8 8) (List.replicate 8 0) := Bs.of_blk (Blk.new w (cb (List.replicate 8 0)).toArray 5) (by simp)
  have hb := bel_alloc (Below.refl _ w) (.cells (cb (List.replicate 8 0)).toArray 5)
  have hPC := Lib.hid (wPutCell _ 0 _ _ 0 n hB1 (by unfold isI; omega) (by simp))
  generalize w.alloc (.cells (cb (List.replicate 8 0)).toArray 5) = w1 at *
  replace hb := Lib.hid hb
  clear hB1
  go_enter Tryd.func42, Tryd.ntmps42
  go_wp2_with (first
    | (go_at_call 56; refine hPC.out.mono ?_; rintro e w2 ⟨v2, rfl, hv2, hb2⟩; obtain ⟨ad, cap, rfl, hcap⟩ := hv2.len; clear hcap hv2; replace hb := Lib.hid (bel_trans hb.out hb2); clear hb2)
    | (go_at_call 53; refine (nLay _ _ _ _ _).mono ?_; rintro e _ ⟨rfl, rfl⟩))
  (try go_end0)
  exact ⟨rfl, hb.out⟩
end Go.Proofs.YtjihhojlakapnaaDoor
