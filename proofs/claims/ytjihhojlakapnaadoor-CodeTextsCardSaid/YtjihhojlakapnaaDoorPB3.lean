/- 'rows' and 'table' give the two lists. -/
import Derived.Test.YtjihhojlakapnaaDoorPB2
import Derived.Deep.CutRange
import Derived.Deep.DeepCutAuto
namespace Go.Proofs.YtjihhojlakapnaaDoor
open Go.RowKit
set_option linter.unusedVariables false
set_option linter.unusedSimpArgs false

theorem results_cell {P : Program} {fn : Func} {k : Nat} {t : TypeId} {tmps : Array Value} {p : Addr} {v : Value} {w : World} (hr : fn.results = #[ResultVar.cell k t]) (hp : tmps.getD k undef = .pointer (some p))
    (hl : (loadVar t p).run P w = .ok v w) : (results fn tmps).run P w = .ok v w := by
  have e : (tmps[k]?).getD undef = .pointer (some p) := by simpa using hp
  simp [results, hr, e, asAddr, hl]
set_option maxRecDepth 100000 in
set_option maxHeartbeats 4000000 in
theorem rowsC (w : World) : Calls Tryd.prog 43 #[] w fun e w' => e = .returned (.agg cells19) ∧ Below w.heap.size w w' := by
  have hz := (zero_of_info info39).1
  have hs := (zero_of_info info39).2
  have hB := built19 (.pointer (some ⟨w.heap.size, 0, none⟩))
  obtain ⟨a', ha', hv⟩ := Option.map_eq_some_iff.1 hB
  simp only [Prod.mk.injEq] at hv
  obtain ⟨h0, h1, h2, h3⟩ := hv
  clear hB
  go_enter Tryd.func43, Tryd.ntmps43
  go_upto_region 1 with fail
  refine region_builds (l := ops19.take 143) (rest := [st19]) (a' := a') ?_ ha' ?_
  · exact ops19_is
  refine wpList_store_row st19_op.2.1 80 (.tmp 0) (.tmp 143) st19_op.1 w.heap.size cells19 h0 h1 80 zero39 (heap_alloc_last w _) (by rw [hs, cells19_size]) (by rw [zero39_size, cells19_size]) cells19_one ?_
  rw [World.setRow_alloc_new, st19_op.2.2]
  clear ha' h0 h1 hz
  rename_i Q' K hK
  simp only [wpList]
  refine hK _ _ ?_
  clear hK K
  go_wp2
  refine bodyPost_ret (v := .agg cells19) ?_ h3 ⟨rfl, ?_⟩
  · show (results Tryd.f43 a'.tmps).run Tryd.prog _ = _
    exact results_cell Tryd.results43 h2 (run_loadVar_new w 80 cells19 142 79 (by kernel_rfl) (by rw [hs, cells19_size]))
  · exact (Below.refl _ _).alloc (Nat.le_refl _) _

set_option maxRecDepth 100000 in
set_option maxHeartbeats 4000000 in
theorem tableC (w : World) : Calls Tryd.prog 46 #[] w fun e w' => e = .returned (.slice (some ⟨w.heap.size, 0, none⟩) 141 141) ∧ w' = w.alloc (.cells cells20 88) := by
  have hB := built20 (.slice none 0 0)
  obtain ⟨a', ha', hv⟩ := Option.map_eq_some_iff.1 hB
  simp only [Prod.mk.injEq] at hv
  obtain ⟨h0, h1, h3⟩ := hv
  clear hB
  go_enter Tryd.func46, Tryd.ntmps46
  go_upto_region 1 with fail
  refine region_builds (l := ops20.take 141) (rest := [bs20, as20]) (a' := a') ?_ ha' ?_
  · exact ops20_is
  refine Great.wpList_buildSliceTo bs20_op.2.1 85 88 141 parts20 bs20_op.1 w.heap.size rfl (some 142) bs20_op.2.2 (by kernel_rfl) cells20 h0 ?_
  clear ha' h0
  refine wpList_plain as20_op.2.1 fun K' hK' => ?_
  rename_i Q' K hK
  have ev : (a'.put (some 142) (.slice (some ⟨w.heap.size, 0, none⟩) 141 141)).eval (.tmp 142) = .slice (some ⟨w.heap.size, 0, none⟩) 141 141 := by
    simp [Act.put, Act.eval, h1]
  unfold Oper.wp execOp
  simp only [as20_op.1, ev, Sem.run_pure, Result.andThen_ok, Oper.upon_value]
  refine hK' _ _ ?_
  rw [as20_op.2.2]
  simp only [wpList]
  refine hK _ _ ?_
  clear hK K hK' K'
  go_wp2
  refine bodyPost_ret (v := .slice (some ⟨w.heap.size, 0, none⟩) 141 141) ?_ h3 ⟨rfl, rfl⟩
  simp [results, Tryd.results46, Act.put, h1, go_sem]
end Go.Proofs.YtjihhojlakapnaaDoor
