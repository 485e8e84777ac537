/- What the builds of both tables come to (by the kernel). -/
import Derived.Test.YtjihhojlakapnaaDoorPB1
namespace Go.Proofs.YtjihhojlakapnaaDoor
open Go.RowKit

theorem built19 (p : Value) : (buildAll Tryd.prog (ops19.take 143) (fr19 p)).map (fun a => (a.eval (.tmp 0), a.eval (.tmp 143), a.tmps.getD 0 undef, a.defers)) = some (p, .agg cells19, p, []) := by kernel_rfl
theorem st19_op : st19.op = .store 80 (.tmp 0) (.tmp 143) ∧ st19.guard = none ∧ st19.dst = none := by refine ⟨by kernel_rfl, by kernel_rfl, by kernel_rfl⟩
theorem ops19_is : ops19 = ops19.take 143 ++ [st19] := by kernel_rfl
theorem built20 (p : Value) : (buildAll Tryd.prog (ops20.take 141) (fr20 p)).map (fun a => (Tryd.prog.builtSlice 88 141 (parts20.map fun (i, x) => (i, a.eval x)).toList, a.tmps.size, a.defers)) = some (some cells20, 143, []) := by kernel_rfl
theorem bs20_op : bs20.op = .buildSlice 85 141 parts20 ∧ bs20.guard = none ∧ bs20.dst = some 142 := by refine ⟨by kernel_rfl, by kernel_rfl, by kernel_rfl⟩
theorem as20_op : as20.op = .assign (.tmp 142) ∧ as20.guard = none ∧ as20.dst = some 0 := by refine ⟨by kernel_rfl, by kernel_rfl, by kernel_rfl⟩
theorem ops20_is : ops20 = ops20.take 141 ++ [bs20, as20] := by kernel_rfl
end Go.Proofs.YtjihhojlakapnaaDoor
