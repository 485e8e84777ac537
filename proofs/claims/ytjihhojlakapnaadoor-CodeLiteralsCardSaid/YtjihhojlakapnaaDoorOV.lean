/- Slices of integers, opened. -/
import Derived.Test.YtjihhojlakapnaaDoorVS
import Derived.Deep.SlicePairs
import Derived.ProofKit
import Derived.OpenShut
import Derived.ChangeOld
import Derived.Lib.SmallJoins
import Derived.ChangeMaps5
import Derived.ChangeSlices
namespace Go.Proofs.YtjihhojlakapnaaDoor
open Go.ChangeMaps Go.ChangeShapes Go.WideShapes Go.ChangeAt Go.RowKit Go.Joins Go.Deep
set_option linter.unusedVariables false
variable {H : Type} {enc : TypeId × Value → H} {w : World} {base : Nat} {spare : Nat → Bool} {held : Bool}

theorem i64_wf' {n : Int} (h : (Lit.int .i64 n).wf = true) : isI n := by
  simp [Lit.wf, IntKind.min, IntKind.max, IntKind.signed, IntKind.bits] at h
  unfold isI; omega
/-- A slice of integers that came in. -/
theorem open_rvI {fuel : Nat} {a0 : Option Addr} {n c : Nat} {x : DataW H × List MemPlace} (h : DataW.trod enc Tryd.prog w base spare held fuel 32 [.slice a0 n c] = some x) : ∃ l : List Int, l.length = n ∧ Rv w 1 (.slice a0 n c) n (ic l) ∧ (∀ z ∈ l, isI z) ∧ n ≤ 9223372036854775807 := by
  rcases open_ints Tryd.underlying32 Tryd.underlying2 (show Tryd.prog.cellsOf 2 = 1 by kernel_rfl) h with ⟨hcs, _⟩ | ⟨a, len, cap, zs, hcs, hb, hl, hm2, hlen, hx, hcell, hwf⟩
  · simp at hcs
    obtain ⟨rfl, rfl, rfl⟩ := hcs
    exact ⟨[], rfl, ⟨by simp [ic], by simp [ic], .inl ⟨rfl, rfl⟩⟩, by simp, by omega⟩
  · simp at hcs
    obtain ⟨rfl, rfl, rfl⟩ := hcs
    have hzl : n ≤ zs.length := by rw [hlen]; split <;> omega
    have hln : (zs.take n).length = n := by rw [List.length_take]; omega
    unfold maxLen at hm2
    refine ⟨zs.take n, hln, ⟨by rw [ic_len, hln]; omega, fun u hu => by obtain ⟨z, _, rfl⟩ := List.mem_map.1 hu; rfl, .inr ⟨a, c, rfl, fun j u hj => ?_⟩⟩, fun z hz => i64_wf' (hwf z (List.mem_of_mem_take hz)), by omega⟩
    have hj2 := (List.getElem?_eq_some_iff.1 hj).1
    rw [ic_len, hln] at hj2
    rw [hcell j (by omega)]
    rw [ic, List.getElem?_map, List.getElem?_take_of_lt hj2, List.getElem?_eq_getElem (by omega)] at hj
    rw [List.getD_eq_getElem?_getD, List.getElem?_eq_getElem (by omega)]
    simpa using hj
end Go.Proofs.YtjihhojlakapnaaDoor
