/- The acts, opened. -/
import Derived.Test.YtjeelccdbhhfjaaT13
import Derived.Deep.SlicePairs
import Derived.ProofKit
import Derived.OpenShut
import Derived.ChangeOld
import Derived.Lib.SmallJoins
import Derived.ChangeMaps5
import Derived.ChangeSlices
namespace Go.Proofs.Ytjeelccdbhhfjaa
open Go.ChangeMaps Go.ChangeShapes Go.WideShapes Go.ChangeAt Go.RowKit Go.Joins Go.Deep
set_option linter.unusedVariables false
variable {H : Type} {enc : TypeId × Value → H} {w : World} {base : Nat} {spare : Nat → Bool} {held : Bool}

theorem i64_wf' {n : Int} (h : (Lit.int .i64 n).wf = true) : isI n := by
  simp [Lit.wf, IntKind.min, IntKind.max, IntKind.signed, IntKind.bits] at h
  unfold isI; omega
/-- A slice of integers that came in. -/
theorem open_rvI {fuel : Nat} {a0 : Option Addr} {n c : Nat} {x : DataW H × List MemPlace} (h : DataW.trod enc Try.prog w base spare held fuel 22 [.slice a0 n c] = some x) : ∃ l : List Int, l.length = n ∧ Rv w 1 (.slice a0 n c) n (ic l) ∧ (∀ z ∈ l, isI z) ∧ n ≤ 9223372036854775807 := by
  rcases open_ints Try.underlying22 Try.underlying2 (show Try.prog.cellsOf 2 = 1 by kernel_rfl) h with ⟨hcs, _⟩ | ⟨a, len, cap, zs, hcs, hb, hl, hm2, hlen, hx, hcell, hwf⟩
  · simp at hcs
    obtain ⟨rfl, rfl, rfl⟩ := hcs
    exact ⟨[], rfl, ⟨by simp [ic], by simp [ic], .inl ⟨rfl, rfl⟩⟩, by simp, by omega⟩
  · simp at hcs
    obtain ⟨rfl, rfl, rfl⟩ := hcs
    have hzl : n ≤ zs.length := by rw [hlen]; split <;> omega
    have hln : (zs.take n).length = n := by rw [List.length_take]; omega
    unfold maxLen at hm2
    refine ⟨zs.take n, hln, ⟨by rw [ic_len, hln]; omega, fun u hu => by obtain ⟨z, _, rfl⟩ := List.mem_map.1 hu; rfl, .inr ⟨a, c, rfl, fun j u hj => ?_⟩⟩, fun z hz => i64_wf' (hwf z (List.mem_of_mem_take hz)), by omega⟩
    have hj2 := (List.getElem?_eq_some_iff.1 hj).1
    rw [ic_len, hln] at hj2
    rw [hcell j (by omega)]
    rw [ic, List.getElem?_map, List.getElem?_take_of_lt hj2, List.getElem?_eq_getElem (by omega)] at hj
    rw [List.getD_eq_getElem?_getD, List.getElem?_eq_getElem (by omega)]
    simpa using hj
set_option maxRecDepth 100000 in
theorem open_acts {fuel : Nat} {a0 : Option Addr} {n c : Nat} {x : DataW H × List MemPlace} (h : DataW.trod enc Try.prog w base spare held fuel 48 [.slice a0 n c] = some x) : ∃ A : List ActR, Acts w (.slice a0 n c) A ∧ A.length ≤ 9223372036854775807 := by
  rcases open_slice Try.underlying48 h with ⟨hcs, _⟩ | ⟨a, len, cap, m, k, D, Pl, hcs, hb, hl, hm, hmm, _, hx⟩
  · simp at hcs
    obtain ⟨rfl, rfl, rfl⟩ := hcs
    exact ⟨[], .inl ⟨rfl, rfl⟩, by simp⟩
  · simp at hcs
    obtain ⟨rfl, rfl, rfl⟩ := hcs
    have hlm : n ≤ m := by rw [hmm]; split <;> omega
    have each : ∀ i, i < n → ∃ x : ActR, w.cell? (a.add (i * 3 + 0)) = some (.int .i64 x.d) ∧ w.cell? (a.add (i * 3 + 1)) = some (.int .i64 x.n) ∧ w.cell? (a.add (i * 3 + 2)) = some (.slice x.ad x.l.length x.cap) ∧ isI x.n ∧ Rv w 1 (.slice x.ad x.l.length x.cap) x.l.length (ic x.l) := by
      intro i hi
      obtain ⟨cs', h1, h2⟩ := hx i (by omega)
      rw [show Try.prog.cellsOf 50 = 3 by kernel_rfl] at h1
      obtain ⟨_, hlen, hcell⟩ := World.cells?_some h1
      obtain ⟨xs, k2, hk, hxy, _, hxl, hf⟩ := DataW.trod_struct Try.underlying50 h2
      match xs, hxl, cs', hlen with
      | [y0, y1, y2], _, [v0, v1, v2], _ =>
        have g0 := hf 0 _ rfl
        have g1 := hf 1 _ rfl
        have g2 := hf 2 _ rfl
        simp [show Try.prog.cellsOf 3 = 1 by kernel_rfl, show Try.prog.cellsOf 2 = 1 by kernel_rfl, show Try.prog.cellsOf 22 = 1 by kernel_rfl] at g0 g1 g2
        have e0 := hcell 0 (by omega)
        have e1 := hcell 1 (by omega)
        have e2 := hcell 2 (by omega)
        rw [add_add] at e0 e1 e2
        obtain ⟨z0, hc0, _, w0⟩ := DataW.trod_int Try.underlying3 g0
        obtain ⟨z1, hc1, _, w1⟩ := DataW.trod_int Try.underlying2 g1
        obtain rfl : v0 = .int .i64 z0 := by simpa using hc0
        obtain rfl : v1 = .int .i64 z1 := by simpa using hc1
        obtain ⟨a2, n2, c2, rfl⟩ : ∃ a2 n2 c2, v2 = .slice a2 n2 c2 := by
          rcases DataW.trod_slice Try.underlying22 g2 with ⟨e, _⟩ | ⟨a, len, cap, _, _, _, _, e, _⟩
          · exact ⟨none, 0, 0, by simpa using e⟩
          · exact ⟨some a, len, cap, by simpa using e⟩
        obtain ⟨l, hl2, hr, _⟩ := open_rvI g2
        subst hl2
        exact ⟨⟨z0, z1, a2, c2, l⟩, by simpa using e0, by simpa using e1, by simpa using e2, i64_wf' w1, hr⟩
    obtain ⟨q, hq⟩ : ∃ q : Nat → ActR, ∀ i, i < n → w.cell? (a.add (i * 3 + 0)) = some (.int .i64 (q i).d) ∧ w.cell? (a.add (i * 3 + 1)) = some (.int .i64 (q i).n) ∧ w.cell? (a.add (i * 3 + 2)) = some (.slice (q i).ad (q i).l.length (q i).cap) ∧ isI (q i).n ∧ Rv w 1 (.slice (q i).ad (q i).l.length (q i).cap) (q i).l.length (ic (q i).l) :=
      ⟨fun i => if hi : i < n then (each i hi).choose else ⟨0, 0, none, 0, []⟩, fun i hi => by
        simp only [dif_pos hi]; exact (each i hi).choose_spec⟩
    unfold maxLen at hm
    refine ⟨(List.range n).map q, .inr ⟨a, c, by simp, fun i x hx => ?_⟩, by simp; omega⟩
    have hi : i < n := by have := (List.getElem?_eq_some_iff.1 hx).1; simpa using this
    rw [List.getElem?_map, List.getElem?_range hi] at hx
    have hx2 : q i = x := Option.some.inj hx
    rw [← hx2]
    exact hq i hi
end Go.Proofs.Ytjeelccdbhhfjaa
