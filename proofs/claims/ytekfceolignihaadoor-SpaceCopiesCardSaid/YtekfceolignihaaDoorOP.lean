/- The acts, opened. -/
import Derived.Test.YtekfceolignihaaDoorS1
import Derived.Deep.SlicePairs
import Derived.ProofKit
import Derived.OpenShut
import Derived.ChangeOld
import Derived.Lib.SmallJoins
import Derived.ChangeMaps5
import Derived.ChangeSlices
namespace Go.Proofs.YtekfceolignihaaDoor
open Go.ChangeMaps Go.ChangeShapes Go.WideShapes Go.ChangeAt Go.RowKit Go.Joins Go.Deep
set_option linter.unusedVariables false
/-- An act, as it came in. -/
structure ActR where
  d : Int
  n : Int
/-- The acts, as they came in. -/
def Acts (w : World) (v : Value) (A : List ActR) : Prop :=
  (v = .slice none 0 0 ∧ A = []) ∨ ∃ a cap, v = .slice (some a) A.length cap ∧ ∀ i x, A[i]? = some x → w.cell? (a.add (i * 2 + 0)) = some (.int .i64 x.d) ∧ w.cell? (a.add (i * 2 + 1)) = some (.int .i64 x.n) ∧ isI x.n
theorem Acts.form {w : World} {v : Value} {A : List ActR} (h : Acts w v A) : ∃ a cap, v = .slice a A.length cap := by
  rcases h with ⟨rfl, rfl⟩ | ⟨a, cap, rfl, _⟩
  · exact ⟨none, 0, rfl⟩
  · exact ⟨_, cap, rfl⟩
theorem Acts.at {w : World} {ad : Option Addr} {n cap : Nat} {A : List ActR} (h : Acts w (.slice ad n cap) A) (i : Nat) (x : ActR) (hx : A[i]? = some x) : ∃ a, ad = some a ∧ w.cell? (a.add (i * 2 + 0)) = some (.int .i64 x.d) ∧ w.cell? (a.add (i * 2 + 1)) = some (.int .i64 x.n) ∧ isI x.n := by
  rcases h with ⟨_, rfl⟩ | ⟨a, cap', e, h⟩
  · simp at hx
  · cases e; exact ⟨a, rfl, h i x hx⟩
theorem add_block (a : Addr) (j : Nat) : (a.add j).block = a.block := by simp only [Addr.add]; split <;> rfl
theorem add_next (a : Addr) (m j : Nat) : a.add (m + (j + 1)) = ⟨(a.add m).block, (a.add m).off + (j + 1), none⟩ := by
  have h1 : a.add (m + (j + 1)) = ⟨a.block, a.off + (m + (j + 1)), none⟩ := by simp only [Addr.add]; rw [if_neg (by omega)]
  have h2 : (a.add m).block = a.block := add_block a m
  have h3 : (a.add m).off = a.off + m := by
    simp only [Addr.add]
    split
    · omega
    · rfl
  rw [h1, h2, h3]
  congr 1
  omega
theorem i64_wf' {n : Int} (h : (Lit.int .i64 n).wf = true) : isI n := by
  simp [Lit.wf, IntKind.min, IntKind.max, IntKind.signed, IntKind.bits] at h
  unfold isI; omega
variable {H : Type} {enc : TypeId × Value → H} {w : World} {base : Nat} {spare : Nat → Bool} {held : Bool}

set_option maxRecDepth 100000 in
theorem open_acts {fuel : Nat} {a0 : Option Addr} {n c : Nat} {x : DataW H × List MemPlace} (h : DataW.trod enc Tryd.prog w base spare held fuel 22 [.slice a0 n c] = some x) : ∃ A : List ActR, Acts w (.slice a0 n c) A ∧ A.length ≤ 9223372036854775807 := by
  rcases open_slice Tryd.underlying22 h with ⟨hcs, _⟩ | ⟨a, len, cap, m, k, D, Pl, hcs, hb, hl, hm, hmm, _, hx⟩
  · simp at hcs
    obtain ⟨rfl, rfl, rfl⟩ := hcs
    exact ⟨[], .inl ⟨rfl, rfl⟩, by simp⟩
  · simp at hcs
    obtain ⟨rfl, rfl, rfl⟩ := hcs
    have hlm : n ≤ m := by rw [hmm]; split <;> omega
    have each : ∀ i, i < n → ∃ x : ActR, w.cell? (a.add (i * 2 + 0)) = some (.int .i64 x.d) ∧ w.cell? (a.add (i * 2 + 1)) = some (.int .i64 x.n) ∧ isI x.n := by
      intro i hi
      obtain ⟨cs', h1, h2⟩ := hx i (by omega)
      rw [show Tryd.prog.cellsOf 27 = 2 by kernel_rfl] at h1
      obtain ⟨_, hlen, hcell⟩ := World.cells?_some h1
      obtain ⟨xs, k2, hk, hxy, _, hxl, hf⟩ := DataW.trod_struct Tryd.underlying27 h2
      match xs, hxl, cs', hlen with
      | [y0, y1], _, [v0, v1], _ =>
        have g0 := hf 0 _ rfl
        have g1 := hf 1 _ rfl
        simp [show Tryd.prog.cellsOf 3 = 1 by kernel_rfl] at g0 g1
        have e0 := hcell 0 (by omega)
        have e1 := hcell 1 (by omega)
        rw [add_add] at e0 e1
        obtain ⟨z0, hc0, _, w0⟩ := DataW.trod_int Tryd.underlying3 g0
        obtain ⟨z1, hc1, _, w1⟩ := DataW.trod_int Tryd.underlying3 g1
        obtain rfl : v0 = .int .i64 z0 := by simpa using hc0
        obtain rfl : v1 = .int .i64 z1 := by simpa using hc1
        exact ⟨⟨z0, z1⟩, by simpa using e0, by simpa using e1, i64_wf' w1⟩
    obtain ⟨q, hq⟩ : ∃ q : Nat → ActR, ∀ i, i < n → w.cell? (a.add (i * 2 + 0)) = some (.int .i64 (q i).d) ∧ w.cell? (a.add (i * 2 + 1)) = some (.int .i64 (q i).n) ∧ isI (q i).n :=
      ⟨fun i => if hi : i < n then (each i hi).choose else ⟨0, 0⟩, fun i hi => by
        simp only [dif_pos hi]; exact (each i hi).choose_spec⟩
    unfold maxLen at hm
    refine ⟨(List.range n).map q, .inr ⟨a, c, by simp, fun i x hx => ?_⟩, by simp; omega⟩
    have hi : i < n := by have := (List.getElem?_eq_some_iff.1 hx).1; simpa using this
    rw [List.getElem?_map, List.getElem?_range hi] at hx
    have hx2 : q i = x := Option.some.inj hx
    rw [← hx2]
    exact hq i hi
end Go.Proofs.YtekfceolignihaaDoor
