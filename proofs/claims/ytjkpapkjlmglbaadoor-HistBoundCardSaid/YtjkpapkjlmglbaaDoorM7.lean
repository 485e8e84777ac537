/- 'Flat'. -/
import Derived.Test.YtjkpapkjlmglbaaDoorM6
namespace Go.Proofs.YtjkpapkjlmglbaaDoor
open Go.RowKit
set_option linter.unusedVariables false
set_option linter.unusedSimpArgs false
attribute [local go_sem] cell_set set_set m_undef

/-- The memory that 'Flat' makes of these bytes. -/
def flatL (l : List UInt8) : List UInt8 := l.take 8192 ++ (List.replicate 8192 0).drop (min l.length 8192)
theorem flatL_len (l : List UInt8) : (flatL l).length = 8192 := by
  unfold flatL
  rw [List.length_append, List.length_take, List.length_drop, List.length_replicate]; omega
theorem Bs.rebase {w : World} {B B' : Nat} {v : Value} {l : List UInt8} (h : Bs w B v l) (hb : ∀ k, v.ownBlock = some k → B' ≤ k) : Bs w B' v l := by
  rcases h with h | ⟨b, o, cap, he, h2, h3⟩
  · exact .inl h
  · exact .inr ⟨b, o, cap, he, hb b (by rw [he]; rfl), h3⟩
/-- What 'Flat' gives. -/
def FlatQ (w w' : World) (l : List UInt8) (e : Ending) : Prop := ∃ mb O, e = .returned (.pointer (some ⟨mb, 0, none⟩)) ∧ MemP w' w.heap.size mb (flatL l) O ∧ Below w.heap.size w w'
set_option maxHeartbeats 1000000 in
theorem wFlat (w : World) (B : Nat) (v : Value) (l : List UInt8) (h : Bs w B v l) : Calls Tryd.prog 7 #[v] w fun e w' => FlatQ w w' l e := by
  obtain ⟨ad, cap, rfl, hcap⟩ := h.len
  have hmk : (Instr.makeSlice 22 (.int .i64 8192) (.int .i64 8192)).run Tryd.prog w = .ok (.slice (some ⟨w.heap.size, 0, none⟩) 8192 8192) (w.alloc (.cells (cb (List.replicate 8192 0)).toArray 5)) := run_made w 8192 (by omega)
  have hF0 : Blk (w.alloc (.cells (cb (List.replicate 8192 0)).toArray 5)) w.heap.size (cb (List.replicate 8192 0)).toArray 5 := Blk.new _ _ _
  have hv1 := h.alloc (.cells (cb (List.replicate 8192 0)).toArray 5)
  have hb1 : Below w.heap.size w (w.alloc (.cells (cb (List.replicate 8192 0)).toArray 5)) := bel_alloc (Below.refl _ w) _
  have hs1 : (w.alloc (.cells (cb (List.replicate 8192 0)).toArray 5)).heap.size = w.heap.size + 1 := World.size_alloc _ _
  generalize w.alloc (.cells (cb (List.replicate 8192 0)).toArray 5) = w1 at *
  obtain ⟨w2, hr, hF2, hg2⟩ := Bs.copy (P := Tryd.prog) (dT := 22) (sT := 22) (ty := 3) (e := 5) hF0 8192 8192 (by rw [List.length_replicate]; exact Nat.le_refl _) hv1 Tryd.underlying22 (by kernel_rfl)
  obtain ⟨m, hm⟩ : ∃ m : Int, ((min l.length 8192 : Nat) : Int) = m := ⟨_, rfl⟩
  rw [hm] at hr
  have hFl : flatL l = l.take 8192 ++ (List.replicate 8192 0).drop (min l.length 8192) := rfl
  rw [← hFl] at hF2
  have hlen := flatL_len l
  have hb2 : Below w.heap.size w w2 := hb1.grown hg2 (by omega) (fun k e => by have := Option.some.inj e; omega)
  have hs2 := hg2.size
  unfold FlatQ
  generalize flatL l = L at *
  clear hm hFl hF0 hv1 hb1
  replace hF2 := Lib.hid hF2
  replace hlen := Lib.hid hlen
  replace hb2 := Lib.hid hb2
  replace h := Lib.hid h
  clear hg2
  have hmm : (Instr.makeMap 43 none).run Tryd.prog w2 = .ok (.map (some w2.heap.size)) (w2.alloc (.map #[] 0)) := by kernel_rfl
  go_enter Tryd.func7, Tryd.ntmps7
  go_wp2
  go_ret
  refine ⟨w2.heap.size + 1, _, rfl, MemP.of (pb := w2.heap.size) (fb := w.heap.size) (F := L) (g := fun _ => none) ⟨hlen.out, hlen.out, Blk.new' (by simp), (hF2.out.alloc _).alloc _, ⟨_, by
    have e : cnt (fun _ => none) = 0 := by simp [cnt]
    rw [e]
    exact (World.ownsMap_made w2 Tryd.prog 3 ptrR).alloc _, PG.empty⟩, ⟨by omega, by omega, Nat.le_refl _⟩, ⟨by omega, by omega, by omega⟩, fun k hk b hb => (by cases hb), fun k hk _ => rfl⟩, bel_alloc (bel_alloc hb2.out _) _⟩
end Go.Proofs.YtjkpapkjlmglbaaDoor
