/- Small facts on worlds and blocks. -/
import Derived.Test.YtjkpapkjlmglbaaDoorRows
import Derived.WalkKit
import Derived.WalkSpells
import Derived.WalkLawsBesides
import Derived.WalkSmall
import Derived.Lib.Hide
import Derived.Outline
import Derived.Deep.QuietTactic
import Derived.BigQuiet
import Derived.BigRegion
import Derived.RegionTactic
import Derived.ChangeAlike
import Derived.IntWalk
import Derived.Deep.LoopGhost
import Derived.Deep.CutRange
import Derived.Deep.DeepCutAuto
import Derived.Deep.DeepFit
import Derived.Deep.RegionWith
import Derived.Deep.RegionHeld3
import Derived.Deep.DrawnRows
namespace Go.Proofs.YtjkpapkjlmglbaaDoor
open Go.RowKit
set_option linter.unusedVariables false

def is64 (x : Int) : Prop := 0 ≤ x ∧ x < 18446744073709551616
def isI (n : Int) : Prop := -9223372036854775808 ≤ n ∧ n < 9223372036854775808
theorem m_undef : Go.yielded.match_1 (motive := fun _ => Option Bool) (some undef) (fun b => some b) (fun _ => none) = none := rfl
theorem bcell {W w1 : World} (hb : Below W.heap.size W w1) : (∀ b o, b < W.heap.size → w1.cell? ⟨b, o, none⟩ = W.cell? ⟨b, o, none⟩) ∧ (∀ b o, b < W.heap.size → w1.frozen? ⟨b, o, none⟩ = W.frozen? ⟨b, o, none⟩) :=
  ⟨fun b o h => hb.cell (p := ⟨b, o, none⟩) h, fun b o h => hb.frozen (p := ⟨b, o, none⟩) h⟩

theorem bel_alloc {W w : World} (h : Below W.heap.size W w) (o : Obj) : Below W.heap.size W (w.alloc o) := h.alloc h.size o
theorem bel_trans {W w w1 : World} (h : Below W.heap.size W w) (h2 : Below w.heap.size w w1) : Below W.heap.size W w1 := h.trans (h2.mono h.size)
theorem bel_set {W w : World} (h : Below W.heap.size W w) {b o : Nat} (hb : W.heap.size ≤ b) (v : Value) : Below W.heap.size W (w.setCell ⟨b, o, none⟩ v) := h.setCell (p := ⟨b, o, none⟩) hb v

/-- Block b of the heap is known whole, none of its cells frozen. -/
def Blk (w : World) (b : Nat) (c : Array Value) (t : TypeId) : Prop := w.heap[b]? = some (.cells c t (0, 0))
theorem Blk.lt {w : World} {b : Nat} {c : Array Value} {t : TypeId} (h : Blk w b c t) : b < w.heap.size := (Array.getElem?_eq_some_iff.1 h).1
theorem Blk.cell {w : World} {b : Nat} {c : Array Value} {t : TypeId} (h : Blk w b c t) (o : Nat) : w.cell? ⟨b, o, none⟩ = c[o]? := by
  unfold Blk at h; simp [World.cell?, h]
theorem Blk.frozen {w : World} {b : Nat} {c : Array Value} {t : TypeId} (h : Blk w b c t) (o : Nat) : w.frozen? ⟨b, o, none⟩ = false := by
  unfold Blk at h; simp [World.frozen?, h]
theorem Blk.below {W w : World} {b : Nat} {c : Array Value} {t : TypeId} (h : Blk W b c t) (hb : Below W.heap.size W w) : Blk w b c t := by
  unfold Blk at *; rw [hb.block b (Array.getElem?_eq_some_iff.1 h).1]; exact h
theorem Blk.new (w : World) (c : Array Value) (t : TypeId) : Blk (w.alloc (.cells c t)) w.heap.size c t := by
  show (w.heap.push _)[w.heap.size]? = _
  simp
theorem Blk.alloc {w : World} {b : Nat} {c : Array Value} {t : TypeId} (h : Blk w b c t) (o : Obj) : Blk (w.alloc o) b c t := h.below (bel_alloc (Below.refl _ _) o)
theorem Blk.set {w : World} {b : Nat} {c : Array Value} {t : TypeId} (h : Blk w b c t) (o : Nat) (v : Value) : Blk (w.setCell ⟨b, o, none⟩ v) b (c.setIfInBounds o v) t := by
  unfold Blk at *
  have hl := (Array.getElem?_eq_some_iff.1 h).1
  simp [World.setCell, Array.getElem?_modify, h]
theorem Blk.set_other {w : World} {b : Nat} {c : Array Value} {t : TypeId} (h : Blk w b c t) {b' : Nat} (hb : b ≠ b') (o : Nat) (v : Value) : Blk (w.setCell ⟨b', o, none⟩ v) b c t := by
  unfold Blk at *; rw [Below.heap_setCell _ _ _ _ hb]; exact h
theorem Blk.drew {w : World} {b : Nat} {c : Array Value} {t : TypeId} (h : Blk w b c t) : Blk w.drew b c t := h
theorem Blk.two {w : World} {b : Nat} {x y : Value} {t : TypeId} (h : Blk w b #[x, y] t) : w.cell? ⟨b, 0, none⟩ = some x ∧ w.cell? ⟨b, 1, none⟩ = some y ∧ w.frozen? ⟨b, 0, none⟩ = false ∧ w.frozen? ⟨b, 1, none⟩ = false ∧ b < w.heap.size :=
  ⟨h.cell 0, h.cell 1, h.frozen 0, h.frozen 1, h.lt⟩
theorem Blk.one {w : World} {b : Nat} {x : Value} {t : TypeId} (h : Blk w b #[x] t) : w.cell? ⟨b, 0, none⟩ = some x ∧ w.frozen? ⟨b, 0, none⟩ = false ∧ b < w.heap.size :=
  ⟨h.cell 0, h.frozen 0, h.lt⟩
theorem Blk.new' {w : World} {b : Nat} {c : Array Value} {t : TypeId} (hb : b = w.heap.size) : Blk (w.alloc (.cells c t)) b c t := by subst hb; exact Blk.new _ _ _
theorem Blk.set01 {w : World} {b : Nat} {x0 y0 x y : Value} {t : TypeId} (h : Blk w b #[x0, y0] t) : Blk ((w.setCell ⟨b, 0, none⟩ x).setCell ⟨b, 1, none⟩ y) b #[x, y] t := (h.set 0 x).set 1 y
theorem Blk.set0 {w : World} {b : Nat} {x0 y x : Value} {t : TypeId} (h : Blk w b #[x0, y] t) : Blk (w.setCell ⟨b, 0, none⟩ x) b #[x, y] t := h.set 0 x
theorem Blk.set1 {w : World} {b : Nat} {x y0 y : Value} {t : TypeId} (h : Blk w b #[x, y0] t) : Blk (w.setCell ⟨b, 1, none⟩ y) b #[x, y] t := h.set 1 y
theorem Blk.setOne {w : World} {b : Nat} {x0 x : Value} {t : TypeId} (h : Blk w b #[x0] t) : Blk (w.setCell ⟨b, 0, none⟩ x) b #[x] t := h.set 0 x
theorem ret_blk {P : Program} {R : Ending → World → Prop} {fn : Func} {a : Act} {w : World} {v : Value} (b : Nat) (c : Array Value) (t : TypeId) (hB : Blk w b c t)
    (hres : ∀ w', Blk w' b c t → (results fn a.tmps).run P w' = .ok v w') (hd : a.defers = []) (hR : R (.returned v) w) : bodyPost P fn R .ret a w := ⟨hd, v, hres w hB, hR⟩
theorem Blk.below' {W w : World} {B b : Nat} {c : Array Value} {t : TypeId} (hb : Below B W w) (hlt : b < B) (h : Blk W b c t) : Blk w b c t := by
  unfold Blk at *; rw [hb.block b hlt]; exact h
theorem cell_set (w : World) (b o : Nat) (v : Value) : (w.setCell ⟨b, o, none⟩ v).cell? ⟨b, o, none⟩ = (w.cell? ⟨b, o, none⟩).map fun _ => v := by
  cases h : w.cell? ⟨b, o, none⟩ with
  | some u => rw [World.cell?_setCell_same w _ _ h]; rfl
  | none =>
    simp only [World.setCell, World.cell?, Array.getElem?_modify, ↓reduceIte] at h ⊢
    cases hb : w.heap[b]? with
    | none => simp
    | some o' =>
      rw [hb] at h
      cases o' <;> simp_all
theorem set_set (w : World) (b o : Nat) (u v : Value) : (w.setCell ⟨b, o, none⟩ u).setCell ⟨b, o, none⟩ v = w.setCell ⟨b, o, none⟩ v := by
  simp only [World.setCell]
  congr 1
  apply Array.ext_getElem?
  intro i
  simp only [Array.getElem?_modify]
  split
  · cases w.heap[i]? with
    | none => rfl
    | some o' => cases o' <;> simp
  · rfl
theorem bel_drew {W w : World} (h : Below W.heap.size W w) : Below W.heap.size W w.drew := h.drew
theorem Blk.drewN {w : World} {b : Nat} {c : Array Value} {t : TypeId} (h : Blk w b c t) (n : Nat) : Blk (w.drewN n) b c t := h
theorem Blk.five {w : World} {b : Nat} {x y z u v : Value} {t : TypeId} (h : Blk w b #[x, y, z, u, v] t) : w.cell? ⟨b, 0, none⟩ = some x ∧ w.cell? ⟨b, 1, none⟩ = some y ∧ w.cell? ⟨b, 2, none⟩ = some z ∧ w.cell? ⟨b, 3, none⟩ = some u ∧ w.cell? ⟨b, 4, none⟩ = some v ∧
    w.frozen? ⟨b, 0, none⟩ = false ∧ w.frozen? ⟨b, 1, none⟩ = false ∧ w.frozen? ⟨b, 2, none⟩ = false ∧ w.frozen? ⟨b, 3, none⟩ = false ∧ w.frozen? ⟨b, 4, none⟩ = false ∧ b < w.heap.size :=
  ⟨h.cell 0, h.cell 1, h.cell 2, h.cell 3, h.cell 4, h.frozen 0, h.frozen 1, h.frozen 2, h.frozen 3, h.frozen 4, h.lt⟩
theorem Blk.four {w : World} {b : Nat} {x y z u : Value} {t : TypeId} (h : Blk w b #[x, y, z, u] t) : w.cell? ⟨b, 0, none⟩ = some x ∧ w.cell? ⟨b, 1, none⟩ = some y ∧ w.cell? ⟨b, 2, none⟩ = some z ∧ w.cell? ⟨b, 3, none⟩ = some u ∧
    w.frozen? ⟨b, 0, none⟩ = false ∧ w.frozen? ⟨b, 1, none⟩ = false ∧ w.frozen? ⟨b, 2, none⟩ = false ∧ w.frozen? ⟨b, 3, none⟩ = false ∧ b < w.heap.size :=
  ⟨h.cell 0, h.cell 1, h.cell 2, h.cell 3, h.frozen 0, h.frozen 1, h.frozen 2, h.frozen 3, h.lt⟩
theorem Blk.three {w : World} {b : Nat} {x y z : Value} {t : TypeId} (h : Blk w b #[x, y, z] t) : w.cell? ⟨b, 0, none⟩ = some x ∧ w.cell? ⟨b, 1, none⟩ = some y ∧ w.cell? ⟨b, 2, none⟩ = some z ∧
    w.frozen? ⟨b, 0, none⟩ = false ∧ w.frozen? ⟨b, 1, none⟩ = false ∧ w.frozen? ⟨b, 2, none⟩ = false ∧ b < w.heap.size :=
  ⟨h.cell 0, h.cell 1, h.cell 2, h.frozen 0, h.frozen 1, h.frozen 2, h.lt⟩
theorem Blk.setFive {w : World} {b : Nat} {x0 y0 z0 u0 v0 x y z u v : Value} {t : TypeId} (h : Blk w b #[x0, y0, z0, u0, v0] t) : Blk (((((w.setCell ⟨b, 0, none⟩ x).setCell ⟨b, 1, none⟩ y).setCell ⟨b, 2, none⟩ z).setCell ⟨b, 3, none⟩ u).setCell ⟨b, 4, none⟩ v) b #[x, y, z, u, v] t := ((((h.set 0 x).set 1 y).set 2 z).set 3 u).set 4 v
end Go.Proofs.YtjkpapkjlmglbaaDoor
