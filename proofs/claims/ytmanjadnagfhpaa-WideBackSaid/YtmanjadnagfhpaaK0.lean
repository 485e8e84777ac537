/- Plain words over wide numbers and small facts on worlds. -/
import Derived.Test.YtmanjadnagfhpaaRows
import Derived.WalkKit
import Derived.WalkSpells
import Derived.WalkLawsBesides
import Derived.Shelf.Spec.BitsCarry
import Derived.Lib.Hide
import Derived.Outline
import Derived.Deep.QuietTactic
import Derived.BigQuiet
import Derived.BigRegion
import Derived.RegionTactic
import Derived.ChangeAlike
import Derived.Recover
import Derived.Defers
import Derived.IntWalk
import Derived.Deep.LoopGhost
import Derived.Deep.DeepCutAuto
import Derived.Deep.DeepMust
import Derived.Deep.DeepFit
import Derived.Deep.RegionWith
import Derived.Deep.RegionHeld3
import Derived.Deep.DrawnRows
namespace Go.Proofs.Ytmanjadnagfhpaa
open Go.RowKit Go.Shelf

def hi (x : Int) : Int := x / 18446744073709551616 % 18446744073709551616
def lo (x : Int) : Int := x % 18446744073709551616
def val (h l : Int) : Int := h * 18446744073709551616 + l
def is64 (x : Int) : Prop := 0 ≤ x ∧ x < 18446744073709551616
/-- A wide number as the program holds it. -/
abbrev WV (x : Int) : Value := .agg #[.int .u64 (hi x), .int .u64 (lo x)]

theorem wrap_lo (x : Int) : IntKind.u64.wrap x = lo x := by
  simp [IntKind.wrap, IntKind.bits, IntKind.signed, lo]
theorem hi_64 (x : Int) : is64 (hi x) := by unfold is64 hi; omega
theorem lo_64 (x : Int) : is64 (lo x) := by unfold is64 lo; omega
theorem val_hl (x : Int) : val (hi x) (lo x) = x % 340282366920938463463374607431768211456 := by unfold val hi lo; omega
theorem hi_cong {x y : Int} (h : x % 340282366920938463463374607431768211456 = y % 340282366920938463463374607431768211456) : hi x = hi y := by unfold hi; omega
theorem lo_cong {x y : Int} (h : x % 340282366920938463463374607431768211456 = y % 340282366920938463463374607431768211456) : lo x = lo y := by unfold lo; omega

theorem bcell {W w1 : World} (hb : Below W.heap.size W w1) : (∀ b o, b < W.heap.size → w1.cell? ⟨b, o, none⟩ = W.cell? ⟨b, o, none⟩) ∧ (∀ b o, b < W.heap.size → w1.frozen? ⟨b, o, none⟩ = W.frozen? ⟨b, o, none⟩) :=
  ⟨fun b o h => hb.cell (p := ⟨b, o, none⟩) h, fun b o h => hb.frozen (p := ⟨b, o, none⟩) h⟩

def cy (x : Int) : Int := x / 18446744073709551616
theorem add64 (x y c : Int) (hx : is64 x) (hy : is64 y) (h0 : 0 ≤ c) (hc : c ≤ 1) (w : World) :
    (callFunc 29 #[.int .u64 x, .int .u64 y, .int .u64 c]).run Try.prog w =
      .ok (.value (.tuple #[.int .u64 (lo (x + y + c)), .int .u64 (cy (x + y + c))])) w := by
  obtain ⟨x, rfl⟩ := Int.eq_ofNat_of_zero_le hx.1
  obtain ⟨y, rfl⟩ := Int.eq_ofNat_of_zero_le hy.1
  obtain ⟨c, rfl⟩ := Int.eq_ofNat_of_zero_le h0
  rw [run_callFunc_extern Try.func29 (by kernel_rfl) (by kernel_rfl) (by kernel_rfl) (e := add64Entry) (by kernel_rfl), run_add64 x y c (by omega) (by omega) (by omega) (by omega)]
  rfl

def bw (x : Int) : Int := if x < 0 then 1 else 0
theorem sub64 (x y c : Int) (hx : is64 x) (hy : is64 y) (h0 : 0 ≤ c) (hc : c ≤ 1) (w : World) :
    (callFunc 30 #[.int .u64 x, .int .u64 y, .int .u64 c]).run Try.prog w =
      .ok (.value (.tuple #[.int .u64 (lo (x - y - c)), .int .u64 (bw (x - y - c))])) w := by
  obtain ⟨x, rfl⟩ := Int.eq_ofNat_of_zero_le hx.1
  obtain ⟨y, rfl⟩ := Int.eq_ofNat_of_zero_le hy.1
  obtain ⟨c, rfl⟩ := Int.eq_ofNat_of_zero_le h0
  have hy2 := hy.2
  have hx2 := hx.2
  rw [run_callFunc_extern Try.func30 (by kernel_rfl) (by kernel_rfl) (by kernel_rfl) (e := sub64Entry) (by kernel_rfl), run_sub64 x y c (by omega)]
  have e1 : (((x + 18446744073709551616 - y - c) % 18446744073709551616 : Nat) : Int) = lo ((x : Int) - y - c) := by unfold lo; omega
  have e2 : (((if x < y + c then 1 else 0 : Nat)) : Int) = bw ((x : Int) - y - c) := by unfold bw; split <;> split <;> omega
  simp only [Result.andThen, e1, e2]

theorem add64_0 (x y : Int) (hx : is64 x) (hy : is64 y) (w : World) :
    (callFunc 29 #[.int .u64 x, .int .u64 y, .int .u64 0]).run Try.prog w = .ok (.value (.tuple #[.int .u64 (lo (x + y)), .int .u64 (cy (x + y))])) w := by
  have h := add64 x y 0 hx hy (by omega) (by omega) w
  rwa [Int.add_zero] at h
theorem sub64_0 (x y : Int) (hx : is64 x) (hy : is64 y) (w : World) :
    (callFunc 30 #[.int .u64 x, .int .u64 y, .int .u64 0]).run Try.prog w = .ok (.value (.tuple #[.int .u64 (lo (x - y)), .int .u64 (bw (x - y))])) w := by
  have h := sub64 x y 0 hx hy (by omega) (by omega) w
  rwa [Int.sub_zero] at h
theorem cy_01 {a b : Int} (ha : is64 a) (hb : is64 b) : 0 ≤ cy (a + b) ∧ cy (a + b) ≤ 1 := by
  obtain ⟨h1, h2⟩ := ha; obtain ⟨h3, h4⟩ := hb; unfold cy; omega
theorem bw_01 (a : Int) : 0 ≤ bw a ∧ bw a ≤ 1 := by unfold bw; split <;> omega
theorem is64_0 : is64 0 := by unfold is64; omega
theorem is64_1 : is64 1 := by unfold is64; omega

theorem bel_alloc {W w : World} (h : Below W.heap.size W w) (o : Obj) : Below W.heap.size W (w.alloc o) := h.alloc h.size o
theorem bel_trans {W w w1 : World} (h : Below W.heap.size W w) (h2 : Below w.heap.size w w1) : Below W.heap.size W w1 := h.trans (h2.mono h.size)
theorem bel_set {W w : World} (h : Below W.heap.size W w) {b o : Nat} (hb : W.heap.size ≤ b) (v : Value) : Below W.heap.size W (w.setCell ⟨b, o, none⟩ v) := h.setCell (p := ⟨b, o, none⟩) hb v

/-- Block b of the heap is known whole, none of its cells frozen. -/
def Blk (w : World) (b : Nat) (c : Array Value) (t : TypeId) : Prop := w.heap[b]? = some (.cells c t (0, 0))
theorem Blk.lt {w : World} {b : Nat} {c : Array Value} {t : TypeId} (h : Blk w b c t) : b < w.heap.size := (Array.getElem?_eq_some_iff.1 h).1
theorem Blk.cell {w : World} {b : Nat} {c : Array Value} {t : TypeId} (h : Blk w b c t) (o : Nat) : w.cell? ⟨b, o, none⟩ = c[o]? := by
  unfold Blk at h; simp [World.cell?, h]
theorem Blk.frozen {w : World} {b : Nat} {c : Array Value} {t : TypeId} (h : Blk w b c t) (o : Nat) : w.frozen? ⟨b, o, none⟩ = false := by
  unfold Blk at h; simp [World.frozen?, h]
theorem Blk.below {W w : World} {b : Nat} {c : Array Value} {t : TypeId} (h : Blk W b c t) (hb : Below W.heap.size W w) : Blk w b c t := by
  unfold Blk at *; rw [hb.block b (Array.getElem?_eq_some_iff.1 h).1]; exact h
theorem Blk.new (w : World) (c : Array Value) (t : TypeId) : Blk (w.alloc (.cells c t)) w.heap.size c t := by
  show (w.heap.push _)[w.heap.size]? = _
  simp
theorem Blk.alloc {w : World} {b : Nat} {c : Array Value} {t : TypeId} (h : Blk w b c t) (o : Obj) : Blk (w.alloc o) b c t := h.below (bel_alloc (Below.refl _ _) o)
theorem Blk.set {w : World} {b : Nat} {c : Array Value} {t : TypeId} (h : Blk w b c t) (o : Nat) (v : Value) : Blk (w.setCell ⟨b, o, none⟩ v) b (c.setIfInBounds o v) t := by
  unfold Blk at *
  have hl := (Array.getElem?_eq_some_iff.1 h).1
  simp [World.setCell, Array.getElem?_modify, h]
theorem Blk.set_other {w : World} {b : Nat} {c : Array Value} {t : TypeId} (h : Blk w b c t) {b' : Nat} (hb : b ≠ b') (o : Nat) (v : Value) : Blk (w.setCell ⟨b', o, none⟩ v) b c t := by
  unfold Blk at *; rw [Below.heap_setCell _ _ _ _ hb]; exact h
theorem Blk.drew {w : World} {b : Nat} {c : Array Value} {t : TypeId} (h : Blk w b c t) : Blk w.drew b c t := h
theorem Blk.two {w : World} {b : Nat} {x y : Value} {t : TypeId} (h : Blk w b #[x, y] t) : w.cell? ⟨b, 0, none⟩ = some x ∧ w.cell? ⟨b, 1, none⟩ = some y ∧ w.frozen? ⟨b, 0, none⟩ = false ∧ w.frozen? ⟨b, 1, none⟩ = false ∧ b < w.heap.size :=
  ⟨h.cell 0, h.cell 1, h.frozen 0, h.frozen 1, h.lt⟩
theorem Blk.one {w : World} {b : Nat} {x : Value} {t : TypeId} (h : Blk w b #[x] t) : w.cell? ⟨b, 0, none⟩ = some x ∧ w.frozen? ⟨b, 0, none⟩ = false ∧ b < w.heap.size :=
  ⟨h.cell 0, h.frozen 0, h.lt⟩
theorem Blk.new' {w : World} {b : Nat} {c : Array Value} {t : TypeId} (hb : b = w.heap.size) : Blk (w.alloc (.cells c t)) b c t := by subst hb; exact Blk.new _ _ _
theorem Blk.set01 {w : World} {b : Nat} {x0 y0 x y : Value} {t : TypeId} (h : Blk w b #[x0, y0] t) : Blk ((w.setCell ⟨b, 0, none⟩ x).setCell ⟨b, 1, none⟩ y) b #[x, y] t := (h.set 0 x).set 1 y
theorem Blk.set0 {w : World} {b : Nat} {x0 y x : Value} {t : TypeId} (h : Blk w b #[x0, y] t) : Blk (w.setCell ⟨b, 0, none⟩ x) b #[x, y] t := h.set 0 x
theorem Blk.set1 {w : World} {b : Nat} {x y0 y : Value} {t : TypeId} (h : Blk w b #[x, y0] t) : Blk (w.setCell ⟨b, 1, none⟩ y) b #[x, y] t := h.set 1 y
theorem Blk.setOne {w : World} {b : Nat} {x0 x : Value} {t : TypeId} (h : Blk w b #[x0] t) : Blk (w.setCell ⟨b, 0, none⟩ x) b #[x] t := h.set 0 x
theorem ret_blk {P : Program} {R : Ending → World → Prop} {fn : Func} {a : Act} {w : World} {v : Value} (b : Nat) (c : Array Value) (t : TypeId) (hB : Blk w b c t)
    (hres : ∀ w', Blk w' b c t → (results fn a.tmps).run P w' = .ok v w') (hd : a.defers = []) (hR : R (.returned v) w) : bodyPost P fn R .ret a w := ⟨hd, v, hres w hB, hR⟩
theorem Blk.below' {W w : World} {B b : Nat} {c : Array Value} {t : TypeId} (hb : Below B W w) (hlt : b < B) (h : Blk W b c t) : Blk w b c t := by
  unfold Blk at *; rw [hb.block b hlt]; exact h
theorem cell_set (w : World) (b o : Nat) (v : Value) : (w.setCell ⟨b, o, none⟩ v).cell? ⟨b, o, none⟩ = (w.cell? ⟨b, o, none⟩).map fun _ => v := by
  cases h : w.cell? ⟨b, o, none⟩ with
  | some u => rw [World.cell?_setCell_same w _ _ h]; rfl
  | none =>
    simp only [World.setCell, World.cell?, Array.getElem?_modify, ↓reduceIte] at h ⊢
    cases hb : w.heap[b]? with
    | none => simp
    | some o' =>
      rw [hb] at h
      cases o' <;> simp_all
theorem set_set (w : World) (b o : Nat) (u v : Value) : (w.setCell ⟨b, o, none⟩ u).setCell ⟨b, o, none⟩ v = w.setCell ⟨b, o, none⟩ v := by
  simp only [World.setCell]
  congr 1
  apply Array.ext_getElem?
  intro i
  simp only [Array.getElem?_modify]
  split
  · cases w.heap[i]? with
    | none => rfl
    | some o' => cases o' <;> simp
  · rfl
theorem bel_drew {W w : World} (h : Below W.heap.size W w) : Below W.heap.size W w.drew := h.drew
end Go.Proofs.Ytmanjadnagfhpaa
