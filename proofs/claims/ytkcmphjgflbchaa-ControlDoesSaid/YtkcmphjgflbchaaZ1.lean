/- Texts merged: K BY AP L1 L2 L3 L4 M1 M2. -/
import Derived.Test.YtkcmphjgflbchaaRows
import Derived.WalkKit
import Derived.WalkSpells
import Derived.WalkLawsBesides
import Derived.WalkSmall
import Derived.Lib.Hide
import Derived.Outline
import Derived.Deep.QuietTactic
import Derived.BigQuiet
import Derived.BigRegion
import Derived.RegionTactic
import Derived.ChangeAlike
import Derived.IntWalk
import Derived.Deep.LoopGhost
import Derived.Deep.CutRange
import Derived.Deep.DeepCutAuto
import Derived.Deep.DeepFit
import Derived.Deep.RegionWith
import Derived.Deep.RegionHeld3
import Derived.Deep.DrawnRows
import Derived.Laws.IdiomStrings
import Derived.Deep.AppendSrc
import Derived.Laws.IdiomCopy
import Derived.Laws.AppendOwn
import Derived.Lib.LazyBuf
import Derived.Laws.BitsAllLaws
import Derived.Laws.Shifts
import Derived.Maps.OwnSet
import Derived.Maps.Views
import Derived.Laws.CopyRow
import Derived.Laws.MakeOwn
/- Small facts on worlds and blocks. -/
namespace Go.Proofs.Ytkcmphjgflbchaa
open Go.RowKit
set_option linter.unusedVariables false

def is64 (x : Int) : Prop := 0 ≤ x ∧ x < 18446744073709551616
def isI (n : Int) : Prop := -9223372036854775808 ≤ n ∧ n < 9223372036854775808
theorem m_undef : Go.yielded.match_1 (motive := fun _ => Option Bool) (some undef) (fun b => some b) (fun _ => none) = none := rfl
theorem bcell {W w1 : World} (hb : Below W.heap.size W w1) : (∀ b o, b < W.heap.size → w1.cell? ⟨b, o, none⟩ = W.cell? ⟨b, o, none⟩) ∧ (∀ b o, b < W.heap.size → w1.frozen? ⟨b, o, none⟩ = W.frozen? ⟨b, o, none⟩) :=
  ⟨fun b o h => hb.cell (p := ⟨b, o, none⟩) h, fun b o h => hb.frozen (p := ⟨b, o, none⟩) h⟩

theorem bel_alloc {W w : World} (h : Below W.heap.size W w) (o : Obj) : Below W.heap.size W (w.alloc o) := h.alloc h.size o
theorem bel_trans {W w w1 : World} (h : Below W.heap.size W w) (h2 : Below w.heap.size w w1) : Below W.heap.size W w1 := h.trans (h2.mono h.size)
theorem bel_set {W w : World} (h : Below W.heap.size W w) {b o : Nat} (hb : W.heap.size ≤ b) (v : Value) : Below W.heap.size W (w.setCell ⟨b, o, none⟩ v) := h.setCell (p := ⟨b, o, none⟩) hb v

/-- Block b of the heap is known whole, none of its cells frozen. -/
def Blk (w : World) (b : Nat) (c : Array Value) (t : TypeId) : Prop := w.heap[b]? = some (.cells c t (0, 0))
theorem Blk.lt {w : World} {b : Nat} {c : Array Value} {t : TypeId} (h : Blk w b c t) : b < w.heap.size := (Array.getElem?_eq_some_iff.1 h).1
theorem Blk.cell {w : World} {b : Nat} {c : Array Value} {t : TypeId} (h : Blk w b c t) (o : Nat) : w.cell? ⟨b, o, none⟩ = c[o]? := by
  unfold Blk at h; simp [World.cell?, h]
theorem Blk.frozen {w : World} {b : Nat} {c : Array Value} {t : TypeId} (h : Blk w b c t) (o : Nat) : w.frozen? ⟨b, o, none⟩ = false := by
  unfold Blk at h; simp [World.frozen?, h]
theorem Blk.below {W w : World} {b : Nat} {c : Array Value} {t : TypeId} (h : Blk W b c t) (hb : Below W.heap.size W w) : Blk w b c t := by
  unfold Blk at *; rw [hb.block b (Array.getElem?_eq_some_iff.1 h).1]; exact h
theorem Blk.new (w : World) (c : Array Value) (t : TypeId) : Blk (w.alloc (.cells c t)) w.heap.size c t := by
  show (w.heap.push _)[w.heap.size]? = _
  simp
theorem Blk.alloc {w : World} {b : Nat} {c : Array Value} {t : TypeId} (h : Blk w b c t) (o : Obj) : Blk (w.alloc o) b c t := h.below (bel_alloc (Below.refl _ _) o)
theorem Blk.set {w : World} {b : Nat} {c : Array Value} {t : TypeId} (h : Blk w b c t) (o : Nat) (v : Value) : Blk (w.setCell ⟨b, o, none⟩ v) b (c.setIfInBounds o v) t := by
  unfold Blk at *
  have hl := (Array.getElem?_eq_some_iff.1 h).1
  simp [World.setCell, Array.getElem?_modify, h]
theorem Blk.set_other {w : World} {b : Nat} {c : Array Value} {t : TypeId} (h : Blk w b c t) {b' : Nat} (hb : b ≠ b') (o : Nat) (v : Value) : Blk (w.setCell ⟨b', o, none⟩ v) b c t := by
  unfold Blk at *; rw [Below.heap_setCell _ _ _ _ hb]; exact h
theorem Blk.drew {w : World} {b : Nat} {c : Array Value} {t : TypeId} (h : Blk w b c t) : Blk w.drew b c t := h
theorem Blk.two {w : World} {b : Nat} {x y : Value} {t : TypeId} (h : Blk w b #[x, y] t) : w.cell? ⟨b, 0, none⟩ = some x ∧ w.cell? ⟨b, 1, none⟩ = some y ∧ w.frozen? ⟨b, 0, none⟩ = false ∧ w.frozen? ⟨b, 1, none⟩ = false ∧ b < w.heap.size :=
  ⟨h.cell 0, h.cell 1, h.frozen 0, h.frozen 1, h.lt⟩
theorem Blk.one {w : World} {b : Nat} {x : Value} {t : TypeId} (h : Blk w b #[x] t) : w.cell? ⟨b, 0, none⟩ = some x ∧ w.frozen? ⟨b, 0, none⟩ = false ∧ b < w.heap.size :=
  ⟨h.cell 0, h.frozen 0, h.lt⟩
theorem Blk.new' {w : World} {b : Nat} {c : Array Value} {t : TypeId} (hb : b = w.heap.size) : Blk (w.alloc (.cells c t)) b c t := by subst hb; exact Blk.new _ _ _
theorem Blk.set01 {w : World} {b : Nat} {x0 y0 x y : Value} {t : TypeId} (h : Blk w b #[x0, y0] t) : Blk ((w.setCell ⟨b, 0, none⟩ x).setCell ⟨b, 1, none⟩ y) b #[x, y] t := (h.set 0 x).set 1 y
theorem Blk.set0 {w : World} {b : Nat} {x0 y x : Value} {t : TypeId} (h : Blk w b #[x0, y] t) : Blk (w.setCell ⟨b, 0, none⟩ x) b #[x, y] t := h.set 0 x
theorem Blk.set1 {w : World} {b : Nat} {x y0 y : Value} {t : TypeId} (h : Blk w b #[x, y0] t) : Blk (w.setCell ⟨b, 1, none⟩ y) b #[x, y] t := h.set 1 y
theorem Blk.setOne {w : World} {b : Nat} {x0 x : Value} {t : TypeId} (h : Blk w b #[x0] t) : Blk (w.setCell ⟨b, 0, none⟩ x) b #[x] t := h.set 0 x
theorem ret_blk {P : Program} {R : Ending → World → Prop} {fn : Func} {a : Act} {w : World} {v : Value} (b : Nat) (c : Array Value) (t : TypeId) (hB : Blk w b c t)
    (hres : ∀ w', Blk w' b c t → (results fn a.tmps).run P w' = .ok v w') (hd : a.defers = []) (hR : R (.returned v) w) : bodyPost P fn R .ret a w := ⟨hd, v, hres w hB, hR⟩
theorem Blk.below' {W w : World} {B b : Nat} {c : Array Value} {t : TypeId} (hb : Below B W w) (hlt : b < B) (h : Blk W b c t) : Blk w b c t := by
  unfold Blk at *; rw [hb.block b hlt]; exact h
theorem cell_set (w : World) (b o : Nat) (v : Value) : (w.setCell ⟨b, o, none⟩ v).cell? ⟨b, o, none⟩ = (w.cell? ⟨b, o, none⟩).map fun _ => v := by
  cases h : w.cell? ⟨b, o, none⟩ with
  | some u => rw [World.cell?_setCell_same w _ _ h]; rfl
  | none =>
    simp only [World.setCell, World.cell?, Array.getElem?_modify, ↓reduceIte] at h ⊢
    cases hb : w.heap[b]? with
    | none => simp
    | some o' =>
      rw [hb] at h
      cases o' <;> simp_all
theorem set_set (w : World) (b o : Nat) (u v : Value) : (w.setCell ⟨b, o, none⟩ u).setCell ⟨b, o, none⟩ v = w.setCell ⟨b, o, none⟩ v := by
  simp only [World.setCell]
  congr 1
  apply Array.ext_getElem?
  intro i
  simp only [Array.getElem?_modify]
  split
  · cases w.heap[i]? with
    | none => rfl
    | some o' => cases o' <;> simp
  · rfl
theorem bel_drew {W w : World} (h : Below W.heap.size W w) : Below W.heap.size W w.drew := h.drew
theorem Blk.drewN {w : World} {b : Nat} {c : Array Value} {t : TypeId} (h : Blk w b c t) (n : Nat) : Blk (w.drewN n) b c t := h
theorem Blk.five {w : World} {b : Nat} {x y z u v : Value} {t : TypeId} (h : Blk w b #[x, y, z, u, v] t) : w.cell? ⟨b, 0, none⟩ = some x ∧ w.cell? ⟨b, 1, none⟩ = some y ∧ w.cell? ⟨b, 2, none⟩ = some z ∧ w.cell? ⟨b, 3, none⟩ = some u ∧ w.cell? ⟨b, 4, none⟩ = some v ∧
    w.frozen? ⟨b, 0, none⟩ = false ∧ w.frozen? ⟨b, 1, none⟩ = false ∧ w.frozen? ⟨b, 2, none⟩ = false ∧ w.frozen? ⟨b, 3, none⟩ = false ∧ w.frozen? ⟨b, 4, none⟩ = false ∧ b < w.heap.size :=
  ⟨h.cell 0, h.cell 1, h.cell 2, h.cell 3, h.cell 4, h.frozen 0, h.frozen 1, h.frozen 2, h.frozen 3, h.frozen 4, h.lt⟩
theorem Blk.four {w : World} {b : Nat} {x y z u : Value} {t : TypeId} (h : Blk w b #[x, y, z, u] t) : w.cell? ⟨b, 0, none⟩ = some x ∧ w.cell? ⟨b, 1, none⟩ = some y ∧ w.cell? ⟨b, 2, none⟩ = some z ∧ w.cell? ⟨b, 3, none⟩ = some u ∧
    w.frozen? ⟨b, 0, none⟩ = false ∧ w.frozen? ⟨b, 1, none⟩ = false ∧ w.frozen? ⟨b, 2, none⟩ = false ∧ w.frozen? ⟨b, 3, none⟩ = false ∧ b < w.heap.size :=
  ⟨h.cell 0, h.cell 1, h.cell 2, h.cell 3, h.frozen 0, h.frozen 1, h.frozen 2, h.frozen 3, h.lt⟩
theorem Blk.three {w : World} {b : Nat} {x y z : Value} {t : TypeId} (h : Blk w b #[x, y, z] t) : w.cell? ⟨b, 0, none⟩ = some x ∧ w.cell? ⟨b, 1, none⟩ = some y ∧ w.cell? ⟨b, 2, none⟩ = some z ∧
    w.frozen? ⟨b, 0, none⟩ = false ∧ w.frozen? ⟨b, 1, none⟩ = false ∧ w.frozen? ⟨b, 2, none⟩ = false ∧ b < w.heap.size :=
  ⟨h.cell 0, h.cell 1, h.cell 2, h.frozen 0, h.frozen 1, h.frozen 2, h.lt⟩
theorem Blk.setFive {w : World} {b : Nat} {x0 y0 z0 u0 v0 x y z u v : Value} {t : TypeId} (h : Blk w b #[x0, y0, z0, u0, v0] t) : Blk (((((w.setCell ⟨b, 0, none⟩ x).setCell ⟨b, 1, none⟩ y).setCell ⟨b, 2, none⟩ z).setCell ⟨b, 3, none⟩ u).setCell ⟨b, 4, none⟩ v) b #[x, y, z, u, v] t := ((((h.set 0 x).set 1 y).set 2 z).set 3 u).set 4 v
end Go.Proofs.Ytkcmphjgflbchaa

/- Bytes in a block. -/
namespace Go.Proofs.Ytkcmphjgflbchaa
open Go.RowKit
set_option linter.unusedVariables false

/-- Block b begins with the bytes l, none of them frozen. -/
def Bytes (w : World) (b : Nat) (l : List UInt8) : Prop := ∀ j (hj : j < l.length), w.cell? ⟨b, j, none⟩ = some (.int .u8 (l[j].toNat : Int)) ∧ w.frozen? ⟨b, j, none⟩ = false
theorem Bytes.below {W w : World} {b : Nat} {l : List UInt8} (h : Bytes W b l) (hb : Below W.heap.size W w) (hlt : b < W.heap.size) : Bytes w b l := fun j hj => by
  rw [(bcell hb).1 b j hlt, (bcell hb).2 b j hlt]; exact h j hj
theorem Bytes.set {w : World} {b : Nat} {l : List UInt8} (h : Bytes w b l) (k : Nat) (c : UInt8) (hk : k < l.length) : Bytes (w.setCell ⟨b, k, none⟩ (.int .u8 (c.toNat : Int))) b (l.set k c) := fun j hj => by
  have hj' : j < l.length := by simpa using hj
  have h0 := h j hj'
  have hf : (w.setCell ⟨b, k, none⟩ (.int .u8 (c.toNat : Int))).frozen? ⟨b, j, none⟩ = false := by rw [World.frozen?_setCell]; exact h0.2
  by_cases e : k = j
  · subst e
    refine ⟨?_, hf⟩
    rw [cell_set, (h k hk).1]; simp
  · refine ⟨?_, hf⟩
    rw [List.getElem_set_ne e]
    exact (World.cell?_setCell_other w (a := ⟨b, k, none⟩) (b := ⟨b, j, none⟩) _ (by intro h; cases h; exact e rfl)).trans h0.1
/-- '[]byte(s)': a new block. -/
theorem Bytes.conv (w : World) (s : ByteArray) (cap : Nat) (e : TypeId) (lo hi : Nat) (h : s.size ≤ lo) : Bytes (w.alloc (.cells (bytesRow s cap) e (lo, hi))) w.heap.size s.data.toList := fun j hj => by
  have hj' : j < s.data.size := by simpa using hj
  rw [World.cell?_alloc_mark, World.frozen?_alloc_mark, bytesRow_at s cap j hj']
  refine ⟨by simp, ?_⟩
  have : s.data.size = s.size := rfl
  simp; omega
end Go.Proofs.Ytkcmphjgflbchaa

/- Bytes behind a slice value: what append, slicing and the conversions do with them. -/
namespace Go.Proofs.Ytkcmphjgflbchaa
open Go.RowKit
set_option linter.unusedVariables false

def cb (l : List UInt8) : List Value := l.map fun c => .int .u8 (c.toNat : Int)
theorem cb_len (l : List UInt8) : (cb l).length = l.length := by simp [cb]
theorem cb_one (l : List UInt8) : ∀ u ∈ cb l, u.oneCell' = true := by
  intro u hu
  obtain ⟨c, _, rfl⟩ := List.mem_map.1 hu
  rfl
/-- The slice value v holds the bytes l, in a block from B on; none of its cells, spare ones too, is frozen. -/
def Bs (w : World) (B : Nat) (v : Value) (l : List UInt8) : Prop :=
  (v = .slice none 0 0 ∧ l = []) ∨
  ∃ b o cap, v = .slice (some ⟨b, o, none⟩) l.length cap ∧ B ≤ b ∧ b < w.heap.size ∧ l.length ≤ cap ∧
    (∀ j (hj : j < l.length), w.cell? ⟨b, o + j, none⟩ = some (.int .u8 (l[j].toNat : Int))) ∧
    (∀ j, j < cap → (w.cell? ⟨b, o + j, none⟩).isSome = true ∧ w.frozen? ⟨b, o + j, none⟩ = false)
theorem Bs.nil (w : World) (B : Nat) : Bs w B (.slice none 0 0) [] := .inl ⟨rfl, rfl⟩
theorem Bs.mono {w : World} {B B' : Nat} {v : Value} {l : List UInt8} (h : Bs w B v l) (hB : B' ≤ B) : Bs w B' v l := by
  rcases h with h | ⟨b, o, cap, h1, h2, h3⟩
  · exact .inl h
  · exact .inr ⟨b, o, cap, h1, by omega, h3⟩
theorem Bs.kept {w w' : World} {row : Option Nat} {B : Nat} {v : Value} {l : List UInt8} (h : Bs w B v l) (hg : w.grownBy w' row) (hne : v.ownBlock = none ∨ v.ownBlock ≠ row) : Bs w' B v l := by
  rcases h with h | ⟨b, o, cap, rfl, h2, h3, h4, h5, h6⟩
  · exact .inl h
  · have hb : w'.heap[b]? = w.heap[b]? := hg.block b h3 (by
      rcases hne with e | e
      · cases e
      · exact e)
    have hc : ∀ x, w'.cell? ⟨b, x, none⟩ = w.cell? ⟨b, x, none⟩ := fun x => by simp [World.cell?, hb]
    have hf : ∀ x, w'.frozen? ⟨b, x, none⟩ = w.frozen? ⟨b, x, none⟩ := fun x => by simp [World.frozen?, hb]
    exact .inr ⟨b, o, cap, rfl, h2, Nat.lt_of_lt_of_le h3 hg.size, h4, fun j hj => by rw [hc]; exact h5 j hj, fun j hj => by rw [hc, hf]; exact h6 j hj⟩
/-- 's[:k]' -/
theorem Bs.take {w : World} {B b o n cap : Nat} {l : List UInt8} (h : Bs w B (.slice (some ⟨b, o, none⟩) n cap) l) (k : Nat) (hk : k ≤ l.length) : Bs w B (.slice (some ⟨b, o, none⟩) k cap) (l.take k) := by
  rcases h with ⟨h, _⟩ | ⟨b', o', cap', he, h2, h3, h4, h5, h6⟩
  · cases h
  · cases he
    refine .inr ⟨b, o, cap, by rw [List.length_take, Nat.min_eq_left hk], h2, h3, by rw [List.length_take]; omega, fun j hj => ?_, h6⟩
    rw [List.length_take] at hj
    rw [h5 j (by omega)]
    simp
/-- 's[k:]' -/
theorem Bs.drop {w : World} {B b o n cap : Nat} {l : List UInt8} (h : Bs w B (.slice (some ⟨b, o, none⟩) n cap) l) (k : Nat) (hk : k ≤ l.length) : Bs w B (.slice (some ⟨b, o + k, none⟩) (n - k) (cap - k)) (l.drop k) := by
  rcases h with ⟨h, _⟩ | ⟨b', o', cap', he, h2, h3, h4, h5, h6⟩
  · cases h
  · cases he
    refine .inr ⟨b, o + k, cap - k, by rw [List.length_drop], h2, h3, by rw [List.length_drop]; omega, fun j hj => ?_, fun j hj => ?_⟩
    · rw [List.length_drop] at hj
      rw [Nat.add_assoc, h5 (k + j) (by omega)]
      simp
    · rw [Nat.add_assoc]; exact h6 (k + j) (by omega)
theorem Bs.len {w : World} {B : Nat} {v : Value} {l : List UInt8} (h : Bs w B v l) : ∃ a cap, v = .slice a l.length cap ∧ l.length ≤ cap := by
  rcases h with ⟨rfl, rfl⟩ | ⟨b, o, cap, rfl, h2, h3, h4, _⟩
  · exact ⟨none, 0, rfl, Nat.le_refl _⟩
  · exact ⟨_, cap, rfl, h4⟩
theorem Bs.src {P : Program} {w : World} {B : Nat} {v : Value} {l : List UInt8} (h : Bs w B v l) {t e : TypeId} (ht : P.underlying t = some (.slice e)) : Src P 1 t v l.length (cb l) w := by
  rcases h with ⟨rfl, rfl⟩ | ⟨b, o, cap, rfl, h2, h3, h4, h5, h6⟩
  · exact Src.ofNil w ht 0
  · refine Src.ofSlice w ht ⟨b, o, none⟩ l.length cap (cb l) (by rw [cb_len, Nat.mul_one]) (fun j u hu => ?_) (cb_one l)
    have hj : j < l.length := by have := (List.getElem?_eq_some_iff.1 hu).1; rwa [cb_len] at this
    rw [Addr.add_lit, h5 j hj]
    rw [← hu]
    simp [cb, hj]
theorem setCells_heap (b : Nat) : ∀ (vs : List Value) (o : Nat) (w : World) (k : Nat), k ≠ b → (w.setCells b o vs).heap[k]? = w.heap[k]?
  | [], _, _, _, _ => rfl
  | v :: r, o, w, k, h => (setCells_heap b r (o + 1) _ k h).trans (Below.heap_setCell _ _ _ _ h)
theorem setCells_size (b : Nat) : ∀ (vs : List Value) (o : Nat) (w : World), (w.setCells b o vs).heap.size = w.heap.size ∧ (w.setCells b o vs).os = w.os ∧ (w.setCells b o vs).tape = w.tape ∧ (w.setCells b o vs).output = w.output
  | [], _, _ => ⟨rfl, rfl, rfl, rfl⟩
  | v :: r, o, w => by
    obtain ⟨h1, h2, h3, h4⟩ := setCells_size b r (o + 1) (w.setCell ⟨b, o, none⟩ v)
    exact ⟨h1.trans (World.size_setCell _ _ _), h2, h3, h4⟩
theorem cell_isSome_setCells (b : Nat) : ∀ (vs : List Value) (o : Nat) (w : World) (x : Nat), (w.cell? ⟨b, x, none⟩).isSome = true → ((w.setCells b o vs).cell? ⟨b, x, none⟩).isSome = true
  | [], _, _, _, h => h
  | v :: r, o, w, x, h => by
    refine cell_isSome_setCells b r (o + 1) _ x ?_
    by_cases e : o = x
    · subst e
      rw [cell_set]
      obtain ⟨u, hu⟩ := Option.isSome_iff_exists.1 h
      simp [hu]
    · rw [World.cell?_setCell_other w (a := ⟨b, o, none⟩) (b := ⟨b, x, none⟩) _ (by intro h; cases h; exact e rfl)]
      exact h
/-- 'append(v, u...)' -/
theorem Bs.append {P : Program} {w : World} {B B2 : Nat} {v u : Value} {l l2 : List UInt8} (hv : Bs w B v l) (hu : Bs w B2 u l2) {t e ty : TypeId} (ht : P.underlying t = some (.slice e))
    (hi : (P.info? e).map (fun i => (i.zero, i.size, i.bytes)) = some (some (.int .u8 0), 1, 1)) (hlen : l.length + l2.length ≤ 1000000) (hB : B ≤ w.heap.size) :
    ∃ v' w', (Builtin.append_ #[t, t] ty #[v, u]).run P w = .ok v' w' ∧ Bs w' B v' (l ++ l2) ∧ w.grownBy w' v.ownBlock ∧ (v'.ownBlock = v.ownBlock ∨ v'.ownBlock = some w.heap.size) := by
  obtain ⟨i, hi1, hi2⟩ := Option.map_eq_some_iff.1 hi
  simp only [Prod.mk.injEq] at hi2
  obtain ⟨hz, hs1, hb1⟩ := hi2
  have hsrc := hu.src ht
  have hgrow : ∀ (a : Option Addr) (cap : Nat), v = .slice a l.length cap → cap < l.length + l2.length → (Builtin.firstCells i.size l.length (.slice a l.length cap)).run P w.drew = .ok (cb l).toArray w.drew →
      ∃ v' w', (Builtin.append_ #[t, t] ty #[v, u]).run P w = .ok v' w' ∧ Bs w' B v' (l ++ l2) ∧ w.grownBy w' v.ownBlock ∧ (v'.ownBlock = v.ownBlock ∨ v'.ownBlock = some w.heap.size) := by
    intro a cap hva hcap hold
    subst hva
    have hfit : Builtin.nextslicecap (l.length + l2.length) cap * i.bytes ≤ 281474976710656 := growslice_fits hcap (by rw [hb1]; omega)
    have hrun := run_append_grow_src (P := P) w t t ty e i (.int .u8 0) ht hi1 hz a l.length cap (cb l) hold u l2.length (cb l2) (by rw [hs1]; exact hsrc) hcap (by omega) hfit
    have hge := grownCap_ge w (l.length + l2.length) cap e
    obtain ⟨gc, hgc⟩ : ∃ gc, gc = grownCap w (l.length + l2.length) cap e := ⟨_, rfl⟩
    rw [← hgc] at hrun hge
    obtain ⟨C, hC⟩ : ∃ C, C = (cb l ++ cb l2).toArray ++ Builtin.zeroCells (Value.int .u8 0).cells (gc - (l.length + l2.length)) := ⟨_, rfl⟩
    rw [← hC] at hrun
    have hCs : C.size = gc := by
      rw [hC]
      simp [cb_len, Builtin.zeroCells, Value.cells]
      omega
    have hblk : Blk (w.drew.alloc (.cells C e)) w.heap.size C e := Blk.new w.drew C e
    refine ⟨_, _, hrun, ?_, ⟨rfl, rfl, rfl, by simp, fun k hk _ => Below.heap_alloc w.drew _ k hk⟩, .inr rfl⟩
    refine .inr ⟨w.heap.size, 0, gc, by rw [List.length_append], hB, hblk.lt, by rw [List.length_append]; exact hge, fun j hj => ?_, fun j hj => ?_⟩
    · rw [Nat.zero_add, hblk.cell, hC, Array.getElem?_append_left (by simp [cb_len]; simpa using hj)]
      have : (cb l ++ cb l2) = cb (l ++ l2) := by simp [cb]
      rw [this, List.getElem?_toArray]
      unfold cb
      rw [List.getElem?_map, List.getElem?_eq_getElem hj]
      rfl
    · rw [Nat.zero_add, hblk.cell, hblk.frozen]
      exact ⟨by rw [Array.getElem?_eq_getElem (by omega)]; rfl, rfl⟩
  rcases hv with ⟨rfl, rfl⟩ | ⟨b, o, cap, rfl, h2, h3, h4, h5, h6⟩
  · by_cases h0 : l2 = []
    · subst h0
      refine ⟨.slice none 0 0, w, ?_, Bs.nil _ _, ⟨rfl, rfl, rfl, Nat.le_refl _, fun _ _ _ => rfl⟩, .inl rfl⟩
      have hc := hsrc.cells
      have hl := hsrc.len
      have hc' : (Builtin.firstCells 1 0 u).run P w = .ok #[] w := by simpa [cb] using hc
      simp [Builtin.append_, run_underlying ht, sizeOf, typeInfo, hi1, hs1, hl]
      rw [hc']
      rfl
    · have : 0 < l2.length := List.length_pos_iff.2 h0
      refine hgrow none 0 rfl (by simpa using this) ?_
      simp [Builtin.firstCells, cb]
  · by_cases hroom : l.length + l2.length ≤ cap
    · have hlb : (cb l2).length = l2.length := cb_len l2
      have hrun := run_append_room_src (P := P) w t t ty e i ht hi1 b o l.length cap u l2.length (cb l2) (by rw [hs1]; exact hsrc) hroom
        (fun j hj => by rw [hs1, Nat.mul_one, Nat.add_assoc]; exact (h6 _ (by omega)).1) (fun j hj => by rw [hs1, Nat.mul_one, Nat.add_assoc]; exact (h6 _ (by omega)).2)
      rw [hs1, Nat.mul_one] at hrun
      obtain ⟨q1, q2, q3, q4⟩ := setCells_size b (cb l2) (o + l.length) w
      refine ⟨_, _, hrun, ?_, ⟨q2, q3, q4, by omega, fun k hk hne => setCells_heap b _ _ _ k (fun e => hne (by rw [e]; rfl))⟩, .inl rfl⟩
      refine .inr ⟨b, o, cap, by rw [List.length_append], h2, by omega, by rw [List.length_append]; exact hroom, fun j hj => ?_, fun j hj => ?_⟩
      · by_cases hjl : j < l.length
        · rw [World.cell?_setCells_out b _ _ _ _ (fun _ _ => .inl (by show o + j < _; omega)), h5 j hjl, List.getElem_append_left hjl]
        · have hj2 : j - l.length < (cb l2).length := by rw [hlb]; rw [List.length_append] at hj; omega
          have := World.cell?_setCells_in b (cb l2) (o + l.length) w (fun j hj => by rw [Nat.add_assoc]; exact (h6 _ (by omega)).1) (j - l.length) hj2
          rw [show o + l.length + (j - l.length) = o + j by omega] at this
          rw [this, List.getElem_append_right (by omega)]
          simp [cb]
      · rw [World.frozen?_setCells]
        exact ⟨cell_isSome_setCells b _ _ _ _ (h6 j hj).1, (h6 j hj).2⟩
    · refine hgrow (some ⟨b, o, none⟩) cap rfl (by omega) ?_
      have hv' : Bs w B (.slice (some ⟨b, o, none⟩) l.length cap) l := .inr ⟨b, o, cap, rfl, h2, h3, h4, h5, h6⟩
      rw [hs1]
      exact (hv'.src ht).cellsD
/-- '[]byte(s)' -/
theorem Bs.conv {P : Program} (w : World) (s : ByteArray) {src dst e : TypeId} (hs : P.underlying src = some .string) (hd : P.underlying dst = some (.slice e)) (he : P.underlying e = some (.int .u8)) (B : Nat) (hB : B ≤ w.heap.size) :
    ∃ v' w', (convert src dst (.string s)).run P w = .ok v' w' ∧ Bs w' B v' s.data.toList ∧ w.grownBy w' none ∧ v'.ownBlock = some w.heap.size := by
  have hrun := run_bytes_of_string (P := P) w src dst e s hs hd he
  have hge := grownCap_ge w s.size 0 e
  obtain ⟨gc, hgc⟩ : ∃ gc, gc = grownCap w s.size 0 e := ⟨_, rfl⟩
  rw [← hgc] at hrun hge
  have hRs : (bytesRow s gc).size = gc := by
    have : s.data.size = s.size := rfl
    simp [bytesRow]; omega
  have hlen : s.data.toList.length = s.size := by rw [Array.length_toList]; rfl
  refine ⟨_, _, hrun, ?_, ⟨rfl, rfl, rfl, by simp, fun k hk _ => Below.heap_alloc w.drew _ k hk⟩, rfl⟩
  refine .inr ⟨w.heap.size, 0, gc, by rw [hlen], hB, by simp, by rw [hlen]; exact hge, fun j hj => ?_, fun j hj => ?_⟩
  · rw [hlen] at hj
    rw [Nat.zero_add]
    have := World.cell?_alloc_mark w.drew (bytesRow s gc) e ((bytesRow s gc).size, (bytesRow s gc).size + 1) j
    refine this.trans ?_
    rw [bytesRow_at s gc j hj]
    simp
  · rw [Nat.zero_add]
    have h1 := World.cell?_alloc_mark w.drew (bytesRow s gc) e ((bytesRow s gc).size, (bytesRow s gc).size + 1) j
    have h2 := World.frozen?_alloc_mark w.drew (bytesRow s gc) e (bytesRow s gc).size ((bytesRow s gc).size + 1) j
    refine ⟨by rw [show w.heap.size = w.drew.heap.size from rfl, h1, Array.getElem?_eq_getElem (by omega)]; rfl, h2.trans ?_⟩
    simp; omega
/-- 'string(v)' -/
theorem Bs.str {P : Program} {w : World} {B : Nat} {v : Value} {l : List UInt8} (h : Bs w B v l) {src dst e : TypeId} (hs : P.underlying src = some (.slice e)) (he : P.underlying e = some (.int .u8)) (hd : P.underlying dst = some .string) :
    (convert src dst v).run P w = .ok (.string ⟨l.toArray⟩) w := by
  rcases h with ⟨rfl, rfl⟩ | ⟨b, o, cap, rfl, h2, h3, h4, h5, h6⟩
  · rw [run_convert_bytes_string w src dst e none 0 0 hs he hd]
    first | rfl | (simp [Conv.bytesToString]; rfl)
  · exact run_convert_bytes_back w src dst e ⟨b, o, none⟩ cap l hs he hd (fun j hj => by rw [Addr.add_lit]; exact h5 j hj)
section
variable {P : Program} {w w' : World} {v u v' : Value}
/-- The operation, its run given. -/
theorem wp_append_bs {o : Oper} {a : Act} {K : Act → World → Prop} {Q : Exit → Act → World → Prop} (s x : Operand) (t : TypeId) (ho : o.op = .call { callee := .builtin .append, args := #[s, x], argTypes := #[t, t] })
    (hr : (Builtin.append_ #[t, t] o.type #[v, u]).run P w = .ok v' w') (hs : a.eval s = v) (hx : a.eval x = u) (h : K (a.put o.dst v') w') : o.wp P a w K Q := by
  unfold Oper.wp execOp
  simp only [ho, resolve, invoke, builtin, Sem.run_bind, Sem.run_pure, Result.andThen_ok, List.map_toArray, List.map_cons, List.map_nil, hs, hx, hr]
  exact h
theorem wpList_append_bs {ops : Array Oper} {rest : List Oper} {o : Oper} {a : Act} {Q : Exit → Act → World → Prop} (hgd : o.guard = none) (s x : Operand) (t : TypeId) (ho : o.op = .call { callee := .builtin .append, args := #[s, x], argTypes := #[t, t] })
    (hr : (Builtin.append_ #[t, t] o.type #[v, u]).run P w = .ok v' w') (hs : a.eval s = v) (hx : a.eval x = u) (h : wpList P ops Q rest (a.put o.dst v') w') : wpList P ops Q (o :: rest) a w :=
  wpList_plain hgd fun _ hK => wp_append_bs s x t ho hr hs hx (hK _ _ h)
theorem step_append_bs {ops : Array Oper} {o : Oper} {a : Act} {K : Act → World → Prop} {Q : Exit → Act → World → Prop} {E : Prop} (hgd : o.guard = none) (s x : Operand) (t : TypeId) (ho : o.op = .call { callee := .builtin .append, args := #[s, x], argTypes := #[t, t] })
    (hr : (Builtin.append_ #[t, t] o.type #[v, u]).run P w = .ok v' w') (hs : a.eval s = v) (hx : a.eval x = u) (h : K (a.put o.dst v') w') :
    if Region.wanted o (yielded ops a.tmps) = true then Oper.wp P o a w K Q else E := by
  have hw : Region.wanted o (yielded ops a.tmps) = true := by simp [Region.wanted, hgd]
  rw [if_pos hw]
  exact wp_append_bs s x t ho hr hs hx h
end
end Go.Proofs.Ytkcmphjgflbchaa

/- 'each' of le. -/
namespace Go.Proofs.Ytkcmphjgflbchaa
open Go.RowKit
set_option linter.unusedVariables false
set_option linter.unusedSimpArgs false
attribute [local go_sem] cell_set set_set m_undef
theorem ret_tup {w : World} {R : Ending → World → Prop} (h : R (.returned (.tuple #[])) w) : R (.returned (.tuple #[])) w := h
set_option maxHeartbeats 1000000 in
/-- 'each' over the closure of function 89. -/
theorem each_num (c0 c1 : Value) (a : Option Addr) (n cap : Nat) (at_ : Int) (hat : isI at_) (hn : n ≤ 1000000000000000) (w : World) (Inv : Nat → World → Prop) (h0 : Inv 0 w)
    (hstep : ∀ k wr, k < 8 → Inv k wr → 0 ≤ at_ + k → at_ + k < n → Calls Try.prog 89 #[.int .i64 (at_ + k), .int .i64 (k : Int), c0, c1] wr fun e w' => e = .returned (.tuple #[]) ∧ Inv (k + 1) w')
    (hskip : ∀ k wr, k < 8 → Inv k wr → ¬ (0 ≤ at_ + k ∧ at_ + k < n) → Inv (k + 1) wr) :
    Calls Try.prog 88 #[.slice a n cap, .int .i64 at_, .int .i64 8, .func (.func 89) #[] #[c0, c1]] w fun e w' => e = .returned (.tuple #[]) ∧ Inv 8 w' := by
  unfold isI at hat
  replace h0 := Lib.hid h0
  replace hstep := Lib.hid hstep
  replace hskip := Lib.hid hskip
  go_enter Try.func88, Try.ntmps88
  go_wp2
  go_loopw [13] (fun i wr => ∃ k : Nat, k ≤ 8 ∧ i = .int .i64 (k : Int) ∧ Inv k wr) (fun i _ => (8 - (intOf i).toNat))
  case atStart => exact ⟨0, by omega, rfl, h0.out⟩
  case round =>
    obtain ⟨k, hk, rfl, hI⟩ := hrel
    replace hI := Lib.hid hI
    by_cases hk8 : k < 8
    · have w1 : IntKind.i64.wrap ((k : Int) + 1) = ((k + 1 : Nat) : Int) := by rw [IntKind.wrap_i64]; omega
      have t1 : ((k : Int) < 8) = True := by simp; omega
      obtain ⟨kz, hkz⟩ : ∃ kz : Int, kz = (k : Int) := ⟨_, rfl⟩
      rw [← hkz] at w1 t1
      rw [← hkz]
      by_cases hlt : at_ < (n : Int)
      · have t2 : (at_ < (n : Int)) = True := by simp; exact hlt
        obtain ⟨i, hi⟩ : ∃ i : Int, i = at_ + k := ⟨_, rfl⟩
        have w2 : IntKind.i64.wrap (at_ + kz) = i := by rw [IntKind.wrap_i64]; omega
        by_cases h3 : 0 ≤ i
        · have t3 : ((0 : Int) ≤ i) = True := by simp; exact h3
          by_cases h4 : i < (n : Int)
          · have t4 : (i < (n : Int)) = True := by simp; exact h4
            have hc := Lib.hid (hstep.out k _ hk8 hI.out (by omega) (by omega))
            rw [← hi, ← hkz] at hc
            clear hlt h3 h4 hi
            replace hkz := Lib.hid hkz
            go_wp2_with (go_at_call 89; refine hc.out.mono ?_; rintro e w2 ⟨rfl, hI2⟩; replace hI2 := Lib.hid hI2)
            go_roundw
            case rel => exact ⟨k + 1, by omega, rfl, hI2.out⟩
            case measure => have := hkz.out; simp [intOf]; omega
          · have t4 : (i < (n : Int)) = False := by simp; omega
            have hI2 := Lib.hid (hskip.out k _ hk8 hI.out (by omega))
            clear hlt h3 h4 hi
            replace hkz := Lib.hid hkz
            go_wp2
            go_roundw
            case rel => exact ⟨k + 1, by omega, rfl, hI2.out⟩
            case measure => have := hkz.out; simp [intOf]; omega
        · have t3 : ((0 : Int) ≤ i) = False := by simp; omega
          have hI2 := Lib.hid (hskip.out k _ hk8 hI.out (by omega))
          clear hlt h3 hi
          replace hkz := Lib.hid hkz
          go_wp2
          go_roundw
          case rel => exact ⟨k + 1, by omega, rfl, hI2.out⟩
          case measure => have := hkz.out; simp [intOf]; omega
      · have t2 : (at_ < (n : Int)) = False := by simp; omega
        have hI2 := Lib.hid (hskip.out k _ hk8 hI.out (by omega))
        clear hlt
        obtain ⟨i, hi⟩ : ∃ i : Int, IntKind.i64.wrap (at_ + kz) = i := ⟨_, rfl⟩
        replace hkz := Lib.hid hkz
        go_wp2
        go_roundw
        case rel => exact ⟨k + 1, by omega, rfl, hI2.out⟩
        case measure => have := hkz.out; simp [intOf]; omega
    · have hk0 : k = 8 := by omega
      subst hk0
      go_wp2
      (try go_end0)
      exact ⟨rfl, hI.out⟩
set_option maxHeartbeats 1000000 in
/-- 'each' over the closure of function 99. -/
theorem each_put (c0 c1 : Value) (a : Option Addr) (n cap : Nat) (at_ : Int) (hat : isI at_) (hn : n ≤ 1000000000000000) (w : World) (Inv : Nat → World → Prop) (h0 : Inv 0 w)
    (hstep : ∀ k wr, k < 8 → Inv k wr → 0 ≤ at_ + k → at_ + k < n → Calls Try.prog 99 #[.int .i64 (at_ + k), .int .i64 (k : Int), c0, c1] wr fun e w' => e = .returned (.tuple #[]) ∧ Inv (k + 1) w')
    (hskip : ∀ k wr, k < 8 → Inv k wr → ¬ (0 ≤ at_ + k ∧ at_ + k < n) → Inv (k + 1) wr) :
    Calls Try.prog 88 #[.slice a n cap, .int .i64 at_, .int .i64 8, .func (.func 99) #[] #[c0, c1]] w fun e w' => e = .returned (.tuple #[]) ∧ Inv 8 w' := by
  unfold isI at hat
  replace h0 := Lib.hid h0
  replace hstep := Lib.hid hstep
  replace hskip := Lib.hid hskip
  go_enter Try.func88, Try.ntmps88
  go_wp2
  go_loopw [13] (fun i wr => ∃ k : Nat, k ≤ 8 ∧ i = .int .i64 (k : Int) ∧ Inv k wr) (fun i _ => (8 - (intOf i).toNat))
  case atStart => exact ⟨0, by omega, rfl, h0.out⟩
  case round =>
    obtain ⟨k, hk, rfl, hI⟩ := hrel
    replace hI := Lib.hid hI
    by_cases hk8 : k < 8
    · have w1 : IntKind.i64.wrap ((k : Int) + 1) = ((k + 1 : Nat) : Int) := by rw [IntKind.wrap_i64]; omega
      have t1 : ((k : Int) < 8) = True := by simp; omega
      obtain ⟨kz, hkz⟩ : ∃ kz : Int, kz = (k : Int) := ⟨_, rfl⟩
      rw [← hkz] at w1 t1
      rw [← hkz]
      by_cases hlt : at_ < (n : Int)
      · have t2 : (at_ < (n : Int)) = True := by simp; exact hlt
        obtain ⟨i, hi⟩ : ∃ i : Int, i = at_ + k := ⟨_, rfl⟩
        have w2 : IntKind.i64.wrap (at_ + kz) = i := by rw [IntKind.wrap_i64]; omega
        by_cases h3 : 0 ≤ i
        · have t3 : ((0 : Int) ≤ i) = True := by simp; exact h3
          by_cases h4 : i < (n : Int)
          · have t4 : (i < (n : Int)) = True := by simp; exact h4
            have hc := Lib.hid (hstep.out k _ hk8 hI.out (by omega) (by omega))
            rw [← hi, ← hkz] at hc
            clear hlt h3 h4 hi
            replace hkz := Lib.hid hkz
            go_wp2_with (go_at_call 99; refine hc.out.mono ?_; rintro e w2 ⟨rfl, hI2⟩; replace hI2 := Lib.hid hI2)
            go_roundw
            case rel => exact ⟨k + 1, by omega, rfl, hI2.out⟩
            case measure => have := hkz.out; simp [intOf]; omega
          · have t4 : (i < (n : Int)) = False := by simp; omega
            have hI2 := Lib.hid (hskip.out k _ hk8 hI.out (by omega))
            clear hlt h3 h4 hi
            replace hkz := Lib.hid hkz
            go_wp2
            go_roundw
            case rel => exact ⟨k + 1, by omega, rfl, hI2.out⟩
            case measure => have := hkz.out; simp [intOf]; omega
        · have t3 : ((0 : Int) ≤ i) = False := by simp; omega
          have hI2 := Lib.hid (hskip.out k _ hk8 hI.out (by omega))
          clear hlt h3 hi
          replace hkz := Lib.hid hkz
          go_wp2
          go_roundw
          case rel => exact ⟨k + 1, by omega, rfl, hI2.out⟩
          case measure => have := hkz.out; simp [intOf]; omega
      · have t2 : (at_ < (n : Int)) = False := by simp; omega
        have hI2 := Lib.hid (hskip.out k _ hk8 hI.out (by omega))
        clear hlt
        obtain ⟨i, hi⟩ : ∃ i : Int, IntKind.i64.wrap (at_ + kz) = i := ⟨_, rfl⟩
        replace hkz := Lib.hid hkz
        go_wp2
        go_roundw
        case rel => exact ⟨k + 1, by omega, rfl, hI2.out⟩
        case measure => have := hkz.out; simp [intOf]; omega
    · have hk0 : k = 8 := by omega
      subst hk0
      go_wp2
      (try go_end0)
      exact ⟨rfl, hI.out⟩
end Go.Proofs.Ytkcmphjgflbchaa

/- Numbers laid in bytes. -/
namespace Go.Proofs.Ytkcmphjgflbchaa
open Go.RowKit
set_option linter.unusedVariables false
set_option linter.unusedSimpArgs false
attribute [local go_sem] cell_set set_set m_undef

theorem cell_other {w : World} {b o b2 o2 : Nat} {u v : Value} (h : w.cell? ⟨b2, o2, none⟩ = some u) (hne : b ≠ b2) : (w.setCell ⟨b, o, none⟩ v).cell? ⟨b2, o2, none⟩ = some u :=
  (World.cell?_setCell_other w (a := ⟨b, o, none⟩) (b := ⟨b2, o2, none⟩) _ (by intro h; cases h; exact hne rfl)).trans h
theorem eight {k : Nat} (h : k < 8) : k = 0 ∨ k = 1 ∨ k = 2 ∨ k = 3 ∨ k = 4 ∨ k = 5 ∨ k = 6 ∨ k = 7 := by omega
theorem shl8 (yk : IntKind) (x k : Nat) (hx : x < 256) (hk : k < 8) : Op.shift .shl .u64 (x : Int) yk (8 * (k : Int)) = pure (.int .u64 ((x * 2 ^ (8 * k) : Nat) : Int)) := by
  rw [shift_shl_any _ _ _ _ (by omega)]
  congr 2
  rcases eight hk with rfl | rfl | rfl | rfl | rfl | rfl | rfl | rfl <;> (simp [IntKind.wrap_u64, IntKind.bits]; try omega)
theorem shr8 (yk : IntKind) (v k : Nat) (hk : k < 8) : Op.shift .shr .u64 (v : Int) yk (8 * (k : Int)) = pure (.int .u64 ((v / 2 ^ (8 * k) : Nat) : Int)) := by
  rw [shift_shr_any _ _ _ _ (by omega)]
  congr 2
  rcases eight hk with rfl | rfl | rfl | rfl | rfl | rfl | rfl | rfl <;> simp [IntKind.bits]
theorem or8 (v x k : Nat) (hx : x < 256) (hk : k < 8) (hv : v < 2 ^ (8 * k)) : bits .or .u64 (v : Int) ((x * 2 ^ (8 * k) : Nat) : Int) = ((v + x * 2 ^ (8 * k) : Nat) : Int) := by
  have h1 : v < 18446744073709551616 := by rcases eight hk with rfl | rfl | rfl | rfl | rfl | rfl | rfl | rfl <;> omega
  have h2 : x * 2 ^ (8 * k) < 18446744073709551616 := by rcases eight hk with rfl | rfl | rfl | rfl | rfl | rfl | rfl | rfl <;> omega
  rw [u64_or_nat v _ h1 h2, Nat.or_comm, Nat.mul_comm, ← Nat.two_pow_add_eq_or_of_lt hv x, Nat.add_comm]

set_option maxHeartbeats 1000000 in
theorem num_step (w : World) (nb bb b o n cap j k : Nat) (v x : Nat) (i : Int) (hi : i = (j : Int)) (hj : j < n) (hk : k < 8) (hx : x < 256) (hv : v < 2 ^ (8 * k)) (hN : Blk w nb #[.int .u64 (v : Int)] 102)
    (hne1 : nb ≠ bb) (hne2 : nb ≠ b) (s1 : w.cell? ⟨bb, 0, none⟩ = some (.slice (some ⟨b, o, none⟩) n cap)) (s2 : w.cell? ⟨b, o + j, none⟩ = some (.int .u8 (x : Int))) :
    Calls Try.prog 89 #[.int .i64 i, .int .i64 (k : Int), .pointer (some ⟨nb, 0, none⟩), .pointer (some ⟨bb, 0, none⟩)] w fun e w' => e = .returned (.tuple #[]) ∧ w' = (w.setCell ⟨nb, 0, none⟩ (.int .u64 ((v + x * 2 ^ (8 * k) : Nat) : Int))).drew := by
  obtain ⟨k1, k2, k3⟩ := hN.one
  have s3 : (w.setCell ⟨nb, 0, none⟩ (.int .u64 ((v + x * 2 ^ (8 * k) : Nat) : Int))).drew.cell? ⟨bb, 0, none⟩ = some (.slice (some ⟨b, o, none⟩) n cap) := cell_other s1 hne1
  have s4 : (w.setCell ⟨nb, 0, none⟩ (.int .u64 ((v + x * 2 ^ (8 * k) : Nat) : Int))).drew.cell? ⟨b, o + j, none⟩ = some (.int .u8 (x : Int)) := cell_other s2 hne2
  have hsh := shl8 .i64 x k hx hk
  have hor := or8 v x k hx hk hv
  obtain ⟨q, hq⟩ : ∃ q : Int, q = 8 * (k : Int) := ⟨_, rfl⟩
  obtain ⟨z, hz⟩ : ∃ z : Nat, z = x * 2 ^ (8 * k) := ⟨_, rfl⟩
  have w1 : IntKind.u64.wrap (x : Int) = (x : Int) := by rw [IntKind.wrap_u64]; omega
  have w2 : IntKind.i64.wrap (8 * (k : Int)) = q := by rw [IntKind.wrap_i64]; omega
  rw [← hz] at s3 s4 hor hsh ⊢
  rw [← hq] at hsh
  clear hz hq hv hx hk
  have i1 : ((0 : Int) ≤ i) = True := by simp; omega
  have i2 : (i < (n : Int)) = True := by simp; omega
  have i3 : i.toNat = j := by omega
  go_enter Try.func89, Try.ntmps89
  go_upto_region 0 with fail
  refine wp_region_noPanic ?_
  refine wp_region_held_drew (S := (fun w' => w'.cell? ⟨bb, 0, none⟩ = some (.slice (some ⟨b, o, none⟩) n cap) ∧ w'.cell? ⟨b, o + j, none⟩ = some (.int .u8 (x : Int)))) (by kernel_rfl) ?_ (fun hHeld => ?_)
  · (try dsimp only); (first | exact ⟨s1, s2⟩ | exact ⟨s3, s4⟩)
  refine wpAnyH_take (i := 1) (oi := { dst := some 7, op := Go.Op.load 22 (Go.Operand.tmp 3), type := 22, pos := "le.go:16", after := #[], guard := none }) (v := ?v1) rfl (by kernel_rfl) (by kernel_rfl) (by kernel_rfl) (fun _ _ _ h => h) (Or.inl ⟨by rfl, ?hy1⟩) (by assumption) ?rest1
  case hy1 => (intro w hSw; (try dsimp only at hSw); go_simp <;> with_reducible rfl)
  try simp only [Act.put, List.setIfInBounds_toArray, List.set_cons_zero, List.set_cons_succ]
  refine wpAnyH_take (i := 2) (oi := { dst := some 8, op := Go.Op.move (Go.Operand.tmp 0), type := 3, pos := "le.go:16", after := #[], guard := none }) (v := ?v2) rfl (by kernel_rfl) (by kernel_rfl) (by kernel_rfl) (fun _ _ _ h => h) (Or.inl ⟨by rfl, ?hy2⟩) (by assumption) ?rest2
  case hy2 => (intro w hSw; (try dsimp only at hSw); go_simp <;> with_reducible rfl)
  try simp only [Act.put, List.setIfInBounds_toArray, List.set_cons_zero, List.set_cons_succ]
  refine wpAnyH_take (i := 6) (oi := { dst := some 12, op := Go.Op.move (Go.Operand.tmp 1), type := 3, pos := "le.go:16", after := #[], guard := none }) (v := ?v3) rfl (by kernel_rfl) (by kernel_rfl) (by kernel_rfl) (fun _ _ _ h => h) (Or.inl ⟨by rfl, ?hy3⟩) (by assumption) ?rest3
  case hy3 => (intro w hSw; (try dsimp only at hSw); go_simp <;> with_reducible rfl)
  try simp only [Act.put, List.setIfInBounds_toArray, List.set_cons_zero, List.set_cons_succ]
  refine wpAnyH_take (i := 3) (oi := { dst := some 9, op := Go.Op.indexAddr 22 (Go.Operand.tmp 7) (Go.Operand.tmp 8), type := 0, pos := "le.go:16", after := #[{ on := 1, ground := Go.Ground.data }, { on := 2, ground := Go.Ground.data }], guard := none }) (v := ?v4) rfl (by kernel_rfl) (by kernel_rfl) (by kernel_rfl) (fun _ _ _ h => h) (Or.inl ⟨by rfl, ?hy4⟩) (by assumption) ?rest4
  case hy4 => (intro w hSw; (try dsimp only at hSw); go_simp <;> with_reducible rfl)
  try simp only [Act.put, List.setIfInBounds_toArray, List.set_cons_zero, List.set_cons_succ]
  refine wpAnyH_take (i := 4) (oi := { dst := some 10, op := Go.Op.load 5 (Go.Operand.tmp 9), type := 5, pos := "le.go:16", after := #[{ on := 3, ground := Go.Ground.data }], guard := none }) (v := ?v5) rfl (by kernel_rfl) (by kernel_rfl) (by kernel_rfl) (fun _ _ _ h => h) (Or.inl ⟨by rfl, ?hy5⟩) (by assumption) ?rest5
  case hy5 => (intro w hSw; (try dsimp only at hSw); go_simp <;> with_reducible rfl)
  try simp only [Act.put, List.setIfInBounds_toArray, List.set_cons_zero, List.set_cons_succ]
  refine wpAnyH_take (i := 5) (oi := { dst := some 11, op := Go.Op.convert 5 102 (Go.Operand.tmp 10), type := 102, pos := "le.go:16", after := #[{ on := 4, ground := Go.Ground.data }], guard := none }) (v := ?v6) rfl (by kernel_rfl) (by kernel_rfl) (by kernel_rfl) (fun _ _ _ h => h) (Or.inl ⟨by rfl, ?hy6⟩) (by assumption) ?rest6
  case hy6 => (intro w hSw; (try dsimp only at hSw); go_simp <;> with_reducible rfl)
  try simp only [Act.put, List.setIfInBounds_toArray, List.set_cons_zero, List.set_cons_succ]
  refine wpAnyH_take (i := 7) (oi := { dst := some 13, op := Go.Op.binOp Go.BinOp.mul 3 (Go.Operand.const (Go.Value.int Go.IntKind.i64 8)) (Go.Operand.tmp 12) 3, type := 3, pos := "le.go:16", after := #[{ on := 6, ground := Go.Ground.data }], guard := none }) (v := ?v7) rfl (by kernel_rfl) (by kernel_rfl) (by kernel_rfl) (fun _ _ _ h => h) (Or.inl ⟨by rfl, ?hy7⟩) (by assumption) ?rest7
  case hy7 => (intro w hSw; (try dsimp only at hSw); go_simp <;> with_reducible rfl)
  try simp only [Act.put, List.setIfInBounds_toArray, List.set_cons_zero, List.set_cons_succ]
  refine wpAnyH_take (i := 8) (oi := { dst := some 14, op := Go.Op.binOp Go.BinOp.shl 102 (Go.Operand.tmp 11) (Go.Operand.tmp 13) 3, type := 102, pos := "le.go:16", after := #[{ on := 5, ground := Go.Ground.data }, { on := 7, ground := Go.Ground.data }], guard := none }) (v := ?v8) rfl (by kernel_rfl) (by kernel_rfl) (by kernel_rfl) (fun _ _ _ h => h) (Or.inl ⟨by rfl, ?hy8⟩) (by assumption) ?rest8
  case hy8 => (intro w hSw; (try dsimp only at hSw); go_simp <;> with_reducible rfl)
  try simp only [Act.put, List.setIfInBounds_toArray, List.set_cons_zero, List.set_cons_succ]
  refine wpAnyH_ready (rs := [0]) (by kernel_rfl) (by simp) ?_
  refine AllReadyH.cons (o := { dst := some 6, op := Go.Op.load 102 (Go.Operand.tmp 2), type := 102, pos := "le.go:16", after := #[], guard := none }) rfl (fun K hK => ?_) AllReadyH.nil
  go_simp
  refine hK.out _ _ ?_ (fun hHeld2 => ?_)
  · (try dsimp only); (first | exact ⟨s1, s2⟩ | exact ⟨s3, s4⟩)
  clear hK K hHeld
  have hHeld := hHeld2
  clear hHeld2
  try simp only [Act.put, List.setIfInBounds_toArray, List.set_cons_zero, List.set_cons_succ]
  refine wpAnyH_take (i := 9) (oi := { dst := some 15, op := Go.Op.binOp Go.BinOp.or 102 (Go.Operand.tmp 6) (Go.Operand.tmp 14) 102, type := 102, pos := "le.go:16", after := #[{ on := 0, ground := Go.Ground.data }, { on := 8, ground := Go.Ground.data }], guard := none }) (v := ?v9) rfl (by kernel_rfl) (by kernel_rfl) (by kernel_rfl) (fun _ _ _ h => h) (Or.inl ⟨by rfl, ?hy9⟩) (by assumption) ?rest9
  case hy9 => (intro w hSw; (try dsimp only at hSw); go_simp <;> with_reducible rfl)
  try simp only [Act.put, List.setIfInBounds_toArray, List.set_cons_zero, List.set_cons_succ]
  refine wpAnyH_ready (rs := [10]) (by kernel_rfl) (by simp) ?_
  refine AllReadyH.cons (o := { dst := none, op := Go.Op.store 102 (Go.Operand.tmp 2) (Go.Operand.tmp 15), type := 0, pos := "le.go:16", after := #[{ on := 9, ground := Go.Ground.data }, { on := 0, ground := Go.Ground.phase }, { on := 1, ground := Go.Ground.phase }, { on := 2, ground := Go.Ground.phase }, { on := 3, ground := Go.Ground.phase }, { on := 4, ground := Go.Ground.phase }, { on := 5, ground := Go.Ground.phase }, { on := 6, ground := Go.Ground.phase }, { on := 7, ground := Go.Ground.phase }, { on := 8, ground := Go.Ground.phase }, { on := 9, ground := Go.Ground.phase }], guard := none }) rfl (fun K hK => ?_) AllReadyH.nil
  go_simp
  refine hK.out _ _ ?_ (fun hHeld2 => ?_)
  · (try dsimp only); (first | exact ⟨s1, s2⟩ | exact ⟨s3, s4⟩)
  clear hK K hHeld
  have hHeld := hHeld2
  clear hHeld2
  try simp only [Act.put, List.setIfInBounds_toArray, List.set_cons_zero, List.set_cons_succ]
  refine wpAnyH_done (by kernel_rfl) ?_ _
  refine NoPanic.normal ?_
  go_wp2
  (try go_end0)
  exact ⟨rfl, by rw [Int.natCast_add]⟩

set_option maxHeartbeats 1000000 in
theorem put_step (w : World) (nb ob b o n cap j k : Nat) (v : Nat) (i : Int) (hi : i = (j : Int)) (hj : j < n) (hk : k < 8)
    (s1 : w.cell? ⟨ob, 0, none⟩ = some (.slice (some ⟨b, o, none⟩) n cap)) (s2 : w.cell? ⟨nb, 0, none⟩ = some (.int .u64 (v : Int))) (hne1 : b ≠ ob) (hne2 : b ≠ nb) (x : Value) (hb : w.cell? ⟨b, o + j, none⟩ = some x) (hf : w.frozen? ⟨b, o + j, none⟩ = false) :
    Calls Try.prog 99 #[.int .i64 i, .int .i64 (k : Int), .pointer (some ⟨nb, 0, none⟩), .pointer (some ⟨ob, 0, none⟩)] w fun e w' => e = .returned (.tuple #[]) ∧ w' = (w.setCell ⟨b, o + j, none⟩ (.int .u8 (((UInt8.ofNat (v / 2 ^ (8 * k))).toNat : Nat) : Int))).drew := by
  have s3 : (w.setCell ⟨b, o + j, none⟩ (.int .u8 (((UInt8.ofNat (v / 2 ^ (8 * k))).toNat : Nat) : Int))).drew.cell? ⟨ob, 0, none⟩ = some (.slice (some ⟨b, o, none⟩) n cap) := cell_other s1 hne1
  have s4 : (w.setCell ⟨b, o + j, none⟩ (.int .u8 (((UInt8.ofNat (v / 2 ^ (8 * k))).toNat : Nat) : Int))).drew.cell? ⟨nb, 0, none⟩ = some (.int .u64 (v : Int)) := cell_other s2 hne2
  have hsh := shr8 .i64 v k hk
  obtain ⟨q, hq⟩ : ∃ q : Int, q = 8 * (k : Int) := ⟨_, rfl⟩
  obtain ⟨z, hz⟩ : ∃ z : Nat, z = v / 2 ^ (8 * k) := ⟨_, rfl⟩
  have w2 : IntKind.i64.wrap (8 * (k : Int)) = q := by rw [IntKind.wrap_i64]; omega
  rw [← hz] at s3 s4 hsh ⊢
  rw [← hq] at hsh
  have w3 : IntKind.u8.wrap (z : Int) = (((UInt8.ofNat z).toNat : Nat) : Int) := by rw [IntKind.wrap_u8, UInt8.toNat_ofNat']; omega
  obtain ⟨y, hy⟩ : ∃ y : Int, y = (((UInt8.ofNat z).toNat : Nat) : Int) := ⟨_, rfl⟩
  rw [← hy] at w3 s3 s4 ⊢
  clear hz hq hk hy
  have i1 : ((0 : Int) ≤ i) = True := by simp; omega
  have i2 : (i < (n : Int)) = True := by simp; omega
  have i3 : i.toNat = j := by omega
  go_enter Try.func99, Try.ntmps99
  go_upto_region 0 with fail
  refine wp_region_noPanic ?_
  refine wp_region_held_drew (S := (fun w' => w'.cell? ⟨ob, 0, none⟩ = some (.slice (some ⟨b, o, none⟩) n cap) ∧ w'.cell? ⟨nb, 0, none⟩ = some (.int .u64 (v : Int)))) (by kernel_rfl) ?_ (fun hHeld => ?_)
  · (try dsimp only); (first | exact ⟨s1, s2⟩ | exact ⟨s3, s4⟩)
  refine wpAnyH_take (i := 0) (oi := { dst := some 6, op := Go.Op.load 22 (Go.Operand.tmp 3), type := 22, pos := "le.go:23", after := #[], guard := none }) (v := ?v10) rfl (by kernel_rfl) (by kernel_rfl) (by kernel_rfl) (fun _ _ _ h => h) (Or.inl ⟨by rfl, ?hy10⟩) (by assumption) ?rest10
  case hy10 => (intro w hSw; (try dsimp only at hSw); go_simp <;> with_reducible rfl)
  try simp only [Act.put, List.setIfInBounds_toArray, List.set_cons_zero, List.set_cons_succ]
  refine wpAnyH_take (i := 1) (oi := { dst := some 7, op := Go.Op.move (Go.Operand.tmp 0), type := 3, pos := "le.go:23", after := #[], guard := none }) (v := ?v11) rfl (by kernel_rfl) (by kernel_rfl) (by kernel_rfl) (fun _ _ _ h => h) (Or.inl ⟨by rfl, ?hy11⟩) (by assumption) ?rest11
  case hy11 => (intro w hSw; (try dsimp only at hSw); go_simp <;> with_reducible rfl)
  try simp only [Act.put, List.setIfInBounds_toArray, List.set_cons_zero, List.set_cons_succ]
  refine wpAnyH_take (i := 2) (oi := { dst := some 8, op := Go.Op.load 102 (Go.Operand.tmp 2), type := 102, pos := "le.go:23", after := #[], guard := none }) (v := ?v12) rfl (by kernel_rfl) (by kernel_rfl) (by kernel_rfl) (fun _ _ _ h => h) (Or.inl ⟨by rfl, ?hy12⟩) (by assumption) ?rest12
  case hy12 => (intro w hSw; (try dsimp only at hSw); go_simp <;> with_reducible rfl)
  try simp only [Act.put, List.setIfInBounds_toArray, List.set_cons_zero, List.set_cons_succ]
  refine wpAnyH_take (i := 3) (oi := { dst := some 9, op := Go.Op.move (Go.Operand.tmp 1), type := 3, pos := "le.go:23", after := #[], guard := none }) (v := ?v13) rfl (by kernel_rfl) (by kernel_rfl) (by kernel_rfl) (fun _ _ _ h => h) (Or.inl ⟨by rfl, ?hy13⟩) (by assumption) ?rest13
  case hy13 => (intro w hSw; (try dsimp only at hSw); go_simp <;> with_reducible rfl)
  try simp only [Act.put, List.setIfInBounds_toArray, List.set_cons_zero, List.set_cons_succ]
  refine wpAnyH_take (i := 4) (oi := { dst := some 10, op := Go.Op.binOp Go.BinOp.mul 3 (Go.Operand.const (Go.Value.int Go.IntKind.i64 8)) (Go.Operand.tmp 9) 3, type := 3, pos := "le.go:23", after := #[{ on := 3, ground := Go.Ground.data }], guard := none }) (v := ?v14) rfl (by kernel_rfl) (by kernel_rfl) (by kernel_rfl) (fun _ _ _ h => h) (Or.inl ⟨by rfl, ?hy14⟩) (by assumption) ?rest14
  case hy14 => (intro w hSw; (try dsimp only at hSw); go_simp <;> with_reducible rfl)
  try simp only [Act.put, List.setIfInBounds_toArray, List.set_cons_zero, List.set_cons_succ]
  refine wpAnyH_take (i := 5) (oi := { dst := some 11, op := Go.Op.binOp Go.BinOp.shr 102 (Go.Operand.tmp 8) (Go.Operand.tmp 10) 3, type := 102, pos := "le.go:23", after := #[{ on := 2, ground := Go.Ground.data }, { on := 4, ground := Go.Ground.data }], guard := none }) (v := ?v15) rfl (by kernel_rfl) (by kernel_rfl) (by kernel_rfl) (fun _ _ _ h => h) (Or.inl ⟨by rfl, ?hy15⟩) (by assumption) ?rest15
  case hy15 => (intro w hSw; (try dsimp only at hSw); go_simp <;> with_reducible rfl)
  try simp only [Act.put, List.setIfInBounds_toArray, List.set_cons_zero, List.set_cons_succ]
  refine wpAnyH_take (i := 6) (oi := { dst := some 12, op := Go.Op.convert 102 5 (Go.Operand.tmp 11), type := 5, pos := "le.go:23", after := #[{ on := 5, ground := Go.Ground.data }], guard := none }) (v := ?v16) rfl (by kernel_rfl) (by kernel_rfl) (by kernel_rfl) (fun _ _ _ h => h) (Or.inl ⟨by rfl, ?hy16⟩) (by assumption) ?rest16
  case hy16 => (intro w hSw; (try dsimp only at hSw); go_simp <;> with_reducible rfl)
  try simp only [Act.put, List.setIfInBounds_toArray, List.set_cons_zero, List.set_cons_succ]
  refine wpAnyH_take (i := 7) (oi := { dst := some 13, op := Go.Op.indexAddr 22 (Go.Operand.tmp 6) (Go.Operand.tmp 7), type := 0, pos := "le.go:23", after := #[{ on := 0, ground := Go.Ground.data }, { on := 1, ground := Go.Ground.data }, { on := 0, ground := Go.Ground.phase }, { on := 1, ground := Go.Ground.phase }, { on := 2, ground := Go.Ground.phase }, { on := 3, ground := Go.Ground.phase }, { on := 4, ground := Go.Ground.phase }, { on := 5, ground := Go.Ground.phase }, { on := 6, ground := Go.Ground.phase }], guard := none }) (v := ?v17) rfl (by kernel_rfl) (by kernel_rfl) (by kernel_rfl) (fun _ _ _ h => h) (Or.inl ⟨by rfl, ?hy17⟩) (by assumption) ?rest17
  case hy17 => (intro w hSw; (try dsimp only at hSw); go_simp <;> with_reducible rfl)
  try simp only [Act.put, List.setIfInBounds_toArray, List.set_cons_zero, List.set_cons_succ]
  refine wpAnyH_ready (rs := [8]) (by kernel_rfl) (by simp) ?_
  refine AllReadyH.cons (o := { dst := none, op := Go.Op.store 5 (Go.Operand.tmp 13) (Go.Operand.tmp 12), type := 0, pos := "le.go:23", after := #[{ on := 7, ground := Go.Ground.data }, { on := 6, ground := Go.Ground.data }, { on := 0, ground := Go.Ground.phase }, { on := 1, ground := Go.Ground.phase }, { on := 2, ground := Go.Ground.phase }, { on := 3, ground := Go.Ground.phase }, { on := 4, ground := Go.Ground.phase }, { on := 5, ground := Go.Ground.phase }, { on := 6, ground := Go.Ground.phase }], guard := none }) rfl (fun K hK => ?_) AllReadyH.nil
  go_simp
  refine hK.out _ _ ?_ (fun hHeld2 => ?_)
  · (try dsimp only); (first | exact ⟨s1, s2⟩ | exact ⟨s3, s4⟩)
  clear hK K hHeld
  have hHeld := hHeld2
  clear hHeld2
  try simp only [Act.put, List.setIfInBounds_toArray, List.set_cons_zero, List.set_cons_succ]
  refine wpAnyH_done (by kernel_rfl) ?_ _
  refine NoPanic.normal ?_
  go_wp2
  (try go_end0)
  exact ⟨rfl, rfl⟩
end Go.Proofs.Ytkcmphjgflbchaa

/- 'Num', 'PutNum', 'Cell', 'PutCell' of le. -/
namespace Go.Proofs.Ytkcmphjgflbchaa
open Go.RowKit
set_option linter.unusedVariables false
set_option linter.unusedSimpArgs false
attribute [local go_sem] cell_set set_set m_undef

theorem info5 : (Try.prog.info? 5).map (fun i => (i.zero, i.size, i.bytes)) = some (some (.int .u8 0), 1, 1) := by kernel_rfl
/-- The byte at a place, if there is one. -/
def byteZ (l : List UInt8) (z : Int) : Nat := if 0 ≤ z ∧ z < l.length then (l.getD z.toNat 0).toNat else 0
/-- The number of k bytes from a place on. -/
def leN (l : List UInt8) (a : Int) : Nat → Nat
  | 0 => 0
  | k + 1 => leN l a k + byteZ l (a + k) * 2 ^ (8 * k)
theorem byteZ_lt (l : List UInt8) (z : Int) : byteZ l z < 256 := by
  unfold byteZ
  split
  · exact UInt8.toNat_lt _
  · omega
theorem leN_lt (l : List UInt8) (a : Int) (k : Nat) : leN l a k < 2 ^ (8 * k) := by
  induction k with
  | zero => simp [leN]
  | succ k ih =>
    have h := byteZ_lt l (a + k)
    have e : (2 : Nat) ^ (8 * (k + 1)) = 256 * 2 ^ (8 * k) := by rw [Nat.mul_add, Nat.pow_add, Nat.mul_comm]
    rw [leN, e]
    have h2 : byteZ l (a + k) * 2 ^ (8 * k) ≤ 255 * 2 ^ (8 * k) := Nat.mul_le_mul_right _ (by omega)
    omega
/-- A number's k bytes, laid from a place on. -/
def putL (l : List UInt8) (a : Int) (v : Nat) : Nat → List UInt8
  | 0 => l
  | k + 1 => if 0 ≤ a + k ∧ a + k < l.length then (putL l a v k).set (a + k).toNat (UInt8.ofNat (v / 2 ^ (8 * k))) else putL l a v k
theorem putL_len (l : List UInt8) (a : Int) (v k : Nat) : (putL l a v k).length = l.length := by
  induction k with
  | zero => rfl
  | succ k ih => rw [putL]; split <;> simp [ih]
/-- A cell: eight bytes, signed. -/
def cellL (l : List UInt8) (a : Int) : Int := IntKind.i64.wrap (leN l a 8 : Int)
def putCellL (l : List UInt8) (a : Int) (n : Int) : List UInt8 := putL l a (IntKind.u64.wrap n).toNat 8
theorem Bs.some_of {w : World} {B : Nat} {v : Value} {l : List UInt8} (h : Bs w B v l) (hl : l ≠ []) : ∃ b o c, v = .slice (some ⟨b, o, none⟩) l.length c := by
  rcases h with ⟨_, h⟩ | ⟨b, o, cap, h, _⟩
  · exact absurd h hl
  · exact ⟨b, o, cap, h⟩
theorem Bs.at {w : World} {B b o n cap : Nat} {l : List UInt8} (h : Bs w B (.slice (some ⟨b, o, none⟩) n cap) l) (k : Nat) (hk : k < l.length) : w.cell? ⟨b, o + k, none⟩ = some (.int .u8 (l[k].toNat : Int)) ∧ w.frozen? ⟨b, o + k, none⟩ = false := by
  rcases h with ⟨h, _⟩ | ⟨b', o', cap', he, h2, h3, h4, h5, h6⟩
  · cases h
  · cases he
    exact ⟨h5 k hk, (h6 k (by omega)).2⟩
theorem Bs.setAt {w : World} {B b o n cap : Nat} {l : List UInt8} (h : Bs w B (.slice (some ⟨b, o, none⟩) n cap) l) (k : Nat) (c : UInt8) (hk : k < l.length) : Bs (w.setCell ⟨b, o + k, none⟩ (.int .u8 (c.toNat : Int))) B (.slice (some ⟨b, o, none⟩) n cap) (l.set k c) := by
  rcases h with ⟨h, _⟩ | ⟨b', o', cap', he, h2, h3, h4, h5, h6⟩
  · cases h
  · cases he
    refine .inr ⟨b, o, cap, by rw [List.length_set], h2, by simpa using h3, by rw [List.length_set]; exact h4, fun j hj => ?_, fun j hj => ?_⟩
    · rw [List.length_set] at hj
      by_cases e : k = j
      · subst e
        rw [cell_set, h5 k hk]; simp
      · rw [List.getElem_set_ne e]
        exact (World.cell?_setCell_other w (a := ⟨b, o + k, none⟩) (b := ⟨b, o + j, none⟩) _ (by intro h; have h2 := congrArg Addr.off h; simp at h2; omega)).trans (h5 j hj)
    · have hs := (h6 j hj).1
      refine ⟨?_, by rw [World.frozen?_setCell]; exact (h6 j hj).2⟩
      by_cases e : k = j
      · subst e
        rw [cell_set]; obtain ⟨u, hu⟩ := Option.isSome_iff_exists.1 hs; simp [hu]
      · rw [World.cell?_setCell_other w (a := ⟨b, o + k, none⟩) (b := ⟨b, o + j, none⟩) _ (by intro h; have h2 := congrArg Addr.off h; simp at h2; omega)]
        exact hs
theorem Bs.below {w w' : World} {B : Nat} {v : Value} {l : List UInt8} (h : Bs w B v l) (hb : Below w.heap.size w w') : Bs w' B v l :=
  h.kept (row := none) ⟨hb.os, hb.tape, hb.output, hb.size, fun k hk _ => hb.block k hk⟩ (by cases v.ownBlock <;> simp)
theorem grownBy_setCell (w : World) (b o : Nat) (v : Value) : w.grownBy (w.setCell ⟨b, o, none⟩ v) (some b) := ⟨rfl, rfl, rfl, by simp, fun k _ hk => Below.heap_setCell _ _ _ _ (fun e => hk (by rw [e]))⟩
theorem Bs.alloc {w : World} {B : Nat} {v : Value} {l : List UInt8} (h : Bs w B v l) (o : Obj) : Bs (w.alloc o) B v l := h.kept (World.grownBy_alloc w o none) (by cases v.ownBlock <;> simp)
theorem Bs.lt {w : World} {B : Nat} {v : Value} {l : List UInt8} (h : Bs w B v l) : v.ownBlock = none ∨ ∃ k, v.ownBlock = some k ∧ B ≤ k ∧ k < w.heap.size := by
  rcases h with ⟨rfl, _⟩ | ⟨b, o, cap, rfl, h2, h3, _⟩
  · exact .inl rfl
  · exact .inr ⟨b, rfl, h2, h3⟩
theorem Bs.ne_top {w : World} {B : Nat} {v : Value} {l : List UInt8} (h : Bs w B v l) {k : Nat} (hk : w.heap.size ≤ k) : v.ownBlock ≠ some k := by
  rcases h.lt with e | ⟨j, e, _, hj⟩
  · rw [e]; simp
  · rw [e]; intro e2; cases e2; omega
/-- Bytes in a block that is not turned. -/
theorem Bs.set_other {w : World} {B : Nat} {v : Value} {l : List UInt8} (h : Bs w B v l) {b o : Nat} (hne : v.ownBlock ≠ some b) (u : Value) : Bs (w.setCell ⟨b, o, none⟩ u) B v l := h.kept (grownBy_setCell w b o u) (.inr hne)

set_option maxHeartbeats 1000000 in
theorem wNum (w : World) (B : Nat) (v : Value) (l : List UInt8) (a : Int) (h : Bs w B v l) (ha : isI a) (hl : l.length ≤ 1000000000000000) :
    Calls Try.prog 69 #[v, .int .i64 a, .int .i64 8] w fun e w' => e = .returned (.int .u64 (leN l a 8 : Int)) ∧ Below w.heap.size w w' := by
  have hmf : ∀ (fn : Fn) (first cap : Array Value) (w : World), (Instr.makeFunc fn first cap).run Try.prog w = .ok (.func fn first cap) w := fun _ _ _ _ => rfl
  obtain ⟨ad, cap, rfl, hcap⟩ := h.len
  have hI : ∀ (w0 : World), w0 = (w.alloc (.cells #[.slice ad l.length cap] 22)).alloc (.cells #[.int .u64 0] 102) →
      Calls Try.prog 88 #[.slice ad l.length cap, .int .i64 a, .int .i64 8, .func (.func 89) #[] #[.pointer (some ⟨w.heap.size + 1, 0, none⟩), .pointer (some ⟨w.heap.size, 0, none⟩)]] w0
        fun e w' => e = .returned (.tuple #[]) ∧ (Blk w' (w.heap.size + 1) #[.int .u64 (leN l a 8 : Int)] 102 ∧ Blk w' w.heap.size #[.slice ad l.length cap] 22 ∧ Bs w' B (.slice ad l.length cap) l ∧ Below w.heap.size w w') := by
    rintro w0 rfl
    refine each_num _ _ ad l.length cap a ha hl _ (fun k wr => Blk wr (w.heap.size + 1) #[.int .u64 (leN l a k : Int)] 102 ∧ Blk wr w.heap.size #[.slice ad l.length cap] 22 ∧ Bs wr B (.slice ad l.length cap) l ∧ Below w.heap.size w wr)
      ⟨Blk.new' (by simp), (Blk.new _ _ _).alloc _, (h.alloc _).alloc _, bel_alloc (bel_alloc (Below.refl _ _) _) _⟩ ?_ ?_
    · rintro k wr hk ⟨h1, h2, h3, h4⟩ hz1 hz2
      obtain ⟨b, o, c, he⟩ := h3.some_of (by intro e; rw [e] at hz2; simp at hz2; omega)
      cases he
      have hj : (a + k).toNat < l.length := by omega
      obtain ⟨g1, g2⟩ := h3.at (a + k).toNat hj
      have hbl : b < w.heap.size := by
        rcases h.lt with e | ⟨j, e, _, hj2⟩
        · cases e
        · cases e; exact hj2
      have hlen := h.len
      refine (num_step wr (w.heap.size + 1) w.heap.size b o l.length cap (a + k).toNat k (leN l a k) (l[(a + k).toNat].toNat) (a + k) (by omega) hj hk (UInt8.toNat_lt _) (leN_lt l a k) h1 (by omega) (by omega) h2.one.1 g1).mono ?_
      rintro e w' ⟨rfl, rfl⟩
      have e1 : leN l a (k + 1) = leN l a k + l[(a + k).toNat].toNat * 2 ^ (8 * k) := by
        rw [leN, byteZ, if_pos ⟨hz1, hz2⟩, List.getD_eq_getElem?_getD, List.getElem?_eq_getElem hj]; rfl
      rw [e1]
      refine ⟨rfl, Blk.drew h1.setOne, (h2.set_other (b' := w.heap.size + 1) (by omega) _ _).drew, Bs.below (h3.set_other (fun e => by have e2 : b = w.heap.size + 1 := Option.some.inj e; omega) _) (bel_drew (Below.refl _ _)), bel_drew (bel_set h4 (by omega) _)⟩
    · rintro k wr hk ⟨h1, h2, h3, h4⟩ hz
      have e1 : leN l a (k + 1) = leN l a k := by rw [leN, byteZ, if_neg hz]; omega
      rw [e1]
      exact ⟨h1, h2, h3, h4⟩
  replace hI := Lib.hid hI
  replace h := Lib.hid h
  go_enter Try.func69, Try.ntmps69
  go_wp2_with (go_at_call 88; refine (hI.out _ rfl).mono ?_; rintro e w1 ⟨rfl, h1, h2, h3, h4⟩; obtain ⟨k1, k2, k3⟩ := h1.one; replace h1 := Lib.hid h1; replace h2 := Lib.hid h2; replace h3 := Lib.hid h3; replace h4 := Lib.hid h4)
  go_ret
  exact ⟨rfl, h4.out⟩
/-- 'Cell' -/
theorem wCell (w : World) (B : Nat) (v : Value) (l : List UInt8) (a : Int) (h : Bs w B v l) (ha : isI a) (hl : l.length ≤ 1000000000000000) :
    Calls Try.prog 45 #[v, .int .i64 a] w fun e w' => e = .returned (.int .i64 (cellL l a)) ∧ Below w.heap.size w w' := by
  have hN := Lib.hid (wNum w B v l a h ha hl)
  unfold cellL
  generalize leN l a 8 = n at *
  obtain ⟨ad, cap, rfl, hcap⟩ := h.len
  obtain ⟨z, hz⟩ : ∃ z : Int, IntKind.i64.wrap (n : Int) = z := ⟨_, rfl⟩
  rw [hz]
  replace h := Lib.hid h
  go_enter Try.func45, Try.ntmps45
  go_wp2_with (go_at_call 69; refine hN.out.mono ?_; rintro e w1 ⟨rfl, h4⟩)
  go_ret
  exact ⟨rfl, h4⟩
/-- What 'PutNum' gives. -/
def PutP (w w' : World) (e : Ending) (m : List UInt8) : Prop := ∃ v', e = .returned v' ∧ Bs w' w.heap.size v' m ∧ Below w.heap.size w w'
set_option maxHeartbeats 1000000 in
theorem wPutNum (w : World) (B : Nat) (v : Value) (l : List UInt8) (a : Int) (n : Nat) (h : Bs w B v l) (ha : isI a) (hl : l.length ≤ 1000000) :
    Calls Try.prog 96 #[v, .int .i64 a, .int .i64 8, .int .u64 (n : Int)] w fun e w' => PutP w w' e (putL l a n 8) := by
  have hmf : ∀ (fn : Fn) (first cap : Array Value) (w : World), (Instr.makeFunc fn first cap).run Try.prog w = .ok (.func fn first cap) w := fun _ _ _ _ => rfl
  obtain ⟨ad, cap, rfl, hcap⟩ := h.len
  have hA : Bs (w.alloc (.cells #[.int .u64 (n : Int)] 102)) B (.slice ad l.length cap) l := h.alloc _
  obtain ⟨v2, w2, hr, hv2, hg2, ho2⟩ := Bs.append (P := Try.prog) (ty := 22) (Bs.nil (w.alloc (.cells #[.int .u64 (n : Int)] 102)) (w.heap.size + 1)) hA Try.underlying22 info5 (by simpa using hl) (by simp)
  simp only [List.nil_append] at hv2
  obtain ⟨ad2, cap2, rfl, hcap2⟩ := hv2.len
  have hbel2 : Below w.heap.size w w2 := (bel_alloc (Below.refl w.heap.size w) _).grown hg2 (by simp) (fun k e => by cases e)
  have hN2 : Blk w2 w.heap.size #[.int .u64 (n : Int)] 102 := (hg2.block w.heap.size (by simp) (by simp [Value.ownBlock])).trans (Blk.new w #[.int .u64 (n : Int)] 102)
  have hA2 : Bs w2 B (.slice ad l.length cap) l := hA.kept hg2 (by
    have : (Value.slice none 0 0).ownBlock = none := rfl
    rw [this]
    cases (Value.slice ad l.length cap).ownBlock <;> simp)
  have hob : w.heap.size + 1 ≤ w2.heap.size := by have := hg2.size; simpa using this
  have hI : ∀ (w0 : World), w0 = w2.alloc (.cells #[.slice ad2 l.length cap2] 22) →
      Calls Try.prog 88 #[.slice ad l.length cap, .int .i64 a, .int .i64 8, .func (.func 99) #[] #[.pointer (some ⟨w.heap.size, 0, none⟩), .pointer (some ⟨w2.heap.size, 0, none⟩)]] w0
        fun e w' => e = .returned (.tuple #[]) ∧ (Blk w' w2.heap.size #[.slice ad2 l.length cap2] 22 ∧ Blk w' w.heap.size #[.int .u64 (n : Int)] 102 ∧ Bs w' (w.heap.size + 1) (.slice ad2 l.length cap2) (putL l a n 8) ∧ Below w.heap.size w w') := by
    rintro w0 rfl
    refine each_put _ _ ad l.length cap a ha (by omega) _ (fun k wr => Blk wr w2.heap.size #[.slice ad2 l.length cap2] 22 ∧ Blk wr w.heap.size #[.int .u64 (n : Int)] 102 ∧ Bs wr (w.heap.size + 1) (.slice ad2 l.length cap2) (putL l a n k) ∧ Below w.heap.size w wr)
      ⟨Blk.new _ _ _, hN2.alloc _, hv2.alloc _, bel_alloc hbel2 _⟩ ?_ ?_
    · rintro k wr hk ⟨h1, h2, h3, h4⟩ hz1 hz2
      have hpl := putL_len l a n k
      have hne : putL l a n k ≠ [] := by intro e; rw [e] at hpl; simp at hpl; omega
      obtain ⟨b, o, c, he⟩ := h3.some_of hne
      rw [hpl] at he
      cases he
      have hj : (a + k).toNat < (putL l a n k).length := by omega
      obtain ⟨g1, g2⟩ := h3.at (a + k).toNat hj
      have hbl : b < w2.heap.size ∧ w.heap.size + 1 ≤ b := by
        rcases hv2.lt with e | ⟨j, e, hj1, hj2⟩
        · cases e
        · cases e; exact ⟨hj2, hj1⟩
      refine (put_step wr w.heap.size w2.heap.size b o l.length cap2 (a + k).toNat k n (a + k) (by omega) (by omega) hk h1.one.1 h2.one.1 (by omega) (by omega) _ g1 g2).mono ?_
      rintro e w' ⟨rfl, rfl⟩
      have e1 : putL l a n (k + 1) = (putL l a n k).set (a + k).toNat (UInt8.ofNat (n / 2 ^ (8 * k))) := by
        rw [putL, if_pos ⟨hz1, hz2⟩]
      rw [e1]
      refine ⟨rfl, (h1.set_other (b' := b) (by omega) _ _).drew, (h2.set_other (b' := b) (by omega) _ _).drew, Bs.below (h3.setAt _ _ hj) (bel_drew (Below.refl _ _)), bel_drew (bel_set h4 (by omega) _)⟩
    · rintro k wr hk ⟨h1, h2, h3, h4⟩ hz
      have e1 : putL l a n (k + 1) = putL l a n k := by rw [putL, if_neg hz]
      rw [e1]
      exact ⟨h1, h2, h3, h4⟩
  replace hI := Lib.hid hI
  replace h := Lib.hid h
  replace hA := Lib.hid hA
  replace hA2 := Lib.hid hA2
  replace hv2 := Lib.hid hv2
  replace hN2 := Lib.hid hN2
  replace hbel2 := Lib.hid hbel2
  clear hg2 ho2
  go_enter Try.func96, Try.ntmps96
  go_upto_region 2 with (at_builtin; refine wpList_append_bs rfl _ _ 22 rfl hr rfl rfl ?_)
  go_wp2_with (go_at_call 88; refine (hI.out _ rfl).mono ?_; rintro e w1 ⟨rfl, h1, h2, h3, h4⟩; obtain ⟨k1, k2, k3⟩ := h1.one; replace h1 := Lib.hid h1; replace h2 := Lib.hid h2; replace h3 := Lib.hid h3; replace h4 := Lib.hid h4)
  go_ret
  exact ⟨_, rfl, h3.out.mono (by omega), h4.out⟩
/-- 'PutCell' -/
theorem wPutCell (w : World) (B : Nat) (v : Value) (l : List UInt8) (a n : Int) (h : Bs w B v l) (ha : isI a) (hl : l.length ≤ 1000000) :
    Calls Try.prog 85 #[v, .int .i64 a, .int .i64 n] w fun e w' => PutP w w' e (putCellL l a n) := by
  have hw := IntKind.wrap_u64 n
  obtain ⟨m, hm⟩ : ∃ m : Nat, IntKind.u64.wrap n = (m : Int) := ⟨(IntKind.u64.wrap n).toNat, by rw [hw]; omega⟩
  have hN := Lib.hid (wPutNum w B v l a m h ha hl)
  have e1 : putCellL l a n = putL l a m 8 := by unfold putCellL; rw [hm]; rfl
  rw [e1]
  generalize putL l a m 8 = L at *
  obtain ⟨ad, cap, rfl, hcap⟩ := h.len
  clear e1 hw
  replace h := Lib.hid h
  go_enter Try.func85, Try.ntmps85
  go_wp2_with (go_at_call 96; refine hN.out.mono ?_; rintro e w1 ⟨v', rfl, hb1, h4⟩)
  go_ret
  exact ⟨_, rfl, hb1, h4⟩
end Go.Proofs.Ytkcmphjgflbchaa

/- 'Num', 'PutNum', 'Cell', 'PutCell' of the reference. -/
namespace Go.Proofs.Ytkcmphjgflbchaa
open Go.RowKit
set_option linter.unusedVariables false
set_option linter.unusedSimpArgs false
attribute [local go_sem] cell_set set_set m_undef

set_option maxHeartbeats 1000000 in
theorem rNum (w : World) (B : Nat) (v : Value) (l : List UInt8) (a : Int) (h : Bs w B v l) (ha : isI a) (hl : l.length ≤ 1000000000000000) :
    Calls Try.prog 70 #[v, .int .i64 a, .int .i64 8] w fun e w' => e = .returned (.int .u64 (leN l a 8 : Int)) ∧ Below w.heap.size w w' := by
  unfold isI at ha
  obtain ⟨ad, cap, rfl, hcap⟩ := h.len
  replace h := Lib.hid h
  go_enter Try.func70, Try.ntmps70
  go_wp2
  go_loopw [7, 8] (fun n i wr => Below w.heap.size w wr ∧ ∃ k : Nat, k ≤ 8 ∧ i = .int .i64 (k : Int) ∧ n = .int .u64 (leN l a k : Int)) (fun n i _ => (8 - (intOf i).toNat))
  case atStart => exact ⟨Below.refl _ _, 0, by omega, rfl, rfl⟩
  case round =>
    obtain ⟨hbel, k, hk, rfl, rfl⟩ := hrel
    have hb := h.out.below hbel
    replace hbel := Lib.hid hbel
    have hlt := leN_lt l a k
    obtain ⟨m, hm⟩ : ∃ m, leN l a k = m := ⟨_, rfl⟩
    rw [hm] at hlt ⊢
    by_cases hk8 : k < 8
    · have w1 : IntKind.i64.wrap ((k : Int) + 1) = ((k + 1 : Nat) : Int) := by rw [IntKind.wrap_i64]; omega
      have t1 : ((k : Int) < 8) = True := by simp; omega
      obtain ⟨kz, hkz⟩ : ∃ kz : Int, kz = (k : Int) := ⟨_, rfl⟩
      rw [← hkz] at w1 t1
      rw [← hkz]
      by_cases hin : 0 ≤ a + k ∧ a + k < l.length
      · obtain ⟨hz1, hz2⟩ := hin
        obtain ⟨b, o, c, he⟩ := hb.some_of (by intro e; rw [e] at hz2; simp at hz2; omega)
        cases he
        obtain ⟨j, hj⟩ : ∃ j : Nat, (a + k) = (j : Int) := ⟨(a + k).toNat, by omega⟩
        have hjl : j < l.length := by omega
        obtain ⟨g1, g2⟩ := hb.at j hjl
        have e1 : leN l a (k + 1) = m + l[j].toNat * 2 ^ (8 * k) := by
          rw [leN, byteZ, if_pos ⟨hz1, hz2⟩, List.getD_eq_getElem?_getD, hj, Int.toNat_natCast, List.getElem?_eq_getElem hjl, hm]; rfl
        have hx := UInt8.toNat_lt l[j]
        generalize l[j].toNat = x at *
        have t2 : (a ≤ (l.length : Int)) = True := by simp; omega
        have w2 : IntKind.i64.wrap (a + kz) = (j : Int) := by rw [IntKind.wrap_i64]; omega
        have t4 : ((j : Int) < (l.length : Int)) = True := by simp; omega
        have hsh := shl8 .u64 x k hx hk8
        have hor := or8 m x k hx hk8 hlt
        obtain ⟨z, hz⟩ : ∃ z : Nat, z = x * 2 ^ (8 * k) := ⟨_, rfl⟩
        rw [← hz] at hor hsh
        obtain ⟨q, hq⟩ : ∃ q : Int, q = 8 * (k : Int) := ⟨_, rfl⟩
        rw [← hq] at hsh
        have w3 : IntKind.i64.wrap (8 * kz) = q := by rw [IntKind.wrap_i64]; omega
        have w4 : IntKind.u64.wrap q = q := by rw [IntKind.wrap_u64]; omega
        have w5 : IntKind.u64.wrap (x : Int) = (x : Int) := by rw [IntKind.wrap_u64]; omega
        have e2 : ((m + z : Nat) : Int) = (leN l a (k + 1) : Int) := by rw [e1, hz]
        replace e2 := Lib.hid e2
        replace hkz := Lib.hid hkz
        replace hb := Lib.hid hb
        clear hz hq e1 hj hz1 hz2 hm hlt
        go_wp2
        go_roundw
        case rel => exact ⟨hbel.out, k + 1, by omega, rfl, by rw [← e2.out]; rfl⟩
        case measure => have := hkz.out; simp [intOf]; omega
      · have e1 : leN l a (k + 1) = m := by rw [leN, byteZ, if_neg hin, hm]; omega
        replace e1 := Lib.hid e1
        clear hm hlt
        by_cases hle : a ≤ l.length
        · have t2 : (a ≤ (l.length : Int)) = True := by simp; omega
          obtain ⟨i, hi⟩ : ∃ i : Int, i = a + k := ⟨_, rfl⟩
          have w2 : IntKind.i64.wrap (a + kz) = i := by rw [IntKind.wrap_i64]; omega
          by_cases h0 : 0 ≤ i
          · have t3 : ((0 : Int) ≤ i) = True := by simp; exact h0
            have t4 : (i < (l.length : Int)) = False := by simp; omega
            replace hkz := Lib.hid hkz
            clear hi hin hle h0
            replace hb := Lib.hid hb
            go_wp2
            go_roundw
            case rel => exact ⟨hbel.out, k + 1, by omega, rfl, by rw [e1.out]⟩
            case measure => have := hkz.out; simp [intOf]; omega
          · have t3 : ((0 : Int) ≤ i) = False := by simp; omega
            replace hkz := Lib.hid hkz
            clear hi hin hle h0
            replace hb := Lib.hid hb
            go_wp2
            go_roundw
            case rel => exact ⟨hbel.out, k + 1, by omega, rfl, by rw [e1.out]⟩
            case measure => have := hkz.out; simp [intOf]; omega
        · have t2 : (a ≤ (l.length : Int)) = False := by simp; omega
          obtain ⟨i, hi⟩ : ∃ i : Int, IntKind.i64.wrap (a + kz) = i := ⟨_, rfl⟩
          replace hkz := Lib.hid hkz
          clear hin hle
          replace hb := Lib.hid hb
          go_wp2
          go_roundw
          case rel => exact ⟨hbel.out, k + 1, by omega, rfl, by rw [e1.out]⟩
          case measure => have := hkz.out; simp [intOf]; omega
    · have hk0 : k = 8 := by omega
      subst hk0
      replace hm := Lib.hid hm
      clear hlt
      replace hb := Lib.hid hb
      go_wp2
      go_ret
      exact ⟨by rw [hm.out]; rfl, hbel.out⟩
/-- 'Cell' -/
theorem rCell (w : World) (B : Nat) (v : Value) (l : List UInt8) (a : Int) (h : Bs w B v l) (ha : isI a) (hl : l.length ≤ 1000000000000000) :
    Calls Try.prog 46 #[v, .int .i64 a] w fun e w' => e = .returned (.int .i64 (cellL l a)) ∧ Below w.heap.size w w' := by
  have hN := Lib.hid (rNum w B v l a h ha hl)
  unfold cellL
  generalize leN l a 8 = n at *
  obtain ⟨ad, cap, rfl, hcap⟩ := h.len
  obtain ⟨z, hz⟩ : ∃ z : Int, IntKind.i64.wrap (n : Int) = z := ⟨_, rfl⟩
  rw [hz]
  replace h := Lib.hid h
  go_enter Try.func46, Try.ntmps46
  go_wp2_with (go_at_call 70; refine hN.out.mono ?_; rintro e w1 ⟨rfl, h4⟩)
  go_ret
  exact ⟨rfl, h4⟩
set_option maxHeartbeats 1000000 in
theorem rPutNum (w : World) (B : Nat) (v : Value) (l : List UInt8) (a : Int) (n : Nat) (h : Bs w B v l) (ha : isI a) (hl : l.length ≤ 1000000) :
    Calls Try.prog 71 #[v, .int .i64 a, .int .i64 8, .int .u64 (n : Int)] w fun e w' => PutP w w' e (putL l a n 8) := by
  unfold isI at ha
  obtain ⟨ad, cap, rfl, hcap⟩ := h.len
  obtain ⟨v2, w2, hr, hv2, hg2, ho2⟩ := Bs.append (P := Try.prog) (ty := 22) (Bs.nil w w.heap.size) h Try.underlying22 info5 (by simpa using hl) (Nat.le_refl _)
  simp only [List.nil_append] at hv2
  obtain ⟨ad2, cap2, rfl, hcap2⟩ := hv2.len
  have hbel2 : Below w.heap.size w w2 := (Below.refl w.heap.size w).grown hg2 (Nat.le_refl _) (fun k e => by cases e)
  replace h := Lib.hid h
  replace hv2 := Lib.hid hv2
  replace hbel2 := Lib.hid hbel2
  clear hg2 ho2
  go_enter Try.func71, Try.ntmps71
  go_upto_region 3 with (at_builtin; refine wpList_append_bs rfl _ _ 22 rfl hr rfl rfl ?_)
  go_wp2
  go_loopw [10] (fun i wr => Below w.heap.size w wr ∧ ∃ k : Nat, k ≤ 8 ∧ i = .int .i64 (k : Int) ∧ Bs wr w.heap.size (.slice ad2 l.length cap2) (putL l a n k)) (fun i _ => (8 - (intOf i).toNat))
  case atStart => exact ⟨hbel2.out, 0, by omega, rfl, hv2.out⟩
  case round =>
    obtain ⟨hbel, k, hk, rfl, hb⟩ := hrel
    have hpl := putL_len l a n k
    by_cases hk8 : k < 8
    · have w1 : IntKind.i64.wrap ((k : Int) + 1) = ((k + 1 : Nat) : Int) := by rw [IntKind.wrap_i64]; omega
      have t1 : ((k : Int) < 8) = True := by simp; omega
      obtain ⟨kz, hkz⟩ : ∃ kz : Int, kz = (k : Int) := ⟨_, rfl⟩
      rw [← hkz] at w1 t1
      rw [← hkz]
      by_cases hin : 0 ≤ a + k ∧ a + k < l.length
      · obtain ⟨hz1, hz2⟩ := hin
        obtain ⟨b, o, c, he⟩ := hb.some_of (by intro e; rw [e] at hpl; simp at hpl; omega)
        rw [hpl] at he
        cases he
        obtain ⟨j, hj⟩ : ∃ j : Nat, (a + k) = (j : Int) := ⟨(a + k).toNat, by omega⟩
        have hjl : j < (putL l a n k).length := by omega
        obtain ⟨g1, g2⟩ := hb.at j hjl
        have e1 : putL l a n (k + 1) = (putL l a n k).set j (UInt8.ofNat (n / 2 ^ (8 * k))) := by
          rw [putL, if_pos ⟨hz1, hz2⟩, hj, Int.toNat_natCast]
        have hbl : w.heap.size ≤ b := by
          rcases hb.lt with e | ⟨j, e, hj1, hj2⟩
          · cases e
          · cases e; exact hj1
        have hb2 := hb.setAt j (UInt8.ofNat (n / 2 ^ (8 * k))) hjl
        rw [← e1] at hb2
        have t2 : (a ≤ (l.length : Int)) = True := by simp; omega
        have w2 : IntKind.i64.wrap (a + kz) = (j : Int) := by rw [IntKind.wrap_i64]; omega
        have t4 : ((j : Int) < (l.length : Int)) = True := by simp; omega
        have hsh := shr8 .u64 n k hk8
        obtain ⟨z, hz⟩ : ∃ z : Nat, z = n / 2 ^ (8 * k) := ⟨_, rfl⟩
        rw [← hz] at hsh hb2
        have w6 : IntKind.u8.wrap (z : Int) = (((UInt8.ofNat z).toNat : Nat) : Int) := by rw [IntKind.wrap_u8, UInt8.toNat_ofNat']; omega
        obtain ⟨y, hy⟩ : ∃ y : Int, y = (((UInt8.ofNat z).toNat : Nat) : Int) := ⟨_, rfl⟩
        rw [← hy] at w6 hb2
        obtain ⟨q, hq⟩ : ∃ q : Int, q = 8 * (k : Int) := ⟨_, rfl⟩
        rw [← hq] at hsh
        have w3 : IntKind.i64.wrap (8 * kz) = q := by rw [IntKind.wrap_i64]; omega
        have w4 : IntKind.u64.wrap q = q := by rw [IntKind.wrap_u64]; omega
        have hbel3 := Lib.hid (bel_set hbel hbl (o := o + j) (.int .u8 y))
        replace hb2 := Lib.hid hb2
        replace hkz := Lib.hid hkz
        clear hz hq e1 hj hz1 hz2 hb hbel hpl hbl hy
        go_wp2
        go_roundw
        case rel => exact ⟨hbel3.out, k + 1, by omega, rfl, hb2.out⟩
        case measure => have := hkz.out; simp [intOf]; omega
      · have e1 : putL l a n (k + 1) = putL l a n k := by rw [putL, if_neg hin]
        rw [← e1] at hb
        replace hb := Lib.hid hb
        replace hbel := Lib.hid hbel
        clear e1
        by_cases hle : a ≤ l.length
        · have t2 : (a ≤ (l.length : Int)) = True := by simp; omega
          obtain ⟨i, hi⟩ : ∃ i : Int, i = a + k := ⟨_, rfl⟩
          have w2 : IntKind.i64.wrap (a + kz) = i := by rw [IntKind.wrap_i64]; omega
          by_cases h0 : 0 ≤ i
          · have t3 : ((0 : Int) ≤ i) = True := by simp; exact h0
            have t4 : (i < (l.length : Int)) = False := by simp; omega
            replace hkz := Lib.hid hkz
            clear hi hin hle h0 hpl
            go_wp2
            go_roundw
            case rel => exact ⟨hbel.out, k + 1, by omega, rfl, hb.out⟩
            case measure => have := hkz.out; simp [intOf]; omega
          · have t3 : ((0 : Int) ≤ i) = False := by simp; omega
            replace hkz := Lib.hid hkz
            clear hi hin hle h0 hpl
            go_wp2
            go_roundw
            case rel => exact ⟨hbel.out, k + 1, by omega, rfl, hb.out⟩
            case measure => have := hkz.out; simp [intOf]; omega
        · have t2 : (a ≤ (l.length : Int)) = False := by simp; omega
          obtain ⟨i, hi⟩ : ∃ i : Int, IntKind.i64.wrap (a + kz) = i := ⟨_, rfl⟩
          replace hkz := Lib.hid hkz
          clear hin hle hpl
          go_wp2
          go_roundw
          case rel => exact ⟨hbel.out, k + 1, by omega, rfl, hb.out⟩
          case measure => have := hkz.out; simp [intOf]; omega
    · have hk0 : k = 8 := by omega
      subst hk0
      replace hb := Lib.hid hb
      replace hbel := Lib.hid hbel
      clear hpl
      go_wp2
      go_ret
      exact ⟨_, rfl, hb.out, hbel.out⟩
/-- 'PutCell' -/
theorem rPutCell (w : World) (B : Nat) (v : Value) (l : List UInt8) (a n : Int) (h : Bs w B v l) (ha : isI a) (hl : l.length ≤ 1000000) :
    Calls Try.prog 48 #[v, .int .i64 a, .int .i64 n] w fun e w' => PutP w w' e (putCellL l a n) := by
  have hw := IntKind.wrap_u64 n
  obtain ⟨m, hm⟩ : ∃ m : Nat, IntKind.u64.wrap n = (m : Int) := ⟨(IntKind.u64.wrap n).toNat, by rw [hw]; omega⟩
  have hN := Lib.hid (rPutNum w B v l a m h ha hl)
  have e1 : putCellL l a n = putL l a m 8 := by unfold putCellL; rw [hm]; rfl
  rw [e1]
  generalize putL l a m 8 = L at *
  obtain ⟨ad, cap, rfl, hcap⟩ := h.len
  clear e1 hw
  replace h := Lib.hid h
  go_enter Try.func48, Try.ntmps48
  go_wp2_with (go_at_call 71; refine hN.out.mono ?_; rintro e w1 ⟨v', rfl, hb1, h4⟩)
  go_ret
  exact ⟨_, rfl, hb1, h4⟩
end Go.Proofs.Ytkcmphjgflbchaa

/- The memory. -/
namespace Go.Proofs.Ytkcmphjgflbchaa
open Go.RowKit
set_option linter.unusedVariables false
set_option linter.unusedSimpArgs false

/-- How a page's address reads in the map. -/
def ptrR : Value → Option (DataW Unit × List MemPlace)
  | .pointer (some ⟨b, 0, none⟩) => some (.lit (.int .i64 (b : Int)), [])
  | .pointer none => some (.nil, [])
  | _ => none
theorem ptrR_some {v : Value} {b : Nat} {ps : List MemPlace} (h : ptrR v = some (.lit (.int .i64 (b : Int)), ps)) : v = .pointer (some ⟨b, 0, none⟩) := by
  unfold ptrR at h
  split at h
  · rename_i b'
    have h2 := congrArg Prod.fst (Option.some.inj h)
    simp at h2
    rw [show b' = b by omega]
  · simp at h
  · cases h
theorem ptrR_nil {v : Value} {ps : List MemPlace} (h : ptrR v = some (.nil, ps)) : v = .pointer none := by
  unfold ptrR at h
  split at h
  · simp at h
  · rfl
  · cases h
theorem pagesK : Maps.Keyed Try.prog 3 := Maps.int_keyed Try.underlying3
theorem zeroP (w : World) : (zeroValue 57).run Try.prog w = .ok (.pointer none) w := by kernel_rfl
theorem keyP (k : Nat) (hk : k < 128) : keyOf Try.prog 3 (.int .i64 (k : Int)) = some (.int .i64 (k : Int)) :=
  Maps.keyOf_int_mk Try.underlying3 (by simp [Lit.wf, IntKind.min, IntKind.max, IntKind.signed, IntKind.bits]; omega)
/-- The 64 bytes of a page. -/
def page (L : List UInt8) (k : Nat) : List UInt8 := (L.drop (64 * k)).take 64
theorem page_len {L : List UInt8} (h : L.length = 8192) {k : Nat} (hk : k < 128) : (page L k).length = 64 := by unfold page; simp; omega
theorem page_at {L : List UInt8} (h : L.length = 8192) {k i : Nat} (hk : k < 128) (hi : i < 64) : (page L k)[i]'(by rw [page_len h hk]; exact hi) = L[64 * k + i]'(by omega) := by
  unfold page
  rw [List.getElem_take, List.getElem_drop]
/-- How many pages there are. -/
def cnt (g : Nat → Option Nat) : Nat := (List.range 128).countP fun k => (g k).isSome
def upd (g : Nat → Option Nat) (k h : Nat) : Nat → Option Nat := fun j => if j = k then some h else g j
theorem countP_upd (g : Nat → Option Nat) (k h : Nat) (hg : g k = none) : ∀ l : List Nat, l.Nodup → (l.countP fun j => (upd g k h j).isSome) = (l.countP fun j => (g j).isSome) + (if k ∈ l then 1 else 0) := by
  intro l
  induction l with
  | nil => intro _; rfl
  | cons x l ih =>
    intro hn
    obtain ⟨h1, h2⟩ := List.nodup_cons.1 hn
    rw [List.countP_cons, List.countP_cons, ih h2]
    by_cases e : x = k
    · subst e
      simp [upd, hg, h1]
    · have e2 : ¬ k = x := fun h => e h.symm
      by_cases hm : k ∈ l <;> simp [upd, e, e2, hm] <;> omega
theorem cnt_upd (g : Nat → Option Nat) (k h : Nat) (hg : g k = none) (hk : k < 128) : cnt (upd g k h) = cnt g + 1 := by
  unfold cnt
  rw [countP_upd g k h hg _ List.nodup_range, if_pos (List.mem_range.2 hk)]
theorem cnt_le (g : Nat → Option Nat) : cnt g ≤ 128 := by
  have := List.countP_le_length (p := fun k => (g k).isSome) (l := List.range 128)
  simpa [cnt] using this
theorem keyLit (k : Nat) : WideAt.IsKeyLit (.int .i64 (k : Int)) := by first | trivial | simp [WideAt.IsKeyLit]
/-- The map holds these pages. -/
def PG (D : DataW Unit) (g : Nat → Option Nat) : Prop := ∀ k, k < 128 → (g k = none → Maps.has D (.int .i64 (k : Int)) = false) ∧ (∀ b, g k = some b → Maps.has D (.int .i64 (k : Int)) = true ∧ D.atKey (.int .i64 (k : Int)) .nil = .lit (.int .i64 (b : Int)))
theorem PG.empty : PG (.map []) (fun _ => none) := fun k hk => ⟨fun _ => rfl, fun b h => by cases h⟩
theorem PG.put {D : DataW Unit} {g : Nat → Option Nat} (h : PG D g) (hD : Maps.IsMap D) (k b : Nat) : PG (D.put (.int .i64 (k : Int)) (.lit (.int .i64 (b : Int)))) (upd g k b) := by
  intro j hj
  by_cases e : j = k
  · subst e
    refine ⟨fun h2 => by simp [upd] at h2, fun c hc => ?_⟩
    simp [upd] at hc
    subst hc
    exact ⟨Maps.has_put_same hD (keyLit _) _, Maps.atKey_put_same hD (keyLit _) _ _⟩
  · have hne : (Lit.int .i64 (j : Int)) ≠ Lit.int .i64 (k : Int) := by intro h2; simp at h2; omega
    have e1 : upd g k b j = g j := by simp [upd, e]
    rw [e1, Maps.has_put_other hne]
    refine ⟨(h j hj).1, fun c hc => ?_⟩
    rw [Maps.atKey_put_other hne]
    exact (h j hj).2 c hc
/-- The memory as it stands: its own block, its map, its first bytes, its pages. -/
structure MemI (w : World) (base mb pb fb : Nat) (F M : List UInt8) (g : Nat → Option Nat) : Prop where
  lenM : M.length = 8192
  lenF : F.length = 8192
  own : Blk w mb #[.pointer none, .map (some pb), .slice (some ⟨fb, 0, none⟩) 8192 8192] 50
  first : Blk w fb (cb F).toArray 5
  map : ∃ D, w.ownsMap Try.prog 3 ptrR pb (cnt g) D ∧ PG D g
  low : base ≤ mb ∧ base ≤ pb ∧ base ≤ fb
  ne : mb ≠ fb ∧ mb ≠ pb ∧ fb ≠ pb
  pages : ∀ k, k < 128 → ∀ h, g k = some h → base ≤ h ∧ h ≠ mb ∧ h ≠ fb ∧ h ≠ pb ∧ Blk w h (cb (page F k ++ page M k)).toArray 56 ∧ ∀ j, j < 128 → g j = some h → j = k
  rest : ∀ k, k < 128 → g k = none → page M k = page F k
/-- What a memory's blocks are. -/
def MemO (mb pb fb : Nat) (g : Nat → Option Nat) (k : Nat) : Prop := k = mb ∨ k = pb ∨ k = fb ∨ ∃ j, j < 128 ∧ g j = some k
/-- A memory, its blocks O. -/
def MemP (w : World) (base mb : Nat) (M : List UInt8) (O : Nat → Prop) : Prop := ∃ pb fb F g, MemI w base mb pb fb F M g ∧ ∀ k, O k ↔ MemO mb pb fb g k
/-- Nothing else has turned. -/
structure Turn (w w' : World) (O O' : Nat → Prop) : Prop where
  os : w'.os = w.os
  tape : w'.tape = w.tape
  output : w'.output = w.output
  size : w.heap.size ≤ w'.heap.size
  block : ∀ k, k < w.heap.size → ¬ O k → w'.heap[k]? = w.heap[k]?
  new : ∀ k, O' k → O k ∨ w.heap.size ≤ k
theorem Turn.refl (w : World) (O : Nat → Prop) : Turn w w O O := ⟨rfl, rfl, rfl, Nat.le_refl _, fun _ _ _ => rfl, fun _ h => .inl h⟩
theorem Turn.trans {w w1 w2 : World} {O O1 O2 : Nat → Prop} (h : Turn w w1 O O1) (h2 : Turn w1 w2 O1 O2) : Turn w w2 O O2 :=
  ⟨h2.os.trans h.os, h2.tape.trans h.tape, h2.output.trans h.output, Nat.le_trans h.size h2.size,
    fun k hk hO => (h2.block k (Nat.lt_of_lt_of_le hk h.size) (fun h3 => by
      rcases h.new k h3 with h4 | h4
      · exact hO h4
      · omega)).trans (h.block k hk hO),
    fun k hk => by
      rcases h2.new k hk with h3 | h3
      · exact h.new k h3
      · exact .inr (Nat.le_trans h.size h3)⟩
theorem Turn.below {w w' : World} {O O' : Nat → Prop} {base : Nat} (h : Turn w w' O O') (hO : ∀ k, O k → base ≤ k) (hb : base ≤ w.heap.size) : Below base w w' :=
  ⟨h.os, h.tape, h.output, h.size, fun k hk => h.block k (by omega) (fun h2 => by have := hO k h2; omega)⟩
theorem Turn.of_below {w w' : World} (h : Below w.heap.size w w') (O : Nat → Prop) : Turn w w' O O :=
  ⟨h.os, h.tape, h.output, h.size, fun k hk _ => h.block k hk, fun k hk => .inl hk⟩
end Go.Proofs.Ytkcmphjgflbchaa

/- 'is', 'at': a page that stands already. -/
namespace Go.Proofs.Ytkcmphjgflbchaa
open Go.RowKit
set_option linter.unusedVariables false
set_option linter.unusedSimpArgs false
attribute [local go_sem] cell_set set_set m_undef

theorem neqM (w : World) (r : Nat) : (binOp .neq 47 (.map (some r)) (.map none)).run Try.prog w = .ok (.bool true) w := by
  simpa using run_neq_map_nil (P := Try.prog) w 47 3 57 (some r) Try.underlying47
attribute [local go_sem] neqM
theorem wIs (w : World) (base mb : Nat) (M : List UInt8) (O : Nat → Prop) (h : MemP w base mb M O) : Calls Try.prog 24 #[.pointer (some ⟨mb, 0, none⟩)] w fun e w' => e = .returned (.bool true) ∧ w = w' := by
  obtain ⟨pb, fb, F, g, hI, hO⟩ := h
  obtain ⟨c1, c2, c3, f1, f2, f3, l1⟩ := hI.own.three
  replace hI := Lib.hid hI
  clear hO
  go_enter Try.func24, Try.ntmps24
  go_wp2
  go_ret
  exact ⟨rfl, rfl⟩
theorem quo64 (a : Nat) (ha : a < 8192) (w : World) : (binOp .quo 3 (.int .i64 (a : Int)) (.int .i64 64)).run Try.prog w = .ok (.int .i64 ((a / 64 : Nat) : Int)) w := by
  go_simp
  rw [IntKind.wrap_i64]; omega
section
variable {ops : Array Oper} {rest : List Oper} {o : Oper} {a : Act} {Q : Exit → Act → World → Prop}
theorem lookup_old (w : World) (hg : o.guard = none) (m x : Operand) (hop : o.op = Op.lookup 47 m x true) (pb n : Nat) (D : DataW Unit) (hm : a.eval m = .map (some pb)) (hD : w.ownsMap Try.prog 3 ptrR pb n D) (key : Value) (kl : Lit) (hx : a.eval x = key) (hkey : keyOf Try.prog 3 key = some kl)
    (b : Nat) (hhas : Maps.has D kl = true) (hat : D.atKey kl .nil = .lit (.int .i64 (b : Int))) (hK : wpList Try.prog ops Q rest (a.put o.dst (.tuple #[.pointer (some ⟨b, 0, none⟩), .bool true])) w) : wpList Try.prog ops Q (o :: rest) a w :=
  wpList_lookup_own_ok w hg m x 47 hop 3 57 pagesK Try.underlying47 ptrR (zeroP _) .nil [] rfl pb n D hm hD key kl hx hkey (fun v ps hv => by
    rw [hat] at hv
    obtain rfl := ptrR_some hv
    rw [hhas]
    exact hK)
theorem lookup_new (w : World) (hg : o.guard = none) (m x : Operand) (hop : o.op = Op.lookup 47 m x true) (pb n : Nat) (D : DataW Unit) (hm : a.eval m = .map (some pb)) (hD : w.ownsMap Try.prog 3 ptrR pb n D) (key : Value) (kl : Lit) (hx : a.eval x = key) (hkey : keyOf Try.prog 3 key = some kl)
    (hhas : Maps.has D kl = false) (hK : wpList Try.prog ops Q rest (a.put o.dst (.tuple #[.pointer none, .bool false])) w) : wpList Try.prog ops Q (o :: rest) a w :=
  wpList_lookup_own_ok w hg m x 47 hop 3 57 pagesK Try.underlying47 ptrR (zeroP _) .nil [] rfl pb n D hm hD key kl hx hkey (fun v ps hv => by
    rw [Maps.atKey_of_not_has hhas] at hv
    obtain rfl := ptrR_nil hv
    rw [hhas]
    exact hK)
end
set_option maxRecDepth 100000 in
set_option maxHeartbeats 1000000 in
theorem at_old (w : World) (base mb pb fb : Nat) (F M : List UInt8) (g : Nat → Option Nat) (hI : MemI w base mb pb fb F M g) (a : Nat) (ha : a < 8192) (b : Nat) (hg : g (a / 64) = some b) :
    Calls Try.prog 25 #[.pointer (some ⟨mb, 0, none⟩), .int .i64 (a : Int)] w fun e w' => e = .returned (.pointer (some ⟨b, 0, none⟩)) ∧ w = w' := by
  obtain ⟨c1, c2, c3, f1, f2, f3, l1⟩ := hI.own.three
  obtain ⟨D, hD, hPG⟩ := hI.map
  have hk : a / 64 < 128 := by omega
  obtain ⟨hhas, hat⟩ := (hPG (a / 64) hk).2 b hg
  have hkey : keyOf Try.prog 3 (.int .i64 ((a : Int) / 64)) = some (.int .i64 ((a / 64 : Nat) : Int)) := by
    have := keyP (a / 64) hk
    rw [show ((a / 64 : Nat) : Int) = (a : Int) / 64 by omega] at this ⊢
    exact this
  have w1 : IntKind.i64.wrap ((a : Int) / 64) = (a : Int) / 64 := by rw [IntKind.wrap_i64]; omega
  clear hk hg
  replace hI := Lib.hid hI
  replace hPG := Lib.hid hPG
  go_enter Try.func25, Try.ntmps25
  go_upto_region 3 with (at_lookup; refine lookup_old _ rfl _ _ rfl pb _ D rfl hD _ _ rfl hkey b hhas hat ?_)
  go_wp2
  go_ret
  exact ⟨rfl, rfl⟩
end Go.Proofs.Ytkcmphjgflbchaa
