/- States of a walk: what is new and known. -/
import Derived.Test.YtekfceolignihaaDoorK
namespace Go.Proofs.YtekfceolignihaaDoor
open Go.RowKit
set_option linter.unusedVariables false
set_option linter.unusedSimpArgs false
attribute [local go_sem] cell_set set_set m_undef

/-- A fact on worlds that hangs on the blocks S alone. -/
structure Kp where
  S : Nat → Prop
  P : World → Prop
  stable : ∀ w1 w2 : World, (∀ k, S k → k < w1.heap.size → w2.heap[k]? = w1.heap[k]?) → w1.heap.size ≤ w2.heap.size → P w1 → P w2
def Kp.emp : Kp := ⟨fun _ => False, fun _ => True, fun _ _ _ _ h => h⟩
def Kp.pure (p : Prop) : Kp := ⟨fun _ => False, fun _ => p, fun _ _ _ _ h => h⟩
def Kp.and (K L : Kp) : Kp := ⟨fun k => K.S k ∨ L.S k, fun w => K.P w ∧ L.P w, fun w1 w2 h hs hp => ⟨K.stable w1 w2 (fun k hk => h k (.inl hk)) hs hp.1, L.stable w1 w2 (fun k hk => h k (.inr hk)) hs hp.2⟩⟩
def Kp.blk (b : Nat) (c : Array Value) (t : TypeId) : Kp := ⟨fun k => k = b, fun w => Blk w b c t, fun w1 w2 h hs hp => by
  have := h b rfl hp.lt
  unfold Blk at *
  rw [this]; exact hp⟩
/-- From W, whose blocks stay as they were, the walk has come to w: K holds, of new blocks. -/
def Pls (W w : World) (K : Kp) : Prop := Below W.heap.size W w ∧ K.P w ∧ ∀ k, K.S k → W.heap.size ≤ k ∧ k < w.heap.size
section
variable {W w w' : World} {K L : Kp}
theorem Pls.start (W : World) : Pls W W .emp := ⟨Below.refl _ _, trivial, fun _ h => h.elim⟩
theorem Pls.bel (h : Pls W w K) : Below W.heap.size W w := h.1
theorem Pls.fact (h : Pls W w K) : K.P w := h.2.1
theorem Pls.slt (h : Pls W w K) {k : Nat} (hk : K.S k) : k < w.heap.size := (h.2.2 k hk).2
theorem Pls.sge (h : Pls W w K) {k : Nat} (hk : K.S k) : W.heap.size ≤ k := (h.2.2 k hk).1
theorem Pls.keep (h : Pls W w K) (hP : K.P w → L.P w) (hS : ∀ k, L.S k → K.S k) : Pls W w L := ⟨h.1, hP h.2.1, fun k hk => h.2.2 k (hS k hk)⟩
theorem Pls.weak (h : Pls W w (K.and L)) : Pls W w K := h.keep (fun h => h.1) (fun _ h => .inl h)
theorem Pls.below (h : Pls W w K) (hb : Below w.heap.size w w') : Pls W w' K :=
  ⟨bel_trans h.1 hb, K.stable w w' (fun k hk hl => hb.block k hl) hb.size h.2.1, fun k hk => ⟨(h.2.2 k hk).1, Nat.lt_of_lt_of_le (h.2.2 k hk).2 hb.size⟩⟩
theorem Pls.alloc (h : Pls W w K) (o : Obj) : Pls W (w.alloc o) K := h.below (bel_alloc (Below.refl _ _) o)
theorem Pls.drew (h : Pls W w K) : Pls W w.drew K := h.below (bel_drew (Below.refl _ _))
theorem Pls.new (h : Pls W w K) (c : Array Value) (t : TypeId) : Pls W (w.alloc (.cells c t)) (K.and (.blk w.heap.size c t)) := by
  have h2 := h.alloc (.cells c t)
  refine ⟨h2.1, ⟨h2.2.1, Blk.new _ _ _⟩, fun k hk => ?_⟩
  rcases hk with hk | hk
  · exact h2.2.2 k hk
  · cases hk; exact ⟨h.1.size, by simp⟩
theorem Pls.set {b : Nat} {c : Array Value} {t : TypeId} (h : Pls W w (K.and (.blk b c t))) (hK : ¬ K.S b) (o : Nat) (v : Value) : Pls W (w.setCell ⟨b, o, none⟩ v) (K.and (.blk b (c.setIfInBounds o v) t)) := by
  have hb := h.2.2 b (.inr rfl)
  refine ⟨bel_set h.1 hb.1 v, ⟨K.stable w _ (fun k hk hl => Below.heap_setCell _ _ _ _ (fun e => hK (by subst e; exact hk))) (Nat.le_of_eq (World.size_setCell _ _ _).symm) h.2.1.1, h.2.1.2.set o v⟩, fun k hk => ?_⟩
  rw [World.size_setCell]
  exact h.2.2 k hk
theorem Pls.still (h : Pls W w K) {f : Nat} {args : Array Value} {Q : Ending → World → Prop} (c : Calls Tryd.prog f args w fun e w' => Q e w' ∧ Below w.heap.size w w') :
    Calls Tryd.prog f args w fun e w' => Q e w' ∧ Pls W w' K := c.mono fun e w' ⟨hq, hb⟩ => ⟨hq, h.below hb⟩
end
def ints (C : List Int) : List Value := C.map (Value.int .i64)
def words (F : List Int) : List Value := F.map (Value.int .u64)
/-- A map: its counts C, its words F. -/
def MapB (mb cb fb : Nat) (C F : List Int) (cc fc : Nat) (T U : List Value) (made : Bool) : Kp :=
  ((Kp.blk cb (ints C ++ T).toArray 3).and (.blk fb (words F ++ U).toArray 48)).and (.blk mb #[.slice (some ⟨cb, 0, none⟩) C.length cc, .slice (some ⟨fb, 0, none⟩) F.length fc, .bool made] 44)
/-- Three blocks apart, and apart from K. -/
def Apart (K : Kp) (mb cb fb : Nat) : Prop := cb ≠ fb ∧ mb ≠ cb ∧ mb ≠ fb ∧ ¬ K.S mb ∧ ¬ K.S cb ∧ ¬ K.S fb
theorem ints_len (C : List Int) : (ints C).length = C.length := by simp [ints]
theorem words_len (C : List Int) : (words C).length = C.length := by simp [words]
theorem ints_at (C : List Int) (T : List Value) (n : Nat) (x : Int) (h : C[n]? = some x) : (ints C ++ T).toArray[n]? = some (.int .i64 x) := by
  have := (List.getElem?_eq_some_iff.1 h).1
  rw [List.getElem?_toArray, List.getElem?_append_left (by rw [ints_len]; exact this)]
  simp [ints, h]
theorem words_at (C : List Int) (T : List Value) (n : Nat) (x : Int) (h : C[n]? = some x) : (words C ++ T).toArray[n]? = some (.int .u64 x) := by
  have := (List.getElem?_eq_some_iff.1 h).1
  rw [List.getElem?_toArray, List.getElem?_append_left (by rw [words_len]; exact this)]
  simp [words, h]
theorem ints_set (C : List Int) (T : List Value) (n : Nat) (x : Int) (h : n < C.length) : (ints C ++ T).toArray.setIfInBounds n (.int .i64 x) = (ints (C.set n x) ++ T).toArray := by
  rw [List.setIfInBounds_toArray, List.set_append_left _ _ (by rw [ints_len]; exact h)]
  simp [ints, List.map_set]
theorem words_set (C : List Int) (T : List Value) (n : Nat) (x : Int) (h : n < C.length) : (words C ++ T).toArray.setIfInBounds n (.int .u64 x) = (words (C.set n x) ++ T).toArray := by
  rw [List.setIfInBounds_toArray, List.set_append_left _ _ (by rw [words_len]; exact h)]
  simp [words, List.map_set]
theorem MapB.setC {W w : World} {K : Kp} {mb cb fb cc fc : Nat} {C F : List Int} {T U : List Value} {mk : Bool} (h : Pls W w (K.and (MapB mb cb fb C F cc fc T U mk))) (ha : Apart K mb cb fb) (n : Nat) (x : Int) (hn : n < C.length) :
    Pls W (w.setCell ⟨cb, n, none⟩ (.int .i64 x)) (K.and (MapB mb cb fb (C.set n x) F cc fc T U mk)) := by
  obtain ⟨a1, a2, a3, a4, a5, a6⟩ := ha
  have h1 : Pls W w (((K.and (.blk fb (words F ++ U).toArray 48)).and (.blk mb #[.slice (some ⟨cb, 0, none⟩) C.length cc, .slice (some ⟨fb, 0, none⟩) F.length fc, .bool mk] 44)).and (.blk cb (ints C ++ T).toArray 3)) :=
    h.keep (fun h => ⟨⟨⟨h.1, h.2.1.2⟩, h.2.2⟩, h.2.1.1⟩) (fun k hk => by
      rcases hk with ((hk | hk) | hk) | hk
      · exact .inl hk
      · exact .inr (.inl (.inr hk))
      · exact .inr (.inr hk)
      · exact .inr (.inl (.inl hk)))
  have h2 := h1.set (fun hk => by
    rcases hk with (hk | hk) | hk
    · exact a5 hk
    · exact a1 hk
    · exact a2 (Eq.symm hk)) n (.int .i64 x)
  rw [ints_set C T n x hn] at h2
  refine h2.keep (fun h => ⟨h.1.1.1, ⟨h.2, h.1.1.2⟩, by rw [List.length_set]; exact h.1.2⟩) (fun k hk => ?_)
  rcases hk with hk | ((hk | hk) | hk)
  · exact .inl (.inl (.inl hk))
  · exact .inr hk
  · exact .inl (.inl (.inr hk))
  · exact .inl (.inr hk)
theorem MapB.setF {W w : World} {K : Kp} {mb cb fb cc fc : Nat} {C F : List Int} {T U : List Value} {mk : Bool} (h : Pls W w (K.and (MapB mb cb fb C F cc fc T U mk))) (ha : Apart K mb cb fb) (n : Nat) (x : Int) (hn : n < F.length) :
    Pls W (w.setCell ⟨fb, n, none⟩ (.int .u64 x)) (K.and (MapB mb cb fb C (F.set n x) cc fc T U mk)) := by
  obtain ⟨a1, a2, a3, a4, a5, a6⟩ := ha
  have h1 : Pls W w (((K.and (.blk cb (ints C ++ T).toArray 3)).and (.blk mb #[.slice (some ⟨cb, 0, none⟩) C.length cc, .slice (some ⟨fb, 0, none⟩) F.length fc, .bool mk] 44)).and (.blk fb (words F ++ U).toArray 48)) :=
    h.keep (fun h => ⟨⟨⟨h.1, h.2.1.1⟩, h.2.2⟩, h.2.1.2⟩) (fun k hk => by
      rcases hk with ((hk | hk) | hk) | hk
      · exact .inl hk
      · exact .inr (.inl (.inl hk))
      · exact .inr (.inr hk)
      · exact .inr (.inl (.inr hk)))
  have h2 := h1.set (fun hk => by
    rcases hk with (hk | hk) | hk
    · exact a6 hk
    · exact a1 (Eq.symm hk)
    · exact a3 (Eq.symm hk)) n (.int .u64 x)
  rw [words_set F U n x hn] at h2
  refine h2.keep (fun h => ⟨h.1.1.1, ⟨h.1.1.2, h.2⟩, by rw [List.length_set]; exact h.1.2⟩) (fun k hk => ?_)
  rcases hk with hk | ((hk | hk) | hk)
  · exact .inl (.inl (.inl hk))
  · exact .inl (.inl (.inr hk))
  · exact .inr hk
  · exact .inl (.inr hk)
end Go.Proofs.YtekfceolignihaaDoor
