/- One memory, made behind W. -/
import Derived.Test.YtjkpapkjlmglbaaDoorQ2
namespace Go.Proofs.YtjkpapkjlmglbaaDoor
open Go.RowKit
set_option linter.unusedVariables false
set_option linter.unusedSimpArgs false

/-- One memory, made behind W. -/
def Uno (W w : World) (mb : Nat) (M : List UInt8) (K : Kp) : Prop := ∃ B O, W.heap.size ≤ B ∧ B ≤ w.heap.size ∧ MemP w B mb M O ∧ Below W.heap.size W w ∧ Keep w O K
section
variable {W w : World} {mb : Nat} {M : List UInt8} {K L : Kp}
theorem Uno.make {w1 w2 : World} {O : Nat → Prop} (hb1 : Below W.heap.size W w1) (hK : Keep w1 (fun _ => False) K) (hP : MemP w2 w1.heap.size mb M O) (hb2 : Below w1.heap.size w1 w2) : Uno W w2 mb M K :=
  ⟨w1.heap.size, O, hb1.size, hb2.size, hP, bel_trans hb1 hb2, (hK.turn (Turn.of_below hb2 _)).1, fun k hk => by
    have h1 := (hK.2 k hk).1
    have h2 := hb2.size
    refine ⟨by omega, fun hO => ?_⟩
    have := (hP.lt hO).2; omega⟩
theorem Uno.fact (h : Uno W w mb M K) : K.P w := by obtain ⟨_, _, _, _, _, _, h⟩ := h; exact h.1
theorem Uno.bel (h : Uno W w mb M K) : Below W.heap.size W w := by obtain ⟨_, _, _, _, _, h, _⟩ := h; exact h
theorem Uno.len (h : Uno W w mb M K) : M.length = 8192 := by obtain ⟨_, _, _, _, h, _⟩ := h; exact h.len
theorem Uno.keep (h : Uno W w mb M K) (hL : ∀ O, Keep w O K → Keep w O L) : Uno W w mb M L := by
  obtain ⟨B, O, h1, h2, h3, h4, h5⟩ := h
  exact ⟨B, O, h1, h2, h3, h4, hL _ h5⟩
theorem Uno.weak (h : Uno W w mb M (K.and L)) : Uno W w mb M K := h.keep fun _ h => h.left
theorem Uno.below {w' : World} (h : Uno W w mb M K) (hb : Below w.heap.size w w') : Uno W w' mb M K := by
  obtain ⟨B, O, h1, h2, h3, h4, h5⟩ := h
  exact ⟨B, O, h1, Nat.le_trans h2 hb.size, h3.below hb, h4.trans (hb.mono (Nat.le_trans h1 h2)), h5.turn (Turn.of_below hb _)⟩
theorem Uno.alloc (h : Uno W w mb M K) (o : Obj) : Uno W (w.alloc o) mb M K := h.below (bel_alloc (Below.refl _ _) o)
theorem Uno.drew (h : Uno W w mb M K) : Uno W w.drew mb M K := h.below (bel_drew (Below.refl _ _))
theorem Uno.newK {w' : World} (h : Uno W w mb M K) (hb : Below w.heap.size w w') (hL : L.P w') (hS : ∀ k, L.S k → w.heap.size ≤ k ∧ k < w'.heap.size) : Uno W w' mb M (K.and L) := by
  obtain ⟨B, O, h1, h2, h3, h4, h5⟩ := h
  exact ⟨B, O, h1, Nat.le_trans h2 hb.size, h3.below hb, h4.trans (hb.mono (Nat.le_trans h1 h2)), (h5.turn (Turn.of_below hb _)).and ⟨hL, fun k hk => ⟨(hS k hk).2, fun hO => by
    have hk1 := (hS k hk).1
    have := (h3.lt hO).1; omega⟩⟩⟩
theorem Uno.new (h : Uno W w mb M K) (c : Array Value) (t : TypeId) : Uno W (w.alloc (.cells c t)) mb M (K.and (.blk w.heap.size c t)) :=
  h.newK (bel_alloc (Below.refl _ _) _) (Blk.new _ _ _) (fun k hk => by cases hk; exact ⟨Nat.le_refl _, by simp⟩)
theorem Uno.newBs {w' : World} (h : Uno W w mb M K) (hb : Below w.heap.size w w') {v : Value} {l : List UInt8} (hv : Bs w' w.heap.size v l) : Uno W w' mb M (K.and (.bs v l)) :=
  h.newK hb hv.zero (fun k hk => by
    rcases hv.lt with e | ⟨x, e, hx1, hx2⟩
    · rw [show v.ownBlock = some k from hk] at e; cases e
    · rw [show v.ownBlock = some k from hk] at e; cases e; exact ⟨hx1, hx2⟩)
theorem Uno.newVs {w' : World} (h : Uno W w mb M K) (hb : Below w.heap.size w w') {k n : Nat} {v : Value} {cs : List Value} (hv : Vs w' w.heap.size k v n cs) : Uno W w' mb M (K.and (.vs k v n cs)) :=
  h.newK hb hv.zero (fun b hb2 => by
    rcases hv.own with e | ⟨x, e, hx1, hx2⟩
    · rw [show v.ownBlock = some b from hb2] at e; cases e
    · rw [show v.ownBlock = some b from hb2] at e; cases e; exact ⟨hx1, hx2⟩)
theorem Uno.set {b : Nat} {c : Array Value} {t : TypeId} (h : Uno W w mb M (K.and (.blk b c t))) (hb : W.heap.size ≤ b) (hK : ¬ K.S b) (o : Nat) (v : Value) : Uno W (w.setCell ⟨b, o, none⟩ v) mb M (K.and (.blk b (c.setIfInBounds o v) t)) := by
  obtain ⟨B, O, h1, h2, h3, h4, h5⟩ := h
  have hO : ¬ O b := (h5.2 b (.inr rfl)).2
  exact ⟨B, O, h1, by rw [World.size_setCell]; exact h2, h3.setOwn hO v, bel_set h4 hb v, (h5.left.set hK v).and (Keep.blk (h5.right.1.set o v) hO)⟩
theorem Uno.memXK {α : Type} (h : Uno W w mb M K) {f : Nat} {args : Array Value} {ret : α → Value} {M' : α → List UInt8} {G : α → Kp} (c : ∀ B O, MemP w B mb M O → B ≤ w.heap.size → Keep w O K → Calls Tryd.prog f args w fun e w' => MemX w w' B mb O ret M' G e) :
    Calls Tryd.prog f args w fun e w' => ∃ x, e = .returned (ret x) ∧ Uno W w' mb (M' x) (K.and (G x)) := by
  obtain ⟨B, O, h1, h2, h3, h4, h5⟩ := h
  exact (c B O h3 h2 h5).mono fun e w' ⟨x, O', he, h8, h9, h10⟩ => ⟨x, he, B, O', h1, Nat.le_trans h2 h9.size, h8, h4.trans ((h9.below (fun k hk => (h3.lt hk).2) h2).mono h1), (h5.turn h9).and h10⟩
theorem Uno.memX {α : Type} (h : Uno W w mb M K) {f : Nat} {args : Array Value} {ret : α → Value} {M' : α → List UInt8} {G : α → Kp} (c : ∀ B O, MemP w B mb M O → B ≤ w.heap.size → Calls Tryd.prog f args w fun e w' => MemX w w' B mb O ret M' G e) :
    Calls Tryd.prog f args w fun e w' => ∃ x, e = .returned (ret x) ∧ Uno W w' mb (M' x) (K.and (G x)) := h.memXK fun B O h1 h2 _ => c B O h1 h2
theorem Uno.memK (h : Uno W w mb M K) {f : Nat} {args : Array Value} {M' : List UInt8} {v : Value} (c : ∀ B O, MemP w B mb M O → B ≤ w.heap.size → Keep w O K → Calls Tryd.prog f args w fun e w' => MemQ w w' B mb M' O v e) :
    Calls Tryd.prog f args w fun e w' => e = .returned v ∧ Uno W w' mb M' K := by
  obtain ⟨B, O, h1, h2, h3, h4, h5⟩ := h
  exact (c B O h3 h2 h5).mono fun e w' ⟨he, O', h8, h9⟩ => ⟨he, B, O', h1, Nat.le_trans h2 h9.size, h8, h4.trans ((h9.below (fun k hk => (h3.lt hk).2) h2).mono h1), h5.turn h9⟩
theorem Uno.mem (h : Uno W w mb M K) {f : Nat} {args : Array Value} {M' : List UInt8} {v : Value} (c : ∀ B O, MemP w B mb M O → B ≤ w.heap.size → Calls Tryd.prog f args w fun e w' => MemQ w w' B mb M' O v e) :
    Calls Tryd.prog f args w fun e w' => e = .returned v ∧ Uno W w' mb M' K := h.memK fun B O h1 h2 _ => c B O h1 h2
theorem Uno.load (h : Uno W w mb M K) {f : Nat} {args : Array Value} {l : List UInt8} (c : ∀ B O, MemP w B mb M O → B ≤ w.heap.size → Calls Tryd.prog f args w fun e w' => LoadQ w w' B mb M O l e) :
    Calls Tryd.prog f args w fun e w' => ∃ v, e = .returned v ∧ Uno W w' mb M (K.and (.bs v l)) := by
  obtain ⟨B, O, h1, h2, h3, h4, h5⟩ := h
  exact (c B O h3 h2).mono fun e w' ⟨v, O', he, hv, h8, h9, h10⟩ => ⟨v, he, B, O', h1, Nat.le_trans h2 h9.size, h8, h4.trans ((h9.below (fun k hk => (h3.lt hk).2) h2).mono h1), (h5.turn h9).and (Keep.bs hv h10)⟩
theorem Uno.still (h : Uno W w mb M K) {f : Nat} {args : Array Value} {Q : Ending → World → Prop} (c : Calls Tryd.prog f args w fun e w' => Q e w' ∧ Below w.heap.size w w') :
    Calls Tryd.prog f args w fun e w' => Q e w' ∧ Uno W w' mb M K := c.mono fun e w' ⟨hq, hb⟩ => ⟨hq, h.below hb⟩
theorem Uno.old (h : Uno W w mb M K) (hL : L.P W) (hS : ∀ k, L.S k → k < W.heap.size) : Uno W w mb M (K.and L) := by
  obtain ⟨B, O, h1, h2, h3, h4, h5⟩ := h
  exact ⟨B, O, h1, h2, h3, h4, h5.and ⟨L.stable W w (fun k hk hl => h4.block k hl) h4.size hL, fun k hk => ⟨Nat.lt_of_lt_of_le (hS k hk) h4.size, fun hO => by
    have := hS k hk
    have := (h3.lt hO).2; omega⟩⟩⟩
theorem Uno.oldRv (h : Uno W w mb M K) {k n : Nat} {v : Value} {cs : List Value} (hR : Rv W k v n cs) : Uno W w mb M (K.and (.rv k v n cs)) := h.old hR (fun b hb => ((Keep.rv hR).2 b hb).1)
end
end Go.Proofs.YtjkpapkjlmglbaaDoor
