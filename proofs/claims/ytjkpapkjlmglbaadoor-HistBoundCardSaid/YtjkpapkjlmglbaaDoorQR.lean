/- States of a walk through the reference. -/
import Derived.Test.YtjkpapkjlmglbaaDoorVS
namespace Go.Proofs.YtjkpapkjlmglbaaDoor
open Go.RowKit
set_option linter.unusedVariables false
set_option linter.unusedSimpArgs false

theorem RefP.apart {w w2 : World} {B rb : Nat} {M L : List UInt8} {R : Nat → Prop} {v : Value} (h : RefP w B rb M R) (hv : Bs w2 w.heap.size v L) : ∀ k, v.ownBlock = some k → ¬ R k := fun k hk hO => by
  have := (h.lt hO).1
  have := hv.geB hk
  omega
/-- From W, whose memory's blocks were O0, the walk has come to w: the memory is M, K holds. -/
def Onr (W w : World) (B rb : Nat) (M : List UInt8) (O0 : Nat → Prop) (K : Kp) : Prop := ∃ O, RefP w B rb M O ∧ Turn W w O0 O ∧ Keep w O K ∧ B ≤ W.heap.size
section
variable {W w : World} {B rb : Nat} {M : List UInt8} {O0 : Nat → Prop} {K L : Kp}
theorem Onr.start {O : Nat → Prop} (h : RefP w B rb M O) (hB : B ≤ w.heap.size) : Onr w w B rb M O .emp := ⟨O, h, Turn.refl _ _, Keep.emp _ _, hB⟩
theorem Onr.startK {O : Nat → Prop} (h : RefP w B rb M O) (hB : B ≤ w.heap.size) (hK : Keep w O K) : Onr w w B rb M O K := ⟨O, h, Turn.refl _ _, hK, hB⟩
theorem Onr.fact (h : Onr W w B rb M O0 K) : K.P w := by obtain ⟨_, _, _, h, _⟩ := h; exact h.1
theorem Onr.size (h : Onr W w B rb M O0 K) : W.heap.size ≤ w.heap.size := by obtain ⟨_, _, h, _⟩ := h; exact h.size
theorem Onr.slt (h : Onr W w B rb M O0 K) {k : Nat} (hk : K.S k) : k < w.heap.size := by obtain ⟨_, _, _, h, _⟩ := h; exact (h.2 k hk).1
theorem Onr.len (h : Onr W w B rb M O0 K) : M.length = 8192 := by obtain ⟨_, h, _⟩ := h; exact h.len
theorem Onr.refQ (h : Onr W w B rb M O0 K) (v : Value) : RefQ W w B rb M O0 v (.returned v) := by obtain ⟨O, h1, h2, _⟩ := h; exact ⟨rfl, O, h1, h2⟩
theorem Onr.weak (h : Onr W w B rb M O0 (K.and L)) : Onr W w B rb M O0 K := by obtain ⟨O, h1, h2, h3, h4⟩ := h; exact ⟨O, h1, h2, h3.left, h4⟩
theorem Onr.last (h : Onr W w B rb M O0 (K.and L)) : Onr W w B rb M O0 L := by obtain ⟨O, h1, h2, h3, h4⟩ := h; exact ⟨O, h1, h2, h3.right, h4⟩
theorem Onr.keep (h : Onr W w B rb M O0 K) (hL : ∀ O, Keep w O K → Keep w O L) : Onr W w B rb M O0 L := by obtain ⟨O, h1, h2, h3, h4⟩ := h; exact ⟨O, h1, h2, hL O h3, h4⟩
theorem Onr.alloc (h : Onr W w B rb M O0 K) (o : Obj) : Onr W (w.alloc o) B rb M O0 K := by
  obtain ⟨O, h1, h2, h3, h4⟩ := h
  have hb : Below w.heap.size w (w.alloc o) := bel_alloc (Below.refl _ _) o
  exact ⟨O, h1.below hb, h2.trans (Turn.of_below hb O), h3.turn (Turn.of_below hb O), h4⟩
theorem Onr.new (h : Onr W w B rb M O0 K) (c : Array Value) (t : TypeId) : Onr W (w.alloc (.cells c t)) B rb M O0 (K.and (.blk w.heap.size c t)) := by
  obtain ⟨O, h1, h2, h3, h4⟩ := h
  have hb : Below w.heap.size w (w.alloc (.cells c t)) := bel_alloc (Below.refl _ _) _
  exact ⟨O, h1.below hb, h2.trans (Turn.of_below hb O), (h3.turn (Turn.of_below hb O)).and (Keep.blk (Blk.new _ _ _) (fun hO => by have := (h1.lt hO).1; omega)), h4⟩
theorem Onr.drew (h : Onr W w B rb M O0 K) : Onr W w.drew B rb M O0 K := by
  obtain ⟨O, h1, h2, h3, h4⟩ := h
  exact ⟨O, (h1.below (bel_drew (Below.refl _ _))), h2.drawn, h3.turn (Turn.of_below (bel_drew (Below.refl _ _)) O), h4⟩
theorem Onr.set {b : Nat} {c : Array Value} {t : TypeId} (h : Onr W w B rb M O0 (K.and (.blk b c t))) (hb : W.heap.size ≤ b) (hK : ¬ K.S b) (o : Nat) (v : Value) : Onr W (w.setCell ⟨b, o, none⟩ v) B rb M O0 (K.and (.blk b (c.setIfInBounds o v) t)) := by
  obtain ⟨O, h1, h2, h3, h4⟩ := h
  have hO : ¬ O b := (h3.2 b (.inr rfl)).2
  exact ⟨O, (h1.kept (grownBy_setCell w b o v) (fun k hk => by cases hk; exact hO)), h2.setOwn hb v, (h3.left.set hK v).and (Keep.blk (h3.right.1.set o v) hO), h4⟩
/-- A call that the memory is handed to. -/
theorem Onr.ref (h : Onr W w B rb M O0 K) {f : Nat} {args : Array Value} {M' : List UInt8} {v : Value} (c : ∀ O, RefP w B rb M O → B ≤ w.heap.size → Calls Tryd.prog f args w fun e w' => RefQ w w' B rb M' O v e) :
    Calls Tryd.prog f args w fun e w' => e = .returned v ∧ Onr W w' B rb M' O0 K := by
  obtain ⟨O, h1, h2, h3, h4⟩ := h
  refine (c O h1 (Nat.le_trans h4 h2.size)).mono fun e w' ⟨he, O', h5, h6⟩ => ⟨he, O', h5, h2.trans h6, h3.turn h6, h4⟩
/-- A call that gives something new besides. -/
def RefX {α : Type} (w w' : World) (B rb : Nat) (O : Nat → Prop) (ret : α → Value) (M' : α → List UInt8) (G : α → Kp) (e : Ending) : Prop := ∃ x O', e = .returned (ret x) ∧ RefP w' B rb (M' x) O' ∧ Turn w w' O O' ∧ Keep w' O' (G x)
theorem Onr.refX {α : Type} (h : Onr W w B rb M O0 K) {f : Nat} {args : Array Value} {ret : α → Value} {M' : α → List UInt8} {G : α → Kp} (c : ∀ O, RefP w B rb M O → B ≤ w.heap.size → Calls Tryd.prog f args w fun e w' => RefX w w' B rb O ret M' G e) :
    Calls Tryd.prog f args w fun e w' => ∃ x, e = .returned (ret x) ∧ Onr W w' B rb (M' x) O0 (K.and (G x)) := by
  obtain ⟨O, h1, h2, h3, h4⟩ := h
  refine (c O h1 (Nat.le_trans h4 h2.size)).mono fun e w' ⟨x, O', he, h5, h6, h7⟩ => ⟨x, he, O', h5, h2.trans h6, (h3.turn h6).and h7, h4⟩
theorem Onr.load (h : Onr W w B rb M O0 K) {f : Nat} {args : Array Value} {l : List UInt8} (c : ∀ O, RefP w B rb M O → B ≤ w.heap.size → Calls Tryd.prog f args w fun e w' => ∃ v, e = .returned v ∧ Bs w' w.heap.size v l ∧ Below w.heap.size w w') :
    Calls Tryd.prog f args w fun e w' => ∃ v, e = .returned v ∧ Onr W w' B rb M O0 (K.and (.bs v l)) := by
  obtain ⟨O, h1, h2, h3, h4⟩ := h
  refine (c O h1 (Nat.le_trans h4 h2.size)).mono fun e w' ⟨v, he, h5, h6⟩ => ⟨v, he, O, h1.below h6, h2.trans (Turn.of_below h6 O), (h3.turn (Turn.of_below h6 O)).and (Keep.bs h5 (h1.apart h5)), h4⟩
theorem Onr.read (h : Onr W w B rb M O0 K) {f : Nat} {args : Array Value} {Q : Ending → World → Prop} (c : ∀ O, RefP w B rb M O → Calls Tryd.prog f args w fun e w' => Q e w' ∧ Below w.heap.size w w') :
    Calls Tryd.prog f args w fun e w' => Q e w' ∧ Onr W w' B rb M O0 K := by
  have h' := h
  obtain ⟨O, h1, h2, h3, h4⟩ := h
  exact (c O h1).mono fun e w' ⟨hq, hb⟩ => ⟨hq, by
    exact ⟨O, h1.below hb, h2.trans (Turn.of_below hb O), h3.turn (Turn.of_below hb O), h4⟩⟩
/-- A call that changes nothing that there was. -/
theorem Onr.below {w' : World} (h : Onr W w B rb M O0 K) (hb : Below w.heap.size w w') : Onr W w' B rb M O0 K := by
  obtain ⟨O, h1, h2, h3, h4⟩ := h
  exact ⟨O, h1.below hb, h2.trans (Turn.of_below hb O), h3.turn (Turn.of_below hb O), h4⟩
theorem Onr.still (h : Onr W w B rb M O0 K) {f : Nat} {args : Array Value} {Q : Ending → World → Prop} (c : Calls Tryd.prog f args w fun e w' => Q e w' ∧ Below w.heap.size w w') :
    Calls Tryd.prog f args w fun e w' => Q e w' ∧ Onr W w' B rb M O0 K := c.mono fun e w' ⟨hq, hb⟩ => ⟨hq, h.below hb⟩
/-- New bytes, behind a call that changes nothing that there was. -/
theorem Onr.newBs {w' : World} (h : Onr W w B rb M O0 K) (hb : Below w.heap.size w w') {v : Value} {l : List UInt8} (hv : Bs w' w.heap.size v l) : Onr W w' B rb M O0 (K.and (.bs v l)) := by
  obtain ⟨O, h1, h2, h3, h4⟩ := h
  exact ⟨O, h1.below hb, h2.trans (Turn.of_below hb O), (h3.turn (Turn.of_below hb O)).and (Keep.bs hv (h1.apart hv)), h4⟩
end

theorem Onr.newVs {W w w' : World} {Bm rb : Nat} {M : List UInt8} {O0 : Nat → Prop} {K : Kp} (h : Onr W w Bm rb M O0 K) (hb : Below w.heap.size w w') {k n : Nat} {v : Value} {cs : List Value} (hv : Vs w' w.heap.size k v n cs) : Onr W w' Bm rb M O0 (K.and (.vs k v n cs)) := by
  obtain ⟨O, h1, h2, h3, h4⟩ := h
  exact ⟨O, h1.below hb, h2.trans (Turn.of_below hb O), (h3.turn (Turn.of_below hb O)).and (Keep.vs hv (fun b hb2 hO => by
    have h8 := (h1.lt hO).1
    rcases hv.own with e | ⟨x, e, hx, _⟩
    · rw [hb2] at e; cases e
    · rw [hb2] at e; cases e; omega)), h4⟩
/-- An append to a slice of the walk's own. -/
theorem Onr.appendVs {P : Program} {W w : World} {Bm rb : Nat} {M : List UInt8} {O0 : Nat → Prop} {K : Kp} {k n m : Nat} {v u : Value} {cs ds : List Value} (h : Onr W w Bm rb M O0 (K.and (.vs k v n cs))) (hown : ∀ b, v.ownBlock = some b → W.heap.size ≤ b ∧ ¬ K.S b)
    {t tx e ty : TypeId} {z : Value} {by_ : Nat} (hu : Src P k tx u m ds w) (ht : P.underlying t = some (.slice e))
    (hi : (P.info? e).map (fun i => (i.zero, i.size, i.bytes)) = some (some z, k, by_)) (hz : z.cells.size = k) (hm : 0 < m) (hlen : (n + m) * by_ ≤ 1000000000) (hlen2 : n + m ≤ 1000000000) :
    ∃ v' w', (Builtin.append_ #[t, tx] ty #[v, u]).run P w = .ok v' w' ∧ Onr W w' Bm rb M O0 (K.and (.vs k v' (n + m) (cs ++ ds))) ∧ (∀ b, v'.ownBlock = some b → W.heap.size ≤ b ∧ ¬ K.S b) ∧ w.heap.size ≤ w'.heap.size := by
  obtain ⟨O, h1, h2, h3, h4⟩ := h
  have hV : Vs w 0 k v n cs := h3.right.1
  obtain ⟨v', w', hr, hv', hg, hob⟩ := hV.append hu ht hi hz hm hlen hlen2 (Nat.zero_le _) (ty := ty)
  have hvO : ∀ b, v.ownBlock = some b → ¬ O b := fun b hb => (h3.2 b (.inr hb)).2
  have hws := h2.size
  refine ⟨v', w', hr, ⟨O, h1.kept hg hvO, h2.grownOwn hg (fun b hb => (hown b hb).1), (h3.left.grown hg (fun b hb => (hown b hb).2)).and (Keep.vs hv' (fun b hb hO => ?_)), h4⟩, fun b hb => ?_, hg.size⟩
  · rcases hob with e | e
    · exact hvO b (e ▸ hb) hO
    · rw [hb] at e; cases e
      have := (h1.lt hO).1; omega
  · rcases hob with e | e
    · exact hown b (e ▸ hb)
    · rw [hb] at e; cases e
      exact ⟨h2.size, fun hS => by have := (h3.left.2 _ hS).1; omega⟩
theorem Onr.turnVs {W w w' : World} {Bm rb : Nat} {M : List UInt8} {O0 : Nat → Prop} {K : Kp} {k n : Nat} {v : Value} {cs cs' : List Value} (h : Onr W w Bm rb M O0 (K.and (.vs k v n cs))) (hown : ∀ b, v.ownBlock = some b → W.heap.size ≤ b ∧ ¬ K.S b) (hv : Vs w' 0 k v n cs') (hg : w.grownBy w' v.ownBlock) : Onr W w' Bm rb M O0 (K.and (.vs k v n cs')) := by
  obtain ⟨O, h1, h2, h3, h4⟩ := h
  have hvO : ∀ b, v.ownBlock = some b → ¬ O b := fun b hb => (h3.2 b (.inr hb)).2
  exact ⟨O, h1.kept hg hvO, h2.grownOwn hg (fun b hb => (hown b hb).1), (h3.left.grown hg (fun b hb => (hown b hb).2)).and (Keep.vs hv hvO), h4⟩
end Go.Proofs.YtjkpapkjlmglbaaDoor
