/- States of a walk: the memory, what else is known, what has turned. -/
import Derived.Test.YtjkpapkjlmglbaaDoorN1
import Derived.Test.YtjkpapkjlmglbaaDoorM7
namespace Go.Proofs.YtjkpapkjlmglbaaDoor
open Go.RowKit
set_option linter.unusedVariables false
set_option linter.unusedSimpArgs false

theorem Blk.c6 {w : World} {b : Nat} {x y z u v s : Value} {t : TypeId} (h : Blk w b #[x, y, z, u, v, s] t) : w.cell? ⟨b, 0, none⟩ = some x ∧ w.cell? ⟨b, 1, none⟩ = some y ∧ w.cell? ⟨b, 2, none⟩ = some z ∧ w.cell? ⟨b, 3, none⟩ = some u ∧ w.cell? ⟨b, 4, none⟩ = some v ∧ w.cell? ⟨b, 5, none⟩ = some s :=
  ⟨h.cell 0, h.cell 1, h.cell 2, h.cell 3, h.cell 4, h.cell 5⟩
theorem Blk.c3' {w : World} {b : Nat} {x y z : Value} {t : TypeId} (h : Blk w b #[x, y, z] t) : w.cell? ⟨b, 0, none⟩ = some x ∧ w.cell? ⟨b, 1, none⟩ = some y ∧ w.cell? ⟨b, 2, none⟩ = some z :=
  ⟨h.cell 0, h.cell 1, h.cell 2⟩
/-- A fact on worlds that hangs on the blocks S alone. -/
structure Kp where
  S : Nat → Prop
  P : World → Prop
  stable : ∀ w1 w2 : World, (∀ k, S k → k < w1.heap.size → w2.heap[k]? = w1.heap[k]?) → w1.heap.size ≤ w2.heap.size → P w1 → P w2
def Kp.emp : Kp := ⟨fun _ => False, fun _ => True, fun _ _ _ _ h => h⟩
def Kp.pure (p : Prop) : Kp := ⟨fun _ => False, fun _ => p, fun _ _ _ _ h => h⟩
def Kp.and (K L : Kp) : Kp := ⟨fun k => K.S k ∨ L.S k, fun w => K.P w ∧ L.P w, fun w1 w2 h hs hp => ⟨K.stable w1 w2 (fun k hk => h k (.inl hk)) hs hp.1, L.stable w1 w2 (fun k hk => h k (.inr hk)) hs hp.2⟩⟩
def Kp.blk (b : Nat) (c : Array Value) (t : TypeId) : Kp := ⟨fun k => k = b, fun w => Blk w b c t, fun w1 w2 h hs hp => by
  have := h b rfl hp.lt
  unfold Blk at *
  rw [this]; exact hp⟩
theorem cell_of_block {w1 w2 : World} {b : Nat} (h : w2.heap[b]? = w1.heap[b]?) (o : Nat) : w2.cell? ⟨b, o, none⟩ = w1.cell? ⟨b, o, none⟩ := by simp [World.cell?, h]
theorem frozen_of_block {w1 w2 : World} {b : Nat} (h : w2.heap[b]? = w1.heap[b]?) (o : Nat) : w2.frozen? ⟨b, o, none⟩ = w1.frozen? ⟨b, o, none⟩ := by simp [World.frozen?, h]
def Kp.bs (v : Value) (l : List UInt8) : Kp := ⟨fun k => v.ownBlock = some k, fun w => Bs w 0 v l, fun w1 w2 h hs hp => by
  rcases hp with hp | ⟨b, o, cap, rfl, h2, h3, h4, h5, h6⟩
  · exact .inl hp
  · have e := h b rfl h3
    exact .inr ⟨b, o, cap, rfl, h2, Nat.lt_of_lt_of_le h3 hs, h4, fun j hj => by rw [cell_of_block e]; exact h5 j hj, fun j hj => by rw [cell_of_block e, frozen_of_block e]; exact h6 j hj⟩⟩
theorem Bs.zero {w : World} {B : Nat} {v : Value} {l : List UInt8} (h : Bs w B v l) : Bs w 0 v l := h.mono (Nat.zero_le _)
theorem cellA_of_block {w1 w2 : World} {a : Addr} (h : w2.heap[a.block]? = w1.heap[a.block]?) : w2.cell? a = w1.cell? a := by
  simp [World.cell?, h]
theorem add_block (a : Addr) (j : Nat) : (a.add j).block = a.block := by simp only [Addr.add]; split <;> rfl
def Kp.rb (v : Value) (l : List UInt8) : Kp := ⟨fun k => l ≠ [] ∧ ∃ a n cap, v = .slice (some a) n cap ∧ a.block = k, fun w => Rb w v l, fun w1 w2 h hs hp => by
  rcases hp with hp | ⟨a, cap, rfl, h2⟩
  · exact .inl hp
  · refine .inr ⟨a, cap, rfl, fun j hj => ?_⟩
    have hc := h2 j hj
    have hb : a.block < w1.heap.size := by
      have := World.block_lt_of_cell? w1 (a.add j) hc
      rw [add_block] at this; exact this
    have e := h a.block ⟨by intro e; subst e; simp at hj, a, _, cap, rfl, rfl⟩ hb
    exact (cellA_of_block (a := a.add j) (by rw [add_block]; exact e)).trans hc⟩
/-- K holds, apart from the blocks O. -/
def Keep (w : World) (O : Nat → Prop) (K : Kp) : Prop := K.P w ∧ ∀ k, K.S k → k < w.heap.size ∧ ¬ O k
theorem Keep.turn {w w' : World} {O O' : Nat → Prop} {K : Kp} (h : Keep w O K) (hT : Turn w w' O O') : Keep w' O' K :=
  ⟨K.stable w w' (fun k hk hl => hT.block k hl (h.2 k hk).2) hT.size h.1, fun k hk => ⟨Nat.lt_of_lt_of_le (h.2 k hk).1 hT.size, fun hO => by
    rcases hT.new k hO with h1 | h1
    · exact (h.2 k hk).2 h1
    · have := (h.2 k hk).1; omega⟩⟩
theorem Keep.and {w : World} {O : Nat → Prop} {K L : Kp} (h : Keep w O K) (h2 : Keep w O L) : Keep w O (K.and L) :=
  ⟨⟨h.1, h2.1⟩, fun k hk => by
    rcases hk with hk | hk
    · exact h.2 k hk
    · exact h2.2 k hk⟩
theorem Keep.left {w : World} {O : Nat → Prop} {K L : Kp} (h : Keep w O (K.and L)) : Keep w O K := ⟨h.1.1, fun k hk => h.2 k (.inl hk)⟩
theorem Keep.right {w : World} {O : Nat → Prop} {K L : Kp} (h : Keep w O (K.and L)) : Keep w O L := ⟨h.1.2, fun k hk => h.2 k (.inr hk)⟩
theorem Keep.emp (w : World) (O : Nat → Prop) : Keep w O .emp := ⟨trivial, fun k hk => hk.elim⟩
theorem Keep.pure {w : World} {O : Nat → Prop} {p : Prop} (h : p) : Keep w O (.pure p) := ⟨h, fun k hk => hk.elim⟩
theorem Keep.blk {w : World} {O : Nat → Prop} {b : Nat} {c : Array Value} {t : TypeId} (h : Blk w b c t) (hO : ¬ O b) : Keep w O (.blk b c t) := ⟨h, fun k hk => by cases hk; exact ⟨h.lt, hO⟩⟩
theorem Keep.bs {w : World} {O : Nat → Prop} {B : Nat} {v : Value} {l : List UInt8} (h : Bs w B v l) (hO : ∀ k, v.ownBlock = some k → ¬ O k) : Keep w O (.bs v l) :=
  ⟨h.zero, fun k hk => ⟨by
    rcases h.lt with e | ⟨x, e, _, hx⟩
    · rw [show v.ownBlock = some k from hk] at e; cases e
    · rw [show v.ownBlock = some k from hk] at e; cases e; exact hx, hO k hk⟩⟩
theorem Keep.rb {w : World} {v : Value} {l : List UInt8} (h : Rb w v l) : Keep w (fun _ => False) (.rb v l) := ⟨h, fun k hk => by
  obtain ⟨hl, a, n, cap, hv, rfl⟩ := hk
  rcases h with ⟨_, e⟩ | ⟨a', cap', hv2, h2⟩
  · exact (hl e).elim
  · rw [hv2] at hv; cases hv
    have hj : 0 < l.length := List.length_pos_iff.2 hl
    have := World.block_lt_of_cell? w (a.add 0) (h2 0 hj)
    rw [add_block] at this; exact ⟨this, id⟩⟩
theorem Keep.wider {w : World} {O O' : Nat → Prop} {K : Kp} (h : Keep w O K) (hO : ∀ k, O' k → O k ∨ w.heap.size ≤ k) : Keep w O' K := ⟨h.1, fun k hk => ⟨(h.2 k hk).1, fun h1 => by
  rcases hO k h1 with h2 | h2
  · exact (h.2 k hk).2 h2
  · have := (h.2 k hk).1; omega⟩⟩
theorem Keep.set {w : World} {O : Nat → Prop} {K : Kp} (h : Keep w O K) {b o : Nat} (hb : ¬ K.S b) (v : Value) : Keep (w.setCell ⟨b, o, none⟩ v) O K :=
  ⟨K.stable w _ (fun k hk hl => Below.heap_setCell _ _ _ _ (fun e => hb (by subst e; exact hk))) (Nat.le_of_eq (World.size_setCell _ _ _).symm) h.1, fun k hk => by rw [World.size_setCell]; exact h.2 k hk⟩
theorem Bs.geB {w : World} {B k : Nat} {v : Value} {l : List UInt8} (h : Bs w B v l) (e : v.ownBlock = some k) : B ≤ k := by
  rcases h.lt with e2 | ⟨x, e2, hx, _⟩
  · rw [e] at e2; cases e2
  · rw [e] at e2; cases e2; exact hx
theorem Turn.apart {w w' : World} {O O' : Nat → Prop} {k : Nat} (h : Turn w w' O O') (hk : ¬ O k) (hlt : k < w.heap.size) : ¬ O' k := fun h1 => by
  rcases h.new k h1 with h2 | h2
  · exact hk h2
  · omega
theorem Turn.setOwn {w w' : World} {O O' : Nat → Prop} (h : Turn w w' O O') {b o : Nat} (hb : w.heap.size ≤ b) (v : Value) : Turn w (w'.setCell ⟨b, o, none⟩ v) O O' :=
  ⟨h.os, h.tape, h.output, by rw [World.size_setCell]; exact h.size, fun k hk hO => (Below.heap_setCell _ _ _ _ (show k ≠ b by omega)).trans (h.block k hk hO), h.new⟩
theorem Turn.drawn {w w' : World} {O O' : Nat → Prop} (h : Turn w w' O O') : Turn w w'.drew O O' := ⟨h.os, h.tape, h.output, h.size, h.block, h.new⟩
theorem MemP.drawn {w : World} {base mb : Nat} {M : List UInt8} {O : Nat → Prop} (h : MemP w base mb M O) : MemP w.drew base mb M O := h.below (bel_drew (Below.refl _ _))
theorem MemP.setOwn {w : World} {base mb : Nat} {M : List UInt8} {O : Nat → Prop} (h : MemP w base mb M O) {b o : Nat} (hb : ¬ O b) (v : Value) : MemP (w.setCell ⟨b, o, none⟩ v) base mb M O :=
  h.kept (grownBy_setCell w b o v) (fun k hk => by cases hk; exact hb)

/-- From W, whose memory's blocks were O0, the walk has come to w: the memory is M, K holds. -/
def One (W w : World) (B mb : Nat) (M : List UInt8) (O0 : Nat → Prop) (K : Kp) : Prop := ∃ O, MemP w B mb M O ∧ Turn W w O0 O ∧ Keep w O K ∧ B ≤ W.heap.size
section
variable {W w : World} {B mb : Nat} {M : List UInt8} {O0 : Nat → Prop} {K L : Kp}
theorem One.start {O : Nat → Prop} (h : MemP w B mb M O) (hB : B ≤ w.heap.size) : One w w B mb M O .emp := ⟨O, h, Turn.refl _ _, Keep.emp _ _, hB⟩
theorem One.startK {O : Nat → Prop} (h : MemP w B mb M O) (hB : B ≤ w.heap.size) (hK : Keep w O K) : One w w B mb M O K := ⟨O, h, Turn.refl _ _, hK, hB⟩
theorem One.fact (h : One W w B mb M O0 K) : K.P w := by obtain ⟨_, _, _, h, _⟩ := h; exact h.1
theorem One.size (h : One W w B mb M O0 K) : W.heap.size ≤ w.heap.size := by obtain ⟨_, _, h, _⟩ := h; exact h.size
theorem One.slt (h : One W w B mb M O0 K) {k : Nat} (hk : K.S k) : k < w.heap.size := by obtain ⟨_, _, _, h, _⟩ := h; exact (h.2 k hk).1
theorem One.len (h : One W w B mb M O0 K) : M.length = 8192 := by obtain ⟨_, h, _⟩ := h; exact h.len
theorem One.memQ (h : One W w B mb M O0 K) (v : Value) : MemQ W w B mb M O0 v (.returned v) := by obtain ⟨O, h1, h2, _⟩ := h; exact ⟨rfl, O, h1, h2⟩
theorem One.weak (h : One W w B mb M O0 (K.and L)) : One W w B mb M O0 K := by obtain ⟨O, h1, h2, h3, h4⟩ := h; exact ⟨O, h1, h2, h3.left, h4⟩
theorem One.last (h : One W w B mb M O0 (K.and L)) : One W w B mb M O0 L := by obtain ⟨O, h1, h2, h3, h4⟩ := h; exact ⟨O, h1, h2, h3.right, h4⟩
theorem One.keep (h : One W w B mb M O0 K) (hL : ∀ O, Keep w O K → Keep w O L) : One W w B mb M O0 L := by obtain ⟨O, h1, h2, h3, h4⟩ := h; exact ⟨O, h1, h2, hL O h3, h4⟩
theorem One.alloc (h : One W w B mb M O0 K) (o : Obj) : One W (w.alloc o) B mb M O0 K := by
  obtain ⟨O, h1, h2, h3, h4⟩ := h
  have hb : Below w.heap.size w (w.alloc o) := bel_alloc (Below.refl _ _) o
  exact ⟨O, h1.below hb, h2.trans (Turn.of_below hb O), h3.turn (Turn.of_below hb O), h4⟩
theorem One.new (h : One W w B mb M O0 K) (c : Array Value) (t : TypeId) : One W (w.alloc (.cells c t)) B mb M O0 (K.and (.blk w.heap.size c t)) := by
  obtain ⟨O, h1, h2, h3, h4⟩ := h
  have hb : Below w.heap.size w (w.alloc (.cells c t)) := bel_alloc (Below.refl _ _) _
  exact ⟨O, h1.below hb, h2.trans (Turn.of_below hb O), (h3.turn (Turn.of_below hb O)).and (Keep.blk (Blk.new _ _ _) (fun hO => by have := (h1.lt hO).1; omega)), h4⟩
theorem One.drew (h : One W w B mb M O0 K) : One W w.drew B mb M O0 K := by
  obtain ⟨O, h1, h2, h3, h4⟩ := h
  exact ⟨O, h1.drawn, h2.drawn, h3.turn (Turn.of_below (bel_drew (Below.refl _ _)) O), h4⟩
theorem One.set {b : Nat} {c : Array Value} {t : TypeId} (h : One W w B mb M O0 (K.and (.blk b c t))) (hb : W.heap.size ≤ b) (hK : ¬ K.S b) (o : Nat) (v : Value) : One W (w.setCell ⟨b, o, none⟩ v) B mb M O0 (K.and (.blk b (c.setIfInBounds o v) t)) := by
  obtain ⟨O, h1, h2, h3, h4⟩ := h
  have hO : ¬ O b := (h3.2 b (.inr rfl)).2
  exact ⟨O, h1.setOwn hO v, h2.setOwn hb v, (h3.left.set hK v).and (Keep.blk (h3.right.1.set o v) hO), h4⟩
/-- A call that the memory is handed to. -/
theorem One.mem (h : One W w B mb M O0 K) {f : Nat} {args : Array Value} {M' : List UInt8} {v : Value} (c : ∀ O, MemP w B mb M O → B ≤ w.heap.size → Calls Tryd.prog f args w fun e w' => MemQ w w' B mb M' O v e) :
    Calls Tryd.prog f args w fun e w' => e = .returned v ∧ One W w' B mb M' O0 K := by
  obtain ⟨O, h1, h2, h3, h4⟩ := h
  refine (c O h1 (Nat.le_trans h4 h2.size)).mono fun e w' ⟨he, O', h5, h6⟩ => ⟨he, O', h5, h2.trans h6, h3.turn h6, h4⟩
/-- A call that gives something new besides. -/
def MemX {α : Type} (w w' : World) (B mb : Nat) (O : Nat → Prop) (ret : α → Value) (M' : α → List UInt8) (G : α → Kp) (e : Ending) : Prop := ∃ x O', e = .returned (ret x) ∧ MemP w' B mb (M' x) O' ∧ Turn w w' O O' ∧ Keep w' O' (G x)
theorem One.memX {α : Type} (h : One W w B mb M O0 K) {f : Nat} {args : Array Value} {ret : α → Value} {M' : α → List UInt8} {G : α → Kp} (c : ∀ O, MemP w B mb M O → B ≤ w.heap.size → Calls Tryd.prog f args w fun e w' => MemX w w' B mb O ret M' G e) :
    Calls Tryd.prog f args w fun e w' => ∃ x, e = .returned (ret x) ∧ One W w' B mb (M' x) O0 (K.and (G x)) := by
  obtain ⟨O, h1, h2, h3, h4⟩ := h
  refine (c O h1 (Nat.le_trans h4 h2.size)).mono fun e w' ⟨x, O', he, h5, h6, h7⟩ => ⟨x, he, O', h5, h2.trans h6, (h3.turn h6).and h7, h4⟩
theorem One.load (h : One W w B mb M O0 K) {f : Nat} {args : Array Value} {l : List UInt8} (c : ∀ O, MemP w B mb M O → B ≤ w.heap.size → Calls Tryd.prog f args w fun e w' => LoadQ w w' B mb M O l e) :
    Calls Tryd.prog f args w fun e w' => ∃ v, e = .returned v ∧ One W w' B mb M O0 (K.and (.bs v l)) := by
  obtain ⟨O, h1, h2, h3, h4⟩ := h
  refine (c O h1 (Nat.le_trans h4 h2.size)).mono fun e w' ⟨v, O', he, h5, h6, h7, h8⟩ => ⟨v, he, O', h6, h2.trans h7, (h3.turn h7).and (Keep.bs h5 h8), h4⟩
/-- A call that changes nothing that there was. -/
theorem One.below {w' : World} (h : One W w B mb M O0 K) (hb : Below w.heap.size w w') : One W w' B mb M O0 K := by
  obtain ⟨O, h1, h2, h3, h4⟩ := h
  exact ⟨O, h1.below hb, h2.trans (Turn.of_below hb O), h3.turn (Turn.of_below hb O), h4⟩
theorem One.still (h : One W w B mb M O0 K) {f : Nat} {args : Array Value} {Q : Ending → World → Prop} (c : Calls Tryd.prog f args w fun e w' => Q e w' ∧ Below w.heap.size w w') :
    Calls Tryd.prog f args w fun e w' => Q e w' ∧ One W w' B mb M O0 K := c.mono fun e w' ⟨hq, hb⟩ => ⟨hq, h.below hb⟩
/-- New bytes, behind a call that changes nothing that there was. -/
theorem One.newBs {w' : World} (h : One W w B mb M O0 K) (hb : Below w.heap.size w w') {v : Value} {l : List UInt8} (hv : Bs w' w.heap.size v l) : One W w' B mb M O0 (K.and (.bs v l)) := by
  obtain ⟨O, h1, h2, h3, h4⟩ := h
  exact ⟨O, h1.below hb, h2.trans (Turn.of_below hb O), (h3.turn (Turn.of_below hb O)).and (Keep.bs hv (h1.apart hv)), h4⟩
end

/-- Two memories, the program's and the reference's, made behind W. -/
def Two (W w : World) (mb rb : Nat) (M N : List UInt8) (K : Kp) : Prop := ∃ B O R, W.heap.size ≤ B ∧ B ≤ w.heap.size ∧ MemP w B mb M O ∧ RefP w B rb N R ∧ (∀ k, O k → ¬ R k) ∧ Below W.heap.size W w ∧ Keep w (fun k => O k ∨ R k) K
section
variable {W w : World} {mb rb : Nat} {M N : List UInt8} {K L : Kp}
theorem Turn.both {w w' : World} {O O' R : Nat → Prop} (h : Turn w w' O O') : Turn w w' (fun k => O k ∨ R k) (fun k => O' k ∨ R k) :=
  ⟨h.os, h.tape, h.output, h.size, fun k hk hn => h.block k hk (fun h1 => hn (.inl h1)), fun k hk => by
    rcases hk with hk | hk
    · rcases h.new k hk with h1 | h1
      · exact .inl (.inl h1)
      · exact .inr h1
    · exact .inl (.inr hk)⟩
theorem Turn.both' {w w' : World} {O R R' : Nat → Prop} (h : Turn w w' R R') : Turn w w' (fun k => O k ∨ R k) (fun k => O k ∨ R' k) :=
  ⟨h.os, h.tape, h.output, h.size, fun k hk hn => h.block k hk (fun h1 => hn (.inr h1)), fun k hk => by
    rcases hk with hk | hk
    · exact .inl (.inl hk)
    · rcases h.new k hk with h1 | h1
      · exact .inl (.inr h1)
      · exact .inr h1⟩
theorem Two.fact (h : Two W w mb rb M N K) : K.P w := by obtain ⟨_, _, _, _, _, _, _, _, _, h⟩ := h; exact h.1
theorem Two.bel (h : Two W w mb rb M N K) : Below W.heap.size W w := by obtain ⟨_, _, _, _, _, _, _, _, h, _⟩ := h; exact h
theorem Two.lenM (h : Two W w mb rb M N K) : M.length = 8192 := by obtain ⟨_, _, _, _, _, h, _⟩ := h; exact h.len
theorem Two.lenN (h : Two W w mb rb M N K) : N.length = 8192 := by obtain ⟨_, _, _, _, _, _, h, _⟩ := h; exact h.len
theorem Two.keep (h : Two W w mb rb M N K) (hL : ∀ O, Keep w O K → Keep w O L) : Two W w mb rb M N L := by
  obtain ⟨B, O, R, h1, h2, h3, h4, h5, h6, h7⟩ := h
  exact ⟨B, O, R, h1, h2, h3, h4, h5, h6, hL _ h7⟩
theorem Two.weak (h : Two W w mb rb M N (K.and L)) : Two W w mb rb M N K := h.keep fun _ h => h.left
theorem Two.below {w' : World} (h : Two W w mb rb M N K) (hb : Below w.heap.size w w') : Two W w' mb rb M N K := by
  obtain ⟨B, O, R, h1, h2, h3, h4, h5, h6, h7⟩ := h
  exact ⟨B, O, R, h1, Nat.le_trans h2 hb.size, h3.below hb, h4.below hb, h5, h6.trans (hb.mono (Nat.le_trans h1 h2)), h7.turn (Turn.of_below hb _)⟩
theorem Two.alloc (h : Two W w mb rb M N K) (o : Obj) : Two W (w.alloc o) mb rb M N K := h.below (bel_alloc (Below.refl _ _) o)
theorem Two.drew (h : Two W w mb rb M N K) : Two W w.drew mb rb M N K := h.below (bel_drew (Below.refl _ _))
theorem Two.newK {w' : World} (h : Two W w mb rb M N K) (hb : Below w.heap.size w w') (hL : L.P w') (hS : ∀ k, L.S k → w.heap.size ≤ k ∧ k < w'.heap.size) : Two W w' mb rb M N (K.and L) := by
  have h' := h.below hb
  obtain ⟨B, O, R, h1, h2, h3, h4, h5, h6, h7⟩ := h
  exact ⟨B, O, R, h1, Nat.le_trans h2 hb.size, h3.below hb, h4.below hb, h5, h6.trans (hb.mono (Nat.le_trans h1 h2)), (h7.turn (Turn.of_below hb _)).and ⟨hL, fun k hk => ⟨(hS k hk).2, fun hO => by
    have hk1 := (hS k hk).1
    rcases hO with hO | hO
    · have := (h3.lt hO).1; omega
    · have := (h4.lt hO).1; omega⟩⟩⟩
theorem Two.new (h : Two W w mb rb M N K) (c : Array Value) (t : TypeId) : Two W (w.alloc (.cells c t)) mb rb M N (K.and (.blk w.heap.size c t)) :=
  h.newK (bel_alloc (Below.refl _ _) _) (Blk.new _ _ _) (fun k hk => by cases hk; exact ⟨Nat.le_refl _, by simp⟩)
theorem Two.newBs {w' : World} (h : Two W w mb rb M N K) (hb : Below w.heap.size w w') {v : Value} {l : List UInt8} (hv : Bs w' w.heap.size v l) : Two W w' mb rb M N (K.and (.bs v l)) :=
  h.newK hb hv.zero (fun k hk => by
    rcases hv.lt with e | ⟨x, e, hx1, hx2⟩
    · rw [show v.ownBlock = some k from hk] at e; cases e
    · rw [show v.ownBlock = some k from hk] at e; cases e; exact ⟨hx1, hx2⟩)
theorem Two.set {b : Nat} {c : Array Value} {t : TypeId} (h : Two W w mb rb M N (K.and (.blk b c t))) (hb : W.heap.size ≤ b) (hK : ¬ K.S b) (o : Nat) (v : Value) : Two W (w.setCell ⟨b, o, none⟩ v) mb rb M N (K.and (.blk b (c.setIfInBounds o v) t)) := by
  obtain ⟨B, O, R, h1, h2, h3, h4, h5, h6, h7⟩ := h
  have hO : ¬ (O b ∨ R b) := (h7.2 b (.inr rfl)).2
  exact ⟨B, O, R, h1, by rw [World.size_setCell]; exact h2, h3.setOwn (fun h => hO (.inl h)) v, h4.kept (grownBy_setCell w b o v) (fun k hk => by cases hk; exact fun h => hO (.inr h)), h5, bel_set h6 hb v,
    (h7.left.set hK v).and (Keep.blk (h7.right.1.set o v) hO)⟩
/-- A call that the program's memory is handed to. -/
theorem Two.memX {α : Type} (h : Two W w mb rb M N K) {f : Nat} {args : Array Value} {ret : α → Value} {M' : α → List UInt8} {G : α → Kp} (c : ∀ B O, MemP w B mb M O → B ≤ w.heap.size → Calls Tryd.prog f args w fun e w' => MemX w w' B mb O ret M' G e)
    (hG : ∀ x w', (G x).P w' → ∀ k, (G x).S k → w.heap.size ≤ k) :
    Calls Tryd.prog f args w fun e w' => ∃ x, e = .returned (ret x) ∧ Two W w' mb rb (M' x) N (K.and (G x)) := by
  obtain ⟨B, O, R, h1, h2, h3, h4, h5, h6, h7⟩ := h
  refine (c B O h3 h2).mono fun e w' ⟨x, O', he, h8, h9, h10⟩ => ⟨x, he, B, O', R, h1, Nat.le_trans h2 h9.size, h8, h4.turn h9 (fun k hk hO => h5 k hO hk), fun k hk hR => h9.apart (fun hO => h5 k hO hR) (h4.lt hR).1 hk,
    h6.trans ((h9.below (fun k hk => (h3.lt hk).2) h2).mono h1), (h7.turn h9.both).and ⟨h10.1, fun k hk => ⟨(h10.2 k hk).1, fun hO => by
      rcases hO with hO | hO
      · exact (h10.2 k hk).2 hO
      · have := hG x w' h10.1 k hk; have := (h4.lt hO).1; omega⟩⟩⟩
theorem Two.mem (h : Two W w mb rb M N K) {f : Nat} {args : Array Value} {M' : List UInt8} {v : Value} (c : ∀ B O, MemP w B mb M O → B ≤ w.heap.size → Calls Tryd.prog f args w fun e w' => MemQ w w' B mb M' O v e) :
    Calls Tryd.prog f args w fun e w' => e = .returned v ∧ Two W w' mb rb M' N K :=
  (Two.memX (α := Unit) (ret := fun _ => v) (M' := fun _ => M') (G := fun _ => .emp) h (fun B O h1 h2 => (c B O h1 h2).mono fun e w' ⟨he, O', h3, h4⟩ => ⟨(), O', he, h3, h4, Keep.emp _ _⟩) (fun _ _ _ _ h => h.elim)).mono fun e w' ⟨_, he, h⟩ => ⟨he, h.keep fun _ h => h.left⟩
theorem Two.load (h : Two W w mb rb M N K) {f : Nat} {args : Array Value} {l : List UInt8} (c : ∀ B O, MemP w B mb M O → B ≤ w.heap.size → Calls Tryd.prog f args w fun e w' => LoadQ w w' B mb M O l e) :
    Calls Tryd.prog f args w fun e w' => ∃ v, e = .returned v ∧ Two W w' mb rb M N (K.and (.bs v l)) := by
  obtain ⟨B, O, R, h1, h2, h3, h4, h5, h6, h7⟩ := h
  refine (c B O h3 h2).mono fun e w' ⟨v, O', he, hv, h8, h9, h10⟩ => ⟨v, he, B, O', R, h1, Nat.le_trans h2 h9.size, h8, h4.turn h9 (fun k hk hO => h5 k hO hk), fun k hk hR => h9.apart (fun hO => h5 k hO hR) (h4.lt hR).1 hk,
    h6.trans ((h9.below (fun k hk => (h3.lt hk).2) h2).mono h1), (h7.turn h9.both).and (Keep.bs hv (fun k hk hO => by
      rcases hO with hO | hO
      · exact h10 k hk hO
      · have := hv.geB hk; have := (h4.lt hO).1; omega))⟩
/-- A call that the reference's memory is handed to. -/
theorem Two.ref (h : Two W w mb rb M N K) {f : Nat} {args : Array Value} {N' : List UInt8} {v : Value} (c : ∀ B R, RefP w B rb N R → B ≤ w.heap.size → Calls Tryd.prog f args w fun e w' => RefQ w w' B rb N' R v e) :
    Calls Tryd.prog f args w fun e w' => e = .returned v ∧ Two W w' mb rb M N' K := by
  obtain ⟨B, O, R, h1, h2, h3, h4, h5, h6, h7⟩ := h
  refine (c B R h4 h2).mono fun e w' ⟨he, R', h8, h9⟩ => ⟨he, B, O, R', h1, Nat.le_trans h2 h9.size, h3.turn h9 (fun k hk hR => h5 k hk hR), h8, fun k hk => h9.apart (h5 k hk) (h3.lt hk).1,
    h6.trans ((h9.below (fun k hk => (h4.lt hk).2) h2).mono h1), h7.turn h9.both'⟩
/-- .. that only reads it. -/
theorem Two.refB (h : Two W w mb rb M N K) {f : Nat} {args : Array Value} {Q : Ending → World → Prop} (c : ∀ B R, RefP w B rb N R → Calls Tryd.prog f args w fun e w' => Q e w' ∧ Below w.heap.size w w') :
    Calls Tryd.prog f args w fun e w' => Q e w' ∧ Two W w' mb rb M N K := by
  have h' := h
  obtain ⟨B, O, R, h1, h2, h3, h4, h5, h6, h7⟩ := h
  exact (c B R h4).mono fun e w' ⟨he, hb⟩ => ⟨he, h'.below hb⟩
theorem Two.refBs (h : Two W w mb rb M N K) {f : Nat} {args : Array Value} {l : List UInt8} (c : ∀ B R, RefP w B rb N R → Calls Tryd.prog f args w fun e w' => ∃ v, e = .returned v ∧ Bs w' w.heap.size v l ∧ Below w.heap.size w w') :
    Calls Tryd.prog f args w fun e w' => ∃ v, e = .returned v ∧ Two W w' mb rb M N (K.and (.bs v l)) := by
  have h' := h
  obtain ⟨B, O, R, h1, h2, h3, h4, h5, h6, h7⟩ := h
  exact (c B R h4).mono fun e w' ⟨v, he, hv, hb⟩ => ⟨v, he, h'.newBs hb hv⟩
theorem Two.still (h : Two W w mb rb M N K) {f : Nat} {args : Array Value} {Q : Ending → World → Prop} (c : Calls Tryd.prog f args w fun e w' => Q e w' ∧ Below w.heap.size w w') :
    Calls Tryd.prog f args w fun e w' => Q e w' ∧ Two W w' mb rb M N K := c.mono fun e w' ⟨hq, hb⟩ => ⟨hq, h.below hb⟩
end
end Go.Proofs.YtjkpapkjlmglbaaDoor
