/- Texts merged: Q1 VS NM SP QR Q2 T1 T2 T3. -/
import Derived.Test.YtkcmphjgflbchaaZ2
/- States of a walk: the memory, what else is known, what has turned. -/
namespace Go.Proofs.Ytkcmphjgflbchaa
open Go.RowKit
set_option linter.unusedVariables false
set_option linter.unusedSimpArgs false

theorem Blk.c6 {w : World} {b : Nat} {x y z u v s : Value} {t : TypeId} (h : Blk w b #[x, y, z, u, v, s] t) : w.cell? ⟨b, 0, none⟩ = some x ∧ w.cell? ⟨b, 1, none⟩ = some y ∧ w.cell? ⟨b, 2, none⟩ = some z ∧ w.cell? ⟨b, 3, none⟩ = some u ∧ w.cell? ⟨b, 4, none⟩ = some v ∧ w.cell? ⟨b, 5, none⟩ = some s :=
  ⟨h.cell 0, h.cell 1, h.cell 2, h.cell 3, h.cell 4, h.cell 5⟩
theorem Blk.c3' {w : World} {b : Nat} {x y z : Value} {t : TypeId} (h : Blk w b #[x, y, z] t) : w.cell? ⟨b, 0, none⟩ = some x ∧ w.cell? ⟨b, 1, none⟩ = some y ∧ w.cell? ⟨b, 2, none⟩ = some z :=
  ⟨h.cell 0, h.cell 1, h.cell 2⟩
/-- A fact on worlds that hangs on the blocks S alone. -/
structure Kp where
  S : Nat → Prop
  P : World → Prop
  stable : ∀ w1 w2 : World, (∀ k, S k → k < w1.heap.size → w2.heap[k]? = w1.heap[k]?) → w1.heap.size ≤ w2.heap.size → P w1 → P w2
def Kp.emp : Kp := ⟨fun _ => False, fun _ => True, fun _ _ _ _ h => h⟩
def Kp.pure (p : Prop) : Kp := ⟨fun _ => False, fun _ => p, fun _ _ _ _ h => h⟩
def Kp.and (K L : Kp) : Kp := ⟨fun k => K.S k ∨ L.S k, fun w => K.P w ∧ L.P w, fun w1 w2 h hs hp => ⟨K.stable w1 w2 (fun k hk => h k (.inl hk)) hs hp.1, L.stable w1 w2 (fun k hk => h k (.inr hk)) hs hp.2⟩⟩
def Kp.blk (b : Nat) (c : Array Value) (t : TypeId) : Kp := ⟨fun k => k = b, fun w => Blk w b c t, fun w1 w2 h hs hp => by
  have := h b rfl hp.lt
  unfold Blk at *
  rw [this]; exact hp⟩
theorem cell_of_block {w1 w2 : World} {b : Nat} (h : w2.heap[b]? = w1.heap[b]?) (o : Nat) : w2.cell? ⟨b, o, none⟩ = w1.cell? ⟨b, o, none⟩ := by simp [World.cell?, h]
theorem frozen_of_block {w1 w2 : World} {b : Nat} (h : w2.heap[b]? = w1.heap[b]?) (o : Nat) : w2.frozen? ⟨b, o, none⟩ = w1.frozen? ⟨b, o, none⟩ := by simp [World.frozen?, h]
def Kp.bs (v : Value) (l : List UInt8) : Kp := ⟨fun k => v.ownBlock = some k, fun w => Bs w 0 v l, fun w1 w2 h hs hp => by
  rcases hp with hp | ⟨b, o, cap, rfl, h2, h3, h4, h5, h6⟩
  · exact .inl hp
  · have e := h b rfl h3
    exact .inr ⟨b, o, cap, rfl, h2, Nat.lt_of_lt_of_le h3 hs, h4, fun j hj => by rw [cell_of_block e]; exact h5 j hj, fun j hj => by rw [cell_of_block e, frozen_of_block e]; exact h6 j hj⟩⟩
theorem Bs.zero {w : World} {B : Nat} {v : Value} {l : List UInt8} (h : Bs w B v l) : Bs w 0 v l := h.mono (Nat.zero_le _)
theorem cellA_of_block {w1 w2 : World} {a : Addr} (h : w2.heap[a.block]? = w1.heap[a.block]?) : w2.cell? a = w1.cell? a := by
  simp [World.cell?, h]
theorem add_block (a : Addr) (j : Nat) : (a.add j).block = a.block := by simp only [Addr.add]; split <;> rfl
def Kp.rb (v : Value) (l : List UInt8) : Kp := ⟨fun k => l ≠ [] ∧ ∃ a n cap, v = .slice (some a) n cap ∧ a.block = k, fun w => Rb w v l, fun w1 w2 h hs hp => by
  rcases hp with hp | ⟨a, cap, rfl, h2⟩
  · exact .inl hp
  · refine .inr ⟨a, cap, rfl, fun j hj => ?_⟩
    have hc := h2 j hj
    have hb : a.block < w1.heap.size := by
      have := World.block_lt_of_cell? w1 (a.add j) hc
      rw [add_block] at this; exact this
    have e := h a.block ⟨by intro e; subst e; simp at hj, a, _, cap, rfl, rfl⟩ hb
    exact (cellA_of_block (a := a.add j) (by rw [add_block]; exact e)).trans hc⟩
/-- K holds, apart from the blocks O. -/
def Keep (w : World) (O : Nat → Prop) (K : Kp) : Prop := K.P w ∧ ∀ k, K.S k → k < w.heap.size ∧ ¬ O k
theorem Keep.turn {w w' : World} {O O' : Nat → Prop} {K : Kp} (h : Keep w O K) (hT : Turn w w' O O') : Keep w' O' K :=
  ⟨K.stable w w' (fun k hk hl => hT.block k hl (h.2 k hk).2) hT.size h.1, fun k hk => ⟨Nat.lt_of_lt_of_le (h.2 k hk).1 hT.size, fun hO => by
    rcases hT.new k hO with h1 | h1
    · exact (h.2 k hk).2 h1
    · have := (h.2 k hk).1; omega⟩⟩
theorem Keep.and {w : World} {O : Nat → Prop} {K L : Kp} (h : Keep w O K) (h2 : Keep w O L) : Keep w O (K.and L) :=
  ⟨⟨h.1, h2.1⟩, fun k hk => by
    rcases hk with hk | hk
    · exact h.2 k hk
    · exact h2.2 k hk⟩
theorem Keep.left {w : World} {O : Nat → Prop} {K L : Kp} (h : Keep w O (K.and L)) : Keep w O K := ⟨h.1.1, fun k hk => h.2 k (.inl hk)⟩
theorem Keep.right {w : World} {O : Nat → Prop} {K L : Kp} (h : Keep w O (K.and L)) : Keep w O L := ⟨h.1.2, fun k hk => h.2 k (.inr hk)⟩
theorem Keep.emp (w : World) (O : Nat → Prop) : Keep w O .emp := ⟨trivial, fun k hk => hk.elim⟩
theorem Keep.pure {w : World} {O : Nat → Prop} {p : Prop} (h : p) : Keep w O (.pure p) := ⟨h, fun k hk => hk.elim⟩
theorem Keep.blk {w : World} {O : Nat → Prop} {b : Nat} {c : Array Value} {t : TypeId} (h : Blk w b c t) (hO : ¬ O b) : Keep w O (.blk b c t) := ⟨h, fun k hk => by cases hk; exact ⟨h.lt, hO⟩⟩
theorem Keep.bs {w : World} {O : Nat → Prop} {B : Nat} {v : Value} {l : List UInt8} (h : Bs w B v l) (hO : ∀ k, v.ownBlock = some k → ¬ O k) : Keep w O (.bs v l) :=
  ⟨h.zero, fun k hk => ⟨by
    rcases h.lt with e | ⟨x, e, _, hx⟩
    · rw [show v.ownBlock = some k from hk] at e; cases e
    · rw [show v.ownBlock = some k from hk] at e; cases e; exact hx, hO k hk⟩⟩
theorem Keep.rb {w : World} {v : Value} {l : List UInt8} (h : Rb w v l) : Keep w (fun _ => False) (.rb v l) := ⟨h, fun k hk => by
  obtain ⟨hl, a, n, cap, hv, rfl⟩ := hk
  rcases h with ⟨_, e⟩ | ⟨a', cap', hv2, h2⟩
  · exact (hl e).elim
  · rw [hv2] at hv; cases hv
    have hj : 0 < l.length := List.length_pos_iff.2 hl
    have := World.block_lt_of_cell? w (a.add 0) (h2 0 hj)
    rw [add_block] at this; exact ⟨this, id⟩⟩
theorem Keep.wider {w : World} {O O' : Nat → Prop} {K : Kp} (h : Keep w O K) (hO : ∀ k, O' k → O k ∨ w.heap.size ≤ k) : Keep w O' K := ⟨h.1, fun k hk => ⟨(h.2 k hk).1, fun h1 => by
  rcases hO k h1 with h2 | h2
  · exact (h.2 k hk).2 h2
  · have := (h.2 k hk).1; omega⟩⟩
theorem Keep.set {w : World} {O : Nat → Prop} {K : Kp} (h : Keep w O K) {b o : Nat} (hb : ¬ K.S b) (v : Value) : Keep (w.setCell ⟨b, o, none⟩ v) O K :=
  ⟨K.stable w _ (fun k hk hl => Below.heap_setCell _ _ _ _ (fun e => hb (by subst e; exact hk))) (Nat.le_of_eq (World.size_setCell _ _ _).symm) h.1, fun k hk => by rw [World.size_setCell]; exact h.2 k hk⟩
theorem Bs.geB {w : World} {B k : Nat} {v : Value} {l : List UInt8} (h : Bs w B v l) (e : v.ownBlock = some k) : B ≤ k := by
  rcases h.lt with e2 | ⟨x, e2, hx, _⟩
  · rw [e] at e2; cases e2
  · rw [e] at e2; cases e2; exact hx
theorem Turn.apart {w w' : World} {O O' : Nat → Prop} {k : Nat} (h : Turn w w' O O') (hk : ¬ O k) (hlt : k < w.heap.size) : ¬ O' k := fun h1 => by
  rcases h.new k h1 with h2 | h2
  · exact hk h2
  · omega
theorem Turn.setOwn {w w' : World} {O O' : Nat → Prop} (h : Turn w w' O O') {b o : Nat} (hb : w.heap.size ≤ b) (v : Value) : Turn w (w'.setCell ⟨b, o, none⟩ v) O O' :=
  ⟨h.os, h.tape, h.output, by rw [World.size_setCell]; exact h.size, fun k hk hO => (Below.heap_setCell _ _ _ _ (show k ≠ b by omega)).trans (h.block k hk hO), h.new⟩
theorem Turn.drawn {w w' : World} {O O' : Nat → Prop} (h : Turn w w' O O') : Turn w w'.drew O O' := ⟨h.os, h.tape, h.output, h.size, h.block, h.new⟩
theorem MemP.drawn {w : World} {base mb : Nat} {M : List UInt8} {O : Nat → Prop} (h : MemP w base mb M O) : MemP w.drew base mb M O := h.below (bel_drew (Below.refl _ _))
theorem MemP.setOwn {w : World} {base mb : Nat} {M : List UInt8} {O : Nat → Prop} (h : MemP w base mb M O) {b o : Nat} (hb : ¬ O b) (v : Value) : MemP (w.setCell ⟨b, o, none⟩ v) base mb M O :=
  h.kept (grownBy_setCell w b o v) (fun k hk => by cases hk; exact hb)

/-- From W, whose memory's blocks were O0, the walk has come to w: the memory is M, K holds. -/
def One (W w : World) (B mb : Nat) (M : List UInt8) (O0 : Nat → Prop) (K : Kp) : Prop := ∃ O, MemP w B mb M O ∧ Turn W w O0 O ∧ Keep w O K ∧ B ≤ W.heap.size
section
variable {W w : World} {B mb : Nat} {M : List UInt8} {O0 : Nat → Prop} {K L : Kp}
theorem One.start {O : Nat → Prop} (h : MemP w B mb M O) (hB : B ≤ w.heap.size) : One w w B mb M O .emp := ⟨O, h, Turn.refl _ _, Keep.emp _ _, hB⟩
theorem One.startK {O : Nat → Prop} (h : MemP w B mb M O) (hB : B ≤ w.heap.size) (hK : Keep w O K) : One w w B mb M O K := ⟨O, h, Turn.refl _ _, hK, hB⟩
theorem One.fact (h : One W w B mb M O0 K) : K.P w := by obtain ⟨_, _, _, h, _⟩ := h; exact h.1
theorem One.size (h : One W w B mb M O0 K) : W.heap.size ≤ w.heap.size := by obtain ⟨_, _, h, _⟩ := h; exact h.size
theorem One.slt (h : One W w B mb M O0 K) {k : Nat} (hk : K.S k) : k < w.heap.size := by obtain ⟨_, _, _, h, _⟩ := h; exact (h.2 k hk).1
theorem One.len (h : One W w B mb M O0 K) : M.length = 8192 := by obtain ⟨_, h, _⟩ := h; exact h.len
theorem One.memQ (h : One W w B mb M O0 K) (v : Value) : MemQ W w B mb M O0 v (.returned v) := by obtain ⟨O, h1, h2, _⟩ := h; exact ⟨rfl, O, h1, h2⟩
theorem One.weak (h : One W w B mb M O0 (K.and L)) : One W w B mb M O0 K := by obtain ⟨O, h1, h2, h3, h4⟩ := h; exact ⟨O, h1, h2, h3.left, h4⟩
theorem One.last (h : One W w B mb M O0 (K.and L)) : One W w B mb M O0 L := by obtain ⟨O, h1, h2, h3, h4⟩ := h; exact ⟨O, h1, h2, h3.right, h4⟩
theorem One.keep (h : One W w B mb M O0 K) (hL : ∀ O, Keep w O K → Keep w O L) : One W w B mb M O0 L := by obtain ⟨O, h1, h2, h3, h4⟩ := h; exact ⟨O, h1, h2, hL O h3, h4⟩
theorem One.alloc (h : One W w B mb M O0 K) (o : Obj) : One W (w.alloc o) B mb M O0 K := by
  obtain ⟨O, h1, h2, h3, h4⟩ := h
  have hb : Below w.heap.size w (w.alloc o) := bel_alloc (Below.refl _ _) o
  exact ⟨O, h1.below hb, h2.trans (Turn.of_below hb O), h3.turn (Turn.of_below hb O), h4⟩
theorem One.new (h : One W w B mb M O0 K) (c : Array Value) (t : TypeId) : One W (w.alloc (.cells c t)) B mb M O0 (K.and (.blk w.heap.size c t)) := by
  obtain ⟨O, h1, h2, h3, h4⟩ := h
  have hb : Below w.heap.size w (w.alloc (.cells c t)) := bel_alloc (Below.refl _ _) _
  exact ⟨O, h1.below hb, h2.trans (Turn.of_below hb O), (h3.turn (Turn.of_below hb O)).and (Keep.blk (Blk.new _ _ _) (fun hO => by have := (h1.lt hO).1; omega)), h4⟩
theorem One.drew (h : One W w B mb M O0 K) : One W w.drew B mb M O0 K := by
  obtain ⟨O, h1, h2, h3, h4⟩ := h
  exact ⟨O, h1.drawn, h2.drawn, h3.turn (Turn.of_below (bel_drew (Below.refl _ _)) O), h4⟩
theorem One.set {b : Nat} {c : Array Value} {t : TypeId} (h : One W w B mb M O0 (K.and (.blk b c t))) (hb : W.heap.size ≤ b) (hK : ¬ K.S b) (o : Nat) (v : Value) : One W (w.setCell ⟨b, o, none⟩ v) B mb M O0 (K.and (.blk b (c.setIfInBounds o v) t)) := by
  obtain ⟨O, h1, h2, h3, h4⟩ := h
  have hO : ¬ O b := (h3.2 b (.inr rfl)).2
  exact ⟨O, h1.setOwn hO v, h2.setOwn hb v, (h3.left.set hK v).and (Keep.blk (h3.right.1.set o v) hO), h4⟩
/-- A call that the memory is handed to. -/
theorem One.mem (h : One W w B mb M O0 K) {f : Nat} {args : Array Value} {M' : List UInt8} {v : Value} (c : ∀ O, MemP w B mb M O → B ≤ w.heap.size → Calls Try.prog f args w fun e w' => MemQ w w' B mb M' O v e) :
    Calls Try.prog f args w fun e w' => e = .returned v ∧ One W w' B mb M' O0 K := by
  obtain ⟨O, h1, h2, h3, h4⟩ := h
  refine (c O h1 (Nat.le_trans h4 h2.size)).mono fun e w' ⟨he, O', h5, h6⟩ => ⟨he, O', h5, h2.trans h6, h3.turn h6, h4⟩
/-- A call that gives something new besides. -/
def MemX {α : Type} (w w' : World) (B mb : Nat) (O : Nat → Prop) (ret : α → Value) (M' : α → List UInt8) (G : α → Kp) (e : Ending) : Prop := ∃ x O', e = .returned (ret x) ∧ MemP w' B mb (M' x) O' ∧ Turn w w' O O' ∧ Keep w' O' (G x)
theorem One.memX {α : Type} (h : One W w B mb M O0 K) {f : Nat} {args : Array Value} {ret : α → Value} {M' : α → List UInt8} {G : α → Kp} (c : ∀ O, MemP w B mb M O → B ≤ w.heap.size → Calls Try.prog f args w fun e w' => MemX w w' B mb O ret M' G e) :
    Calls Try.prog f args w fun e w' => ∃ x, e = .returned (ret x) ∧ One W w' B mb (M' x) O0 (K.and (G x)) := by
  obtain ⟨O, h1, h2, h3, h4⟩ := h
  refine (c O h1 (Nat.le_trans h4 h2.size)).mono fun e w' ⟨x, O', he, h5, h6, h7⟩ => ⟨x, he, O', h5, h2.trans h6, (h3.turn h6).and h7, h4⟩
theorem One.load (h : One W w B mb M O0 K) {f : Nat} {args : Array Value} {l : List UInt8} (c : ∀ O, MemP w B mb M O → B ≤ w.heap.size → Calls Try.prog f args w fun e w' => LoadQ w w' B mb M O l e) :
    Calls Try.prog f args w fun e w' => ∃ v, e = .returned v ∧ One W w' B mb M O0 (K.and (.bs v l)) := by
  obtain ⟨O, h1, h2, h3, h4⟩ := h
  refine (c O h1 (Nat.le_trans h4 h2.size)).mono fun e w' ⟨v, O', he, h5, h6, h7, h8⟩ => ⟨v, he, O', h6, h2.trans h7, (h3.turn h7).and (Keep.bs h5 h8), h4⟩
/-- A call that changes nothing that there was. -/
theorem One.below {w' : World} (h : One W w B mb M O0 K) (hb : Below w.heap.size w w') : One W w' B mb M O0 K := by
  obtain ⟨O, h1, h2, h3, h4⟩ := h
  exact ⟨O, h1.below hb, h2.trans (Turn.of_below hb O), h3.turn (Turn.of_below hb O), h4⟩
theorem One.still (h : One W w B mb M O0 K) {f : Nat} {args : Array Value} {Q : Ending → World → Prop} (c : Calls Try.prog f args w fun e w' => Q e w' ∧ Below w.heap.size w w') :
    Calls Try.prog f args w fun e w' => Q e w' ∧ One W w' B mb M O0 K := c.mono fun e w' ⟨hq, hb⟩ => ⟨hq, h.below hb⟩
/-- New bytes, behind a call that changes nothing that there was. -/
theorem One.newBs {w' : World} (h : One W w B mb M O0 K) (hb : Below w.heap.size w w') {v : Value} {l : List UInt8} (hv : Bs w' w.heap.size v l) : One W w' B mb M O0 (K.and (.bs v l)) := by
  obtain ⟨O, h1, h2, h3, h4⟩ := h
  exact ⟨O, h1.below hb, h2.trans (Turn.of_below hb O), (h3.turn (Turn.of_below hb O)).and (Keep.bs hv (h1.apart hv)), h4⟩
end

/-- Two memories, the program's and the reference's, made behind W. -/
def Two (W w : World) (mb rb : Nat) (M N : List UInt8) (K : Kp) : Prop := ∃ B O R, W.heap.size ≤ B ∧ B ≤ w.heap.size ∧ MemP w B mb M O ∧ RefP w B rb N R ∧ (∀ k, O k → ¬ R k) ∧ Below W.heap.size W w ∧ Keep w (fun k => O k ∨ R k) K
section
variable {W w : World} {mb rb : Nat} {M N : List UInt8} {K L : Kp}
theorem Turn.both {w w' : World} {O O' R : Nat → Prop} (h : Turn w w' O O') : Turn w w' (fun k => O k ∨ R k) (fun k => O' k ∨ R k) :=
  ⟨h.os, h.tape, h.output, h.size, fun k hk hn => h.block k hk (fun h1 => hn (.inl h1)), fun k hk => by
    rcases hk with hk | hk
    · rcases h.new k hk with h1 | h1
      · exact .inl (.inl h1)
      · exact .inr h1
    · exact .inl (.inr hk)⟩
theorem Turn.both' {w w' : World} {O R R' : Nat → Prop} (h : Turn w w' R R') : Turn w w' (fun k => O k ∨ R k) (fun k => O k ∨ R' k) :=
  ⟨h.os, h.tape, h.output, h.size, fun k hk hn => h.block k hk (fun h1 => hn (.inr h1)), fun k hk => by
    rcases hk with hk | hk
    · exact .inl (.inl hk)
    · rcases h.new k hk with h1 | h1
      · exact .inl (.inr h1)
      · exact .inr h1⟩
theorem Two.fact (h : Two W w mb rb M N K) : K.P w := by obtain ⟨_, _, _, _, _, _, _, _, _, h⟩ := h; exact h.1
theorem Two.bel (h : Two W w mb rb M N K) : Below W.heap.size W w := by obtain ⟨_, _, _, _, _, _, _, _, h, _⟩ := h; exact h
theorem Two.lenM (h : Two W w mb rb M N K) : M.length = 8192 := by obtain ⟨_, _, _, _, _, h, _⟩ := h; exact h.len
theorem Two.lenN (h : Two W w mb rb M N K) : N.length = 8192 := by obtain ⟨_, _, _, _, _, _, h, _⟩ := h; exact h.len
theorem Two.keep (h : Two W w mb rb M N K) (hL : ∀ O, Keep w O K → Keep w O L) : Two W w mb rb M N L := by
  obtain ⟨B, O, R, h1, h2, h3, h4, h5, h6, h7⟩ := h
  exact ⟨B, O, R, h1, h2, h3, h4, h5, h6, hL _ h7⟩
theorem Two.weak (h : Two W w mb rb M N (K.and L)) : Two W w mb rb M N K := h.keep fun _ h => h.left
theorem Two.below {w' : World} (h : Two W w mb rb M N K) (hb : Below w.heap.size w w') : Two W w' mb rb M N K := by
  obtain ⟨B, O, R, h1, h2, h3, h4, h5, h6, h7⟩ := h
  exact ⟨B, O, R, h1, Nat.le_trans h2 hb.size, h3.below hb, h4.below hb, h5, h6.trans (hb.mono (Nat.le_trans h1 h2)), h7.turn (Turn.of_below hb _)⟩
theorem Two.alloc (h : Two W w mb rb M N K) (o : Obj) : Two W (w.alloc o) mb rb M N K := h.below (bel_alloc (Below.refl _ _) o)
theorem Two.drew (h : Two W w mb rb M N K) : Two W w.drew mb rb M N K := h.below (bel_drew (Below.refl _ _))
theorem Two.newK {w' : World} (h : Two W w mb rb M N K) (hb : Below w.heap.size w w') (hL : L.P w') (hS : ∀ k, L.S k → w.heap.size ≤ k ∧ k < w'.heap.size) : Two W w' mb rb M N (K.and L) := by
  have h' := h.below hb
  obtain ⟨B, O, R, h1, h2, h3, h4, h5, h6, h7⟩ := h
  exact ⟨B, O, R, h1, Nat.le_trans h2 hb.size, h3.below hb, h4.below hb, h5, h6.trans (hb.mono (Nat.le_trans h1 h2)), (h7.turn (Turn.of_below hb _)).and ⟨hL, fun k hk => ⟨(hS k hk).2, fun hO => by
    have hk1 := (hS k hk).1
    rcases hO with hO | hO
    · have := (h3.lt hO).1; omega
    · have := (h4.lt hO).1; omega⟩⟩⟩
theorem Two.new (h : Two W w mb rb M N K) (c : Array Value) (t : TypeId) : Two W (w.alloc (.cells c t)) mb rb M N (K.and (.blk w.heap.size c t)) :=
  h.newK (bel_alloc (Below.refl _ _) _) (Blk.new _ _ _) (fun k hk => by cases hk; exact ⟨Nat.le_refl _, by simp⟩)
theorem Two.newBs {w' : World} (h : Two W w mb rb M N K) (hb : Below w.heap.size w w') {v : Value} {l : List UInt8} (hv : Bs w' w.heap.size v l) : Two W w' mb rb M N (K.and (.bs v l)) :=
  h.newK hb hv.zero (fun k hk => by
    rcases hv.lt with e | ⟨x, e, hx1, hx2⟩
    · rw [show v.ownBlock = some k from hk] at e; cases e
    · rw [show v.ownBlock = some k from hk] at e; cases e; exact ⟨hx1, hx2⟩)
theorem Two.set {b : Nat} {c : Array Value} {t : TypeId} (h : Two W w mb rb M N (K.and (.blk b c t))) (hb : W.heap.size ≤ b) (hK : ¬ K.S b) (o : Nat) (v : Value) : Two W (w.setCell ⟨b, o, none⟩ v) mb rb M N (K.and (.blk b (c.setIfInBounds o v) t)) := by
  obtain ⟨B, O, R, h1, h2, h3, h4, h5, h6, h7⟩ := h
  have hO : ¬ (O b ∨ R b) := (h7.2 b (.inr rfl)).2
  exact ⟨B, O, R, h1, by rw [World.size_setCell]; exact h2, h3.setOwn (fun h => hO (.inl h)) v, h4.kept (grownBy_setCell w b o v) (fun k hk => by cases hk; exact fun h => hO (.inr h)), h5, bel_set h6 hb v,
    (h7.left.set hK v).and (Keep.blk (h7.right.1.set o v) hO)⟩
/-- A call that the program's memory is handed to. -/
theorem Two.memX {α : Type} (h : Two W w mb rb M N K) {f : Nat} {args : Array Value} {ret : α → Value} {M' : α → List UInt8} {G : α → Kp} (c : ∀ B O, MemP w B mb M O → B ≤ w.heap.size → Calls Try.prog f args w fun e w' => MemX w w' B mb O ret M' G e)
    (hG : ∀ x w', (G x).P w' → ∀ k, (G x).S k → w.heap.size ≤ k) :
    Calls Try.prog f args w fun e w' => ∃ x, e = .returned (ret x) ∧ Two W w' mb rb (M' x) N (K.and (G x)) := by
  obtain ⟨B, O, R, h1, h2, h3, h4, h5, h6, h7⟩ := h
  refine (c B O h3 h2).mono fun e w' ⟨x, O', he, h8, h9, h10⟩ => ⟨x, he, B, O', R, h1, Nat.le_trans h2 h9.size, h8, h4.turn h9 (fun k hk hO => h5 k hO hk), fun k hk hR => h9.apart (fun hO => h5 k hO hR) (h4.lt hR).1 hk,
    h6.trans ((h9.below (fun k hk => (h3.lt hk).2) h2).mono h1), (h7.turn h9.both).and ⟨h10.1, fun k hk => ⟨(h10.2 k hk).1, fun hO => by
      rcases hO with hO | hO
      · exact (h10.2 k hk).2 hO
      · have := hG x w' h10.1 k hk; have := (h4.lt hO).1; omega⟩⟩⟩
theorem Two.mem (h : Two W w mb rb M N K) {f : Nat} {args : Array Value} {M' : List UInt8} {v : Value} (c : ∀ B O, MemP w B mb M O → B ≤ w.heap.size → Calls Try.prog f args w fun e w' => MemQ w w' B mb M' O v e) :
    Calls Try.prog f args w fun e w' => e = .returned v ∧ Two W w' mb rb M' N K :=
  (Two.memX (α := Unit) (ret := fun _ => v) (M' := fun _ => M') (G := fun _ => .emp) h (fun B O h1 h2 => (c B O h1 h2).mono fun e w' ⟨he, O', h3, h4⟩ => ⟨(), O', he, h3, h4, Keep.emp _ _⟩) (fun _ _ _ _ h => h.elim)).mono fun e w' ⟨_, he, h⟩ => ⟨he, h.keep fun _ h => h.left⟩
theorem Two.load (h : Two W w mb rb M N K) {f : Nat} {args : Array Value} {l : List UInt8} (c : ∀ B O, MemP w B mb M O → B ≤ w.heap.size → Calls Try.prog f args w fun e w' => LoadQ w w' B mb M O l e) :
    Calls Try.prog f args w fun e w' => ∃ v, e = .returned v ∧ Two W w' mb rb M N (K.and (.bs v l)) := by
  obtain ⟨B, O, R, h1, h2, h3, h4, h5, h6, h7⟩ := h
  refine (c B O h3 h2).mono fun e w' ⟨v, O', he, hv, h8, h9, h10⟩ => ⟨v, he, B, O', R, h1, Nat.le_trans h2 h9.size, h8, h4.turn h9 (fun k hk hO => h5 k hO hk), fun k hk hR => h9.apart (fun hO => h5 k hO hR) (h4.lt hR).1 hk,
    h6.trans ((h9.below (fun k hk => (h3.lt hk).2) h2).mono h1), (h7.turn h9.both).and (Keep.bs hv (fun k hk hO => by
      rcases hO with hO | hO
      · exact h10 k hk hO
      · have := hv.geB hk; have := (h4.lt hO).1; omega))⟩
/-- A call that the reference's memory is handed to. -/
theorem Two.ref (h : Two W w mb rb M N K) {f : Nat} {args : Array Value} {N' : List UInt8} {v : Value} (c : ∀ B R, RefP w B rb N R → B ≤ w.heap.size → Calls Try.prog f args w fun e w' => RefQ w w' B rb N' R v e) :
    Calls Try.prog f args w fun e w' => e = .returned v ∧ Two W w' mb rb M N' K := by
  obtain ⟨B, O, R, h1, h2, h3, h4, h5, h6, h7⟩ := h
  refine (c B R h4 h2).mono fun e w' ⟨he, R', h8, h9⟩ => ⟨he, B, O, R', h1, Nat.le_trans h2 h9.size, h3.turn h9 (fun k hk hR => h5 k hk hR), h8, fun k hk => h9.apart (h5 k hk) (h3.lt hk).1,
    h6.trans ((h9.below (fun k hk => (h4.lt hk).2) h2).mono h1), h7.turn h9.both'⟩
/-- .. that only reads it. -/
theorem Two.refB (h : Two W w mb rb M N K) {f : Nat} {args : Array Value} {Q : Ending → World → Prop} (c : ∀ B R, RefP w B rb N R → Calls Try.prog f args w fun e w' => Q e w' ∧ Below w.heap.size w w') :
    Calls Try.prog f args w fun e w' => Q e w' ∧ Two W w' mb rb M N K := by
  have h' := h
  obtain ⟨B, O, R, h1, h2, h3, h4, h5, h6, h7⟩ := h
  exact (c B R h4).mono fun e w' ⟨he, hb⟩ => ⟨he, h'.below hb⟩
theorem Two.refBs (h : Two W w mb rb M N K) {f : Nat} {args : Array Value} {l : List UInt8} (c : ∀ B R, RefP w B rb N R → Calls Try.prog f args w fun e w' => ∃ v, e = .returned v ∧ Bs w' w.heap.size v l ∧ Below w.heap.size w w') :
    Calls Try.prog f args w fun e w' => ∃ v, e = .returned v ∧ Two W w' mb rb M N (K.and (.bs v l)) := by
  have h' := h
  obtain ⟨B, O, R, h1, h2, h3, h4, h5, h6, h7⟩ := h
  exact (c B R h4).mono fun e w' ⟨v, he, hv, hb⟩ => ⟨v, he, h'.newBs hb hv⟩
theorem Two.still (h : Two W w mb rb M N K) {f : Nat} {args : Array Value} {Q : Ending → World → Prop} (c : Calls Try.prog f args w fun e w' => Q e w' ∧ Below w.heap.size w w') :
    Calls Try.prog f args w fun e w' => Q e w' ∧ Two W w' mb rb M N K := c.mono fun e w' ⟨hq, hb⟩ => ⟨hq, h.below hb⟩
end
end Go.Proofs.Ytkcmphjgflbchaa

/- A slice that holds known cells: what append and slicing do with it. -/
namespace Go.Proofs.Ytkcmphjgflbchaa
open Go.RowKit
set_option linter.unusedVariables false
set_option linter.unusedSimpArgs false

/-- The slice value v holds n elements of k cells, cs, in a block from B on; none of its cells is frozen. -/
def Vs (w : World) (B k : Nat) (v : Value) (n : Nat) (cs : List Value) : Prop :=
  cs.length = n * k ∧ (∀ u ∈ cs, u.oneCell' = true) ∧ ((v = .slice none 0 0 ∧ n = 0) ∨
  ∃ b o cap, v = .slice (some ⟨b, o, none⟩) n cap ∧ B ≤ b ∧ b < w.heap.size ∧ n ≤ cap ∧ (∀ j u, cs[j]? = some u → w.cell? ⟨b, o + j, none⟩ = some u) ∧
    (∀ j, j < cap * k → (w.cell? ⟨b, o + j, none⟩).isSome = true ∧ w.frozen? ⟨b, o + j, none⟩ = false))
section
variable {w w' : World} {B k n : Nat} {v : Value} {cs : List Value}
theorem Vs.nil (w : World) (B k : Nat) : Vs w B k (.slice none 0 0) 0 [] := ⟨by simp, by simp, .inl ⟨rfl, rfl⟩⟩
theorem Vs.mono {B' : Nat} (h : Vs w B k v n cs) (hB : B' ≤ B) : Vs w B' k v n cs := by
  obtain ⟨h1, h2, h3⟩ := h
  refine ⟨h1, h2, ?_⟩
  rcases h3 with h3 | ⟨b, o, cap, e1, e2, e3⟩
  · exact .inl h3
  · exact .inr ⟨b, o, cap, e1, by omega, e3⟩
theorem Vs.form (h : Vs w B k v n cs) : ∃ a cap, v = .slice a n cap ∧ n ≤ cap := by
  rcases h.2.2 with ⟨rfl, rfl⟩ | ⟨b, o, cap, rfl, _, _, h4, _⟩
  · exact ⟨none, 0, rfl, Nat.le_refl _⟩
  · exact ⟨_, cap, rfl, h4⟩
theorem Vs.some_of (h : Vs w B k v n cs) (hn : n ≠ 0) : ∃ b o cap, v = .slice (some ⟨b, o, none⟩) n cap := by
  rcases h.2.2 with ⟨_, e⟩ | ⟨b, o, cap, rfl, _⟩
  · exact (hn e).elim
  · exact ⟨b, o, cap, rfl⟩
theorem Vs.own (h : Vs w B k v n cs) : v.ownBlock = none ∨ ∃ b, v.ownBlock = some b ∧ B ≤ b ∧ b < w.heap.size := by
  rcases h.2.2 with ⟨rfl, _⟩ | ⟨b, o, cap, rfl, h2, h3, _⟩
  · exact .inl rfl
  · exact .inr ⟨b, rfl, h2, h3⟩
theorem Vs.cell {b o cap : Nat} (h : Vs w B k (.slice (some ⟨b, o, none⟩) n cap) n cs) (j : Nat) (u : Value) (hj : cs[j]? = some u) : w.cell? ⟨b, o + j, none⟩ = some u := by
  rcases h.2.2 with ⟨e, _⟩ | ⟨b', o', cap', e, _, _, _, h5, _⟩
  · cases e
  · cases e; exact h5 j u hj
theorem Vs.free {b o cap : Nat} (h : Vs w B k (.slice (some ⟨b, o, none⟩) n cap) n cs) (j : Nat) (hj : j < n * k) : w.frozen? ⟨b, o + j, none⟩ = false := by
  rcases h.2.2 with ⟨e, _⟩ | ⟨b', o', cap', e, _, _, h4, _, h6⟩
  · cases e
  · cases e; exact (h6 j (Nat.lt_of_lt_of_le hj (Nat.mul_le_mul_right _ h4))).2
theorem Vs.src {P : Program} (h : Vs w B k v n cs) {t e : TypeId} (ht : P.underlying t = some (.slice e)) : Src P k t v n cs w := by
  obtain ⟨h1, h2, h3⟩ := h
  rcases h3 with ⟨rfl, rfl⟩ | ⟨b, o, cap, rfl, e2, e3, e4, e5, e6⟩
  · have : cs = [] := List.eq_nil_of_length_eq_zero (by simpa using h1)
    subst this
    have := Src.ofNil (size := k) w ht 0
    exact this
  · exact Src.ofSlice w ht ⟨b, o, none⟩ n cap cs h1 (fun j u hu => by rw [Addr.add_lit]; exact e5 j u hu) h2
/-- 'append(v, u...)' -/
theorem Vs.append {P : Program} {m : Nat} {ds : List Value} {u : Value} (hv : Vs w B k v n cs) {t tx e ty : TypeId} {z : Value} {by_ : Nat} (hu : Src P k tx u m ds w) (ht : P.underlying t = some (.slice e))
    (hi : (P.info? e).map (fun i => (i.zero, i.size, i.bytes)) = some (some z, k, by_)) (hz : z.cells.size = k) (hm : 0 < m) (hlen : (n + m) * by_ ≤ 1000000000) (hlen2 : n + m ≤ 1000000000) (hB : B ≤ w.heap.size) :
    ∃ v' w', (Builtin.append_ #[t, tx] ty #[v, u]).run P w = .ok v' w' ∧ Vs w' B k v' (n + m) (cs ++ ds) ∧ w.grownBy w' v.ownBlock ∧ (v'.ownBlock = v.ownBlock ∨ v'.ownBlock = some w.heap.size) := by
  obtain ⟨i, hi1, hi2⟩ := Option.map_eq_some_iff.1 hi
  simp only [Prod.mk.injEq] at hi2
  obtain ⟨hz0, hs1, hb1⟩ := hi2
  have hdl := hu.newsLen
  have hd1 := hu.one
  obtain ⟨hcl, hc1, hv3⟩ := hv
  have hcat : (cs ++ ds).length = (n + m) * k := by rw [List.length_append, hcl, hdl, Nat.add_mul]
  have hone : ∀ x ∈ cs ++ ds, x.oneCell' = true := by
    intro x hx
    rcases List.mem_append.1 hx with h | h
    · exact hc1 x h
    · exact hd1 x h
  have hgrow : ∀ (a : Option Addr) (cap : Nat), v = .slice a n cap → cap < n + m → (Builtin.firstCells i.size n (.slice a n cap)).run P w.drew = .ok cs.toArray w.drew →
      ∃ v' w', (Builtin.append_ #[t, tx] ty #[v, u]).run P w = .ok v' w' ∧ Vs w' B k v' (n + m) (cs ++ ds) ∧ w.grownBy w' v.ownBlock ∧ (v'.ownBlock = v.ownBlock ∨ v'.ownBlock = some w.heap.size) := by
    intro a cap hva hcap hold
    subst hva
    have hfit : Builtin.nextslicecap (n + m) cap * i.bytes ≤ 281474976710656 := growslice_fits hcap (by rw [hb1]; omega)
    have hrun := run_append_grow_src (P := P) w t tx ty e i z ht hi1 hz0 a n cap cs hold u m ds (by rw [hs1]; exact hu) hcap (by omega) hfit
    have hge := grownCap_ge w (n + m) cap e
    obtain ⟨gc, hgc⟩ : ∃ gc, gc = grownCap w (n + m) cap e := ⟨_, rfl⟩
    rw [← hgc] at hrun hge
    obtain ⟨C, hC⟩ : ∃ C, C = (cs ++ ds).toArray ++ Builtin.zeroCells z.cells (gc - (n + m)) := ⟨_, rfl⟩
    rw [← hC] at hrun
    have hZ : (Builtin.zeroCells z.cells (gc - (n + m))).size = (gc - (n + m)) * k := by
      rw [← hz]
      simp [Builtin.zeroCells]
    have hCs : C.size = gc * k := by
      rw [hC, Array.size_append, List.size_toArray, hcat, hZ, ← Nat.add_mul]
      congr 1
      omega
    have hblk : Blk (w.drew.alloc (.cells C e)) w.heap.size C e := Blk.new w.drew C e
    refine ⟨_, _, hrun, ⟨hcat, hone, .inr ⟨w.heap.size, 0, gc, rfl, hB, hblk.lt, hge, fun j x hj => ?_, fun j hj => ?_⟩⟩, ⟨rfl, rfl, rfl, by simp, fun k hk _ => Below.heap_alloc w.drew _ k hk⟩, .inr rfl⟩
    · have hjl := (List.getElem?_eq_some_iff.1 hj).1
      rw [Nat.zero_add, hblk.cell, hC, Array.getElem?_append_left (by simpa using hjl), List.getElem?_toArray]
      exact hj
    · rw [Nat.zero_add, hblk.cell, hblk.frozen]
      exact ⟨by rw [Array.getElem?_eq_getElem (by omega)]; rfl, rfl⟩
  rcases hv3 with ⟨rfl, rfl⟩ | ⟨b, o, cap, rfl, h2, h3, h4, h5, h6⟩
  · have hcs : cs = [] := List.eq_nil_of_length_eq_zero (by simpa using hcl)
    refine hgrow none 0 rfl (by omega) ?_
    rw [hcs]
    exact run_firstCells_none _ _ _ _ _
  · by_cases hroom : n + m ≤ cap
    · have hbd : ∀ j, j < ds.length → n * k + j < cap * k := fun j hj => by
        have : (n + m) * k ≤ cap * k := Nat.mul_le_mul_right _ hroom
        rw [Nat.add_mul] at this
        omega
      have hrun := run_append_room_src (P := P) w t tx ty e i ht hi1 b o n cap u m ds (by rw [hs1]; exact hu) hroom
        (fun j hj => by rw [hs1, Nat.add_assoc]; exact (h6 _ (hbd j hj)).1) (fun j hj => by rw [hs1, Nat.add_assoc]; exact (h6 _ (hbd j hj)).2)
      rw [hs1] at hrun
      obtain ⟨q1, q2, q3, q4⟩ := setCells_size b ds (o + n * k) w
      refine ⟨_, _, hrun, ⟨hcat, hone, .inr ⟨b, o, cap, rfl, h2, by omega, hroom, fun j x hj => ?_, fun j hj => ?_⟩⟩, ⟨q2, q3, q4, by omega, fun k hk hne => setCells_heap b _ _ _ k (fun e => hne (by rw [e]; rfl))⟩, .inl rfl⟩
      · by_cases hjl : j < n * k
        · rw [List.getElem?_append_left (by omega)] at hj
          rw [World.cell?_setCells_out b _ _ _ _ (fun _ _ => .inl (by show o + j < _; omega))]
          exact h5 j x hj
        · rw [List.getElem?_append_right (by omega), hcl] at hj
          have hj2 := (List.getElem?_eq_some_iff.1 hj).1
          have := World.cell?_setCells_in b ds (o + n * k) w (fun j hj => by rw [Nat.add_assoc]; exact (h6 _ (hbd j hj)).1) (j - n * k) hj2
          rw [show o + n * k + (j - n * k) = o + j by omega] at this
          rw [this, ← hj]
          exact (List.getElem?_eq_getElem hj2).symm
      · rw [World.frozen?_setCells]
        exact ⟨cell_isSome_setCells b _ _ _ _ (h6 j hj).1, (h6 j hj).2⟩
    · refine hgrow (some ⟨b, o, none⟩) cap rfl (by omega) ?_
      have hsrc := Vs.src (P := P) (t := t) (e := e) (v := .slice (some ⟨b, o, none⟩) n cap) ⟨hcl, hc1, .inr ⟨b, o, cap, rfl, h2, h3, h4, h5, h6⟩⟩ ht
      rw [hs1]
      exact hsrc.cellsD
theorem Vs.kept {row : Option Nat} (h : Vs w B k v n cs) (hg : w.grownBy w' row) (hne : v.ownBlock = none ∨ v.ownBlock ≠ row) : Vs w' B k v n cs := by
  obtain ⟨h1, h2, h3⟩ := h
  refine ⟨h1, h2, ?_⟩
  rcases h3 with h3 | ⟨b, o, cap, rfl, e2, e3, e4, e5, e6⟩
  · exact .inl h3
  · have hb : w'.heap[b]? = w.heap[b]? := hg.block b e3 (by
      rcases hne with e | e
      · cases e
      · exact e)
    exact .inr ⟨b, o, cap, rfl, e2, Nat.lt_of_lt_of_le e3 hg.size, e4, fun j u hu => by rw [cell_of_block hb]; exact e5 j u hu, fun j hj => by rw [cell_of_block hb, frozen_of_block hb]; exact e6 j hj⟩
theorem Vs.zero (h : Vs w B k v n cs) : Vs w 0 k v n cs := h.mono (Nat.zero_le _)
/-- A block that is known whole, as a slice. -/
theorem Vs.of_blk {b cap : Nat} {t : TypeId} {C : Array Value} (h : Blk w b C t) (hl : cs.length = n * k) (hc : cap * k ≤ C.size) (hn : n ≤ cap) (hcs : ∀ (j : Nat) (u : Value), cs[j]? = some u → C[j]? = some u) (h1 : ∀ u ∈ cs, u.oneCell' = true) (hB : B ≤ b) : Vs w B k (.slice (some ⟨b, 0, none⟩) n cap) n cs :=
  ⟨hl, h1, .inr ⟨b, 0, cap, rfl, hB, h.lt, hn, fun j u hu => by rw [Nat.zero_add, h.cell]; exact hcs j u hu, fun j hj => by rw [Nat.zero_add, h.cell, h.frozen]; exact ⟨by rw [Array.getElem?_eq_getElem (by omega)]; rfl, rfl⟩⟩⟩
end
def Kp.vs (k : Nat) (v : Value) (n : Nat) (cs : List Value) : Kp := ⟨fun b => v.ownBlock = some b, fun w => Vs w 0 k v n cs, fun w1 w2 h hs hp => by
  obtain ⟨h1, h2, h3⟩ := hp
  refine ⟨h1, h2, ?_⟩
  rcases h3 with h3 | ⟨b, o, cap, rfl, e2, e3, e4, e5, e6⟩
  · exact .inl h3
  · have e := h b rfl e3
    exact .inr ⟨b, o, cap, rfl, e2, Nat.lt_of_lt_of_le e3 hs, e4, fun j u hu => by rw [cell_of_block e]; exact e5 j u hu, fun j hj => by rw [cell_of_block e, frozen_of_block e]; exact e6 j hj⟩⟩
theorem Keep.vs {w : World} {O : Nat → Prop} {B k n : Nat} {v : Value} {cs : List Value} (h : Vs w B k v n cs) (hO : ∀ b, v.ownBlock = some b → ¬ O b) : Keep w O (.vs k v n cs) :=
  ⟨h.zero, fun b hb => ⟨by
    rcases h.own with e | ⟨x, e, _, hx⟩
    · rw [show v.ownBlock = some b from hb] at e; cases e
    · rw [show v.ownBlock = some b from hb] at e; cases e; exact hx, hO b hb⟩⟩
/-- .. in a block from N on. -/
def Kp.vsN (N k : Nat) (v : Value) (n : Nat) (cs : List Value) : Kp := (Kp.vs k v n cs).and (.pure (∀ b, v.ownBlock = some b → N ≤ b))
theorem Keep.vsN {w : World} {O : Nat → Prop} {N k n : Nat} {v : Value} {cs : List Value} (h : Keep w O (.vs k v n cs)) (hN : ∀ b, v.ownBlock = some b → N ≤ b) : Keep w O (.vsN N k v n cs) := h.and (Keep.pure hN)
theorem vsN_new {w' : World} {N k n : Nat} {v : Value} {cs : List Value} (h : (Kp.vsN N k v n cs).P w') (j : Nat) (hj : (Kp.vsN N k v n cs).S j) : N ≤ j := by
  rcases hj with hj | hj
  · exact h.2 j hj
  · exact hj.elim
/-- A slice that came in: its cells are read. -/
def Rv (w : World) (k : Nat) (v : Value) (n : Nat) (cs : List Value) : Prop :=
  cs.length = n * k ∧ (∀ u ∈ cs, u.oneCell' = true) ∧ ((v = .slice none 0 0 ∧ n = 0) ∨ ∃ a cap, v = .slice (some a) n cap ∧ ∀ j u, cs[j]? = some u → w.cell? (a.add j) = some u)
theorem Rv.form {w : World} {k n : Nat} {v : Value} {cs : List Value} (h : Rv w k v n cs) : ∃ a cap, v = .slice a n cap := by
  rcases h.2.2 with ⟨rfl, rfl⟩ | ⟨a, cap, rfl, _⟩
  · exact ⟨none, 0, rfl⟩
  · exact ⟨_, cap, rfl⟩
theorem Vs.rv {w : World} {B k n : Nat} {v : Value} {cs : List Value} (h : Vs w B k v n cs) : Rv w k v n cs := by
  obtain ⟨h1, h2, h3⟩ := h
  refine ⟨h1, h2, ?_⟩
  rcases h3 with h3 | ⟨b, o, cap, rfl, e2, e3, e4, e5, e6⟩
  · exact .inl h3
  · exact .inr ⟨_, cap, rfl, fun j u hu => by rw [Addr.add_lit]; exact e5 j u hu⟩
def Kp.rv (k : Nat) (v : Value) (n : Nat) (cs : List Value) : Kp := ⟨fun b => cs ≠ [] ∧ ∃ a n cap, v = .slice (some a) n cap ∧ a.block = b, fun w => Rv w k v n cs, fun w1 w2 h hs hp => by
  obtain ⟨h1, h2, h3⟩ := hp
  refine ⟨h1, h2, ?_⟩
  rcases h3 with h3 | ⟨a, cap, rfl, e5⟩
  · exact .inl h3
  · refine .inr ⟨a, cap, rfl, fun j u hu => ?_⟩
    have hc := e5 j u hu
    have hb : a.block < w1.heap.size := by rw [← add_block a j]; exact World.block_lt_of_cell? w1 (a.add j) hc
    have e := h a.block ⟨by intro e; subst e; simp at hu, a, _, cap, rfl, rfl⟩ hb
    exact (cellA_of_block (a := a.add j) (by rw [add_block]; exact e)).trans hc⟩
theorem Keep.rv {w : World} {k n : Nat} {v : Value} {cs : List Value} (h : Rv w k v n cs) : Keep w (fun _ => False) (.rv k v n cs) := ⟨h, fun b hb => by
  obtain ⟨hl, a, m, cap, hv, rfl⟩ := hb
  rcases h.2.2 with ⟨e, e2⟩ | ⟨a', cap', hv2, h2⟩
  · rw [e] at hv; cases hv
  · rw [hv2] at hv; cases hv
    have hj : 0 < cs.length := List.length_pos_iff.2 hl
    exact ⟨by rw [← add_block a 0]; exact World.block_lt_of_cell? w (a.add 0) (h2 0 _ (List.getElem?_eq_getElem hj)), id⟩⟩
theorem Rv.src {P : Program} {w : World} {k n : Nat} {v : Value} {cs : List Value} (h : Rv w k v n cs) {t e : TypeId} (ht : P.underlying t = some (.slice e)) : Src P k t v n cs w := by
  obtain ⟨h1, h2, h3⟩ := h
  rcases h3 with ⟨rfl, rfl⟩ | ⟨a, cap, rfl, e5⟩
  · have : cs = [] := List.eq_nil_of_length_eq_zero (by simpa using h1)
    subst this
    exact Src.ofNil (size := k) w ht 0
  · exact Src.ofSlice w ht a n cap cs h1 e5 h2
theorem One.newVs {W w w' : World} {Bm mb : Nat} {M : List UInt8} {O0 : Nat → Prop} {K : Kp} (h : One W w Bm mb M O0 K) (hb : Below w.heap.size w w') {k n : Nat} {v : Value} {cs : List Value} (hv : Vs w' w.heap.size k v n cs) : One W w' Bm mb M O0 (K.and (.vs k v n cs)) := by
  obtain ⟨O, h1, h2, h3, h4⟩ := h
  exact ⟨O, h1.below hb, h2.trans (Turn.of_below hb O), (h3.turn (Turn.of_below hb O)).and (Keep.vs hv (fun b hb2 hO => by
    have h8 := (h1.lt hO).1
    rcases hv.own with e | ⟨x, e, hx, _⟩
    · rw [hb2] at e; cases e
    · rw [hb2] at e; cases e; omega)), h4⟩
theorem Two.newVs {W w w' : World} {mb rb : Nat} {M N : List UInt8} {K : Kp} (h : Two W w mb rb M N K) (hb : Below w.heap.size w w') {k n : Nat} {v : Value} {cs : List Value} (hv : Vs w' w.heap.size k v n cs) : Two W w' mb rb M N (K.and (.vs k v n cs)) :=
  h.newK hb hv.zero (fun b hb2 => by
    rcases hv.own with e | ⟨x, e, hx1, hx2⟩
    · rw [show v.ownBlock = some b from hb2] at e; cases e
    · rw [show v.ownBlock = some b from hb2] at e; cases e; exact ⟨hx1, hx2⟩)
theorem Turn.grownOwn {W w w' : World} {O0 O : Nat → Prop} {row : Option Nat} (h : Turn W w O0 O) (hg : w.grownBy w' row) (hr : ∀ b, row = some b → W.heap.size ≤ b) : Turn W w' O0 O :=
  ⟨hg.os.trans h.os, hg.tape.trans h.tape, hg.output.trans h.output, Nat.le_trans h.size hg.size, fun k hk hO => (hg.block k (Nat.lt_of_lt_of_le hk h.size) (fun e => by have := hr k e.symm; omega)).trans (h.block k hk hO), h.new⟩
theorem Keep.grown {w w' : World} {O : Nat → Prop} {K : Kp} {row : Option Nat} (h : Keep w O K) (hg : w.grownBy w' row) (hr : ∀ b, row = some b → ¬ K.S b) : Keep w' O K :=
  ⟨K.stable w w' (fun k hk hl => hg.block k hl (fun e => hr k e.symm hk)) hg.size h.1, fun k hk => ⟨Nat.lt_of_lt_of_le (h.2 k hk).1 hg.size, (h.2 k hk).2⟩⟩
/-- What came in is as it was. -/
theorem Two.old {W w : World} {mb rb : Nat} {M N : List UInt8} {K L : Kp} (h : Two W w mb rb M N K) (hL : L.P W) (hS : ∀ k, L.S k → k < W.heap.size) : Two W w mb rb M N (K.and L) := by
  obtain ⟨B, O, R, h1, h2, h3, h4, h5, h6, h7⟩ := h
  exact ⟨B, O, R, h1, h2, h3, h4, h5, h6, h7.and ⟨L.stable W w (fun k hk hl => h6.block k hl) h6.size hL, fun k hk => ⟨Nat.lt_of_lt_of_le (hS k hk) h6.size, fun hO => by
    have := hS k hk
    rcases hO with hO | hO
    · have := (h3.lt hO).2; omega
    · have := (h4.lt hO).2; omega⟩⟩⟩
theorem Two.oldRv {W w : World} {mb rb : Nat} {M N : List UInt8} {K : Kp} (h : Two W w mb rb M N K) {k n : Nat} {v : Value} {cs : List Value} (hR : Rv W k v n cs) : Two W w mb rb M N (K.and (.rv k v n cs)) :=
  h.old hR (fun b hb => ((Keep.rv hR).2 b hb).1)
/-- An append to a slice of the walk's own. -/
theorem One.appendVs {P : Program} {W w : World} {Bm mb : Nat} {M : List UInt8} {O0 : Nat → Prop} {K : Kp} {k n m : Nat} {v u : Value} {cs ds : List Value} (h : One W w Bm mb M O0 (K.and (.vs k v n cs))) (hown : ∀ b, v.ownBlock = some b → W.heap.size ≤ b ∧ ¬ K.S b)
    {t tx e ty : TypeId} {z : Value} {by_ : Nat} (hu : Src P k tx u m ds w) (ht : P.underlying t = some (.slice e))
    (hi : (P.info? e).map (fun i => (i.zero, i.size, i.bytes)) = some (some z, k, by_)) (hz : z.cells.size = k) (hm : 0 < m) (hlen : (n + m) * by_ ≤ 1000000000) (hlen2 : n + m ≤ 1000000000) :
    ∃ v' w', (Builtin.append_ #[t, tx] ty #[v, u]).run P w = .ok v' w' ∧ One W w' Bm mb M O0 (K.and (.vs k v' (n + m) (cs ++ ds))) ∧ (∀ b, v'.ownBlock = some b → W.heap.size ≤ b ∧ ¬ K.S b) ∧ w.heap.size ≤ w'.heap.size := by
  obtain ⟨O, h1, h2, h3, h4⟩ := h
  have hV : Vs w 0 k v n cs := h3.right.1
  obtain ⟨v', w', hr, hv', hg, hob⟩ := hV.append hu ht hi hz hm hlen hlen2 (Nat.zero_le _) (ty := ty)
  have hvO : ∀ b, v.ownBlock = some b → ¬ O b := fun b hb => (h3.2 b (.inr hb)).2
  have hws := h2.size
  refine ⟨v', w', hr, ⟨O, h1.kept hg hvO, h2.grownOwn hg (fun b hb => (hown b hb).1), (h3.left.grown hg (fun b hb => (hown b hb).2)).and (Keep.vs hv' (fun b hb hO => ?_)), h4⟩, fun b hb => ?_, hg.size⟩
  · rcases hob with e | e
    · exact hvO b (e ▸ hb) hO
    · rw [hb] at e; cases e
      have := (h1.lt hO).1; omega
  · rcases hob with e | e
    · exact hown b (e ▸ hb)
    · rw [hb] at e; cases e
      exact ⟨h2.size, fun hS => by have := (h3.left.2 _ hS).1; omega⟩
theorem One.turnVs {W w w' : World} {Bm mb : Nat} {M : List UInt8} {O0 : Nat → Prop} {K : Kp} {k n : Nat} {v : Value} {cs cs' : List Value} (h : One W w Bm mb M O0 (K.and (.vs k v n cs))) (hown : ∀ b, v.ownBlock = some b → W.heap.size ≤ b ∧ ¬ K.S b) (hv : Vs w' 0 k v n cs') (hg : w.grownBy w' v.ownBlock) : One W w' Bm mb M O0 (K.and (.vs k v n cs')) := by
  obtain ⟨O, h1, h2, h3, h4⟩ := h
  have hvO : ∀ b, v.ownBlock = some b → ¬ O b := fun b hb => (h3.2 b (.inr hb)).2
  exact ⟨O, h1.kept hg hvO, h2.grownOwn hg (fun b hb => (hown b hb).1), (h3.left.grown hg (fun b hb => (hown b hb).2)).and (Keep.vs hv hvO), h4⟩
theorem Vs.lit1 (w : World) (u : Value) (t : TypeId) (hu : u.oneCell' = true) : Vs (w.alloc (.cells #[u] t)) 0 1 (.slice (some ⟨w.heap.size, 0, none⟩) 1 1) 1 [u] :=
  Vs.of_blk (Blk.new _ _ _) rfl (by simp) (Nat.le_refl _) (fun j x hj => by simpa using hj) (fun x hx => by simp at hx; rw [hx]; exact hu) (Nat.zero_le _)
/-- Integers, as cells. -/
def ic (l : List Int) : List Value := l.map (Value.int .i64)
theorem ic_len (l : List Int) : (ic l).length = l.length := by simp [ic]
theorem ic_at (l : List Int) (j : Nat) (h : j < l.length) : (ic l)[j]? = some (.int .i64 l[j]) := by simp [ic, h]
theorem ic_set (l : List Int) (j : Nat) (x : Int) : (ic l).set j (.int .i64 x) = ic (l.set j x) := by simp [ic, List.map_set]
theorem infoI : (Try.prog.info? 2).map (fun i => (i.zero, i.size, i.bytes)) = some (some (.int .i64 0), 1, 8) := by kernel_rfl
theorem Vs.setAt {w : World} {B b o n cap : Nat} {cs : List Value} (h : Vs w B 1 (.slice (some ⟨b, o, none⟩) n cap) n cs) (j : Nat) (u : Value) (hj : j < n) (hu : u.oneCell' = true) : Vs (w.setCell ⟨b, o + j, none⟩ u) B 1 (.slice (some ⟨b, o, none⟩) n cap) n (cs.set j u) := by
  obtain ⟨h1, h2, h3⟩ := h
  refine ⟨by rw [List.length_set]; exact h1, fun x hx => ?_, ?_⟩
  · rcases List.mem_or_eq_of_mem_set hx with h | h
    · exact h2 x h
    · rw [h]; exact hu
  · rcases h3 with ⟨e, _⟩ | ⟨b', o', cap', e, e2, e3, e4, e5, e6⟩
    · cases e
    · cases e
      refine .inr ⟨b, o, cap, rfl, e2, by rw [World.size_setCell]; exact e3, e4, fun i x hx => ?_, fun i hi => ?_⟩
      · by_cases e : j = i
        · subst e
          rw [List.getElem?_set_self (by omega)] at hx
          cases hx
          obtain ⟨y, hy⟩ := Option.isSome_iff_exists.1 (e6 j (by omega)).1
          rw [cell_set, hy]; rfl
        · rw [List.getElem?_set_ne e] at hx
          rw [World.cell?_setCell_other w (a := ⟨b, o + j, none⟩) (b := ⟨b, o + i, none⟩) _ (by intro h; have h2 : o + j = o + i := congrArg Addr.off h; omega)]
          exact e5 i x hx
      · rw [World.frozen?_setCell]
        exact ⟨by
          by_cases e : j = i
          · subst e
            obtain ⟨y, hy⟩ := Option.isSome_iff_exists.1 (e6 j hi).1
            rw [cell_set, hy]; rfl
          · rw [World.cell?_setCell_other w (a := ⟨b, o + j, none⟩) (b := ⟨b, o + i, none⟩) _ (by intro h; have h2 : o + j = o + i := congrArg Addr.off h; omega)]
            exact (e6 i hi).1, (e6 i hi).2⟩
theorem Rv.below {w w' : World} {k n : Nat} {v : Value} {cs : List Value} (h : Rv w k v n cs) (hb : Below w.heap.size w w') : Rv w' k v n cs := by
  obtain ⟨h1, h2, h3⟩ := h
  refine ⟨h1, h2, ?_⟩
  rcases h3 with h3 | ⟨a, cap, rfl, e5⟩
  · exact .inl h3
  · exact .inr ⟨a, cap, rfl, fun j u hu => (hb.cell (World.block_lt_of_cell? w _ (e5 j u hu))).trans (e5 j u hu)⟩
theorem add_next (a : Addr) (m j : Nat) : a.add (m + (j + 1)) = ⟨(a.add m).block, (a.add m).off + (j + 1), none⟩ := by
  have h1 : a.add (m + (j + 1)) = ⟨a.block, a.off + (m + (j + 1)), none⟩ := by simp only [Addr.add]; rw [if_neg (by omega)]
  have h2 : (a.add m).block = a.block := add_block a m
  have h3 : (a.add m).off = a.off + m := by
    simp only [Addr.add]
    split
    · omega
    · rfl
  rw [h1, h2, h3]
  congr 1
  omega
theorem run_madeI (w : World) (N : Nat) (hN : N ≤ 1000000) : (Instr.makeSlice 24 (.int .i64 (N : Int)) (.int .i64 (N : Int))).run Try.prog w = .ok (.slice (some ⟨w.heap.size, 0, none⟩) N N) (w.alloc (.cells (ic (List.replicate N 0)).toArray 2)) := by
  obtain ⟨i, hi1, hi2⟩ := Option.map_eq_some_iff.1 infoI
  simp only [Prod.mk.injEq] at hi2
  obtain ⟨hz, hs1, hb1⟩ := hi2
  have h := run_make (P := Try.prog) w 24 2 i (.int .i64 0) Try.underlying24 hi1 hz .i64 .i64 (N : Int) (N : Int) (by omega) (Int.le_refl _) (by rw [hb1]; omega) (by omega)
  rw [h]
  have e : madeCells (Value.int IntKind.i64 0).cells ((N : Int).toNat * i.size) = (ic (List.replicate N 0)).toArray := by
    rw [hs1, Int.toNat_natCast, Nat.mul_one]
    apply Array.ext
    · simp [madeCells, ic, Value.cells]
    · intro j h1 h2
      simp [madeCells, ic, Value.cells, Nat.mod_one]
  rw [e]
  simp
end Go.Proofs.Ytkcmphjgflbchaa

/- A memory that nobody made. -/
namespace Go.Proofs.Ytkcmphjgflbchaa
open Go.RowKit
set_option linter.unusedVariables false
set_option linter.unusedSimpArgs false
attribute [local go_sem] cell_set set_set m_undef

theorem nIs (w : World) : Calls Try.prog 24 #[.pointer none] w fun e w' => e = .returned (.bool false) ∧ w = w' := by
  go_enter Try.func24, Try.ntmps24
  go_wp2
  go_ret
  exact ⟨rfl, rfl⟩
set_option maxRecDepth 100000 in
theorem nLoad (w : World) (a : Int) : Calls Try.prog 41 #[.pointer none, .int .i64 a, .int .i64 8] w fun e w' => ∃ v, e = .returned v ∧ Bs w' w.heap.size v (List.replicate 8 0) ∧ Below w.heap.size w w' := by
  have hmk : (Instr.makeSlice 22 (.int .i64 8) (.int .i64 8)).run Try.prog w = .ok (.slice (some ⟨w.heap.size, 0, none⟩) 8 8) (w.alloc (.cells (cb (List.replicate 8 0)).toArray 5)) := run_made w 8 (by omega)
  have hB1 : Bs (w.alloc (.cells (cb (List.replicate 8 0)).toArray 5)) 0 (.slice (some ⟨w.heap.size, 0, none⟩) 8 8) (List.replicate 8 0) := Bs.of_blk (Blk.new w (cb (List.replicate 8 0)).toArray 5) (by simp)
  have hb := bel_alloc (Below.refl _ w) (.cells (cb (List.replicate 8 0)).toArray 5)
  have hB2 := Lib.hid (hB1.rebase (B' := w.heap.size) (fun k hk => by cases hk; exact Nat.le_refl _))
  replace hb := Lib.hid hb
  clear hB1
  generalize w.alloc (.cells (cb (List.replicate 8 0)).toArray 5) = w1 at *
  go_enter Try.func41, Try.ntmps41
  go_wp2_with (go_at_call 24; refine (nIs _).mono ?_; rintro e _ ⟨rfl, rfl⟩)
  go_ret
  exact ⟨_, rfl, hB2.out, hb.out⟩
theorem cell_zero : cellL (List.replicate 8 0) 0 = 0 := by decide
theorem nGet (w : World) (a : Int) : Calls Try.prog 19 #[.pointer none, .int .i64 a] w fun e w' => e = .returned (.int .i64 0) ∧ Below w.heap.size w w' := by
  have hL := Lib.hid (nLoad w a)
  go_enter Try.func19, Try.ntmps19
  go_wp2_with (first
    | (go_at_call 41; refine hL.out.mono ?_; rintro e w1 ⟨v1, rfl, hv1, hb1⟩; have hC := Lib.hid (wCell w1 w.heap.size v1 (List.replicate 8 0) 0 hv1 (by unfold isI; omega) (by simp)); rw [cell_zero] at hC; obtain ⟨ad, cap, rfl, hcap⟩ := hv1.len; clear hv1 hcap; replace hb1 := Lib.hid hb1)
    | (go_at_call 45; refine hC.out.mono ?_; rintro e w2 ⟨rfl, hb2⟩))
  go_ret
  exact ⟨rfl, bel_trans hb1.out hb2⟩
theorem nLay (w : World) (a : Int) (p : Option Addr) (n c : Nat) : Calls Try.prog 10 #[.pointer none, .int .i64 a, .slice p n c] w fun e w' => e = .returned (.tuple #[]) ∧ w = w' := by
  go_enter Try.func10, Try.ntmps10
  go_wp2_with (go_at_call 24; refine (nIs _).mono ?_; rintro e _ ⟨rfl, rfl⟩)
  exact bodyPost_ret (v := .tuple #[]) (by simp [results, Try.results10, go_sem]) rfl ⟨rfl, rfl⟩
theorem nSet (w : World) (a n : Int) : Calls Try.prog 65 #[.pointer none, .int .i64 a, .int .i64 n] w fun e w' => e = .returned (.tuple #[]) ∧ Below w.heap.size w w' := by
  have hmk : (Instr.makeSlice 22 (.int .i64 8) (.int .i64 8)).run Try.prog w = .ok (.slice (some ⟨w.heap.size, 0, none⟩) 8 8) (w.alloc (.cells (cb (List.replicate 8 0)).toArray 5)) := run_made w 8 (by omega)
  have hB1 : Bs (w.alloc (.cells (cb (List.replicate 8 0)).toArray 5)) 0 (.slice (some ⟨w.heap.size, 0, none⟩) 8 8) (List.replicate 8 0) := Bs.of_blk (Blk.new w (cb (List.replicate 8 0)).toArray 5) (by simp)
  have hb := bel_alloc (Below.refl _ w) (.cells (cb (List.replicate 8 0)).toArray 5)
  have hPC := Lib.hid (wPutCell _ 0 _ _ 0 n hB1 (by unfold isI; omega) (by simp))
  generalize w.alloc (.cells (cb (List.replicate 8 0)).toArray 5) = w1 at *
  replace hb := Lib.hid hb
  clear hB1
  go_enter Try.func65, Try.ntmps65
  go_wp2_with (first
    | (go_at_call 85; refine hPC.out.mono ?_; rintro e w2 ⟨v2, rfl, hv2, hb2⟩; obtain ⟨ad, cap, rfl, hcap⟩ := hv2.len; clear hcap hv2; replace hb := Lib.hid (bel_trans hb.out hb2); clear hb2)
    | (go_at_call 10; refine (nLay _ _ _ _ _).mono ?_; rintro e _ ⟨rfl, rfl⟩))
  (try go_end0)
  exact ⟨rfl, hb.out⟩
end Go.Proofs.Ytkcmphjgflbchaa

/- The stacks, as lists of bytes have them: plain. -/
namespace Go.Proofs.Ytkcmphjgflbchaa
open Go.RowKit
set_option linter.unusedVariables false
set_option linter.unusedSimpArgs false

/-- Where a stack lies. -/
def Sk (a lo hi : Int) : Prop := (a = 32 ∧ lo = 256 ∧ hi = 512) ∨ (a = 40 ∧ lo = 512 ∧ hi = 768)
def topL (M : List UInt8) (a lo hi : Int) : Int := if getM M a % 8 = 0 ∧ lo ≤ getM M a ∧ getM M a ≤ hi then getM M a else hi
theorem topL_bd {M : List UInt8} {a lo hi : Int} (h : Sk a lo hi) : lo ≤ topL M a lo hi ∧ topL M a lo hi ≤ hi ∧ topL M a lo hi % 8 = 0 ∧ 256 ≤ lo ∧ hi ≤ 768 ∧ lo % 8 = 0 ∧ hi = lo + 256 ∧ 0 ≤ a ∧ a ≤ 40 := by
  unfold topL
  generalize getM M a = g
  rcases h with ⟨rfl, rfl, rfl⟩ | ⟨rfl, rfl, rfl⟩ <;> split <;> omega
/-- How many cells there are. -/
def depL (M : List UInt8) (a lo hi : Int) : Int := (hi - topL M a lo hi) / 8
def pushM (M : List UInt8) (a lo hi n : Int) : List UInt8 := if topL M a lo hi - 8 < lo then M else setM (setM M (topL M a lo hi - 8) n) a (topL M a lo hi - 8)
def pushT (M : List UInt8) (a lo hi ov : Int) : Int := if topL M a lo hi - 8 < lo then ov else 0
def peekV (M : List UInt8) (a lo hi n : Int) : Int := if 0 ≤ n ∧ n < depL M a lo hi then getM M (topL M a lo hi + 8 * n) else 0
def peekT (M : List UInt8) (a lo hi un n : Int) : Int := if 0 ≤ n ∧ n < depL M a lo hi then 0 else un
def popM (M : List UInt8) (a lo hi : Int) : List UInt8 := if 0 < depL M a lo hi then setM M a (topL M a lo hi + 8) else M
theorem pushM_len (M : List UInt8) (a lo hi n : Int) (h : M.length = 8192) : (pushM M a lo hi n).length = 8192 := by
  unfold pushM; split
  · exact h
  · rw [setM_len, setM_len]; exact h
theorem popM_len (M : List UInt8) (a lo hi : Int) (h : M.length = 8192) : (popM M a lo hi).length = 8192 := by
  unfold popM; split
  · rw [setM_len]; exact h
  · exact h
theorem depL_bd {M : List UInt8} {a lo hi : Int} (h : Sk a lo hi) : 0 ≤ depL M a lo hi ∧ depL M a lo hi ≤ 32 ∧ depL M a lo hi * 8 = hi - topL M a lo hi := by
  have := topL_bd (M := M) h
  unfold depL
  omega
end Go.Proofs.Ytkcmphjgflbchaa

/- States of a walk through the reference. -/
namespace Go.Proofs.Ytkcmphjgflbchaa
open Go.RowKit
set_option linter.unusedVariables false
set_option linter.unusedSimpArgs false

theorem RefP.apart {w w2 : World} {B rb : Nat} {M L : List UInt8} {R : Nat → Prop} {v : Value} (h : RefP w B rb M R) (hv : Bs w2 w.heap.size v L) : ∀ k, v.ownBlock = some k → ¬ R k := fun k hk hO => by
  have := (h.lt hO).1
  have := hv.geB hk
  omega
/-- From W, whose memory's blocks were O0, the walk has come to w: the memory is M, K holds. -/
def Onr (W w : World) (B rb : Nat) (M : List UInt8) (O0 : Nat → Prop) (K : Kp) : Prop := ∃ O, RefP w B rb M O ∧ Turn W w O0 O ∧ Keep w O K ∧ B ≤ W.heap.size
section
variable {W w : World} {B rb : Nat} {M : List UInt8} {O0 : Nat → Prop} {K L : Kp}
theorem Onr.start {O : Nat → Prop} (h : RefP w B rb M O) (hB : B ≤ w.heap.size) : Onr w w B rb M O .emp := ⟨O, h, Turn.refl _ _, Keep.emp _ _, hB⟩
theorem Onr.startK {O : Nat → Prop} (h : RefP w B rb M O) (hB : B ≤ w.heap.size) (hK : Keep w O K) : Onr w w B rb M O K := ⟨O, h, Turn.refl _ _, hK, hB⟩
theorem Onr.fact (h : Onr W w B rb M O0 K) : K.P w := by obtain ⟨_, _, _, h, _⟩ := h; exact h.1
theorem Onr.size (h : Onr W w B rb M O0 K) : W.heap.size ≤ w.heap.size := by obtain ⟨_, _, h, _⟩ := h; exact h.size
theorem Onr.slt (h : Onr W w B rb M O0 K) {k : Nat} (hk : K.S k) : k < w.heap.size := by obtain ⟨_, _, _, h, _⟩ := h; exact (h.2 k hk).1
theorem Onr.len (h : Onr W w B rb M O0 K) : M.length = 8192 := by obtain ⟨_, h, _⟩ := h; exact h.len
theorem Onr.refQ (h : Onr W w B rb M O0 K) (v : Value) : RefQ W w B rb M O0 v (.returned v) := by obtain ⟨O, h1, h2, _⟩ := h; exact ⟨rfl, O, h1, h2⟩
theorem Onr.weak (h : Onr W w B rb M O0 (K.and L)) : Onr W w B rb M O0 K := by obtain ⟨O, h1, h2, h3, h4⟩ := h; exact ⟨O, h1, h2, h3.left, h4⟩
theorem Onr.last (h : Onr W w B rb M O0 (K.and L)) : Onr W w B rb M O0 L := by obtain ⟨O, h1, h2, h3, h4⟩ := h; exact ⟨O, h1, h2, h3.right, h4⟩
theorem Onr.keep (h : Onr W w B rb M O0 K) (hL : ∀ O, Keep w O K → Keep w O L) : Onr W w B rb M O0 L := by obtain ⟨O, h1, h2, h3, h4⟩ := h; exact ⟨O, h1, h2, hL O h3, h4⟩
theorem Onr.alloc (h : Onr W w B rb M O0 K) (o : Obj) : Onr W (w.alloc o) B rb M O0 K := by
  obtain ⟨O, h1, h2, h3, h4⟩ := h
  have hb : Below w.heap.size w (w.alloc o) := bel_alloc (Below.refl _ _) o
  exact ⟨O, h1.below hb, h2.trans (Turn.of_below hb O), h3.turn (Turn.of_below hb O), h4⟩
theorem Onr.new (h : Onr W w B rb M O0 K) (c : Array Value) (t : TypeId) : Onr W (w.alloc (.cells c t)) B rb M O0 (K.and (.blk w.heap.size c t)) := by
  obtain ⟨O, h1, h2, h3, h4⟩ := h
  have hb : Below w.heap.size w (w.alloc (.cells c t)) := bel_alloc (Below.refl _ _) _
  exact ⟨O, h1.below hb, h2.trans (Turn.of_below hb O), (h3.turn (Turn.of_below hb O)).and (Keep.blk (Blk.new _ _ _) (fun hO => by have := (h1.lt hO).1; omega)), h4⟩
theorem Onr.drew (h : Onr W w B rb M O0 K) : Onr W w.drew B rb M O0 K := by
  obtain ⟨O, h1, h2, h3, h4⟩ := h
  exact ⟨O, (h1.below (bel_drew (Below.refl _ _))), h2.drawn, h3.turn (Turn.of_below (bel_drew (Below.refl _ _)) O), h4⟩
theorem Onr.set {b : Nat} {c : Array Value} {t : TypeId} (h : Onr W w B rb M O0 (K.and (.blk b c t))) (hb : W.heap.size ≤ b) (hK : ¬ K.S b) (o : Nat) (v : Value) : Onr W (w.setCell ⟨b, o, none⟩ v) B rb M O0 (K.and (.blk b (c.setIfInBounds o v) t)) := by
  obtain ⟨O, h1, h2, h3, h4⟩ := h
  have hO : ¬ O b := (h3.2 b (.inr rfl)).2
  exact ⟨O, (h1.kept (grownBy_setCell w b o v) (fun k hk => by cases hk; exact hO)), h2.setOwn hb v, (h3.left.set hK v).and (Keep.blk (h3.right.1.set o v) hO), h4⟩
/-- A call that the memory is handed to. -/
theorem Onr.ref (h : Onr W w B rb M O0 K) {f : Nat} {args : Array Value} {M' : List UInt8} {v : Value} (c : ∀ O, RefP w B rb M O → B ≤ w.heap.size → Calls Try.prog f args w fun e w' => RefQ w w' B rb M' O v e) :
    Calls Try.prog f args w fun e w' => e = .returned v ∧ Onr W w' B rb M' O0 K := by
  obtain ⟨O, h1, h2, h3, h4⟩ := h
  refine (c O h1 (Nat.le_trans h4 h2.size)).mono fun e w' ⟨he, O', h5, h6⟩ => ⟨he, O', h5, h2.trans h6, h3.turn h6, h4⟩
/-- A call that gives something new besides. -/
def RefX {α : Type} (w w' : World) (B rb : Nat) (O : Nat → Prop) (ret : α → Value) (M' : α → List UInt8) (G : α → Kp) (e : Ending) : Prop := ∃ x O', e = .returned (ret x) ∧ RefP w' B rb (M' x) O' ∧ Turn w w' O O' ∧ Keep w' O' (G x)
theorem Onr.refX {α : Type} (h : Onr W w B rb M O0 K) {f : Nat} {args : Array Value} {ret : α → Value} {M' : α → List UInt8} {G : α → Kp} (c : ∀ O, RefP w B rb M O → B ≤ w.heap.size → Calls Try.prog f args w fun e w' => RefX w w' B rb O ret M' G e) :
    Calls Try.prog f args w fun e w' => ∃ x, e = .returned (ret x) ∧ Onr W w' B rb (M' x) O0 (K.and (G x)) := by
  obtain ⟨O, h1, h2, h3, h4⟩ := h
  refine (c O h1 (Nat.le_trans h4 h2.size)).mono fun e w' ⟨x, O', he, h5, h6, h7⟩ => ⟨x, he, O', h5, h2.trans h6, (h3.turn h6).and h7, h4⟩
theorem Onr.load (h : Onr W w B rb M O0 K) {f : Nat} {args : Array Value} {l : List UInt8} (c : ∀ O, RefP w B rb M O → B ≤ w.heap.size → Calls Try.prog f args w fun e w' => ∃ v, e = .returned v ∧ Bs w' w.heap.size v l ∧ Below w.heap.size w w') :
    Calls Try.prog f args w fun e w' => ∃ v, e = .returned v ∧ Onr W w' B rb M O0 (K.and (.bs v l)) := by
  obtain ⟨O, h1, h2, h3, h4⟩ := h
  refine (c O h1 (Nat.le_trans h4 h2.size)).mono fun e w' ⟨v, he, h5, h6⟩ => ⟨v, he, O, h1.below h6, h2.trans (Turn.of_below h6 O), (h3.turn (Turn.of_below h6 O)).and (Keep.bs h5 (h1.apart h5)), h4⟩
theorem Onr.read (h : Onr W w B rb M O0 K) {f : Nat} {args : Array Value} {Q : Ending → World → Prop} (c : ∀ O, RefP w B rb M O → Calls Try.prog f args w fun e w' => Q e w' ∧ Below w.heap.size w w') :
    Calls Try.prog f args w fun e w' => Q e w' ∧ Onr W w' B rb M O0 K := by
  have h' := h
  obtain ⟨O, h1, h2, h3, h4⟩ := h
  exact (c O h1).mono fun e w' ⟨hq, hb⟩ => ⟨hq, by
    exact ⟨O, h1.below hb, h2.trans (Turn.of_below hb O), h3.turn (Turn.of_below hb O), h4⟩⟩
/-- A call that changes nothing that there was. -/
theorem Onr.below {w' : World} (h : Onr W w B rb M O0 K) (hb : Below w.heap.size w w') : Onr W w' B rb M O0 K := by
  obtain ⟨O, h1, h2, h3, h4⟩ := h
  exact ⟨O, h1.below hb, h2.trans (Turn.of_below hb O), h3.turn (Turn.of_below hb O), h4⟩
theorem Onr.still (h : Onr W w B rb M O0 K) {f : Nat} {args : Array Value} {Q : Ending → World → Prop} (c : Calls Try.prog f args w fun e w' => Q e w' ∧ Below w.heap.size w w') :
    Calls Try.prog f args w fun e w' => Q e w' ∧ Onr W w' B rb M O0 K := c.mono fun e w' ⟨hq, hb⟩ => ⟨hq, h.below hb⟩
/-- New bytes, behind a call that changes nothing that there was. -/
theorem Onr.newBs {w' : World} (h : Onr W w B rb M O0 K) (hb : Below w.heap.size w w') {v : Value} {l : List UInt8} (hv : Bs w' w.heap.size v l) : Onr W w' B rb M O0 (K.and (.bs v l)) := by
  obtain ⟨O, h1, h2, h3, h4⟩ := h
  exact ⟨O, h1.below hb, h2.trans (Turn.of_below hb O), (h3.turn (Turn.of_below hb O)).and (Keep.bs hv (h1.apart hv)), h4⟩
end

theorem Onr.newVs {W w w' : World} {Bm rb : Nat} {M : List UInt8} {O0 : Nat → Prop} {K : Kp} (h : Onr W w Bm rb M O0 K) (hb : Below w.heap.size w w') {k n : Nat} {v : Value} {cs : List Value} (hv : Vs w' w.heap.size k v n cs) : Onr W w' Bm rb M O0 (K.and (.vs k v n cs)) := by
  obtain ⟨O, h1, h2, h3, h4⟩ := h
  exact ⟨O, h1.below hb, h2.trans (Turn.of_below hb O), (h3.turn (Turn.of_below hb O)).and (Keep.vs hv (fun b hb2 hO => by
    have h8 := (h1.lt hO).1
    rcases hv.own with e | ⟨x, e, hx, _⟩
    · rw [hb2] at e; cases e
    · rw [hb2] at e; cases e; omega)), h4⟩
/-- An append to a slice of the walk's own. -/
theorem Onr.appendVs {P : Program} {W w : World} {Bm rb : Nat} {M : List UInt8} {O0 : Nat → Prop} {K : Kp} {k n m : Nat} {v u : Value} {cs ds : List Value} (h : Onr W w Bm rb M O0 (K.and (.vs k v n cs))) (hown : ∀ b, v.ownBlock = some b → W.heap.size ≤ b ∧ ¬ K.S b)
    {t tx e ty : TypeId} {z : Value} {by_ : Nat} (hu : Src P k tx u m ds w) (ht : P.underlying t = some (.slice e))
    (hi : (P.info? e).map (fun i => (i.zero, i.size, i.bytes)) = some (some z, k, by_)) (hz : z.cells.size = k) (hm : 0 < m) (hlen : (n + m) * by_ ≤ 1000000000) (hlen2 : n + m ≤ 1000000000) :
    ∃ v' w', (Builtin.append_ #[t, tx] ty #[v, u]).run P w = .ok v' w' ∧ Onr W w' Bm rb M O0 (K.and (.vs k v' (n + m) (cs ++ ds))) ∧ (∀ b, v'.ownBlock = some b → W.heap.size ≤ b ∧ ¬ K.S b) ∧ w.heap.size ≤ w'.heap.size := by
  obtain ⟨O, h1, h2, h3, h4⟩ := h
  have hV : Vs w 0 k v n cs := h3.right.1
  obtain ⟨v', w', hr, hv', hg, hob⟩ := hV.append hu ht hi hz hm hlen hlen2 (Nat.zero_le _) (ty := ty)
  have hvO : ∀ b, v.ownBlock = some b → ¬ O b := fun b hb => (h3.2 b (.inr hb)).2
  have hws := h2.size
  refine ⟨v', w', hr, ⟨O, h1.kept hg hvO, h2.grownOwn hg (fun b hb => (hown b hb).1), (h3.left.grown hg (fun b hb => (hown b hb).2)).and (Keep.vs hv' (fun b hb hO => ?_)), h4⟩, fun b hb => ?_, hg.size⟩
  · rcases hob with e | e
    · exact hvO b (e ▸ hb) hO
    · rw [hb] at e; cases e
      have := (h1.lt hO).1; omega
  · rcases hob with e | e
    · exact hown b (e ▸ hb)
    · rw [hb] at e; cases e
      exact ⟨h2.size, fun hS => by have := (h3.left.2 _ hS).1; omega⟩
theorem Onr.turnVs {W w w' : World} {Bm rb : Nat} {M : List UInt8} {O0 : Nat → Prop} {K : Kp} {k n : Nat} {v : Value} {cs cs' : List Value} (h : Onr W w Bm rb M O0 (K.and (.vs k v n cs))) (hown : ∀ b, v.ownBlock = some b → W.heap.size ≤ b ∧ ¬ K.S b) (hv : Vs w' 0 k v n cs') (hg : w.grownBy w' v.ownBlock) : Onr W w' Bm rb M O0 (K.and (.vs k v n cs')) := by
  obtain ⟨O, h1, h2, h3, h4⟩ := h
  have hvO : ∀ b, v.ownBlock = some b → ¬ O b := fun b hb => (h3.2 b (.inr hb)).2
  exact ⟨O, h1.kept hg hvO, h2.grownOwn hg (fun b hb => (hown b hb).1), (h3.left.grown hg (fun b hb => (hown b hb).2)).and (Keep.vs hv hvO), h4⟩
end Go.Proofs.Ytkcmphjgflbchaa

/- Two memories: how they come to be, and how the reference's bytes are read. -/
namespace Go.Proofs.Ytkcmphjgflbchaa
open Go.RowKit
set_option linter.unusedVariables false
set_option linter.unusedSimpArgs false
attribute [local go_sem] cell_set set_set m_undef

theorem RefP.mono {w : World} {B B' rb : Nat} {M : List UInt8} {R : Nat → Prop} (h : RefP w B rb M R) (hB : B' ≤ B) : RefP w B' rb M R := by
  obtain ⟨vb, ob, ⟨h1, h2, h3, cap, ws, nn, h4, h5⟩, h6⟩ := h
  exact ⟨vb, ob, ⟨h1, by omega, h3, cap, ws, nn, h4, h5.mono hB⟩, h6⟩
/-- Both memories are made. -/
theorem Two.make {W w1 w2 w3 : World} {mb rb : Nat} {M N : List UInt8} {O R : Nat → Prop} {K : Kp} (hb1 : Below W.heap.size W w1) (hK : Keep w1 (fun _ => False) K) (hP : MemP w2 w1.heap.size mb M O) (hb2 : Below w1.heap.size w1 w2) (hR : RefP w3 w2.heap.size rb N R) (hb3 : Below w2.heap.size w2 w3) :
    Two W w3 mb rb M N K :=
  ⟨w1.heap.size, O, R, hb1.size, Nat.le_trans hb2.size hb3.size, hP.below hb3, hR.mono hb2.size, fun k hk hr => by have := (hP.lt hk).1; have := (hR.lt hr).2; omega, bel_trans (bel_trans hb1 hb2) hb3,
    ⟨((hK.turn (Turn.of_below hb2 _)).turn (Turn.of_below hb3 _)).1, fun k hk => by
      have h1 := (hK.2 k hk).1
      have h2 := hb2.size
      have h3 := hb3.size
      refine ⟨by omega, fun hO => ?_⟩
      rcases hO with hO | hO
      · have := (hP.lt hO).2; omega
      · have := (hR.lt hO).2; omega⟩⟩
/-- A call that the reference's memory is handed to, and that gives something new. -/
theorem Two.refX {W w : World} {mb rb : Nat} {M N : List UInt8} {K : Kp} {α : Type} (h : Two W w mb rb M N K) {f : Nat} {args : Array Value} {ret : α → Value} {N' : α → List UInt8} {G : α → Kp} (c : ∀ B R, RefP w B rb N R → B ≤ w.heap.size → Calls Try.prog f args w fun e w' => RefX w w' B rb R ret N' G e)
    (hG : ∀ x w', (G x).P w' → ∀ k, (G x).S k → w.heap.size ≤ k) :
    Calls Try.prog f args w fun e w' => ∃ x, e = .returned (ret x) ∧ Two W w' mb rb M (N' x) (K.and (G x)) := by
  obtain ⟨B, O, R, h1, h2, h3, h4, h5, h6, h7⟩ := h
  refine (c B R h4 h2).mono fun e w' ⟨x, R', he, h8, h9, h10⟩ => ⟨x, he, B, O, R', h1, Nat.le_trans h2 h9.size, h3.turn h9 (fun k hk hR => h5 k hk hR), h8, fun k hk => h9.apart (h5 k hk) (h3.lt hk).1,
    h6.trans ((h9.below (fun k hk => (h4.lt hk).2) h2).mono h1), (h7.turn h9.both').and ⟨h10.1, fun k hk => ⟨(h10.2 k hk).1, fun hO => by
      rcases hO with hO | hO
      · have := hG x w' h10.1 k hk; have := (h3.lt hO).1; omega
      · exact (h10.2 k hk).2 hO⟩⟩⟩
/-- .. what is kept is handed over too. -/
theorem Two.memK {W w : World} {mb rb : Nat} {M N : List UInt8} {K : Kp} (h : Two W w mb rb M N K) {f : Nat} {args : Array Value} {M' : List UInt8} {v : Value} (c : ∀ B O, MemP w B mb M O → B ≤ w.heap.size → Keep w O K → Calls Try.prog f args w fun e w' => MemQ w w' B mb M' O v e) :
    Calls Try.prog f args w fun e w' => e = .returned v ∧ Two W w' mb rb M' N K := by
  obtain ⟨B, O, R, h1, h2, h3, h4, h5, h6, h7⟩ := h
  refine (c B O h3 h2 (h7.wider (fun k hk => .inl (.inl hk)))).mono fun e w' ⟨he, O', h8, h9⟩ => ⟨he, B, O', R, h1, Nat.le_trans h2 h9.size, h8, h4.turn h9 (fun k hk hO => h5 k hO hk), fun k hk hR => h9.apart (fun hO => h5 k hO hR) (h4.lt hR).1 hk,
    h6.trans ((h9.below (fun k hk => (h3.lt hk).2) h2).mono h1), h7.turn h9.both⟩
theorem Two.refK {W w : World} {mb rb : Nat} {M N : List UInt8} {K : Kp} (h : Two W w mb rb M N K) {f : Nat} {args : Array Value} {N' : List UInt8} {v : Value} (c : ∀ B R, RefP w B rb N R → B ≤ w.heap.size → Keep w R K → Calls Try.prog f args w fun e w' => RefQ w w' B rb N' R v e) :
    Calls Try.prog f args w fun e w' => e = .returned v ∧ Two W w' mb rb M N' K := by
  obtain ⟨B, O, R, h1, h2, h3, h4, h5, h6, h7⟩ := h
  refine (c B R h4 h2 (h7.wider (fun k hk => .inl (.inr hk)))).mono fun e w' ⟨he, R', h8, h9⟩ => ⟨he, B, O, R', h1, Nat.le_trans h2 h9.size, h3.turn h9 (fun k hk hR => h5 k hk hR), h8, fun k hk => h9.apart (h5 k hk) (h3.lt hk).1,
    h6.trans ((h9.below (fun k hk => (h4.lt hk).2) h2).mono h1), h7.turn h9.both'⟩
/-- The reference's memory, its slice s. -/
def RefV (w : World) (B rb : Nat) (s : Value) (M : List UInt8) (R : Nat → Prop) : Prop :=
  ∃ vb ob cap ws nn, s = .slice (some ⟨vb, ob, none⟩) 8192 cap ∧ M.length = 8192 ∧ B ≤ rb ∧ vb ≠ rb ∧ Blk w rb #[s, ws, .bool nn] 38 ∧ Bs w B s M ∧ ∀ k, R k ↔ (k = rb ∨ k = vb)
theorem RefP.val {w : World} {B rb : Nat} {M : List UInt8} {R : Nat → Prop} (h : RefP w B rb M R) : ∃ s, RefV w B rb s M R := by
  obtain ⟨vb, ob, ⟨h1, h2, h3, cap, ws, nn, h4, h5⟩, h6⟩ := h
  exact ⟨_, vb, ob, cap, ws, nn, rfl, h1, h2, h3, h4, h5, h6⟩
theorem RefV.ref {w : World} {B rb : Nat} {s : Value} {M : List UInt8} {R : Nat → Prop} (h : RefV w B rb s M R) : RefP w B rb M R := by
  obtain ⟨vb, ob, cap, ws, nn, rfl, h1, h2, h3, h4, h5, h6⟩ := h
  exact ⟨vb, ob, ⟨h1, h2, h3, cap, ws, nn, h4, h5⟩, h6⟩
theorem RefV.turn {w w' : World} {B rb : Nat} {s : Value} {M : List UInt8} {R O O' : Nat → Prop} (h : RefV w B rb s M R) (hT : Turn w w' O O') (hd : ∀ k, R k → ¬ O k) : RefV w' B rb s M R := by
  obtain ⟨vb, ob, cap, ws, nn, rfl, h1, h2, h3, h4, h5, h6⟩ := h
  exact ⟨vb, ob, cap, ws, nn, rfl, h1, h2, h3, h4.turn hT (hd _ ((h6 _).2 (.inl rfl))), h5.turn hT (fun k hk => by cases hk; exact hd _ ((h6 _).2 (.inr rfl))), h6⟩
/-- Two memories, the reference's slice s. -/
def TwoS (W w : World) (mb rb : Nat) (s : Value) (M N : List UInt8) (K : Kp) : Prop := ∃ B O R, W.heap.size ≤ B ∧ B ≤ w.heap.size ∧ MemP w B mb M O ∧ RefV w B rb s N R ∧ (∀ k, O k → ¬ R k) ∧ Below W.heap.size W w ∧ Keep w (fun k => O k ∨ R k) K
section
variable {W w : World} {mb rb : Nat} {s : Value} {M N : List UInt8} {K L : Kp}
theorem Two.val (h : Two W w mb rb M N K) : ∃ s, TwoS W w mb rb s M N K := by
  obtain ⟨B, O, R, h1, h2, h3, h4, h5, h6, h7⟩ := h
  obtain ⟨s, hs⟩ := h4.val
  exact ⟨s, B, O, R, h1, h2, h3, hs, h5, h6, h7⟩
theorem TwoS.two (h : TwoS W w mb rb s M N K) : Two W w mb rb M N K := by
  obtain ⟨B, O, R, h1, h2, h3, h4, h5, h6, h7⟩ := h
  exact ⟨B, O, R, h1, h2, h3, h4.ref, h5, h6, h7⟩
theorem TwoS.form (h : TwoS W w mb rb s M N K) : ∃ vb ob cap, s = .slice (some ⟨vb, ob, none⟩) 8192 cap := by
  obtain ⟨B, O, R, h1, h2, h3, ⟨vb, ob, cap, ws, nn, e, _⟩, _⟩ := h
  exact ⟨vb, ob, cap, e⟩
theorem TwoS.cell (h : TwoS W w mb rb s M N K) : w.cell? ⟨rb, 0, none⟩ = some s := by
  obtain ⟨B, O, R, h1, h2, h3, ⟨vb, ob, cap, ws, nn, e, _, _, _, h4, _⟩, _⟩ := h
  rw [h4.cell]; rfl
theorem TwoS.bs (h : TwoS W w mb rb s M N K) : Bs w 0 s N := by
  obtain ⟨B, O, R, h1, h2, h3, ⟨vb, ob, cap, ws, nn, e, _, _, _, _, h4, _⟩, _⟩ := h
  exact h4.zero
theorem TwoS.fact (h : TwoS W w mb rb s M N K) : K.P w := h.two.fact
theorem TwoS.load (h : TwoS W w mb rb s M N K) {f : Nat} {args : Array Value} {l : List UInt8} (c : ∀ B O, MemP w B mb M O → B ≤ w.heap.size → Calls Try.prog f args w fun e w' => LoadQ w w' B mb M O l e) :
    Calls Try.prog f args w fun e w' => ∃ v, e = .returned v ∧ TwoS W w' mb rb s M N (K.and (.bs v l)) := by
  obtain ⟨B, O, R, h1, h2, h3, h4, h5, h6, h7⟩ := h
  refine (c B O h3 h2).mono fun e w' ⟨v, O', he, hv, h8, h9, h10⟩ => ⟨v, he, B, O', R, h1, Nat.le_trans h2 h9.size, h8, h4.turn h9 (fun k hk hO => h5 k hO hk), fun k hk hR => h9.apart (fun hO => h5 k hO hR) (h4.ref.lt hR).1 hk,
    h6.trans ((h9.below (fun k hk => (h3.lt hk).2) h2).mono h1), (h7.turn h9.both).and (Keep.bs hv (fun k hk hO => by
      rcases hO with hO | hO
      · exact h10 k hk hO
      · have := hv.geB hk; have := (h4.ref.lt hO).1; omega))⟩
end
end Go.Proofs.Ytkcmphjgflbchaa

/- One stack: its top. -/
namespace Go.Proofs.Ytkcmphjgflbchaa
open Go.RowKit
set_option linter.unusedVariables false
set_option linter.unusedSimpArgs false
attribute [local go_sem] cell_set set_set m_undef

/-- The struct of a stack, by value. -/
def skC (mb : Nat) (a lo hi ov un : Int) : Array Value := #[.pointer (some ⟨mb, 0, none⟩), .int .i64 a, .int .i64 lo, .int .i64 hi, .int .i64 ov, .int .i64 un]
theorem skEnter {w : World} {B mb : Nat} {M : List UInt8} {O : Nat → Prop} (h : MemP w B mb M O) (hB : B ≤ w.heap.size) (a lo hi ov un : Int) :
    ∃ w0, w0 = w.alloc (.cells #[.pointer (some ⟨mb, 0, none⟩), .int .i64 a, .int .i64 lo, .int .i64 hi, .int .i64 ov, .int .i64 un] 118) ∧ One w w0 B mb M O (.blk w.heap.size #[.pointer (some ⟨mb, 0, none⟩), .int .i64 a, .int .i64 lo, .int .i64 hi, .int .i64 ov, .int .i64 un] 118) :=
  ⟨_, rfl, ((One.start h hB).new _ _).last⟩
set_option maxHeartbeats 1000000 in
theorem mTop {w : World} {B mb : Nat} {M : List UInt8} {O : Nat → Prop} (h : MemP w B mb M O) (hB : B ≤ w.heap.size) (a lo hi ov un : Int) (hk : Sk a lo hi) :
    Calls Try.prog 86 #[.agg #[.pointer (some ⟨mb, 0, none⟩), .int .i64 a, .int .i64 lo, .int .i64 hi, .int .i64 ov, .int .i64 un]] w fun e w' => MemQ w w' B mb M O (.int .i64 (topL M a lo hi)) e := by
  obtain ⟨b1, b2, b3, b4, b5, b6, b7, b8, b9⟩ := topL_bd (M := M) hk
  have hai : isI a := by unfold isI; omega
  obtain ⟨w0, hw0, hS0⟩ := skEnter h hB a lo hi ov un
  have hG := Lib.hid (hS0.mem (fun O h hb => mGet h hb a hai))
  unfold topL
  obtain ⟨g, hg⟩ : ∃ g, g = getM M a := ⟨_, rfl⟩
  have hgi : isI g := by rw [hg]; unfold getM cellL isI; rw [IntKind.wrap_i64]; omega
  rw [← hg] at hG ⊢
  have hrm : g.tmod 8 = 0 ↔ g % 8 = 0 := ⟨fun h => Int.emod_eq_zero_of_dvd (Int.dvd_of_tmod_eq_zero h), fun h => Int.tmod_eq_zero_of_dvd (Int.dvd_of_emod_eq_zero h)⟩
  obtain ⟨y1, y2, y3, y4, y5, y6⟩ := hS0.fact.c6
  clear hS0
  have k1 : isI lo := by unfold isI; omega
  unfold isI at hgi
  by_cases c1 : g % 8 = 0
  · have t1 : (g.tmod 8 != 0) = false := by rw [hrm.2 c1]; rfl
    by_cases c2 : lo ≤ g
    · have t2 : (g < lo) = False := by simp; omega
      by_cases c3 : g ≤ hi
      · have t3 : (hi < g) = False := by simp; omega
        rw [if_pos ⟨c1, c2, c3⟩]
        have w1 : IntKind.i64.wrap g = g := by rw [IntKind.wrap_i64]; omega
        clear c1 c2 c3 hrm b1 b2 b3 b4 b5 b6 b7 b8 b9 hg hgi k1 h
        go_enter Try.func86, Try.ntmps86
        go_upto_region 1 with fail
        rw [← hw0]
        clear hw0
        go_wp2_with (go_at_call 19; refine hG.out.mono ?_; rintro e w1 ⟨rfl, hS1⟩; clear y1 y2 y3 y4 y5 y6; obtain ⟨y1, y2, y3, y4, y5, y6⟩ := hS1.fact.c6)
        go_ret
        exact hS1.memQ _
      · have t3 : (hi < g) = True := by simp; omega
        rw [if_neg (fun h => c3 h.2.2)]
        clear c1 c2 c3 hrm b1 b2 b3 b4 b5 b6 b7 b8 b9 hg hgi k1 h
        go_enter Try.func86, Try.ntmps86
        go_upto_region 1 with fail
        rw [← hw0]
        clear hw0
        go_wp2_with (go_at_call 19; refine hG.out.mono ?_; rintro e w1 ⟨rfl, hS1⟩; clear y1 y2 y3 y4 y5 y6; obtain ⟨y1, y2, y3, y4, y5, y6⟩ := hS1.fact.c6)
        go_ret
        exact hS1.memQ _
    · have t2 : (g < lo) = True := by simp; omega
      rw [if_neg (fun h => c2 h.2.1)]
      clear c1 c2 hrm b1 b2 b3 b4 b5 b6 b7 b8 b9 hg hgi k1 h
      go_enter Try.func86, Try.ntmps86
      go_upto_region 1 with fail
      rw [← hw0]
      clear hw0
      go_wp2_with (go_at_call 19; refine hG.out.mono ?_; rintro e w1 ⟨rfl, hS1⟩; clear y1 y2 y3 y4 y5 y6; obtain ⟨y1, y2, y3, y4, y5, y6⟩ := hS1.fact.c6)
      go_ret
      exact hS1.memQ _
  · have t1 : (g.tmod 8 != 0) = true := by rw [bne_iff_ne]; exact fun e => c1 (hrm.1 e)
    rw [if_neg (fun h => c1 h.1)]
    clear c1 hrm b1 b2 b3 b4 b5 b6 b7 b8 b9 hg hgi k1 h
    go_enter Try.func86, Try.ntmps86
    go_upto_region 1 with fail
    rw [← hw0]
    clear hw0
    go_wp2_with (go_at_call 19; refine hG.out.mono ?_; rintro e w1 ⟨rfl, hS1⟩; clear y1 y2 y3 y4 y5 y6; obtain ⟨y1, y2, y3, y4, y5, y6⟩ := hS1.fact.c6)
    go_ret
    exact hS1.memQ _
end Go.Proofs.Ytkcmphjgflbchaa

/- One stack: what is laid and taken. -/
namespace Go.Proofs.Ytkcmphjgflbchaa
open Go.RowKit
set_option linter.unusedVariables false
set_option linter.unusedSimpArgs false
attribute [local go_sem] cell_set set_set m_undef

set_option maxHeartbeats 1000000 in
theorem mSetT {w : World} {B mb : Nat} {M : List UInt8} {O : Nat → Prop} (h : MemP w B mb M O) (hB : B ≤ w.heap.size) (a lo hi ov un : Int) (x : Int) (ha : isI a) :
    Calls Try.prog 95 #[.agg #[.pointer (some ⟨mb, 0, none⟩), .int .i64 a, .int .i64 lo, .int .i64 hi, .int .i64 ov, .int .i64 un], .int .i64 x] w fun e w' => MemQ w w' B mb (setM M a x) O (.tuple #[]) e := by
  obtain ⟨w0, hw0, hS⟩ := skEnter h hB a lo hi ov un
  obtain ⟨y1, y2, y3, y4, y5, y6⟩ := hS.fact.c6
  go_enter Try.func95, Try.ntmps95
  go_upto_region 1 with fail
  rw [← hw0]
  clear hw0
  go_wp2_with (go_at_call 65; refine (hS.mem (fun O h hb => mSet h hb a x ha)).mono ?_; rintro e w2 ⟨rfl, hS2⟩; clear hS; have hS := hS2; clear hS2; clear y1 y2 y3 y4 y5 y6; obtain ⟨y1, y2, y3, y4, y5, y6⟩ := hS.fact.c6)
  (try go_end0)
  exact hS.memQ _
set_option maxRecDepth 100000 in
set_option maxHeartbeats 1000000 in
theorem mDep {w : World} {B mb : Nat} {M : List UInt8} {O : Nat → Prop} (h : MemP w B mb M O) (hB : B ≤ w.heap.size) (a lo hi ov un : Int) (hk : Sk a lo hi) :
    Calls Try.prog 80 #[.agg #[.pointer (some ⟨mb, 0, none⟩), .int .i64 a, .int .i64 lo, .int .i64 hi, .int .i64 ov, .int .i64 un]] w fun e w' => MemQ w w' B mb M O (.int .i64 (depL M a lo hi)) e := by
  obtain ⟨b1, b2, b3, b4, b5, b6, b7, b8, b9⟩ := topL_bd (M := M) hk
  unfold depL
  have hTp := Lib.hid (fun (w9 : World) (O : Nat → Prop) (h : MemP w9 B mb M O) (hb : B ≤ w9.heap.size) => mTop h hb a lo hi ov un hk)
  generalize topL M a lo hi = t at *
  have wd : IntKind.i64.wrap (hi - t) = hi - t := by rw [IntKind.wrap_i64]; omega
  clear b1 b2 b3 b4 b5 b6 b7 b8 b9
  obtain ⟨w0, hw0, hS⟩ := skEnter h hB a lo hi ov un
  obtain ⟨y1, y2, y3, y4, y5, y6⟩ := hS.fact.c6
  go_enter Try.func80, Try.ntmps80
  go_upto_region 1 with fail
  rw [← hw0]
  clear hw0
  replace hS := hS.drew
  refine wp_region_noPanic ?_
  refine wp_region_held_drew (S := (fun w' => One w w' B mb M O (.blk w.heap.size #[.pointer (some ⟨mb, 0, none⟩), .int .i64 a, .int .i64 lo, .int .i64 hi, .int .i64 ov, .int .i64 un] 118))) (by kernel_rfl) ?_ (fun hHeld => ?_)
  · (try dsimp only); exact hS
  refine wpAnyH_take (i := 0) (oi := { dst := some 3, op := Go.Op.fieldAddr 118 (Go.Operand.tmp 1) 3, type := 0, pos := "stack.go:41", after := #[], guard := none }) (v := ?v1) rfl (by kernel_rfl) (by kernel_rfl) (by kernel_rfl) (fun _ _ _ h => h) (Or.inl ⟨by rfl, ?hy1⟩) (by assumption) ?rest1
  case hy1 => (intro w hSw; (try dsimp only at hSw); obtain ⟨y1, y2, y3, y4, y5, y6⟩ := (One.fact hSw).c6; go_simp <;> with_reducible rfl)
  try simp only [Act.put, List.setIfInBounds_toArray, List.set_cons_zero, List.set_cons_succ]
  refine wpAnyH_take (i := 1) (oi := { dst := some 4, op := Go.Op.load 3 (Go.Operand.tmp 3), type := 3, pos := "stack.go:41", after := #[{ on := 0, ground := Go.Ground.data }], guard := none }) (v := ?v2) rfl (by kernel_rfl) (by kernel_rfl) (by kernel_rfl) (fun _ _ _ h => h) (Or.inl ⟨by rfl, ?hy2⟩) (by assumption) ?rest2
  case hy2 => (intro w hSw; (try dsimp only at hSw); obtain ⟨y1, y2, y3, y4, y5, y6⟩ := (One.fact hSw).c6; go_simp <;> with_reducible rfl)
  try simp only [Act.put, List.setIfInBounds_toArray, List.set_cons_zero, List.set_cons_succ]
  refine wpAnyH_take (i := 2) (oi := { dst := some 5, op := Go.Op.load 118 (Go.Operand.tmp 1), type := 118, pos := "stack.go:41", after := #[], guard := none }) (v := ?v3) rfl (by kernel_rfl) (by kernel_rfl) (by kernel_rfl) (fun _ _ _ h => h) (Or.inl ⟨by rfl, ?hy3⟩) (by assumption) ?rest3
  case hy3 => (intro w hSw; (try dsimp only at hSw); obtain ⟨y1, y2, y3, y4, y5, y6⟩ := (One.fact hSw).c6; go_simp <;> with_reducible rfl)
  try simp only [Act.put, List.setIfInBounds_toArray, List.set_cons_zero, List.set_cons_succ]
  refine wpAnyH_ready (rs := [3]) (by kernel_rfl) (by simp) ?_
  refine AllReadyH.cons (o := { dst := some 6, op := Go.Op.call { callee := Go.Callee.value (Go.Operand.func 86), args := #[Go.Operand.tmp 5], argTypes := #[118] }, type := 3, pos := "stack.go:41", after := #[{ on := 2, ground := Go.Ground.data }], guard := none }) rfl (fun K hK => ?_) AllReadyH.nil
  go_simp
  go_at_call 86; refine (hS.mem (fun O h hb => hTp.out _ _ h hb)).mono ?_; rintro e w2 ⟨rfl, hS2⟩; clear hS; have hS := hS2; clear hS2; clear y1 y2 y3 y4 y5 y6; obtain ⟨y1, y2, y3, y4, y5, y6⟩ := hS.fact.c6
  refine hK.out _ _ ?_ (fun hHeld2 => ?_)
  · (try dsimp only); exact hS
  clear hK K hHeld
  have hHeld := hHeld2
  clear hHeld2
  try simp only [Act.put, List.setIfInBounds_toArray, List.set_cons_zero, List.set_cons_succ]
  refine wpAnyH_take (i := 4) (oi := { dst := some 7, op := Go.Op.binOp Go.BinOp.sub 3 (Go.Operand.tmp 4) (Go.Operand.tmp 6) 3, type := 3, pos := "stack.go:41", after := #[{ on := 1, ground := Go.Ground.data }, { on := 3, ground := Go.Ground.data }], guard := none }) (v := ?v4) rfl (by kernel_rfl) (by kernel_rfl) (by kernel_rfl) (fun _ _ _ h => h) (Or.inl ⟨by rfl, ?hy4⟩) (by assumption) ?rest4
  case hy4 => (intro w hSw; (try dsimp only at hSw); obtain ⟨y1, y2, y3, y4, y5, y6⟩ := (One.fact hSw).c6; go_simp <;> with_reducible rfl)
  try simp only [Act.put, List.setIfInBounds_toArray, List.set_cons_zero, List.set_cons_succ]
  refine wpAnyH_take (i := 5) (oi := { dst := some 8, op := Go.Op.binOp Go.BinOp.shr 3 (Go.Operand.tmp 7) (Go.Operand.const (Go.Value.int Go.IntKind.u64 3)) 125, type := 3, pos := "stack.go:41", after := #[{ on := 4, ground := Go.Ground.data }], guard := none }) (v := ?v5) rfl (by kernel_rfl) (by kernel_rfl) (by kernel_rfl) (fun _ _ _ h => h) (Or.inl ⟨by rfl, ?hy5⟩) (by assumption) ?rest5
  case hy5 => (intro w hSw; (try dsimp only at hSw); obtain ⟨y1, y2, y3, y4, y5, y6⟩ := (One.fact hSw).c6; go_simp <;> with_reducible rfl)
  try simp only [Act.put, List.setIfInBounds_toArray, List.set_cons_zero, List.set_cons_succ]
  refine wpAnyH_take (i := 6) (oi := { dst := some 2, op := Go.Op.assign (Go.Operand.tmp 8), type := 3, pos := "stack.go:41", after := #[{ on := 5, ground := Go.Ground.data }, { on := 3, ground := Go.Ground.chain }, { on := 0, ground := Go.Ground.phase }, { on := 1, ground := Go.Ground.phase }, { on := 2, ground := Go.Ground.phase }, { on := 3, ground := Go.Ground.phase }, { on := 4, ground := Go.Ground.phase }, { on := 5, ground := Go.Ground.phase }], guard := none }) (v := ?v6) rfl (by kernel_rfl) (by kernel_rfl) (by kernel_rfl) (fun _ _ _ h => h) (Or.inl ⟨by rfl, ?hy6⟩) (by assumption) ?rest6
  case hy6 => (intro w hSw; (try dsimp only at hSw); obtain ⟨y1, y2, y3, y4, y5, y6⟩ := (One.fact hSw).c6; go_simp <;> with_reducible rfl)
  try simp only [Act.put, List.setIfInBounds_toArray, List.set_cons_zero, List.set_cons_succ]
  refine wpAnyH_done (by kernel_rfl) ?_ _
  refine NoPanic.normal ?_
  go_wp2
  go_ret
  exact hS.memQ _
set_option maxHeartbeats 1000000 in
theorem mPush {w : World} {B mb : Nat} {M : List UInt8} {O : Nat → Prop} (h : MemP w B mb M O) (hB : B ≤ w.heap.size) (a lo hi ov un : Int) (hk : Sk a lo hi) (n : Int) :
    Calls Try.prog 87 #[.agg #[.pointer (some ⟨mb, 0, none⟩), .int .i64 a, .int .i64 lo, .int .i64 hi, .int .i64 ov, .int .i64 un], .int .i64 n] w fun e w' => MemQ w w' B mb (pushM M a lo hi n) O (.int .i64 (pushT M a lo hi ov)) e := by
  obtain ⟨b1, b2, b3, b4, b5, b6, b7, b8, b9⟩ := topL_bd (M := M) hk
  unfold pushM pushT
  have hTp := Lib.hid (fun (w9 : World) (O : Nat → Prop) (h : MemP w9 B mb M O) (hb : B ≤ w9.heap.size) => mTop h hb a lo hi ov un hk)
  generalize topL M a lo hi = t at *
  obtain ⟨p, hp⟩ : ∃ p, p = t - 8 := ⟨_, rfl⟩
  have wd : IntKind.i64.wrap (t - 8) = p := by rw [hp, IntKind.wrap_i64]; omega
  rw [← hp]
  have hpi : isI p := by unfold isI; omega
  have hai : isI a := by unfold isI; omega
  obtain ⟨w0, hw0, hS⟩ := skEnter h hB a lo hi ov un
  obtain ⟨y1, y2, y3, y4, y5, y6⟩ := hS.fact.c6
  by_cases c1 : p < lo
  · have t1 : (p < lo) = True := by simp; exact c1
    rw [if_pos c1, if_pos c1]
    clear c1 b1 b2 b3 b4 b5 b6 b7 b8 b9 hp
    go_enter Try.func87, Try.ntmps87
    go_upto_region 1 with fail
    rw [← hw0]
    clear hw0
    go_wp2_with (go_at_call 86; refine (hS.mem (fun O h hb => hTp.out _ _ h hb)).mono ?_; rintro e w2 ⟨rfl, hS2⟩; clear hS; have hS := hS2; clear hS2; clear y1 y2 y3 y4 y5 y6; obtain ⟨y1, y2, y3, y4, y5, y6⟩ := hS.fact.c6)
    go_ret
    exact hS.memQ _
  · have t1 : (p < lo) = False := by simp; omega
    rw [if_neg c1, if_neg c1]
    clear c1 b1 b2 b3 b4 b5 b6 b7 b8 b9 hp
    go_enter Try.func87, Try.ntmps87
    go_upto_region 1 with fail
    rw [← hw0]
    clear hw0
    go_wp2_with (first
      | (go_at_call 86; refine (hS.mem (fun O h hb => hTp.out _ _ h hb)).mono ?_; rintro e w2 ⟨rfl, hS2⟩; clear hS; have hS := hS2; clear hS2; clear y1 y2 y3 y4 y5 y6; obtain ⟨y1, y2, y3, y4, y5, y6⟩ := hS.fact.c6)
      | (go_at_call 65; refine (hS.mem (fun O h hb => mSet h hb p n hpi)).mono ?_; rintro e w2 ⟨rfl, hS2⟩; clear hS; have hS := hS2; clear hS2; clear y1 y2 y3 y4 y5 y6; obtain ⟨y1, y2, y3, y4, y5, y6⟩ := hS.fact.c6)
      | (go_at_call 95; refine (hS.mem (fun O h hb => mSetT h hb a lo hi ov un p hai)).mono ?_; rintro e w2 ⟨rfl, hS2⟩; clear hS; have hS := hS2; clear hS2; clear y1 y2 y3 y4 y5 y6; obtain ⟨y1, y2, y3, y4, y5, y6⟩ := hS.fact.c6))
    go_ret
    exact hS.memQ _
end Go.Proofs.Ytkcmphjgflbchaa

/- One stack: what is looked at and taken. -/
namespace Go.Proofs.Ytkcmphjgflbchaa
open Go.RowKit
set_option linter.unusedVariables false
set_option linter.unusedSimpArgs false
attribute [local go_sem] cell_set set_set m_undef

set_option maxRecDepth 100000 in
set_option maxHeartbeats 1000000 in
theorem mPeek {w : World} {B mb : Nat} {M : List UInt8} {O : Nat → Prop} (h : MemP w B mb M O) (hB : B ≤ w.heap.size) (a lo hi ov un : Int) (hk : Sk a lo hi) (n : Int) (hn : isI n) :
    Calls Try.prog 94 #[.agg #[.pointer (some ⟨mb, 0, none⟩), .int .i64 a, .int .i64 lo, .int .i64 hi, .int .i64 ov, .int .i64 un], .int .i64 n] w fun e w' => MemQ w w' B mb M O (.tuple #[.int .i64 (peekV M a lo hi n), .int .i64 (peekT M a lo hi un n)]) e := by
  obtain ⟨b1, b2, b3, b4, b5, b6, b7, b8, b9⟩ := topL_bd (M := M) hk
  obtain ⟨d1, d2, d3⟩ := depL_bd (M := M) hk
  unfold peekV peekT
  have hTp := Lib.hid (fun (w9 : World) (O : Nat → Prop) (h : MemP w9 B mb M O) (hb : B ≤ w9.heap.size) => mTop h hb a lo hi ov un hk)
  have hDp := Lib.hid (fun (w9 : World) (O : Nat → Prop) (h : MemP w9 B mb M O) (hb : B ≤ w9.heap.size) => mDep h hb a lo hi ov un hk)
  generalize topL M a lo hi = t at *
  generalize depL M a lo hi = d at *
  unfold isI at hn
  obtain ⟨w0, hw0, hS⟩ := skEnter h hB a lo hi ov un
  obtain ⟨y1, y2, y3, y4, y5, y6⟩ := hS.fact.c6
  by_cases c1 : n < 0
  · have t1 : (n < 0) = True := by simp; exact c1
    rw [if_neg (by omega), if_neg (by omega)]
    clear c1 b1 b2 b3 b4 b5 b6 b7 b8 b9 d1 d2 d3 hn
    go_enter Try.func94, Try.ntmps94
    go_upto_region 1 with fail
    rw [← hw0]
    clear hw0
    go_wp2
    replace hS := hS.drew
    refine wp_region_noPanic ?_
    refine wp_region_held_drew (S := (fun w' => One w w' B mb M O (.blk w.heap.size #[.pointer (some ⟨mb, 0, none⟩), .int .i64 a, .int .i64 lo, .int .i64 hi, .int .i64 ov, .int .i64 un] 118))) (by kernel_rfl) ?_ (fun hHeld => ?_)
    · (try dsimp only); exact hS
    refine wpAnyH_take (i := 0) (oi := { dst := some 14, op := Go.Op.fieldAddr 118 (Go.Operand.tmp 2) 5, type := 0, pos := "stack.go:57", after := #[{ on := 2, ground := Go.Ground.gcOnly Go.Departure.lateStores }], guard := none }) (v := ?v1) rfl (by kernel_rfl) (by kernel_rfl) (by kernel_rfl) (fun _ _ _ h => h) (Or.inl ⟨by rfl, ?hy1⟩) (by assumption) ?rest1
    case hy1 => (intro w hSw; (try dsimp only at hSw); obtain ⟨y1, y2, y3, y4, y5, y6⟩ := (One.fact hSw).c6; go_simp <;> with_reducible rfl)
    try simp only [Act.put, List.setIfInBounds_toArray, List.set_cons_zero, List.set_cons_succ]
    refine wpAnyH_take (i := 1) (oi := { dst := some 15, op := Go.Op.load 3 (Go.Operand.tmp 14), type := 3, pos := "stack.go:57", after := #[{ on := 0, ground := Go.Ground.data }, { on := 2, ground := Go.Ground.gcOnly Go.Departure.lateStores }], guard := none }) (v := ?v2) rfl (by kernel_rfl) (by kernel_rfl) (by kernel_rfl) (fun _ _ _ h => h) (Or.inl ⟨by rfl, ?hy2⟩) (by assumption) ?rest2
    case hy2 => (intro w hSw; (try dsimp only at hSw); obtain ⟨y1, y2, y3, y4, y5, y6⟩ := (One.fact hSw).c6; go_simp <;> with_reducible rfl)
    try simp only [Act.put, List.setIfInBounds_toArray, List.set_cons_zero, List.set_cons_succ]
    refine wpAnyH_take (i := 2) (oi := { dst := some 4, op := Go.Op.assign (Go.Operand.const (Go.Value.int Go.IntKind.i64 0)), type := 2, pos := "stack.go:57", after := #[{ on := 0, ground := Go.Ground.textOnly Go.Departure.lateStores }, { on := 1, ground := Go.Ground.textOnly Go.Departure.lateStores }], guard := none }) (v := ?v3) rfl (by kernel_rfl) (by kernel_rfl) (by kernel_rfl) (fun _ _ _ h => h) (Or.inl ⟨by rfl, ?hy3⟩) (by assumption) ?rest3
    case hy3 => (intro w hSw; (try dsimp only at hSw); obtain ⟨y1, y2, y3, y4, y5, y6⟩ := (One.fact hSw).c6; go_simp <;> with_reducible rfl)
    try simp only [Act.put, List.setIfInBounds_toArray, List.set_cons_zero, List.set_cons_succ]
    refine wpAnyH_take (i := 3) (oi := { dst := some 5, op := Go.Op.assign (Go.Operand.tmp 15), type := 3, pos := "stack.go:57", after := #[{ on := 1, ground := Go.Ground.data }, { on := 2, ground := Go.Ground.chain }, { on := 0, ground := Go.Ground.phase }, { on := 1, ground := Go.Ground.phase }, { on := 2, ground := Go.Ground.phase }], guard := none }) (v := ?v4) rfl (by kernel_rfl) (by kernel_rfl) (by kernel_rfl) (fun _ _ _ h => h) (Or.inl ⟨by rfl, ?hy4⟩) (by assumption) ?rest4
    case hy4 => (intro w hSw; (try dsimp only at hSw); obtain ⟨y1, y2, y3, y4, y5, y6⟩ := (One.fact hSw).c6; go_simp <;> with_reducible rfl)
    try simp only [Act.put, List.setIfInBounds_toArray, List.set_cons_zero, List.set_cons_succ]
    refine wpAnyH_done (by kernel_rfl) ?_ _
    refine NoPanic.normal ?_
    go_wp2
    go_ret2
    exact hS.memQ _
  by_cases c2 : d ≤ n
  · have t1 : (n < 0) = False := by simp; omega
    have t2 : (d ≤ n) = True := by simp; exact c2
    rw [if_neg (by omega), if_neg (by omega)]
    clear c1 c2 b1 b2 b3 b4 b5 b6 b7 b8 b9 d1 d2 d3 hn
    go_enter Try.func94, Try.ntmps94
    go_upto_region 1 with fail
    rw [← hw0]
    clear hw0
    go_wp2_with (go_at_call 80; refine (hS.mem (fun O h hb => hDp.out _ _ h hb)).mono ?_; rintro e w2 ⟨rfl, hS2⟩; clear hS; have hS := hS2; clear hS2; clear y1 y2 y3 y4 y5 y6; obtain ⟨y1, y2, y3, y4, y5, y6⟩ := hS.fact.c6)
    replace hS := hS.drew
    refine wp_region_noPanic ?_
    refine wp_region_held_drew (S := (fun w' => One w w' B mb M O (.blk w.heap.size #[.pointer (some ⟨mb, 0, none⟩), .int .i64 a, .int .i64 lo, .int .i64 hi, .int .i64 ov, .int .i64 un] 118))) (by kernel_rfl) ?_ (fun hHeld => ?_)
    · (try dsimp only); exact hS
    refine wpAnyH_take (i := 0) (oi := { dst := some 14, op := Go.Op.fieldAddr 118 (Go.Operand.tmp 2) 5, type := 0, pos := "stack.go:57", after := #[{ on := 2, ground := Go.Ground.gcOnly Go.Departure.lateStores }], guard := none }) (v := ?v5) rfl (by kernel_rfl) (by kernel_rfl) (by kernel_rfl) (fun _ _ _ h => h) (Or.inl ⟨by rfl, ?hy5⟩) (by assumption) ?rest5
    case hy5 => (intro w hSw; (try dsimp only at hSw); obtain ⟨y1, y2, y3, y4, y5, y6⟩ := (One.fact hSw).c6; go_simp <;> with_reducible rfl)
    try simp only [Act.put, List.setIfInBounds_toArray, List.set_cons_zero, List.set_cons_succ]
    refine wpAnyH_take (i := 1) (oi := { dst := some 15, op := Go.Op.load 3 (Go.Operand.tmp 14), type := 3, pos := "stack.go:57", after := #[{ on := 0, ground := Go.Ground.data }, { on := 2, ground := Go.Ground.gcOnly Go.Departure.lateStores }], guard := none }) (v := ?v6) rfl (by kernel_rfl) (by kernel_rfl) (by kernel_rfl) (fun _ _ _ h => h) (Or.inl ⟨by rfl, ?hy6⟩) (by assumption) ?rest6
    case hy6 => (intro w hSw; (try dsimp only at hSw); obtain ⟨y1, y2, y3, y4, y5, y6⟩ := (One.fact hSw).c6; go_simp <;> with_reducible rfl)
    try simp only [Act.put, List.setIfInBounds_toArray, List.set_cons_zero, List.set_cons_succ]
    refine wpAnyH_take (i := 2) (oi := { dst := some 4, op := Go.Op.assign (Go.Operand.const (Go.Value.int Go.IntKind.i64 0)), type := 2, pos := "stack.go:57", after := #[{ on := 0, ground := Go.Ground.textOnly Go.Departure.lateStores }, { on := 1, ground := Go.Ground.textOnly Go.Departure.lateStores }], guard := none }) (v := ?v7) rfl (by kernel_rfl) (by kernel_rfl) (by kernel_rfl) (fun _ _ _ h => h) (Or.inl ⟨by rfl, ?hy7⟩) (by assumption) ?rest7
    case hy7 => (intro w hSw; (try dsimp only at hSw); obtain ⟨y1, y2, y3, y4, y5, y6⟩ := (One.fact hSw).c6; go_simp <;> with_reducible rfl)
    try simp only [Act.put, List.setIfInBounds_toArray, List.set_cons_zero, List.set_cons_succ]
    refine wpAnyH_take (i := 3) (oi := { dst := some 5, op := Go.Op.assign (Go.Operand.tmp 15), type := 3, pos := "stack.go:57", after := #[{ on := 1, ground := Go.Ground.data }, { on := 2, ground := Go.Ground.chain }, { on := 0, ground := Go.Ground.phase }, { on := 1, ground := Go.Ground.phase }, { on := 2, ground := Go.Ground.phase }], guard := none }) (v := ?v8) rfl (by kernel_rfl) (by kernel_rfl) (by kernel_rfl) (fun _ _ _ h => h) (Or.inl ⟨by rfl, ?hy8⟩) (by assumption) ?rest8
    case hy8 => (intro w hSw; (try dsimp only at hSw); obtain ⟨y1, y2, y3, y4, y5, y6⟩ := (One.fact hSw).c6; go_simp <;> with_reducible rfl)
    try simp only [Act.put, List.setIfInBounds_toArray, List.set_cons_zero, List.set_cons_succ]
    refine wpAnyH_done (by kernel_rfl) ?_ _
    refine NoPanic.normal ?_
    go_wp2
    go_ret2
    exact hS.memQ _
  have t1 : (n < 0) = False := by simp; omega
  have t2 : (d ≤ n) = False := by simp; omega
  rw [if_pos ⟨by omega, by omega⟩, if_pos ⟨by omega, by omega⟩]
  obtain ⟨n8, hn8⟩ : ∃ n8, n8 = 8 * n := ⟨_, rfl⟩
  obtain ⟨p, hp⟩ : ∃ p, p = t + n8 := ⟨_, rfl⟩
  have w1 : IntKind.i64.wrap (8 * n) = n8 := by rw [IntKind.wrap_i64]; omega
  have w2 : IntKind.i64.wrap (t + n8) = p := by rw [IntKind.wrap_i64]; omega
  have hpi : isI p := by unfold isI; omega
  rw [← hn8, ← hp]
  clear c1 c2 b1 b2 b3 b4 b5 b6 b7 b8 b9 d1 d2 d3 hn hn8 hp
  go_enter Try.func94, Try.ntmps94
  go_upto_region 1 with fail
  rw [← hw0]
  clear hw0
  go_upto_region 3 with (go_at_call 80; refine (hS.mem (fun O h hb => hDp.out _ _ h hb)).mono ?_; rintro e w2 ⟨rfl, hS2⟩; clear hS; have hS := hS2; clear hS2; clear y1 y2 y3 y4 y5 y6; obtain ⟨y1, y2, y3, y4, y5, y6⟩ := hS.fact.c6)
  replace hS := hS.drew
  refine wp_region_noPanic ?_
  refine wp_region_held_drew (S := (fun w' => One w w' B mb M O (.blk w.heap.size #[.pointer (some ⟨mb, 0, none⟩), .int .i64 a, .int .i64 lo, .int .i64 hi, .int .i64 ov, .int .i64 un] 118))) (by kernel_rfl) ?_ (fun hHeld => ?_)
  · (try dsimp only); exact hS
  refine wpAnyH_take (i := 0) (oi := { dst := some 16, op := Go.Op.fieldAddr 118 (Go.Operand.tmp 2) 0, type := 0, pos := "stack.go:59", after := #[], guard := none }) (v := ?v9) rfl (by kernel_rfl) (by kernel_rfl) (by kernel_rfl) (fun _ _ _ h => h) (Or.inl ⟨by rfl, ?hy9⟩) (by assumption) ?rest9
  case hy9 => (intro w hSw; (try dsimp only at hSw); obtain ⟨y1, y2, y3, y4, y5, y6⟩ := (One.fact hSw).c6; go_simp <;> with_reducible rfl)
  try simp only [Act.put, List.setIfInBounds_toArray, List.set_cons_zero, List.set_cons_succ]
  refine wpAnyH_take (i := 1) (oi := { dst := some 17, op := Go.Op.load 26 (Go.Operand.tmp 16), type := 26, pos := "stack.go:59", after := #[{ on := 0, ground := Go.Ground.data }], guard := none }) (v := ?v10) rfl (by kernel_rfl) (by kernel_rfl) (by kernel_rfl) (fun _ _ _ h => h) (Or.inl ⟨by rfl, ?hy10⟩) (by assumption) ?rest10
  case hy10 => (intro w hSw; (try dsimp only at hSw); obtain ⟨y1, y2, y3, y4, y5, y6⟩ := (One.fact hSw).c6; go_simp <;> with_reducible rfl)
  try simp only [Act.put, List.setIfInBounds_toArray, List.set_cons_zero, List.set_cons_succ]
  refine wpAnyH_take (i := 2) (oi := { dst := some 18, op := Go.Op.load 118 (Go.Operand.tmp 2), type := 118, pos := "stack.go:59", after := #[], guard := none }) (v := ?v11) rfl (by kernel_rfl) (by kernel_rfl) (by kernel_rfl) (fun _ _ _ h => h) (Or.inl ⟨by rfl, ?hy11⟩) (by assumption) ?rest11
  case hy11 => (intro w hSw; (try dsimp only at hSw); obtain ⟨y1, y2, y3, y4, y5, y6⟩ := (One.fact hSw).c6; go_simp <;> with_reducible rfl)
  try simp only [Act.put, List.setIfInBounds_toArray, List.set_cons_zero, List.set_cons_succ]
  refine wpAnyH_take (i := 4) (oi := { dst := some 20, op := Go.Op.move (Go.Operand.tmp 1), type := 3, pos := "stack.go:59", after := #[], guard := none }) (v := ?v12) rfl (by kernel_rfl) (by kernel_rfl) (by kernel_rfl) (fun _ _ _ h => h) (Or.inl ⟨by rfl, ?hy12⟩) (by assumption) ?rest12
  case hy12 => (intro w hSw; (try dsimp only at hSw); obtain ⟨y1, y2, y3, y4, y5, y6⟩ := (One.fact hSw).c6; go_simp <;> with_reducible rfl)
  try simp only [Act.put, List.setIfInBounds_toArray, List.set_cons_zero, List.set_cons_succ]
  refine wpAnyH_take (i := 5) (oi := { dst := some 21, op := Go.Op.binOp Go.BinOp.mul 3 (Go.Operand.const (Go.Value.int Go.IntKind.i64 8)) (Go.Operand.tmp 20) 3, type := 3, pos := "stack.go:59", after := #[{ on := 4, ground := Go.Ground.data }], guard := none }) (v := ?v13) rfl (by kernel_rfl) (by kernel_rfl) (by kernel_rfl) (fun _ _ _ h => h) (Or.inl ⟨by rfl, ?hy13⟩) (by assumption) ?rest13
  case hy13 => (intro w hSw; (try dsimp only at hSw); obtain ⟨y1, y2, y3, y4, y5, y6⟩ := (One.fact hSw).c6; go_simp <;> with_reducible rfl)
  try simp only [Act.put, List.setIfInBounds_toArray, List.set_cons_zero, List.set_cons_succ]
  refine wpAnyH_ready (rs := [3]) (by kernel_rfl) (by simp) ?_
  refine AllReadyH.cons (o := { dst := some 19, op := Go.Op.call { callee := Go.Callee.value (Go.Operand.func 86), args := #[Go.Operand.tmp 18], argTypes := #[118] }, type := 3, pos := "stack.go:59", after := #[{ on := 2, ground := Go.Ground.data }], guard := none }) rfl (fun K hK => ?_) AllReadyH.nil
  go_simp
  go_at_call 86; refine (hS.mem (fun O h hb => hTp.out _ _ h hb)).mono ?_; rintro e w2 ⟨rfl, hS2⟩; clear hS; have hS := hS2; clear hS2; clear y1 y2 y3 y4 y5 y6; obtain ⟨y1, y2, y3, y4, y5, y6⟩ := hS.fact.c6
  refine hK.out _ _ ?_ (fun hHeld2 => ?_)
  · (try dsimp only); exact hS
  clear hK K hHeld
  have hHeld := hHeld2
  clear hHeld2
  try simp only [Act.put, List.setIfInBounds_toArray, List.set_cons_zero, List.set_cons_succ]
  refine wpAnyH_take (i := 6) (oi := { dst := some 22, op := Go.Op.binOp Go.BinOp.add 3 (Go.Operand.tmp 19) (Go.Operand.tmp 21) 3, type := 3, pos := "stack.go:59", after := #[{ on := 3, ground := Go.Ground.data }, { on := 5, ground := Go.Ground.data }], guard := none }) (v := ?v14) rfl (by kernel_rfl) (by kernel_rfl) (by kernel_rfl) (fun _ _ _ h => h) (Or.inl ⟨by rfl, ?hy14⟩) (by assumption) ?rest14
  case hy14 => (intro w hSw; (try dsimp only at hSw); obtain ⟨y1, y2, y3, y4, y5, y6⟩ := (One.fact hSw).c6; go_simp <;> with_reducible rfl)
  try simp only [Act.put, List.setIfInBounds_toArray, List.set_cons_zero, List.set_cons_succ]
  refine wpAnyH_ready (rs := [7]) (by kernel_rfl) (by simp) ?_
  refine AllReadyH.cons (o := { dst := some 23, op := Go.Op.call { callee := Go.Callee.value (Go.Operand.func 19), args := #[Go.Operand.tmp 17, Go.Operand.tmp 22], argTypes := #[26, 3] }, type := 2, pos := "stack.go:59", after := #[{ on := 1, ground := Go.Ground.data }, { on := 6, ground := Go.Ground.data }, { on := 3, ground := Go.Ground.chain }], guard := none }) rfl (fun K hK => ?_) AllReadyH.nil
  go_simp
  go_at_call 19; refine (hS.mem (fun O h hb => mGet h hb p hpi)).mono ?_; rintro e w2 ⟨rfl, hS2⟩; clear hS; have hS := hS2; clear hS2; clear y1 y2 y3 y4 y5 y6; obtain ⟨y1, y2, y3, y4, y5, y6⟩ := hS.fact.c6
  refine hK.out _ _ ?_ (fun hHeld2 => ?_)
  · (try dsimp only); exact hS
  clear hK K hHeld
  have hHeld := hHeld2
  clear hHeld2
  try simp only [Act.put, List.setIfInBounds_toArray, List.set_cons_zero, List.set_cons_succ]
  refine wpAnyH_take (i := 8) (oi := { dst := some 4, op := Go.Op.assign (Go.Operand.tmp 23), type := 2, pos := "stack.go:59", after := #[{ on := 7, ground := Go.Ground.data }, { on := 7, ground := Go.Ground.chain }, { on := 0, ground := Go.Ground.phase }, { on := 1, ground := Go.Ground.phase }, { on := 2, ground := Go.Ground.phase }, { on := 3, ground := Go.Ground.phase }, { on := 4, ground := Go.Ground.phase }, { on := 5, ground := Go.Ground.phase }, { on := 6, ground := Go.Ground.phase }, { on := 7, ground := Go.Ground.phase }], guard := none }) (v := ?v15) rfl (by kernel_rfl) (by kernel_rfl) (by kernel_rfl) (fun _ _ _ h => h) (Or.inl ⟨by rfl, ?hy15⟩) (by assumption) ?rest15
  case hy15 => (intro w hSw; (try dsimp only at hSw); obtain ⟨y1, y2, y3, y4, y5, y6⟩ := (One.fact hSw).c6; go_simp <;> with_reducible rfl)
  try simp only [Act.put, List.setIfInBounds_toArray, List.set_cons_zero, List.set_cons_succ]
  refine wpAnyH_take (i := 9) (oi := { dst := some 5, op := Go.Op.assign (Go.Operand.const (Go.Value.int Go.IntKind.i64 0)), type := 3, pos := "stack.go:59", after := #[{ on := 8, ground := Go.Ground.chain }, { on := 0, ground := Go.Ground.phase }, { on := 1, ground := Go.Ground.phase }, { on := 2, ground := Go.Ground.phase }, { on := 3, ground := Go.Ground.phase }, { on := 4, ground := Go.Ground.phase }, { on := 5, ground := Go.Ground.phase }, { on := 6, ground := Go.Ground.phase }, { on := 7, ground := Go.Ground.phase }, { on := 8, ground := Go.Ground.phase }], guard := none }) (v := ?v16) rfl (by kernel_rfl) (by kernel_rfl) (by kernel_rfl) (fun _ _ _ h => h) (Or.inl ⟨by rfl, ?hy16⟩) (by assumption) ?rest16
  case hy16 => (intro w hSw; (try dsimp only at hSw); obtain ⟨y1, y2, y3, y4, y5, y6⟩ := (One.fact hSw).c6; go_simp <;> with_reducible rfl)
  try simp only [Act.put, List.setIfInBounds_toArray, List.set_cons_zero, List.set_cons_succ]
  refine wpAnyH_done (by kernel_rfl) ?_ _
  refine NoPanic.normal ?_
  go_wp2
  go_ret2
  exact hS.memQ _
set_option maxRecDepth 100000 in
set_option maxHeartbeats 1000000 in
theorem mPop {w : World} {B mb : Nat} {M : List UInt8} {O : Nat → Prop} (h : MemP w B mb M O) (hB : B ≤ w.heap.size) (a lo hi ov un : Int) (hk : Sk a lo hi) (hun : (un == 0) = false) :
    Calls Try.prog 81 #[.agg #[.pointer (some ⟨mb, 0, none⟩), .int .i64 a, .int .i64 lo, .int .i64 hi, .int .i64 ov, .int .i64 un]] w fun e w' => MemQ w w' B mb (popM M a lo hi) O (.tuple #[.int .i64 (peekV M a lo hi 0), .int .i64 (peekT M a lo hi un 0)]) e := by
  obtain ⟨b1, b2, b3, b4, b5, b6, b7, b8, b9⟩ := topL_bd (M := M) hk
  have hPk := Lib.hid (fun (w9 : World) (O : Nat → Prop) (h : MemP w9 B mb M O) (hb : B ≤ w9.heap.size) => mPeek h hb a lo hi ov un hk 0 (by unfold isI; omega))
  have hTp := Lib.hid (fun (w9 : World) (O : Nat → Prop) (h : MemP w9 B mb M O) (hb : B ≤ w9.heap.size) => mTop h hb a lo hi ov un hk)
  unfold popM
  have hai : isI a := by unfold isI; omega
  have hV : ∃ x, x = peekV M a lo hi 0 := ⟨_, rfl⟩
  obtain ⟨x, hx⟩ := hV
  rw [← hx] at hPk ⊢
  by_cases c1 : 0 < depL M a lo hi
  · have hT : peekT M a lo hi un 0 = 0 := by unfold peekT; rw [if_pos ⟨by omega, c1⟩]
    rw [hT] at hPk ⊢
    rw [if_pos c1]
    generalize topL M a lo hi = t at *
    obtain ⟨p, hp⟩ : ∃ p, p = t + 8 := ⟨_, rfl⟩
    have w1 : IntKind.i64.wrap (t + 8) = p := by rw [IntKind.wrap_i64]; omega
    rw [← hp]
    clear hT c1 hx hp b1 b2 b3 b4 b5 b6 b7 b8 b9 hun
    obtain ⟨w0, hw0, hS⟩ := skEnter h hB a lo hi ov un
    obtain ⟨y1, y2, y3, y4, y5, y6⟩ := hS.fact.c6
    go_enter Try.func81, Try.ntmps81
    go_upto_region 1 with fail
    rw [← hw0]
    clear hw0
    go_upto_region 3 with (go_at_call 94; refine (hS.mem (fun O h hb => hPk.out _ _ h hb)).mono ?_; rintro e w2 ⟨rfl, hS2⟩; clear hS; have hS := hS2; clear hS2; clear y1 y2 y3 y4 y5 y6; obtain ⟨y1, y2, y3, y4, y5, y6⟩ := hS.fact.c6)
    replace hS := hS.drew
    refine wp_region_noPanic ?_
    refine wp_region_held_drew (S := (fun w' => ∃ M', One w w' B mb M' O (.blk w.heap.size #[.pointer (some ⟨mb, 0, none⟩), .int .i64 a, .int .i64 lo, .int .i64 hi, .int .i64 ov, .int .i64 un] 118))) (by kernel_rfl) ?_ (fun hHeld => ?_)
    · (try dsimp only); exact ⟨_, hS⟩
    refine wpAnyH_take (i := 0) (oi := { dst := some 13, op := Go.Op.load 118 (Go.Operand.tmp 1), type := 118, pos := "stack.go:66", after := #[], guard := none }) (v := ?v17) rfl (by kernel_rfl) (by kernel_rfl) (by kernel_rfl) (fun _ _ _ h => h) (Or.inl ⟨by rfl, ?hy17⟩) (by assumption) ?rest17
    case hy17 => (intro w hSw; (try dsimp only at hSw); obtain ⟨M', hS'⟩ := hSw; obtain ⟨y1, y2, y3, y4, y5, y6⟩ := (One.fact hS').c6; go_simp <;> with_reducible rfl)
    try simp only [Act.put, List.setIfInBounds_toArray, List.set_cons_zero, List.set_cons_succ]
    refine wpAnyH_take (i := 1) (oi := { dst := some 14, op := Go.Op.load 118 (Go.Operand.tmp 1), type := 118, pos := "stack.go:66", after := #[], guard := none }) (v := ?v18) rfl (by kernel_rfl) (by kernel_rfl) (by kernel_rfl) (fun _ _ _ h => h) (Or.inl ⟨by rfl, ?hy18⟩) (by assumption) ?rest18
    case hy18 => (intro w hSw; (try dsimp only at hSw); obtain ⟨M', hS'⟩ := hSw; obtain ⟨y1, y2, y3, y4, y5, y6⟩ := (One.fact hS').c6; go_simp <;> with_reducible rfl)
    try simp only [Act.put, List.setIfInBounds_toArray, List.set_cons_zero, List.set_cons_succ]
    refine wpAnyH_ready (rs := [2]) (by kernel_rfl) (by simp) ?_
    refine AllReadyH.cons (o := { dst := some 15, op := Go.Op.call { callee := Go.Callee.value (Go.Operand.func 86), args := #[Go.Operand.tmp 14], argTypes := #[118] }, type := 3, pos := "stack.go:66", after := #[{ on := 1, ground := Go.Ground.data }], guard := none }) rfl (fun K hK => ?_) AllReadyH.nil
    go_simp
    go_at_call 86; refine (hS.mem (fun O h hb => hTp.out _ _ h hb)).mono ?_; rintro e w2 ⟨rfl, hS2⟩; clear hS; have hS := hS2; clear hS2; clear y1 y2 y3 y4 y5 y6; obtain ⟨y1, y2, y3, y4, y5, y6⟩ := hS.fact.c6
    refine hK.out _ _ ?_ (fun hHeld2 => ?_)
    · (try dsimp only); exact ⟨_, hS⟩
    clear hK K hHeld
    have hHeld := hHeld2
    clear hHeld2
    try simp only [Act.put, List.setIfInBounds_toArray, List.set_cons_zero, List.set_cons_succ]
    refine wpAnyH_take (i := 3) (oi := { dst := some 16, op := Go.Op.binOp Go.BinOp.add 3 (Go.Operand.tmp 15) (Go.Operand.const (Go.Value.int Go.IntKind.i64 8)) 3, type := 3, pos := "stack.go:66", after := #[{ on := 2, ground := Go.Ground.data }], guard := none }) (v := ?v19) rfl (by kernel_rfl) (by kernel_rfl) (by kernel_rfl) (fun _ _ _ h => h) (Or.inl ⟨by rfl, ?hy19⟩) (by assumption) ?rest19
    case hy19 => (intro w hSw; (try dsimp only at hSw); obtain ⟨M', hS'⟩ := hSw; obtain ⟨y1, y2, y3, y4, y5, y6⟩ := (One.fact hS').c6; go_simp <;> with_reducible rfl)
    try simp only [Act.put, List.setIfInBounds_toArray, List.set_cons_zero, List.set_cons_succ]
    refine wpAnyH_ready (rs := [4]) (by kernel_rfl) (by simp) ?_
    refine AllReadyH.cons (o := { dst := some 17, op := Go.Op.call { callee := Go.Callee.value (Go.Operand.func 95), args := #[Go.Operand.tmp 13, Go.Operand.tmp 16], argTypes := #[118, 3] }, type := 0, pos := "stack.go:66", after := #[{ on := 0, ground := Go.Ground.data }, { on := 3, ground := Go.Ground.data }, { on := 2, ground := Go.Ground.chain }], guard := none }) rfl (fun K hK => ?_) AllReadyH.nil
    go_simp
    go_at_call 95; refine (hS.mem (fun O h hb => mSetT h hb a lo hi ov un p hai)).mono ?_; rintro e w2 ⟨rfl, hS2⟩; clear hS; have hS := hS2; clear hS2; clear y1 y2 y3 y4 y5 y6; obtain ⟨y1, y2, y3, y4, y5, y6⟩ := hS.fact.c6
    refine hK.out _ _ ?_ (fun hHeld2 => ?_)
    · (try dsimp only); exact ⟨_, hS⟩
    clear hK K hHeld
    have hHeld := hHeld2
    clear hHeld2
    try simp only [Act.put, List.setIfInBounds_toArray, List.set_cons_zero, List.set_cons_succ]
    refine wpAnyH_done (by kernel_rfl) ?_ _
    refine NoPanic.normal ?_
    go_wp2
    go_ret2
    exact hS.memQ _
  · have hT : peekT M a lo hi un 0 = un := by unfold peekT; rw [if_neg (fun h => c1 h.2)]
    rw [hT] at hPk ⊢
    rw [if_neg c1]
    clear hT c1 hx b1 b2 b3 b4 b5 b6 b7 b8 b9
    obtain ⟨w0, hw0, hS⟩ := skEnter h hB a lo hi ov un
    obtain ⟨y1, y2, y3, y4, y5, y6⟩ := hS.fact.c6
    go_enter Try.func81, Try.ntmps81
    go_upto_region 1 with fail
    rw [← hw0]
    clear hw0
    go_wp2_with (go_at_call 94; refine (hS.mem (fun O h hb => hPk.out _ _ h hb)).mono ?_; rintro e w2 ⟨rfl, hS2⟩; clear hS; have hS := hS2; clear hS2; clear y1 y2 y3 y4 y5 y6; obtain ⟨y1, y2, y3, y4, y5, y6⟩ := hS.fact.c6)
    go_ret2
    exact hS.memQ _
end Go.Proofs.Ytkcmphjgflbchaa
