/- A slice that holds known cells: what append and slicing do with it. -/
import Derived.Test.YtjkpapkjlmglbaaDoorQ1
namespace Go.Proofs.YtjkpapkjlmglbaaDoor
open Go.RowKit
set_option linter.unusedVariables false
set_option linter.unusedSimpArgs false

/-- The slice value v holds n elements of k cells, cs, in a block from B on; none of its cells is frozen. -/
def Vs (w : World) (B k : Nat) (v : Value) (n : Nat) (cs : List Value) : Prop :=
  cs.length = n * k ∧ (∀ u ∈ cs, u.oneCell' = true) ∧ ((v = .slice none 0 0 ∧ n = 0) ∨
  ∃ b o cap, v = .slice (some ⟨b, o, none⟩) n cap ∧ B ≤ b ∧ b < w.heap.size ∧ n ≤ cap ∧ (∀ j u, cs[j]? = some u → w.cell? ⟨b, o + j, none⟩ = some u) ∧
    (∀ j, j < cap * k → (w.cell? ⟨b, o + j, none⟩).isSome = true ∧ w.frozen? ⟨b, o + j, none⟩ = false))
section
variable {w w' : World} {B k n : Nat} {v : Value} {cs : List Value}
theorem Vs.nil (w : World) (B k : Nat) : Vs w B k (.slice none 0 0) 0 [] := ⟨by simp, by simp, .inl ⟨rfl, rfl⟩⟩
theorem Vs.mono {B' : Nat} (h : Vs w B k v n cs) (hB : B' ≤ B) : Vs w B' k v n cs := by
  obtain ⟨h1, h2, h3⟩ := h
  refine ⟨h1, h2, ?_⟩
  rcases h3 with h3 | ⟨b, o, cap, e1, e2, e3⟩
  · exact .inl h3
  · exact .inr ⟨b, o, cap, e1, by omega, e3⟩
theorem Vs.form (h : Vs w B k v n cs) : ∃ a cap, v = .slice a n cap ∧ n ≤ cap := by
  rcases h.2.2 with ⟨rfl, rfl⟩ | ⟨b, o, cap, rfl, _, _, h4, _⟩
  · exact ⟨none, 0, rfl, Nat.le_refl _⟩
  · exact ⟨_, cap, rfl, h4⟩
theorem Vs.some_of (h : Vs w B k v n cs) (hn : n ≠ 0) : ∃ b o cap, v = .slice (some ⟨b, o, none⟩) n cap := by
  rcases h.2.2 with ⟨_, e⟩ | ⟨b, o, cap, rfl, _⟩
  · exact (hn e).elim
  · exact ⟨b, o, cap, rfl⟩
theorem Vs.own (h : Vs w B k v n cs) : v.ownBlock = none ∨ ∃ b, v.ownBlock = some b ∧ B ≤ b ∧ b < w.heap.size := by
  rcases h.2.2 with ⟨rfl, _⟩ | ⟨b, o, cap, rfl, h2, h3, _⟩
  · exact .inl rfl
  · exact .inr ⟨b, rfl, h2, h3⟩
theorem Vs.cell {b o cap : Nat} (h : Vs w B k (.slice (some ⟨b, o, none⟩) n cap) n cs) (j : Nat) (u : Value) (hj : cs[j]? = some u) : w.cell? ⟨b, o + j, none⟩ = some u := by
  rcases h.2.2 with ⟨e, _⟩ | ⟨b', o', cap', e, _, _, _, h5, _⟩
  · cases e
  · cases e; exact h5 j u hj
theorem Vs.free {b o cap : Nat} (h : Vs w B k (.slice (some ⟨b, o, none⟩) n cap) n cs) (j : Nat) (hj : j < n * k) : w.frozen? ⟨b, o + j, none⟩ = false := by
  rcases h.2.2 with ⟨e, _⟩ | ⟨b', o', cap', e, _, _, h4, _, h6⟩
  · cases e
  · cases e; exact (h6 j (Nat.lt_of_lt_of_le hj (Nat.mul_le_mul_right _ h4))).2
theorem Vs.src {P : Program} (h : Vs w B k v n cs) {t e : TypeId} (ht : P.underlying t = some (.slice e)) : Src P k t v n cs w := by
  obtain ⟨h1, h2, h3⟩ := h
  rcases h3 with ⟨rfl, rfl⟩ | ⟨b, o, cap, rfl, e2, e3, e4, e5, e6⟩
  · have : cs = [] := List.eq_nil_of_length_eq_zero (by simpa using h1)
    subst this
    have := Src.ofNil (size := k) w ht 0
    exact this
  · exact Src.ofSlice w ht ⟨b, o, none⟩ n cap cs h1 (fun j u hu => by rw [Addr.add_lit]; exact e5 j u hu) h2
/-- 'append(v, u...)' -/
theorem Vs.append {P : Program} {m : Nat} {ds : List Value} {u : Value} (hv : Vs w B k v n cs) {t tx e ty : TypeId} {z : Value} {by_ : Nat} (hu : Src P k tx u m ds w) (ht : P.underlying t = some (.slice e))
    (hi : (P.info? e).map (fun i => (i.zero, i.size, i.bytes)) = some (some z, k, by_)) (hz : z.cells.size = k) (hm : 0 < m) (hlen : (n + m) * by_ ≤ 1000000000) (hlen2 : n + m ≤ 1000000000) (hB : B ≤ w.heap.size) :
    ∃ v' w', (Builtin.append_ #[t, tx] ty #[v, u]).run P w = .ok v' w' ∧ Vs w' B k v' (n + m) (cs ++ ds) ∧ w.grownBy w' v.ownBlock ∧ (v'.ownBlock = v.ownBlock ∨ v'.ownBlock = some w.heap.size) := by
  obtain ⟨i, hi1, hi2⟩ := Option.map_eq_some_iff.1 hi
  simp only [Prod.mk.injEq] at hi2
  obtain ⟨hz0, hs1, hb1⟩ := hi2
  have hdl := hu.newsLen
  have hd1 := hu.one
  obtain ⟨hcl, hc1, hv3⟩ := hv
  have hcat : (cs ++ ds).length = (n + m) * k := by rw [List.length_append, hcl, hdl, Nat.add_mul]
  have hone : ∀ x ∈ cs ++ ds, x.oneCell' = true := by
    intro x hx
    rcases List.mem_append.1 hx with h | h
    · exact hc1 x h
    · exact hd1 x h
  have hgrow : ∀ (a : Option Addr) (cap : Nat), v = .slice a n cap → cap < n + m → (Builtin.firstCells i.size n (.slice a n cap)).run P w.drew = .ok cs.toArray w.drew →
      ∃ v' w', (Builtin.append_ #[t, tx] ty #[v, u]).run P w = .ok v' w' ∧ Vs w' B k v' (n + m) (cs ++ ds) ∧ w.grownBy w' v.ownBlock ∧ (v'.ownBlock = v.ownBlock ∨ v'.ownBlock = some w.heap.size) := by
    intro a cap hva hcap hold
    subst hva
    have hfit : Builtin.nextslicecap (n + m) cap * i.bytes ≤ 281474976710656 := growslice_fits hcap (by rw [hb1]; omega)
    have hrun := run_append_grow_src (P := P) w t tx ty e i z ht hi1 hz0 a n cap cs hold u m ds (by rw [hs1]; exact hu) hcap (by omega) hfit
    have hge := grownCap_ge w (n + m) cap e
    obtain ⟨gc, hgc⟩ : ∃ gc, gc = grownCap w (n + m) cap e := ⟨_, rfl⟩
    rw [← hgc] at hrun hge
    obtain ⟨C, hC⟩ : ∃ C, C = (cs ++ ds).toArray ++ Builtin.zeroCells z.cells (gc - (n + m)) := ⟨_, rfl⟩
    rw [← hC] at hrun
    have hZ : (Builtin.zeroCells z.cells (gc - (n + m))).size = (gc - (n + m)) * k := by
      rw [← hz]
      simp [Builtin.zeroCells]
    have hCs : C.size = gc * k := by
      rw [hC, Array.size_append, List.size_toArray, hcat, hZ, ← Nat.add_mul]
      congr 1
      omega
    have hblk : Blk (w.drew.alloc (.cells C e)) w.heap.size C e := Blk.new w.drew C e
    refine ⟨_, _, hrun, ⟨hcat, hone, .inr ⟨w.heap.size, 0, gc, rfl, hB, hblk.lt, hge, fun j x hj => ?_, fun j hj => ?_⟩⟩, ⟨rfl, rfl, rfl, by simp, fun k hk _ => Below.heap_alloc w.drew _ k hk⟩, .inr rfl⟩
    · have hjl := (List.getElem?_eq_some_iff.1 hj).1
      rw [Nat.zero_add, hblk.cell, hC, Array.getElem?_append_left (by simpa using hjl), List.getElem?_toArray]
      exact hj
    · rw [Nat.zero_add, hblk.cell, hblk.frozen]
      exact ⟨by rw [Array.getElem?_eq_getElem (by omega)]; rfl, rfl⟩
  rcases hv3 with ⟨rfl, rfl⟩ | ⟨b, o, cap, rfl, h2, h3, h4, h5, h6⟩
  · have hcs : cs = [] := List.eq_nil_of_length_eq_zero (by simpa using hcl)
    refine hgrow none 0 rfl (by omega) ?_
    rw [hcs]
    exact run_firstCells_none _ _ _ _ _
  · by_cases hroom : n + m ≤ cap
    · have hbd : ∀ j, j < ds.length → n * k + j < cap * k := fun j hj => by
        have : (n + m) * k ≤ cap * k := Nat.mul_le_mul_right _ hroom
        rw [Nat.add_mul] at this
        omega
      have hrun := run_append_room_src (P := P) w t tx ty e i ht hi1 b o n cap u m ds (by rw [hs1]; exact hu) hroom
        (fun j hj => by rw [hs1, Nat.add_assoc]; exact (h6 _ (hbd j hj)).1) (fun j hj => by rw [hs1, Nat.add_assoc]; exact (h6 _ (hbd j hj)).2)
      rw [hs1] at hrun
      obtain ⟨q1, q2, q3, q4⟩ := setCells_size b ds (o + n * k) w
      refine ⟨_, _, hrun, ⟨hcat, hone, .inr ⟨b, o, cap, rfl, h2, by omega, hroom, fun j x hj => ?_, fun j hj => ?_⟩⟩, ⟨q2, q3, q4, by omega, fun k hk hne => setCells_heap b _ _ _ k (fun e => hne (by rw [e]; rfl))⟩, .inl rfl⟩
      · by_cases hjl : j < n * k
        · rw [List.getElem?_append_left (by omega)] at hj
          rw [World.cell?_setCells_out b _ _ _ _ (fun _ _ => .inl (by show o + j < _; omega))]
          exact h5 j x hj
        · rw [List.getElem?_append_right (by omega), hcl] at hj
          have hj2 := (List.getElem?_eq_some_iff.1 hj).1
          have := World.cell?_setCells_in b ds (o + n * k) w (fun j hj => by rw [Nat.add_assoc]; exact (h6 _ (hbd j hj)).1) (j - n * k) hj2
          rw [show o + n * k + (j - n * k) = o + j by omega] at this
          rw [this, ← hj]
          exact (List.getElem?_eq_getElem hj2).symm
      · rw [World.frozen?_setCells]
        exact ⟨cell_isSome_setCells b _ _ _ _ (h6 j hj).1, (h6 j hj).2⟩
    · refine hgrow (some ⟨b, o, none⟩) cap rfl (by omega) ?_
      have hsrc := Vs.src (P := P) (t := t) (e := e) (v := .slice (some ⟨b, o, none⟩) n cap) ⟨hcl, hc1, .inr ⟨b, o, cap, rfl, h2, h3, h4, h5, h6⟩⟩ ht
      rw [hs1]
      exact hsrc.cellsD
theorem Vs.kept {row : Option Nat} (h : Vs w B k v n cs) (hg : w.grownBy w' row) (hne : v.ownBlock = none ∨ v.ownBlock ≠ row) : Vs w' B k v n cs := by
  obtain ⟨h1, h2, h3⟩ := h
  refine ⟨h1, h2, ?_⟩
  rcases h3 with h3 | ⟨b, o, cap, rfl, e2, e3, e4, e5, e6⟩
  · exact .inl h3
  · have hb : w'.heap[b]? = w.heap[b]? := hg.block b e3 (by
      rcases hne with e | e
      · cases e
      · exact e)
    exact .inr ⟨b, o, cap, rfl, e2, Nat.lt_of_lt_of_le e3 hg.size, e4, fun j u hu => by rw [cell_of_block hb]; exact e5 j u hu, fun j hj => by rw [cell_of_block hb, frozen_of_block hb]; exact e6 j hj⟩
theorem Vs.zero (h : Vs w B k v n cs) : Vs w 0 k v n cs := h.mono (Nat.zero_le _)
/-- A block that is known whole, as a slice. -/
theorem Vs.of_blk {b cap : Nat} {t : TypeId} {C : Array Value} (h : Blk w b C t) (hl : cs.length = n * k) (hc : cap * k ≤ C.size) (hn : n ≤ cap) (hcs : ∀ (j : Nat) (u : Value), cs[j]? = some u → C[j]? = some u) (h1 : ∀ u ∈ cs, u.oneCell' = true) (hB : B ≤ b) : Vs w B k (.slice (some ⟨b, 0, none⟩) n cap) n cs :=
  ⟨hl, h1, .inr ⟨b, 0, cap, rfl, hB, h.lt, hn, fun j u hu => by rw [Nat.zero_add, h.cell]; exact hcs j u hu, fun j hj => by rw [Nat.zero_add, h.cell, h.frozen]; exact ⟨by rw [Array.getElem?_eq_getElem (by omega)]; rfl, rfl⟩⟩⟩
end
def Kp.vs (k : Nat) (v : Value) (n : Nat) (cs : List Value) : Kp := ⟨fun b => v.ownBlock = some b, fun w => Vs w 0 k v n cs, fun w1 w2 h hs hp => by
  obtain ⟨h1, h2, h3⟩ := hp
  refine ⟨h1, h2, ?_⟩
  rcases h3 with h3 | ⟨b, o, cap, rfl, e2, e3, e4, e5, e6⟩
  · exact .inl h3
  · have e := h b rfl e3
    exact .inr ⟨b, o, cap, rfl, e2, Nat.lt_of_lt_of_le e3 hs, e4, fun j u hu => by rw [cell_of_block e]; exact e5 j u hu, fun j hj => by rw [cell_of_block e, frozen_of_block e]; exact e6 j hj⟩⟩
theorem Keep.vs {w : World} {O : Nat → Prop} {B k n : Nat} {v : Value} {cs : List Value} (h : Vs w B k v n cs) (hO : ∀ b, v.ownBlock = some b → ¬ O b) : Keep w O (.vs k v n cs) :=
  ⟨h.zero, fun b hb => ⟨by
    rcases h.own with e | ⟨x, e, _, hx⟩
    · rw [show v.ownBlock = some b from hb] at e; cases e
    · rw [show v.ownBlock = some b from hb] at e; cases e; exact hx, hO b hb⟩⟩
/-- .. in a block from N on. -/
def Kp.vsN (N k : Nat) (v : Value) (n : Nat) (cs : List Value) : Kp := (Kp.vs k v n cs).and (.pure (∀ b, v.ownBlock = some b → N ≤ b))
theorem Keep.vsN {w : World} {O : Nat → Prop} {N k n : Nat} {v : Value} {cs : List Value} (h : Keep w O (.vs k v n cs)) (hN : ∀ b, v.ownBlock = some b → N ≤ b) : Keep w O (.vsN N k v n cs) := h.and (Keep.pure hN)
theorem vsN_new {w' : World} {N k n : Nat} {v : Value} {cs : List Value} (h : (Kp.vsN N k v n cs).P w') (j : Nat) (hj : (Kp.vsN N k v n cs).S j) : N ≤ j := by
  rcases hj with hj | hj
  · exact h.2 j hj
  · exact hj.elim
/-- A slice that came in: its cells are read. -/
def Rv (w : World) (k : Nat) (v : Value) (n : Nat) (cs : List Value) : Prop :=
  cs.length = n * k ∧ (∀ u ∈ cs, u.oneCell' = true) ∧ ((v = .slice none 0 0 ∧ n = 0) ∨ ∃ a cap, v = .slice (some a) n cap ∧ ∀ j u, cs[j]? = some u → w.cell? (a.add j) = some u)
theorem Rv.form {w : World} {k n : Nat} {v : Value} {cs : List Value} (h : Rv w k v n cs) : ∃ a cap, v = .slice a n cap := by
  rcases h.2.2 with ⟨rfl, rfl⟩ | ⟨a, cap, rfl, _⟩
  · exact ⟨none, 0, rfl⟩
  · exact ⟨_, cap, rfl⟩
theorem Vs.rv {w : World} {B k n : Nat} {v : Value} {cs : List Value} (h : Vs w B k v n cs) : Rv w k v n cs := by
  obtain ⟨h1, h2, h3⟩ := h
  refine ⟨h1, h2, ?_⟩
  rcases h3 with h3 | ⟨b, o, cap, rfl, e2, e3, e4, e5, e6⟩
  · exact .inl h3
  · exact .inr ⟨_, cap, rfl, fun j u hu => by rw [Addr.add_lit]; exact e5 j u hu⟩
def Kp.rv (k : Nat) (v : Value) (n : Nat) (cs : List Value) : Kp := ⟨fun b => cs ≠ [] ∧ ∃ a n cap, v = .slice (some a) n cap ∧ a.block = b, fun w => Rv w k v n cs, fun w1 w2 h hs hp => by
  obtain ⟨h1, h2, h3⟩ := hp
  refine ⟨h1, h2, ?_⟩
  rcases h3 with h3 | ⟨a, cap, rfl, e5⟩
  · exact .inl h3
  · refine .inr ⟨a, cap, rfl, fun j u hu => ?_⟩
    have hc := e5 j u hu
    have hb : a.block < w1.heap.size := by rw [← add_block a j]; exact World.block_lt_of_cell? w1 (a.add j) hc
    have e := h a.block ⟨by intro e; subst e; simp at hu, a, _, cap, rfl, rfl⟩ hb
    exact (cellA_of_block (a := a.add j) (by rw [add_block]; exact e)).trans hc⟩
theorem Keep.rv {w : World} {k n : Nat} {v : Value} {cs : List Value} (h : Rv w k v n cs) : Keep w (fun _ => False) (.rv k v n cs) := ⟨h, fun b hb => by
  obtain ⟨hl, a, m, cap, hv, rfl⟩ := hb
  rcases h.2.2 with ⟨e, e2⟩ | ⟨a', cap', hv2, h2⟩
  · rw [e] at hv; cases hv
  · rw [hv2] at hv; cases hv
    have hj : 0 < cs.length := List.length_pos_iff.2 hl
    exact ⟨by rw [← add_block a 0]; exact World.block_lt_of_cell? w (a.add 0) (h2 0 _ (List.getElem?_eq_getElem hj)), id⟩⟩
theorem Rv.src {P : Program} {w : World} {k n : Nat} {v : Value} {cs : List Value} (h : Rv w k v n cs) {t e : TypeId} (ht : P.underlying t = some (.slice e)) : Src P k t v n cs w := by
  obtain ⟨h1, h2, h3⟩ := h
  rcases h3 with ⟨rfl, rfl⟩ | ⟨a, cap, rfl, e5⟩
  · have : cs = [] := List.eq_nil_of_length_eq_zero (by simpa using h1)
    subst this
    exact Src.ofNil (size := k) w ht 0
  · exact Src.ofSlice w ht a n cap cs h1 e5 h2
theorem One.newVs {W w w' : World} {Bm mb : Nat} {M : List UInt8} {O0 : Nat → Prop} {K : Kp} (h : One W w Bm mb M O0 K) (hb : Below w.heap.size w w') {k n : Nat} {v : Value} {cs : List Value} (hv : Vs w' w.heap.size k v n cs) : One W w' Bm mb M O0 (K.and (.vs k v n cs)) := by
  obtain ⟨O, h1, h2, h3, h4⟩ := h
  exact ⟨O, h1.below hb, h2.trans (Turn.of_below hb O), (h3.turn (Turn.of_below hb O)).and (Keep.vs hv (fun b hb2 hO => by
    have h8 := (h1.lt hO).1
    rcases hv.own with e | ⟨x, e, hx, _⟩
    · rw [hb2] at e; cases e
    · rw [hb2] at e; cases e; omega)), h4⟩
theorem Two.newVs {W w w' : World} {mb rb : Nat} {M N : List UInt8} {K : Kp} (h : Two W w mb rb M N K) (hb : Below w.heap.size w w') {k n : Nat} {v : Value} {cs : List Value} (hv : Vs w' w.heap.size k v n cs) : Two W w' mb rb M N (K.and (.vs k v n cs)) :=
  h.newK hb hv.zero (fun b hb2 => by
    rcases hv.own with e | ⟨x, e, hx1, hx2⟩
    · rw [show v.ownBlock = some b from hb2] at e; cases e
    · rw [show v.ownBlock = some b from hb2] at e; cases e; exact ⟨hx1, hx2⟩)
theorem Turn.grownOwn {W w w' : World} {O0 O : Nat → Prop} {row : Option Nat} (h : Turn W w O0 O) (hg : w.grownBy w' row) (hr : ∀ b, row = some b → W.heap.size ≤ b) : Turn W w' O0 O :=
  ⟨hg.os.trans h.os, hg.tape.trans h.tape, hg.output.trans h.output, Nat.le_trans h.size hg.size, fun k hk hO => (hg.block k (Nat.lt_of_lt_of_le hk h.size) (fun e => by have := hr k e.symm; omega)).trans (h.block k hk hO), h.new⟩
theorem Keep.grown {w w' : World} {O : Nat → Prop} {K : Kp} {row : Option Nat} (h : Keep w O K) (hg : w.grownBy w' row) (hr : ∀ b, row = some b → ¬ K.S b) : Keep w' O K :=
  ⟨K.stable w w' (fun k hk hl => hg.block k hl (fun e => hr k e.symm hk)) hg.size h.1, fun k hk => ⟨Nat.lt_of_lt_of_le (h.2 k hk).1 hg.size, (h.2 k hk).2⟩⟩
/-- What came in is as it was. -/
theorem Two.old {W w : World} {mb rb : Nat} {M N : List UInt8} {K L : Kp} (h : Two W w mb rb M N K) (hL : L.P W) (hS : ∀ k, L.S k → k < W.heap.size) : Two W w mb rb M N (K.and L) := by
  obtain ⟨B, O, R, h1, h2, h3, h4, h5, h6, h7⟩ := h
  exact ⟨B, O, R, h1, h2, h3, h4, h5, h6, h7.and ⟨L.stable W w (fun k hk hl => h6.block k hl) h6.size hL, fun k hk => ⟨Nat.lt_of_lt_of_le (hS k hk) h6.size, fun hO => by
    have := hS k hk
    rcases hO with hO | hO
    · have := (h3.lt hO).2; omega
    · have := (h4.lt hO).2; omega⟩⟩⟩
theorem Two.oldRv {W w : World} {mb rb : Nat} {M N : List UInt8} {K : Kp} (h : Two W w mb rb M N K) {k n : Nat} {v : Value} {cs : List Value} (hR : Rv W k v n cs) : Two W w mb rb M N (K.and (.rv k v n cs)) :=
  h.old hR (fun b hb => ((Keep.rv hR).2 b hb).1)
/-- An append to a slice of the walk's own. -/
theorem One.appendVs {P : Program} {W w : World} {Bm mb : Nat} {M : List UInt8} {O0 : Nat → Prop} {K : Kp} {k n m : Nat} {v u : Value} {cs ds : List Value} (h : One W w Bm mb M O0 (K.and (.vs k v n cs))) (hown : ∀ b, v.ownBlock = some b → W.heap.size ≤ b ∧ ¬ K.S b)
    {t tx e ty : TypeId} {z : Value} {by_ : Nat} (hu : Src P k tx u m ds w) (ht : P.underlying t = some (.slice e))
    (hi : (P.info? e).map (fun i => (i.zero, i.size, i.bytes)) = some (some z, k, by_)) (hz : z.cells.size = k) (hm : 0 < m) (hlen : (n + m) * by_ ≤ 1000000000) (hlen2 : n + m ≤ 1000000000) :
    ∃ v' w', (Builtin.append_ #[t, tx] ty #[v, u]).run P w = .ok v' w' ∧ One W w' Bm mb M O0 (K.and (.vs k v' (n + m) (cs ++ ds))) ∧ (∀ b, v'.ownBlock = some b → W.heap.size ≤ b ∧ ¬ K.S b) ∧ w.heap.size ≤ w'.heap.size := by
  obtain ⟨O, h1, h2, h3, h4⟩ := h
  have hV : Vs w 0 k v n cs := h3.right.1
  obtain ⟨v', w', hr, hv', hg, hob⟩ := hV.append hu ht hi hz hm hlen hlen2 (Nat.zero_le _) (ty := ty)
  have hvO : ∀ b, v.ownBlock = some b → ¬ O b := fun b hb => (h3.2 b (.inr hb)).2
  have hws := h2.size
  refine ⟨v', w', hr, ⟨O, h1.kept hg hvO, h2.grownOwn hg (fun b hb => (hown b hb).1), (h3.left.grown hg (fun b hb => (hown b hb).2)).and (Keep.vs hv' (fun b hb hO => ?_)), h4⟩, fun b hb => ?_, hg.size⟩
  · rcases hob with e | e
    · exact hvO b (e ▸ hb) hO
    · rw [hb] at e; cases e
      have := (h1.lt hO).1; omega
  · rcases hob with e | e
    · exact hown b (e ▸ hb)
    · rw [hb] at e; cases e
      exact ⟨h2.size, fun hS => by have := (h3.left.2 _ hS).1; omega⟩
theorem One.turnVs {W w w' : World} {Bm mb : Nat} {M : List UInt8} {O0 : Nat → Prop} {K : Kp} {k n : Nat} {v : Value} {cs cs' : List Value} (h : One W w Bm mb M O0 (K.and (.vs k v n cs))) (hown : ∀ b, v.ownBlock = some b → W.heap.size ≤ b ∧ ¬ K.S b) (hv : Vs w' 0 k v n cs') (hg : w.grownBy w' v.ownBlock) : One W w' Bm mb M O0 (K.and (.vs k v n cs')) := by
  obtain ⟨O, h1, h2, h3, h4⟩ := h
  have hvO : ∀ b, v.ownBlock = some b → ¬ O b := fun b hb => (h3.2 b (.inr hb)).2
  exact ⟨O, h1.kept hg hvO, h2.grownOwn hg (fun b hb => (hown b hb).1), (h3.left.grown hg (fun b hb => (hown b hb).2)).and (Keep.vs hv hvO), h4⟩
theorem Vs.lit1 (w : World) (u : Value) (t : TypeId) (hu : u.oneCell' = true) : Vs (w.alloc (.cells #[u] t)) 0 1 (.slice (some ⟨w.heap.size, 0, none⟩) 1 1) 1 [u] :=
  Vs.of_blk (Blk.new _ _ _) rfl (by simp) (Nat.le_refl _) (fun j x hj => by simpa using hj) (fun x hx => by simp at hx; rw [hx]; exact hu) (Nat.zero_le _)
/-- Integers, as cells. -/
def ic (l : List Int) : List Value := l.map (Value.int .i64)
theorem ic_len (l : List Int) : (ic l).length = l.length := by simp [ic]
theorem ic_at (l : List Int) (j : Nat) (h : j < l.length) : (ic l)[j]? = some (.int .i64 l[j]) := by simp [ic, h]
theorem ic_set (l : List Int) (j : Nat) (x : Int) : (ic l).set j (.int .i64 x) = ic (l.set j x) := by simp [ic, List.map_set]
theorem infoI : (Tryd.prog.info? 2).map (fun i => (i.zero, i.size, i.bytes)) = some (some (.int .i64 0), 1, 8) := by kernel_rfl
theorem Vs.setAt {w : World} {B b o n cap : Nat} {cs : List Value} (h : Vs w B 1 (.slice (some ⟨b, o, none⟩) n cap) n cs) (j : Nat) (u : Value) (hj : j < n) (hu : u.oneCell' = true) : Vs (w.setCell ⟨b, o + j, none⟩ u) B 1 (.slice (some ⟨b, o, none⟩) n cap) n (cs.set j u) := by
  obtain ⟨h1, h2, h3⟩ := h
  refine ⟨by rw [List.length_set]; exact h1, fun x hx => ?_, ?_⟩
  · rcases List.mem_or_eq_of_mem_set hx with h | h
    · exact h2 x h
    · rw [h]; exact hu
  · rcases h3 with ⟨e, _⟩ | ⟨b', o', cap', e, e2, e3, e4, e5, e6⟩
    · cases e
    · cases e
      refine .inr ⟨b, o, cap, rfl, e2, by rw [World.size_setCell]; exact e3, e4, fun i x hx => ?_, fun i hi => ?_⟩
      · by_cases e : j = i
        · subst e
          rw [List.getElem?_set_self (by omega)] at hx
          cases hx
          obtain ⟨y, hy⟩ := Option.isSome_iff_exists.1 (e6 j (by omega)).1
          rw [cell_set, hy]; rfl
        · rw [List.getElem?_set_ne e] at hx
          rw [World.cell?_setCell_other w (a := ⟨b, o + j, none⟩) (b := ⟨b, o + i, none⟩) _ (by intro h; have h2 : o + j = o + i := congrArg Addr.off h; omega)]
          exact e5 i x hx
      · rw [World.frozen?_setCell]
        exact ⟨by
          by_cases e : j = i
          · subst e
            obtain ⟨y, hy⟩ := Option.isSome_iff_exists.1 (e6 j hi).1
            rw [cell_set, hy]; rfl
          · rw [World.cell?_setCell_other w (a := ⟨b, o + j, none⟩) (b := ⟨b, o + i, none⟩) _ (by intro h; have h2 : o + j = o + i := congrArg Addr.off h; omega)]
            exact (e6 i hi).1, (e6 i hi).2⟩
theorem Rv.below {w w' : World} {k n : Nat} {v : Value} {cs : List Value} (h : Rv w k v n cs) (hb : Below w.heap.size w w') : Rv w' k v n cs := by
  obtain ⟨h1, h2, h3⟩ := h
  refine ⟨h1, h2, ?_⟩
  rcases h3 with h3 | ⟨a, cap, rfl, e5⟩
  · exact .inl h3
  · exact .inr ⟨a, cap, rfl, fun j u hu => (hb.cell (World.block_lt_of_cell? w _ (e5 j u hu))).trans (e5 j u hu)⟩
theorem add_next (a : Addr) (m j : Nat) : a.add (m + (j + 1)) = ⟨(a.add m).block, (a.add m).off + (j + 1), none⟩ := by
  have h1 : a.add (m + (j + 1)) = ⟨a.block, a.off + (m + (j + 1)), none⟩ := by simp only [Addr.add]; rw [if_neg (by omega)]
  have h2 : (a.add m).block = a.block := add_block a m
  have h3 : (a.add m).off = a.off + m := by
    simp only [Addr.add]
    split
    · omega
    · rfl
  rw [h1, h2, h3]
  congr 1
  omega
end Go.Proofs.YtjkpapkjlmglbaaDoor
