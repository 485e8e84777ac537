/- A slice that holds known cells: what append and slicing do with it. -/
import Derived.Test.YtekfceolignihaaDoorAP
import Derived.Test.YtekfceolignihaaDoorS1
namespace Go.Proofs.YtekfceolignihaaDoor
open Go.RowKit
set_option linter.unusedVariables false
set_option linter.unusedSimpArgs false

theorem cell_of_block {w1 w2 : World} {b : Nat} (h : w2.heap[b]? = w1.heap[b]?) (o : Nat) : w2.cell? ⟨b, o, none⟩ = w1.cell? ⟨b, o, none⟩ := by simp [World.cell?, h]
theorem frozen_of_block {w1 w2 : World} {b : Nat} (h : w2.heap[b]? = w1.heap[b]?) (o : Nat) : w2.frozen? ⟨b, o, none⟩ = w1.frozen? ⟨b, o, none⟩ := by simp [World.frozen?, h]
/-- The slice value v holds n elements of k cells, cs, in a block from B on; none of its cells is frozen. -/
def Vs (w : World) (B k : Nat) (v : Value) (n : Nat) (cs : List Value) : Prop :=
  cs.length = n * k ∧ (∀ u ∈ cs, u.oneCell' = true) ∧ ((v = .slice none 0 0 ∧ n = 0) ∨
  ∃ b o cap, v = .slice (some ⟨b, o, none⟩) n cap ∧ B ≤ b ∧ b < w.heap.size ∧ n ≤ cap ∧ (∀ j u, cs[j]? = some u → w.cell? ⟨b, o + j, none⟩ = some u) ∧
    (∀ j, j < cap * k → (w.cell? ⟨b, o + j, none⟩).isSome = true ∧ w.frozen? ⟨b, o + j, none⟩ = false))
section
variable {w w' : World} {B k n : Nat} {v : Value} {cs : List Value}
theorem Vs.nil (w : World) (B k : Nat) : Vs w B k (.slice none 0 0) 0 [] := ⟨by simp, by simp, .inl ⟨rfl, rfl⟩⟩
theorem Vs.mono {B' : Nat} (h : Vs w B k v n cs) (hB : B' ≤ B) : Vs w B' k v n cs := by
  obtain ⟨h1, h2, h3⟩ := h
  refine ⟨h1, h2, ?_⟩
  rcases h3 with h3 | ⟨b, o, cap, e1, e2, e3⟩
  · exact .inl h3
  · exact .inr ⟨b, o, cap, e1, by omega, e3⟩
theorem Vs.form (h : Vs w B k v n cs) : ∃ a cap, v = .slice a n cap ∧ n ≤ cap := by
  rcases h.2.2 with ⟨rfl, rfl⟩ | ⟨b, o, cap, rfl, _, _, h4, _⟩
  · exact ⟨none, 0, rfl, Nat.le_refl _⟩
  · exact ⟨_, cap, rfl, h4⟩
theorem Vs.some_of (h : Vs w B k v n cs) (hn : n ≠ 0) : ∃ b o cap, v = .slice (some ⟨b, o, none⟩) n cap := by
  rcases h.2.2 with ⟨_, e⟩ | ⟨b, o, cap, rfl, _⟩
  · exact (hn e).elim
  · exact ⟨b, o, cap, rfl⟩
theorem Vs.own (h : Vs w B k v n cs) : v.ownBlock = none ∨ ∃ b, v.ownBlock = some b ∧ B ≤ b ∧ b < w.heap.size := by
  rcases h.2.2 with ⟨rfl, _⟩ | ⟨b, o, cap, rfl, h2, h3, _⟩
  · exact .inl rfl
  · exact .inr ⟨b, rfl, h2, h3⟩
theorem Vs.cell {b o cap : Nat} (h : Vs w B k (.slice (some ⟨b, o, none⟩) n cap) n cs) (j : Nat) (u : Value) (hj : cs[j]? = some u) : w.cell? ⟨b, o + j, none⟩ = some u := by
  rcases h.2.2 with ⟨e, _⟩ | ⟨b', o', cap', e, _, _, _, h5, _⟩
  · cases e
  · cases e; exact h5 j u hj
theorem Vs.free {b o cap : Nat} (h : Vs w B k (.slice (some ⟨b, o, none⟩) n cap) n cs) (j : Nat) (hj : j < n * k) : w.frozen? ⟨b, o + j, none⟩ = false := by
  rcases h.2.2 with ⟨e, _⟩ | ⟨b', o', cap', e, _, _, h4, _, h6⟩
  · cases e
  · cases e; exact (h6 j (Nat.lt_of_lt_of_le hj (Nat.mul_le_mul_right _ h4))).2
theorem Vs.src {P : Program} (h : Vs w B k v n cs) {t e : TypeId} (ht : P.underlying t = some (.slice e)) : Src P k t v n cs w := by
  obtain ⟨h1, h2, h3⟩ := h
  rcases h3 with ⟨rfl, rfl⟩ | ⟨b, o, cap, rfl, e2, e3, e4, e5, e6⟩
  · have : cs = [] := List.eq_nil_of_length_eq_zero (by simpa using h1)
    subst this
    have := Src.ofNil (size := k) w ht 0
    exact this
  · exact Src.ofSlice w ht ⟨b, o, none⟩ n cap cs h1 (fun j u hu => by rw [Addr.add_lit]; exact e5 j u hu) h2
/-- 'append(v, u...)' -/
theorem Vs.append {P : Program} {m : Nat} {ds : List Value} {u : Value} (hv : Vs w B k v n cs) {t tx e ty : TypeId} {z : Value} {by_ : Nat} (hu : Src P k tx u m ds w) (ht : P.underlying t = some (.slice e))
    (hi : (P.info? e).map (fun i => (i.zero, i.size, i.bytes)) = some (some z, k, by_)) (hz : z.cells.size = k) (hm : 0 < m) (hlen : (n + m) * by_ ≤ 1000000000) (hlen2 : n + m ≤ 1000000000) (hB : B ≤ w.heap.size) :
    ∃ v' w', (Builtin.append_ #[t, tx] ty #[v, u]).run P w = .ok v' w' ∧ Vs w' B k v' (n + m) (cs ++ ds) ∧ w.grownBy w' v.ownBlock ∧ (v'.ownBlock = v.ownBlock ∨ v'.ownBlock = some w.heap.size) := by
  obtain ⟨i, hi1, hi2⟩ := Option.map_eq_some_iff.1 hi
  simp only [Prod.mk.injEq] at hi2
  obtain ⟨hz0, hs1, hb1⟩ := hi2
  have hdl := hu.newsLen
  have hd1 := hu.one
  obtain ⟨hcl, hc1, hv3⟩ := hv
  have hcat : (cs ++ ds).length = (n + m) * k := by rw [List.length_append, hcl, hdl, Nat.add_mul]
  have hone : ∀ x ∈ cs ++ ds, x.oneCell' = true := by
    intro x hx
    rcases List.mem_append.1 hx with h | h
    · exact hc1 x h
    · exact hd1 x h
  have hgrow : ∀ (a : Option Addr) (cap : Nat), v = .slice a n cap → cap < n + m → (Builtin.firstCells i.size n (.slice a n cap)).run P w.drew = .ok cs.toArray w.drew →
      ∃ v' w', (Builtin.append_ #[t, tx] ty #[v, u]).run P w = .ok v' w' ∧ Vs w' B k v' (n + m) (cs ++ ds) ∧ w.grownBy w' v.ownBlock ∧ (v'.ownBlock = v.ownBlock ∨ v'.ownBlock = some w.heap.size) := by
    intro a cap hva hcap hold
    subst hva
    have hfit : Builtin.nextslicecap (n + m) cap * i.bytes ≤ 281474976710656 := growslice_fits hcap (by rw [hb1]; omega)
    have hrun := run_append_grow_src (P := P) w t tx ty e i z ht hi1 hz0 a n cap cs hold u m ds (by rw [hs1]; exact hu) hcap (by omega) hfit
    have hge := grownCap_ge w (n + m) cap e
    obtain ⟨gc, hgc⟩ : ∃ gc, gc = grownCap w (n + m) cap e := ⟨_, rfl⟩
    rw [← hgc] at hrun hge
    obtain ⟨C, hC⟩ : ∃ C, C = (cs ++ ds).toArray ++ Builtin.zeroCells z.cells (gc - (n + m)) := ⟨_, rfl⟩
    rw [← hC] at hrun
    have hZ : (Builtin.zeroCells z.cells (gc - (n + m))).size = (gc - (n + m)) * k := by
      rw [← hz]
      simp [Builtin.zeroCells]
    have hCs : C.size = gc * k := by
      rw [hC, Array.size_append, List.size_toArray, hcat, hZ, ← Nat.add_mul]
      congr 1
      omega
    have hblk : Blk (w.drew.alloc (.cells C e)) w.heap.size C e := Blk.new w.drew C e
    refine ⟨_, _, hrun, ⟨hcat, hone, .inr ⟨w.heap.size, 0, gc, rfl, hB, hblk.lt, hge, fun j x hj => ?_, fun j hj => ?_⟩⟩, ⟨rfl, rfl, rfl, by simp, fun k hk _ => Below.heap_alloc w.drew _ k hk⟩, .inr rfl⟩
    · have hjl := (List.getElem?_eq_some_iff.1 hj).1
      rw [Nat.zero_add, hblk.cell, hC, Array.getElem?_append_left (by simpa using hjl), List.getElem?_toArray]
      exact hj
    · rw [Nat.zero_add, hblk.cell, hblk.frozen]
      exact ⟨by rw [Array.getElem?_eq_getElem (by omega)]; rfl, rfl⟩
  rcases hv3 with ⟨rfl, rfl⟩ | ⟨b, o, cap, rfl, h2, h3, h4, h5, h6⟩
  · have hcs : cs = [] := List.eq_nil_of_length_eq_zero (by simpa using hcl)
    refine hgrow none 0 rfl (by omega) ?_
    rw [hcs]
    exact run_firstCells_none _ _ _ _ _
  · by_cases hroom : n + m ≤ cap
    · have hbd : ∀ j, j < ds.length → n * k + j < cap * k := fun j hj => by
        have : (n + m) * k ≤ cap * k := Nat.mul_le_mul_right _ hroom
        rw [Nat.add_mul] at this
        omega
      have hrun := run_append_room_src (P := P) w t tx ty e i ht hi1 b o n cap u m ds (by rw [hs1]; exact hu) hroom
        (fun j hj => by rw [hs1, Nat.add_assoc]; exact (h6 _ (hbd j hj)).1) (fun j hj => by rw [hs1, Nat.add_assoc]; exact (h6 _ (hbd j hj)).2)
      rw [hs1] at hrun
      obtain ⟨q1, q2, q3, q4⟩ := setCells_size b ds (o + n * k) w
      refine ⟨_, _, hrun, ⟨hcat, hone, .inr ⟨b, o, cap, rfl, h2, by omega, hroom, fun j x hj => ?_, fun j hj => ?_⟩⟩, ⟨q2, q3, q4, by omega, fun k hk hne => setCells_heap b _ _ _ k (fun e => hne (by rw [e]; rfl))⟩, .inl rfl⟩
      · by_cases hjl : j < n * k
        · rw [List.getElem?_append_left (by omega)] at hj
          rw [World.cell?_setCells_out b _ _ _ _ (fun _ _ => .inl (by show o + j < _; omega))]
          exact h5 j x hj
        · rw [List.getElem?_append_right (by omega), hcl] at hj
          have hj2 := (List.getElem?_eq_some_iff.1 hj).1
          have := World.cell?_setCells_in b ds (o + n * k) w (fun j hj => by rw [Nat.add_assoc]; exact (h6 _ (hbd j hj)).1) (j - n * k) hj2
          rw [show o + n * k + (j - n * k) = o + j by omega] at this
          rw [this, ← hj]
          exact (List.getElem?_eq_getElem hj2).symm
      · rw [World.frozen?_setCells]
        exact ⟨cell_isSome_setCells b _ _ _ _ (h6 j hj).1, (h6 j hj).2⟩
    · refine hgrow (some ⟨b, o, none⟩) cap rfl (by omega) ?_
      have hsrc := Vs.src (P := P) (t := t) (e := e) (v := .slice (some ⟨b, o, none⟩) n cap) ⟨hcl, hc1, .inr ⟨b, o, cap, rfl, h2, h3, h4, h5, h6⟩⟩ ht
      rw [hs1]
      exact hsrc.cellsD
theorem Vs.kept {row : Option Nat} (h : Vs w B k v n cs) (hg : w.grownBy w' row) (hne : v.ownBlock = none ∨ v.ownBlock ≠ row) : Vs w' B k v n cs := by
  obtain ⟨h1, h2, h3⟩ := h
  refine ⟨h1, h2, ?_⟩
  rcases h3 with h3 | ⟨b, o, cap, rfl, e2, e3, e4, e5, e6⟩
  · exact .inl h3
  · have hb : w'.heap[b]? = w.heap[b]? := hg.block b e3 (by
      rcases hne with e | e
      · cases e
      · exact e)
    exact .inr ⟨b, o, cap, rfl, e2, Nat.lt_of_lt_of_le e3 hg.size, e4, fun j u hu => by rw [cell_of_block hb]; exact e5 j u hu, fun j hj => by rw [cell_of_block hb, frozen_of_block hb]; exact e6 j hj⟩
theorem Vs.zero (h : Vs w B k v n cs) : Vs w 0 k v n cs := h.mono (Nat.zero_le _)
/-- A block that is known whole, as a slice. -/
theorem Vs.of_blk {b cap : Nat} {t : TypeId} {C : Array Value} (h : Blk w b C t) (hl : cs.length = n * k) (hc : cap * k ≤ C.size) (hn : n ≤ cap) (hcs : ∀ (j : Nat) (u : Value), cs[j]? = some u → C[j]? = some u) (h1 : ∀ u ∈ cs, u.oneCell' = true) (hB : B ≤ b) : Vs w B k (.slice (some ⟨b, 0, none⟩) n cap) n cs :=
  ⟨hl, h1, .inr ⟨b, 0, cap, rfl, hB, h.lt, hn, fun j u hu => by rw [Nat.zero_add, h.cell]; exact hcs j u hu, fun j hj => by rw [Nat.zero_add, h.cell, h.frozen]; exact ⟨by rw [Array.getElem?_eq_getElem (by omega)]; rfl, rfl⟩⟩⟩
end
def Kp.vs (k : Nat) (v : Value) (n : Nat) (cs : List Value) : Kp := ⟨fun b => v.ownBlock = some b, fun w => Vs w 0 k v n cs, fun w1 w2 h hs hp => by
  obtain ⟨h1, h2, h3⟩ := hp
  refine ⟨h1, h2, ?_⟩
  rcases h3 with h3 | ⟨b, o, cap, rfl, e2, e3, e4, e5, e6⟩
  · exact .inl h3
  · have e := h b rfl e3
    exact .inr ⟨b, o, cap, rfl, e2, Nat.lt_of_lt_of_le e3 hs, e4, fun j u hu => by rw [cell_of_block e]; exact e5 j u hu, fun j hj => by rw [cell_of_block e, frozen_of_block e]; exact e6 j hj⟩⟩
theorem Vs.lit1 (w : World) (x : Value) (t : TypeId) (h : x.oneCell' = true) : Vs (w.alloc (.cells #[x] t)) 0 1 (.slice (some ⟨w.heap.size, 0, none⟩) 1 1) 1 [x] :=
  Vs.of_blk (Blk.new w #[x] t) rfl (by simp) (Nat.le_refl _) (fun j u hu => by simpa using hu) (by simpa using h) (Nat.zero_le _)
end Go.Proofs.YtekfceolignihaaDoor
