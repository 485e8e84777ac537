/- Bytes behind a slice value: what append, slicing and the conversions do with them. -/
import Derived.Test.YtjkpapkjlmglbaaDoorBY
import Derived.Deep.AppendSrc
import Derived.Laws.IdiomCopy
import Derived.Laws.AppendOwn
import Derived.Lib.LazyBuf
namespace Go.Proofs.YtjkpapkjlmglbaaDoor
open Go.RowKit
set_option linter.unusedVariables false

def cb (l : List UInt8) : List Value := l.map fun c => .int .u8 (c.toNat : Int)
theorem cb_len (l : List UInt8) : (cb l).length = l.length := by simp [cb]
theorem cb_one (l : List UInt8) : ∀ u ∈ cb l, u.oneCell' = true := by
  intro u hu
  obtain ⟨c, _, rfl⟩ := List.mem_map.1 hu
  rfl
/-- The slice value v holds the bytes l, in a block from B on; none of its cells, spare ones too, is frozen. -/
def Bs (w : World) (B : Nat) (v : Value) (l : List UInt8) : Prop :=
  (v = .slice none 0 0 ∧ l = []) ∨
  ∃ b o cap, v = .slice (some ⟨b, o, none⟩) l.length cap ∧ B ≤ b ∧ b < w.heap.size ∧ l.length ≤ cap ∧
    (∀ j (hj : j < l.length), w.cell? ⟨b, o + j, none⟩ = some (.int .u8 (l[j].toNat : Int))) ∧
    (∀ j, j < cap → (w.cell? ⟨b, o + j, none⟩).isSome = true ∧ w.frozen? ⟨b, o + j, none⟩ = false)
theorem Bs.nil (w : World) (B : Nat) : Bs w B (.slice none 0 0) [] := .inl ⟨rfl, rfl⟩
theorem Bs.mono {w : World} {B B' : Nat} {v : Value} {l : List UInt8} (h : Bs w B v l) (hB : B' ≤ B) : Bs w B' v l := by
  rcases h with h | ⟨b, o, cap, h1, h2, h3⟩
  · exact .inl h
  · exact .inr ⟨b, o, cap, h1, by omega, h3⟩
theorem Bs.kept {w w' : World} {row : Option Nat} {B : Nat} {v : Value} {l : List UInt8} (h : Bs w B v l) (hg : w.grownBy w' row) (hne : v.ownBlock = none ∨ v.ownBlock ≠ row) : Bs w' B v l := by
  rcases h with h | ⟨b, o, cap, rfl, h2, h3, h4, h5, h6⟩
  · exact .inl h
  · have hb : w'.heap[b]? = w.heap[b]? := hg.block b h3 (by
      rcases hne with e | e
      · cases e
      · exact e)
    have hc : ∀ x, w'.cell? ⟨b, x, none⟩ = w.cell? ⟨b, x, none⟩ := fun x => by simp [World.cell?, hb]
    have hf : ∀ x, w'.frozen? ⟨b, x, none⟩ = w.frozen? ⟨b, x, none⟩ := fun x => by simp [World.frozen?, hb]
    exact .inr ⟨b, o, cap, rfl, h2, Nat.lt_of_lt_of_le h3 hg.size, h4, fun j hj => by rw [hc]; exact h5 j hj, fun j hj => by rw [hc, hf]; exact h6 j hj⟩
/-- 's[:k]' -/
theorem Bs.take {w : World} {B b o n cap : Nat} {l : List UInt8} (h : Bs w B (.slice (some ⟨b, o, none⟩) n cap) l) (k : Nat) (hk : k ≤ l.length) : Bs w B (.slice (some ⟨b, o, none⟩) k cap) (l.take k) := by
  rcases h with ⟨h, _⟩ | ⟨b', o', cap', he, h2, h3, h4, h5, h6⟩
  · cases h
  · cases he
    refine .inr ⟨b, o, cap, by rw [List.length_take, Nat.min_eq_left hk], h2, h3, by rw [List.length_take]; omega, fun j hj => ?_, h6⟩
    rw [List.length_take] at hj
    rw [h5 j (by omega)]
    simp
/-- 's[k:]' -/
theorem Bs.drop {w : World} {B b o n cap : Nat} {l : List UInt8} (h : Bs w B (.slice (some ⟨b, o, none⟩) n cap) l) (k : Nat) (hk : k ≤ l.length) : Bs w B (.slice (some ⟨b, o + k, none⟩) (n - k) (cap - k)) (l.drop k) := by
  rcases h with ⟨h, _⟩ | ⟨b', o', cap', he, h2, h3, h4, h5, h6⟩
  · cases h
  · cases he
    refine .inr ⟨b, o + k, cap - k, by rw [List.length_drop], h2, h3, by rw [List.length_drop]; omega, fun j hj => ?_, fun j hj => ?_⟩
    · rw [List.length_drop] at hj
      rw [Nat.add_assoc, h5 (k + j) (by omega)]
      simp
    · rw [Nat.add_assoc]; exact h6 (k + j) (by omega)
theorem Bs.len {w : World} {B : Nat} {v : Value} {l : List UInt8} (h : Bs w B v l) : ∃ a cap, v = .slice a l.length cap ∧ l.length ≤ cap := by
  rcases h with ⟨rfl, rfl⟩ | ⟨b, o, cap, rfl, h2, h3, h4, _⟩
  · exact ⟨none, 0, rfl, Nat.le_refl _⟩
  · exact ⟨_, cap, rfl, h4⟩
theorem Bs.src {P : Program} {w : World} {B : Nat} {v : Value} {l : List UInt8} (h : Bs w B v l) {t e : TypeId} (ht : P.underlying t = some (.slice e)) : Src P 1 t v l.length (cb l) w := by
  rcases h with ⟨rfl, rfl⟩ | ⟨b, o, cap, rfl, h2, h3, h4, h5, h6⟩
  · exact Src.ofNil w ht 0
  · refine Src.ofSlice w ht ⟨b, o, none⟩ l.length cap (cb l) (by rw [cb_len, Nat.mul_one]) (fun j u hu => ?_) (cb_one l)
    have hj : j < l.length := by have := (List.getElem?_eq_some_iff.1 hu).1; rwa [cb_len] at this
    rw [Addr.add_lit, h5 j hj]
    rw [← hu]
    simp [cb, hj]
theorem setCells_heap (b : Nat) : ∀ (vs : List Value) (o : Nat) (w : World) (k : Nat), k ≠ b → (w.setCells b o vs).heap[k]? = w.heap[k]?
  | [], _, _, _, _ => rfl
  | v :: r, o, w, k, h => (setCells_heap b r (o + 1) _ k h).trans (Below.heap_setCell _ _ _ _ h)
theorem setCells_size (b : Nat) : ∀ (vs : List Value) (o : Nat) (w : World), (w.setCells b o vs).heap.size = w.heap.size ∧ (w.setCells b o vs).os = w.os ∧ (w.setCells b o vs).tape = w.tape ∧ (w.setCells b o vs).output = w.output
  | [], _, _ => ⟨rfl, rfl, rfl, rfl⟩
  | v :: r, o, w => by
    obtain ⟨h1, h2, h3, h4⟩ := setCells_size b r (o + 1) (w.setCell ⟨b, o, none⟩ v)
    exact ⟨h1.trans (World.size_setCell _ _ _), h2, h3, h4⟩
theorem cell_isSome_setCells (b : Nat) : ∀ (vs : List Value) (o : Nat) (w : World) (x : Nat), (w.cell? ⟨b, x, none⟩).isSome = true → ((w.setCells b o vs).cell? ⟨b, x, none⟩).isSome = true
  | [], _, _, _, h => h
  | v :: r, o, w, x, h => by
    refine cell_isSome_setCells b r (o + 1) _ x ?_
    by_cases e : o = x
    · subst e
      rw [cell_set]
      obtain ⟨u, hu⟩ := Option.isSome_iff_exists.1 h
      simp [hu]
    · rw [World.cell?_setCell_other w (a := ⟨b, o, none⟩) (b := ⟨b, x, none⟩) _ (by intro h; cases h; exact e rfl)]
      exact h
/-- 'append(v, u...)' -/
theorem Bs.append {P : Program} {w : World} {B B2 : Nat} {v u : Value} {l l2 : List UInt8} (hv : Bs w B v l) (hu : Bs w B2 u l2) {t e ty : TypeId} (ht : P.underlying t = some (.slice e))
    (hi : (P.info? e).map (fun i => (i.zero, i.size, i.bytes)) = some (some (.int .u8 0), 1, 1)) (hlen : l.length + l2.length ≤ 1000000) (hB : B ≤ w.heap.size) :
    ∃ v' w', (Builtin.append_ #[t, t] ty #[v, u]).run P w = .ok v' w' ∧ Bs w' B v' (l ++ l2) ∧ w.grownBy w' v.ownBlock ∧ (v'.ownBlock = v.ownBlock ∨ v'.ownBlock = some w.heap.size) := by
  obtain ⟨i, hi1, hi2⟩ := Option.map_eq_some_iff.1 hi
  simp only [Prod.mk.injEq] at hi2
  obtain ⟨hz, hs1, hb1⟩ := hi2
  have hsrc := hu.src ht
  have hgrow : ∀ (a : Option Addr) (cap : Nat), v = .slice a l.length cap → cap < l.length + l2.length → (Builtin.firstCells i.size l.length (.slice a l.length cap)).run P w.drew = .ok (cb l).toArray w.drew →
      ∃ v' w', (Builtin.append_ #[t, t] ty #[v, u]).run P w = .ok v' w' ∧ Bs w' B v' (l ++ l2) ∧ w.grownBy w' v.ownBlock ∧ (v'.ownBlock = v.ownBlock ∨ v'.ownBlock = some w.heap.size) := by
    intro a cap hva hcap hold
    subst hva
    have hfit : Builtin.nextslicecap (l.length + l2.length) cap * i.bytes ≤ 281474976710656 := growslice_fits hcap (by rw [hb1]; omega)
    have hrun := run_append_grow_src (P := P) w t t ty e i (.int .u8 0) ht hi1 hz a l.length cap (cb l) hold u l2.length (cb l2) (by rw [hs1]; exact hsrc) hcap (by omega) hfit
    have hge := grownCap_ge w (l.length + l2.length) cap e
    obtain ⟨gc, hgc⟩ : ∃ gc, gc = grownCap w (l.length + l2.length) cap e := ⟨_, rfl⟩
    rw [← hgc] at hrun hge
    obtain ⟨C, hC⟩ : ∃ C, C = (cb l ++ cb l2).toArray ++ Builtin.zeroCells (Value.int .u8 0).cells (gc - (l.length + l2.length)) := ⟨_, rfl⟩
    rw [← hC] at hrun
    have hCs : C.size = gc := by
      rw [hC]
      simp [cb_len, Builtin.zeroCells, Value.cells]
      omega
    have hblk : Blk (w.drew.alloc (.cells C e)) w.heap.size C e := Blk.new w.drew C e
    refine ⟨_, _, hrun, ?_, ⟨rfl, rfl, rfl, by simp, fun k hk _ => Below.heap_alloc w.drew _ k hk⟩, .inr rfl⟩
    refine .inr ⟨w.heap.size, 0, gc, by rw [List.length_append], hB, hblk.lt, by rw [List.length_append]; exact hge, fun j hj => ?_, fun j hj => ?_⟩
    · rw [Nat.zero_add, hblk.cell, hC, Array.getElem?_append_left (by simp [cb_len]; simpa using hj)]
      have : (cb l ++ cb l2) = cb (l ++ l2) := by simp [cb]
      rw [this, List.getElem?_toArray]
      unfold cb
      rw [List.getElem?_map, List.getElem?_eq_getElem hj]
      rfl
    · rw [Nat.zero_add, hblk.cell, hblk.frozen]
      exact ⟨by rw [Array.getElem?_eq_getElem (by omega)]; rfl, rfl⟩
  rcases hv with ⟨rfl, rfl⟩ | ⟨b, o, cap, rfl, h2, h3, h4, h5, h6⟩
  · by_cases h0 : l2 = []
    · subst h0
      refine ⟨.slice none 0 0, w, ?_, Bs.nil _ _, ⟨rfl, rfl, rfl, Nat.le_refl _, fun _ _ _ => rfl⟩, .inl rfl⟩
      have hc := hsrc.cells
      have hl := hsrc.len
      have hc' : (Builtin.firstCells 1 0 u).run P w = .ok #[] w := by simpa [cb] using hc
      simp [Builtin.append_, run_underlying ht, sizeOf, typeInfo, hi1, hs1, hl]
      rw [hc']
      rfl
    · have : 0 < l2.length := List.length_pos_iff.2 h0
      refine hgrow none 0 rfl (by simpa using this) ?_
      simp [Builtin.firstCells, cb]
  · by_cases hroom : l.length + l2.length ≤ cap
    · have hlb : (cb l2).length = l2.length := cb_len l2
      have hrun := run_append_room_src (P := P) w t t ty e i ht hi1 b o l.length cap u l2.length (cb l2) (by rw [hs1]; exact hsrc) hroom
        (fun j hj => by rw [hs1, Nat.mul_one, Nat.add_assoc]; exact (h6 _ (by omega)).1) (fun j hj => by rw [hs1, Nat.mul_one, Nat.add_assoc]; exact (h6 _ (by omega)).2)
      rw [hs1, Nat.mul_one] at hrun
      obtain ⟨q1, q2, q3, q4⟩ := setCells_size b (cb l2) (o + l.length) w
      refine ⟨_, _, hrun, ?_, ⟨q2, q3, q4, by omega, fun k hk hne => setCells_heap b _ _ _ k (fun e => hne (by rw [e]; rfl))⟩, .inl rfl⟩
      refine .inr ⟨b, o, cap, by rw [List.length_append], h2, by omega, by rw [List.length_append]; exact hroom, fun j hj => ?_, fun j hj => ?_⟩
      · by_cases hjl : j < l.length
        · rw [World.cell?_setCells_out b _ _ _ _ (fun _ _ => .inl (by show o + j < _; omega)), h5 j hjl, List.getElem_append_left hjl]
        · have hj2 : j - l.length < (cb l2).length := by rw [hlb]; rw [List.length_append] at hj; omega
          have := World.cell?_setCells_in b (cb l2) (o + l.length) w (fun j hj => by rw [Nat.add_assoc]; exact (h6 _ (by omega)).1) (j - l.length) hj2
          rw [show o + l.length + (j - l.length) = o + j by omega] at this
          rw [this, List.getElem_append_right (by omega)]
          simp [cb]
      · rw [World.frozen?_setCells]
        exact ⟨cell_isSome_setCells b _ _ _ _ (h6 j hj).1, (h6 j hj).2⟩
    · refine hgrow (some ⟨b, o, none⟩) cap rfl (by omega) ?_
      have hv' : Bs w B (.slice (some ⟨b, o, none⟩) l.length cap) l := .inr ⟨b, o, cap, rfl, h2, h3, h4, h5, h6⟩
      rw [hs1]
      exact (hv'.src ht).cellsD
/-- '[]byte(s)' -/
theorem Bs.conv {P : Program} (w : World) (s : ByteArray) {src dst e : TypeId} (hs : P.underlying src = some .string) (hd : P.underlying dst = some (.slice e)) (he : P.underlying e = some (.int .u8)) (B : Nat) (hB : B ≤ w.heap.size) :
    ∃ v' w', (convert src dst (.string s)).run P w = .ok v' w' ∧ Bs w' B v' s.data.toList ∧ w.grownBy w' none ∧ v'.ownBlock = some w.heap.size := by
  have hrun := run_bytes_of_string (P := P) w src dst e s hs hd he
  have hge := grownCap_ge w s.size 0 e
  obtain ⟨gc, hgc⟩ : ∃ gc, gc = grownCap w s.size 0 e := ⟨_, rfl⟩
  rw [← hgc] at hrun hge
  have hRs : (bytesRow s gc).size = gc := by
    have : s.data.size = s.size := rfl
    simp [bytesRow]; omega
  have hlen : s.data.toList.length = s.size := by rw [Array.length_toList]; rfl
  refine ⟨_, _, hrun, ?_, ⟨rfl, rfl, rfl, by simp, fun k hk _ => Below.heap_alloc w.drew _ k hk⟩, rfl⟩
  refine .inr ⟨w.heap.size, 0, gc, by rw [hlen], hB, by simp, by rw [hlen]; exact hge, fun j hj => ?_, fun j hj => ?_⟩
  · rw [hlen] at hj
    rw [Nat.zero_add]
    have := World.cell?_alloc_mark w.drew (bytesRow s gc) e ((bytesRow s gc).size, (bytesRow s gc).size + 1) j
    refine this.trans ?_
    rw [bytesRow_at s gc j hj]
    simp
  · rw [Nat.zero_add]
    have h1 := World.cell?_alloc_mark w.drew (bytesRow s gc) e ((bytesRow s gc).size, (bytesRow s gc).size + 1) j
    have h2 := World.frozen?_alloc_mark w.drew (bytesRow s gc) e (bytesRow s gc).size ((bytesRow s gc).size + 1) j
    refine ⟨by rw [show w.heap.size = w.drew.heap.size from rfl, h1, Array.getElem?_eq_getElem (by omega)]; rfl, h2.trans ?_⟩
    simp; omega
/-- 'string(v)' -/
theorem Bs.str {P : Program} {w : World} {B : Nat} {v : Value} {l : List UInt8} (h : Bs w B v l) {src dst e : TypeId} (hs : P.underlying src = some (.slice e)) (he : P.underlying e = some (.int .u8)) (hd : P.underlying dst = some .string) :
    (convert src dst v).run P w = .ok (.string ⟨l.toArray⟩) w := by
  rcases h with ⟨rfl, rfl⟩ | ⟨b, o, cap, rfl, h2, h3, h4, h5, h6⟩
  · rw [run_convert_bytes_string w src dst e none 0 0 hs he hd]
    first | rfl | (simp [Conv.bytesToString]; rfl)
  · exact run_convert_bytes_back w src dst e ⟨b, o, none⟩ cap l hs he hd (fun j hj => by rw [Addr.add_lit]; exact h5 j hj)
section
variable {P : Program} {w w' : World} {v u v' : Value}
/-- The operation, its run given. -/
theorem wp_append_bs {o : Oper} {a : Act} {K : Act → World → Prop} {Q : Exit → Act → World → Prop} (s x : Operand) (t : TypeId) (ho : o.op = .call { callee := .builtin .append, args := #[s, x], argTypes := #[t, t] })
    (hr : (Builtin.append_ #[t, t] o.type #[v, u]).run P w = .ok v' w') (hs : a.eval s = v) (hx : a.eval x = u) (h : K (a.put o.dst v') w') : o.wp P a w K Q := by
  unfold Oper.wp execOp
  simp only [ho, resolve, invoke, builtin, Sem.run_bind, Sem.run_pure, Result.andThen_ok, List.map_toArray, List.map_cons, List.map_nil, hs, hx, hr]
  exact h
theorem wpList_append_bs {ops : Array Oper} {rest : List Oper} {o : Oper} {a : Act} {Q : Exit → Act → World → Prop} (hgd : o.guard = none) (s x : Operand) (t : TypeId) (ho : o.op = .call { callee := .builtin .append, args := #[s, x], argTypes := #[t, t] })
    (hr : (Builtin.append_ #[t, t] o.type #[v, u]).run P w = .ok v' w') (hs : a.eval s = v) (hx : a.eval x = u) (h : wpList P ops Q rest (a.put o.dst v') w') : wpList P ops Q (o :: rest) a w :=
  wpList_plain hgd fun _ hK => wp_append_bs s x t ho hr hs hx (hK _ _ h)
theorem step_append_bs {ops : Array Oper} {o : Oper} {a : Act} {K : Act → World → Prop} {Q : Exit → Act → World → Prop} {E : Prop} (hgd : o.guard = none) (s x : Operand) (t : TypeId) (ho : o.op = .call { callee := .builtin .append, args := #[s, x], argTypes := #[t, t] })
    (hr : (Builtin.append_ #[t, t] o.type #[v, u]).run P w = .ok v' w') (hs : a.eval s = v) (hx : a.eval x = u) (h : K (a.put o.dst v') w') :
    if Region.wanted o (yielded ops a.tmps) = true then Oper.wp P o a w K Q else E := by
  have hw : Region.wanted o (yielded ops a.tmps) = true := by simp [Region.wanted, hgd]
  rw [if_pos hw]
  exact wp_append_bs s x t ho hr hs hx h
end
end Go.Proofs.YtjkpapkjlmglbaaDoor
