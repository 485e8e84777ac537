/- 'Bytes'. -/
import Derived.Test.YtjihhojlakapnaaDoorH1
namespace Go.Proofs.YtjihhojlakapnaaDoor
open Go.RowKit
set_option linter.unusedVariables false
set_option linter.unusedSimpArgs false
/-- 'append(v, u...)' -/
theorem Bs.appendS {P : Program} {w : World} {B : Nat} {v u : Value} {l l2 : List UInt8} (hv : Bs w B v l) {t tx e ty : TypeId} (hsrc : Src P 1 tx u l2.length (cb l2) w) (ht : P.underlying t = some (.slice e))
    (hi : (P.info? e).map (fun i => (i.zero, i.size, i.bytes)) = some (some (.int .u8 0), 1, 1)) (hl2 : l2 ≠ []) (hlen : l.length + l2.length ≤ 1000000) (hB : B ≤ w.heap.size) :
    ∃ v' w', (Builtin.append_ #[t, tx] ty #[v, u]).run P w = .ok v' w' ∧ Bs w' B v' (l ++ l2) ∧ w.grownBy w' v.ownBlock ∧ (v'.ownBlock = v.ownBlock ∨ v'.ownBlock = some w.heap.size) := by
  obtain ⟨i, hi1, hi2⟩ := Option.map_eq_some_iff.1 hi
  simp only [Prod.mk.injEq] at hi2
  obtain ⟨hz, hs1, hb1⟩ := hi2
  have hgrow : ∀ (a : Option Addr) (cap : Nat), v = .slice a l.length cap → cap < l.length + l2.length → (Builtin.firstCells i.size l.length (.slice a l.length cap)).run P w.drew = .ok (cb l).toArray w.drew →
      ∃ v' w', (Builtin.append_ #[t, tx] ty #[v, u]).run P w = .ok v' w' ∧ Bs w' B v' (l ++ l2) ∧ w.grownBy w' v.ownBlock ∧ (v'.ownBlock = v.ownBlock ∨ v'.ownBlock = some w.heap.size) := by
    intro a cap hva hcap hold
    subst hva
    have hfit : Builtin.nextslicecap (l.length + l2.length) cap * i.bytes ≤ 281474976710656 := growslice_fits hcap (by rw [hb1]; omega)
    have hrun := run_append_grow_src (P := P) w t tx ty e i (.int .u8 0) ht hi1 hz a l.length cap (cb l) hold u l2.length (cb l2) (by rw [hs1]; exact hsrc) hcap (by omega) hfit
    have hge := grownCap_ge w (l.length + l2.length) cap e
    obtain ⟨gc, hgc⟩ : ∃ gc, gc = grownCap w (l.length + l2.length) cap e := ⟨_, rfl⟩
    rw [← hgc] at hrun hge
    obtain ⟨C, hC⟩ : ∃ C, C = (cb l ++ cb l2).toArray ++ Builtin.zeroCells (Value.int .u8 0).cells (gc - (l.length + l2.length)) := ⟨_, rfl⟩
    rw [← hC] at hrun
    have hCs : C.size = gc := by
      rw [hC]
      simp [cb_len, Builtin.zeroCells, Value.cells]
      omega
    have hblk : Blk (w.drew.alloc (.cells C e)) w.heap.size C e := Blk.new w.drew C e
    refine ⟨_, _, hrun, ?_, ⟨rfl, rfl, rfl, by simp, fun k hk _ => Below.heap_alloc w.drew _ k hk⟩, .inr rfl⟩
    refine .inr ⟨w.heap.size, 0, gc, by rw [List.length_append], hB, hblk.lt, by rw [List.length_append]; exact hge, fun j hj => ?_, fun j hj => ?_⟩
    · rw [Nat.zero_add, hblk.cell, hC, Array.getElem?_append_left (by simp [cb_len]; simpa using hj)]
      have : (cb l ++ cb l2) = cb (l ++ l2) := by simp [cb]
      rw [this, List.getElem?_toArray]
      unfold cb
      rw [List.getElem?_map, List.getElem?_eq_getElem hj]
      rfl
    · rw [Nat.zero_add, hblk.cell, hblk.frozen]
      exact ⟨by rw [Array.getElem?_eq_getElem (by omega)]; rfl, rfl⟩
  rcases hv with ⟨rfl, rfl⟩ | ⟨b, o, cap, rfl, h2, h3, h4, h5, h6⟩
  · by_cases h0 : l2 = []
    · exact absurd h0 hl2
    · have : 0 < l2.length := List.length_pos_iff.2 h0
      refine hgrow none 0 rfl (by simpa using this) ?_
      simp [Builtin.firstCells, cb]
  · by_cases hroom : l.length + l2.length ≤ cap
    · have hlb : (cb l2).length = l2.length := cb_len l2
      have hrun := run_append_room_src (P := P) w t tx ty e i ht hi1 b o l.length cap u l2.length (cb l2) (by rw [hs1]; exact hsrc) hroom
        (fun j hj => by rw [hs1, Nat.mul_one, Nat.add_assoc]; exact (h6 _ (by omega)).1) (fun j hj => by rw [hs1, Nat.mul_one, Nat.add_assoc]; exact (h6 _ (by omega)).2)
      rw [hs1, Nat.mul_one] at hrun
      obtain ⟨q1, q2, q3, q4⟩ := setCells_size b (cb l2) (o + l.length) w
      refine ⟨_, _, hrun, ?_, ⟨q2, q3, q4, by omega, fun k hk hne => setCells_heap b _ _ _ k (fun e => hne (by rw [e]; rfl))⟩, .inl rfl⟩
      refine .inr ⟨b, o, cap, by rw [List.length_append], h2, by omega, by rw [List.length_append]; exact hroom, fun j hj => ?_, fun j hj => ?_⟩
      · by_cases hjl : j < l.length
        · rw [World.cell?_setCells_out b _ _ _ _ (fun _ _ => .inl (by show o + j < _; omega)), h5 j hjl, List.getElem_append_left hjl]
        · have hj2 : j - l.length < (cb l2).length := by rw [hlb]; rw [List.length_append] at hj; omega
          have := World.cell?_setCells_in b (cb l2) (o + l.length) w (fun j hj => by rw [Nat.add_assoc]; exact (h6 _ (by omega)).1) (j - l.length) hj2
          rw [show o + l.length + (j - l.length) = o + j by omega] at this
          rw [this, List.getElem_append_right (by omega)]
          simp [cb]
      · rw [World.frozen?_setCells]
        exact ⟨cell_isSome_setCells b _ _ _ _ (h6 j hj).1, (h6 j hj).2⟩
    · refine hgrow (some ⟨b, o, none⟩) cap rfl (by omega) ?_
      have hv' : Bs w B (.slice (some ⟨b, o, none⟩) l.length cap) l := .inr ⟨b, o, cap, rfl, h2, h3, h4, h5, h6⟩
      rw [hs1]
      exact (hv'.src ht).cellsD
section
variable {P : Program} {w w' : World} {v u v' : Value}
/-- The operation, its run given. -/
theorem wp_append_bs2 {o : Oper} {a : Act} {K : Act → World → Prop} {Q : Exit → Act → World → Prop} (s x : Operand) (t tx : TypeId) (ho : o.op = .call { callee := .builtin .append, args := #[s, x], argTypes := #[t, tx] })
    (hr : (Builtin.append_ #[t, tx] o.type #[v, u]).run P w = .ok v' w') (hs : a.eval s = v) (hx : a.eval x = u) (h : K (a.put o.dst v') w') : o.wp P a w K Q := by
  unfold Oper.wp execOp
  simp only [ho, resolve, invoke, builtin, Sem.run_bind, Sem.run_pure, Result.andThen_ok, List.map_toArray, List.map_cons, List.map_nil, hs, hx, hr]
  exact h
theorem wpList_append_bs2 {ops : Array Oper} {rest : List Oper} {o : Oper} {a : Act} {Q : Exit → Act → World → Prop} (hgd : o.guard = none) (s x : Operand) (t tx : TypeId) (ho : o.op = .call { callee := .builtin .append, args := #[s, x], argTypes := #[t, tx] })
    (hr : (Builtin.append_ #[t, tx] o.type #[v, u]).run P w = .ok v' w') (hs : a.eval s = v) (hx : a.eval x = u) (h : wpList P ops Q rest (a.put o.dst v') w') : wpList P ops Q (o :: rest) a w :=
  wpList_plain hgd fun _ hK => wp_append_bs2 s x t tx ho hr hs hx (hK _ _ h)
end

attribute [local go_sem] cell_set set_set m_undef
/-- A header's value. -/
def hdV (at_ link : Int) (nm : List UInt8) (imm hid : Bool) (xt : Int) : Value := .agg #[.int .i64 at_, .int .i64 link, .string ⟨nm.toArray⟩, .bool imm, .bool hid, .int .i64 xt]
/-- A header's bytes. -/
def bytesL (link : Int) (nm : List UInt8) (imm hid : Bool) : List UInt8 := putCellL (List.replicate 8 0) 0 link ++ [UInt8.ofNat (markN nm.length imm hid)] ++ nm ++ List.replicate ((8 - (9 + nm.length) % 8) % 8) 0
/-- What 'Bytes' gives. -/
def BytesP (w w' : World) (link : Int) (nm : List UInt8) (imm hid : Bool) (e : Ending) : Prop :=
  Below w.heap.size w w' ∧ ((nm = [] ∧ e = .returned (.tuple #[.slice none 0 0, .int .i64 (-16)])) ∨ (nm ≠ [] ∧ 31 < nm.length ∧ e = .returned (.tuple #[.slice none 0 0, .int .i64 (-19)])) ∨
    (nm ≠ [] ∧ nm.length ≤ 31 ∧ ∃ v, e = .returned (.tuple #[v, .int .i64 0]) ∧ Bs w' w.heap.size v (bytesL link nm imm hid)))
/-- A new slice of one byte. -/
theorem Bs.lit1 (w : World) (c : UInt8) : Bs (w.alloc (.cells #[.int .u8 (c.toNat : Int)] 5)) w.heap.size (.slice (some ⟨w.heap.size, 0, none⟩) 1 1) [c] := by
  refine .inr ⟨w.heap.size, 0, 1, rfl, Nat.le_refl _, by simp, Nat.le_refl _, fun j hj => ?_, fun j hj => ?_⟩
  · have : j = 0 := by simp at hj; omega
    subst this
    obtain ⟨e1, e2, _⟩ := (Blk.new w #[.int .u8 (c.toNat : Int)] 5).one
    exact e1
  · have : j = 0 := by omega
    subst this
    obtain ⟨e1, e2, _⟩ := (Blk.new w #[.int .u8 (c.toNat : Int)] 5).one
    exact ⟨by rw [e1]; rfl, e2⟩
theorem Bs.form {w : World} {B : Nat} {v : Value} {l : List UInt8} (h : Bs w B v l) : ∃ a n c, v = .slice a n c := by
  obtain ⟨a, cap, e, _⟩ := h.len
  exact ⟨a, _, cap, e⟩
theorem Bs.ge {w : World} {B N k : Nat} {v : Value} {l : List UInt8} (h : Bs w B v l) (hN : N ≤ B) (e : v.ownBlock = some k) : N ≤ k := by
  rcases h.lt with e2 | ⟨j, e2, h1, _⟩
  · rw [e] at e2; cases e2
  · rw [e] at e2; cases e2; omega
theorem str_ne {nm : List UInt8} (h : nm ≠ []) : nm.isEmpty = false := by
  cases nm with
  | nil => exact absurd rfl h
  | cons c r => rfl
end Go.Proofs.YtjihhojlakapnaaDoor
