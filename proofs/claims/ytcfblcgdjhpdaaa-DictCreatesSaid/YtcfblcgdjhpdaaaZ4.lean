/- Texts merged: H2 H3 H4 H5 H7 H8 H9 H10. -/
import Derived.Test.YtcfblcgdjhpdaaaZ3
/- 'Bytes'. -/
namespace Go.Proofs.Ytcfblcgdjhpdaaa
open Go.RowKit
set_option linter.unusedVariables false
set_option linter.unusedSimpArgs false
/-- 'append(v, u...)' -/
theorem Bs.appendS {P : Program} {w : World} {B : Nat} {v u : Value} {l l2 : List UInt8} (hv : Bs w B v l) {t tx e ty : TypeId} (hsrc : Src P 1 tx u l2.length (cb l2) w) (ht : P.underlying t = some (.slice e))
    (hi : (P.info? e).map (fun i => (i.zero, i.size, i.bytes)) = some (some (.int .u8 0), 1, 1)) (hl2 : l2 ≠ []) (hlen : l.length + l2.length ≤ 1000000) (hB : B ≤ w.heap.size) :
    ∃ v' w', (Builtin.append_ #[t, tx] ty #[v, u]).run P w = .ok v' w' ∧ Bs w' B v' (l ++ l2) ∧ w.grownBy w' v.ownBlock ∧ (v'.ownBlock = v.ownBlock ∨ v'.ownBlock = some w.heap.size) := by
  obtain ⟨i, hi1, hi2⟩ := Option.map_eq_some_iff.1 hi
  simp only [Prod.mk.injEq] at hi2
  obtain ⟨hz, hs1, hb1⟩ := hi2
  have hgrow : ∀ (a : Option Addr) (cap : Nat), v = .slice a l.length cap → cap < l.length + l2.length → (Builtin.firstCells i.size l.length (.slice a l.length cap)).run P w.drew = .ok (cb l).toArray w.drew →
      ∃ v' w', (Builtin.append_ #[t, tx] ty #[v, u]).run P w = .ok v' w' ∧ Bs w' B v' (l ++ l2) ∧ w.grownBy w' v.ownBlock ∧ (v'.ownBlock = v.ownBlock ∨ v'.ownBlock = some w.heap.size) := by
    intro a cap hva hcap hold
    subst hva
    have hfit : Builtin.nextslicecap (l.length + l2.length) cap * i.bytes ≤ 281474976710656 := growslice_fits hcap (by rw [hb1]; omega)
    have hrun := run_append_grow_src (P := P) w t tx ty e i (.int .u8 0) ht hi1 hz a l.length cap (cb l) hold u l2.length (cb l2) (by rw [hs1]; exact hsrc) hcap (by omega) hfit
    have hge := grownCap_ge w (l.length + l2.length) cap e
    obtain ⟨gc, hgc⟩ : ∃ gc, gc = grownCap w (l.length + l2.length) cap e := ⟨_, rfl⟩
    rw [← hgc] at hrun hge
    obtain ⟨C, hC⟩ : ∃ C, C = (cb l ++ cb l2).toArray ++ Builtin.zeroCells (Value.int .u8 0).cells (gc - (l.length + l2.length)) := ⟨_, rfl⟩
    rw [← hC] at hrun
    have hCs : C.size = gc := by
      rw [hC]
      simp [cb_len, Builtin.zeroCells, Value.cells]
      omega
    have hblk : Blk (w.drew.alloc (.cells C e)) w.heap.size C e := Blk.new w.drew C e
    refine ⟨_, _, hrun, ?_, ⟨rfl, rfl, rfl, by simp, fun k hk _ => Below.heap_alloc w.drew _ k hk⟩, .inr rfl⟩
    refine .inr ⟨w.heap.size, 0, gc, by rw [List.length_append], hB, hblk.lt, by rw [List.length_append]; exact hge, fun j hj => ?_, fun j hj => ?_⟩
    · rw [Nat.zero_add, hblk.cell, hC, Array.getElem?_append_left (by simp [cb_len]; simpa using hj)]
      have : (cb l ++ cb l2) = cb (l ++ l2) := by simp [cb]
      rw [this, List.getElem?_toArray]
      unfold cb
      rw [List.getElem?_map, List.getElem?_eq_getElem hj]
      rfl
    · rw [Nat.zero_add, hblk.cell, hblk.frozen]
      exact ⟨by rw [Array.getElem?_eq_getElem (by omega)]; rfl, rfl⟩
  rcases hv with ⟨rfl, rfl⟩ | ⟨b, o, cap, rfl, h2, h3, h4, h5, h6⟩
  · by_cases h0 : l2 = []
    · exact absurd h0 hl2
    · have : 0 < l2.length := List.length_pos_iff.2 h0
      refine hgrow none 0 rfl (by simpa using this) ?_
      simp [Builtin.firstCells, cb]
  · by_cases hroom : l.length + l2.length ≤ cap
    · have hlb : (cb l2).length = l2.length := cb_len l2
      have hrun := run_append_room_src (P := P) w t tx ty e i ht hi1 b o l.length cap u l2.length (cb l2) (by rw [hs1]; exact hsrc) hroom
        (fun j hj => by rw [hs1, Nat.mul_one, Nat.add_assoc]; exact (h6 _ (by omega)).1) (fun j hj => by rw [hs1, Nat.mul_one, Nat.add_assoc]; exact (h6 _ (by omega)).2)
      rw [hs1, Nat.mul_one] at hrun
      obtain ⟨q1, q2, q3, q4⟩ := setCells_size b (cb l2) (o + l.length) w
      refine ⟨_, _, hrun, ?_, ⟨q2, q3, q4, by omega, fun k hk hne => setCells_heap b _ _ _ k (fun e => hne (by rw [e]; rfl))⟩, .inl rfl⟩
      refine .inr ⟨b, o, cap, by rw [List.length_append], h2, by omega, by rw [List.length_append]; exact hroom, fun j hj => ?_, fun j hj => ?_⟩
      · by_cases hjl : j < l.length
        · rw [World.cell?_setCells_out b _ _ _ _ (fun _ _ => .inl (by show o + j < _; omega)), h5 j hjl, List.getElem_append_left hjl]
        · have hj2 : j - l.length < (cb l2).length := by rw [hlb]; rw [List.length_append] at hj; omega
          have := World.cell?_setCells_in b (cb l2) (o + l.length) w (fun j hj => by rw [Nat.add_assoc]; exact (h6 _ (by omega)).1) (j - l.length) hj2
          rw [show o + l.length + (j - l.length) = o + j by omega] at this
          rw [this, List.getElem_append_right (by omega)]
          simp [cb]
      · rw [World.frozen?_setCells]
        exact ⟨cell_isSome_setCells b _ _ _ _ (h6 j hj).1, (h6 j hj).2⟩
    · refine hgrow (some ⟨b, o, none⟩) cap rfl (by omega) ?_
      have hv' : Bs w B (.slice (some ⟨b, o, none⟩) l.length cap) l := .inr ⟨b, o, cap, rfl, h2, h3, h4, h5, h6⟩
      rw [hs1]
      exact (hv'.src ht).cellsD
section
variable {P : Program} {w w' : World} {v u v' : Value}
/-- The operation, its run given. -/
theorem wp_append_bs2 {o : Oper} {a : Act} {K : Act → World → Prop} {Q : Exit → Act → World → Prop} (s x : Operand) (t tx : TypeId) (ho : o.op = .call { callee := .builtin .append, args := #[s, x], argTypes := #[t, tx] })
    (hr : (Builtin.append_ #[t, tx] o.type #[v, u]).run P w = .ok v' w') (hs : a.eval s = v) (hx : a.eval x = u) (h : K (a.put o.dst v') w') : o.wp P a w K Q := by
  unfold Oper.wp execOp
  simp only [ho, resolve, invoke, builtin, Sem.run_bind, Sem.run_pure, Result.andThen_ok, List.map_toArray, List.map_cons, List.map_nil, hs, hx, hr]
  exact h
theorem wpList_append_bs2 {ops : Array Oper} {rest : List Oper} {o : Oper} {a : Act} {Q : Exit → Act → World → Prop} (hgd : o.guard = none) (s x : Operand) (t tx : TypeId) (ho : o.op = .call { callee := .builtin .append, args := #[s, x], argTypes := #[t, tx] })
    (hr : (Builtin.append_ #[t, tx] o.type #[v, u]).run P w = .ok v' w') (hs : a.eval s = v) (hx : a.eval x = u) (h : wpList P ops Q rest (a.put o.dst v') w') : wpList P ops Q (o :: rest) a w :=
  wpList_plain hgd fun _ hK => wp_append_bs2 s x t tx ho hr hs hx (hK _ _ h)
end

attribute [local go_sem] cell_set set_set m_undef
/-- A header's value. -/
def hdV (at_ link : Int) (nm : List UInt8) (imm hid : Bool) (xt : Int) : Value := .agg #[.int .i64 at_, .int .i64 link, .string ⟨nm.toArray⟩, .bool imm, .bool hid, .int .i64 xt]
/-- A header's bytes. -/
def bytesL (link : Int) (nm : List UInt8) (imm hid : Bool) : List UInt8 := putCellL (List.replicate 8 0) 0 link ++ [UInt8.ofNat (markN nm.length imm hid)] ++ nm ++ List.replicate ((8 - (9 + nm.length) % 8) % 8) 0
/-- What 'Bytes' gives. -/
def BytesP (w w' : World) (link : Int) (nm : List UInt8) (imm hid : Bool) (e : Ending) : Prop :=
  Below w.heap.size w w' ∧ ((nm = [] ∧ e = .returned (.tuple #[.slice none 0 0, .int .i64 (-16)])) ∨ (nm ≠ [] ∧ 31 < nm.length ∧ e = .returned (.tuple #[.slice none 0 0, .int .i64 (-19)])) ∨
    (nm ≠ [] ∧ nm.length ≤ 31 ∧ ∃ v, e = .returned (.tuple #[v, .int .i64 0]) ∧ Bs w' w.heap.size v (bytesL link nm imm hid)))
/-- A new slice of one byte. -/
theorem Bs.lit1 (w : World) (c : UInt8) : Bs (w.alloc (.cells #[.int .u8 (c.toNat : Int)] 5)) w.heap.size (.slice (some ⟨w.heap.size, 0, none⟩) 1 1) [c] := by
  refine .inr ⟨w.heap.size, 0, 1, rfl, Nat.le_refl _, by simp, Nat.le_refl _, fun j hj => ?_, fun j hj => ?_⟩
  · have : j = 0 := by simp at hj; omega
    subst this
    obtain ⟨e1, e2, _⟩ := (Blk.new w #[.int .u8 (c.toNat : Int)] 5).one
    exact e1
  · have : j = 0 := by omega
    subst this
    obtain ⟨e1, e2, _⟩ := (Blk.new w #[.int .u8 (c.toNat : Int)] 5).one
    exact ⟨by rw [e1]; rfl, e2⟩
theorem Bs.form {w : World} {B : Nat} {v : Value} {l : List UInt8} (h : Bs w B v l) : ∃ a n c, v = .slice a n c := by
  obtain ⟨a, cap, e, _⟩ := h.len
  exact ⟨a, _, cap, e⟩
theorem Bs.ge {w : World} {B N k : Nat} {v : Value} {l : List UInt8} (h : Bs w B v l) (hN : N ≤ B) (e : v.ownBlock = some k) : N ≤ k := by
  rcases h.lt with e2 | ⟨j, e2, h1, _⟩
  · rw [e] at e2; cases e2
  · rw [e] at e2; cases e2; omega
theorem str_ne {nm : List UInt8} (h : nm ≠ []) : nm.isEmpty = false := by
  cases nm with
  | nil => exact absurd rfl h
  | cons c r => rfl
set_option maxHeartbeats 1000000 in
theorem bytes_nil (w : World) (at_ link xt : Int) (imm hid : Bool) : Calls Try.prog 40 #[hdV at_ link [] imm hid xt] w fun e w' => e = .returned (.tuple #[.slice none 0 0, .int .i64 (-16)]) ∧ Below w.heap.size w w' := by
  unfold hdV
  go_enter Try.func40, Try.ntmps40
  go_wp2
  refine bodyPost_ret (v := .tuple #[.slice none 0 0, .int .i64 (-16)]) (by simp [results, Try.results40, go_sem]) rfl ?_
  exact ⟨rfl, bel_alloc (Below.refl _ _) _⟩
set_option maxHeartbeats 1000000 in
theorem bytes_long (w : World) (at_ link xt : Int) (nm : List UInt8) (imm hid : Bool) (h0 : nm ≠ []) (hl : 31 < nm.length) : Calls Try.prog 40 #[hdV at_ link nm imm hid xt] w fun e w' => e = .returned (.tuple #[.slice none 0 0, .int .i64 (-19)]) ∧ Below w.heap.size w w' := by
  have hne := str_ne h0
  have t1 : ((31 : Int) < (nm.length : Int)) = True := by simp; omega
  unfold hdV
  clear h0 hl
  go_enter Try.func40, Try.ntmps40
  go_wp2
  refine bodyPost_ret (v := .tuple #[.slice none 0 0, .int .i64 (-19)]) (by simp [results, Try.results40, go_sem]) rfl ?_
  exact ⟨rfl, bel_alloc (Below.refl _ _) _⟩
set_option maxRecDepth 100000 in
set_option maxHeartbeats 1000000 in
theorem bytes_good (w : World) (at_ link xt : Int) (nm : List UInt8) (imm hid : Bool) (h0 : nm ≠ []) (hl : nm.length ≤ 31) : Calls Try.prog 40 #[hdV at_ link nm imm hid xt] w fun e w' => (∃ v, e = .returned (.tuple #[v, .int .i64 0]) ∧ Bs w' w.heap.size v (bytesL link nm imm hid)) ∧ Below w.heap.size w w' := by
  have hne := str_ne h0
  have t1 : ((31 : Int) < (nm.length : Int)) = False := by simp; omega
  unfold hdV
  have h0' := h0
  clear h0
  obtain ⟨w0, hw0⟩ : ∃ w0, w0 = w.alloc (.cells #[.int .i64 at_, .int .i64 link, .string ⟨nm.toArray⟩, .bool imm, .bool hid, .int .i64 xt] 34) := ⟨_, rfl⟩
  have hB0 : Blk w0 w.heap.size #[.int .i64 at_, .int .i64 link, .string ⟨nm.toArray⟩, .bool imm, .bool hid, .int .i64 xt] 34 := by subst hw0; exact Blk.new _ _ _
  have hbl0 : Below w.heap.size w w0 := by subst hw0; exact bel_alloc (Below.refl _ _) _
  have hmk : (Instr.makeSlice 22 (.int .i64 8) (.int .i64 8)).run Try.prog w0.drew = .ok (.slice (some ⟨w0.heap.size, 0, none⟩) 8 8) (w0.drew.alloc (.cells (cb (List.replicate 8 0)).toArray 5)) := run_made w0.drew 8 (by omega)
  have hB1 : Blk (w0.drew.alloc (.cells (cb (List.replicate 8 0)).toArray 5)) w.heap.size #[.int .i64 at_, .int .i64 link, .string ⟨nm.toArray⟩, .bool imm, .bool hid, .int .i64 xt] 34 := (hB0.drew).alloc _
  have hbl1 : Below w.heap.size w (w0.drew.alloc (.cells (cb (List.replicate 8 0)).toArray 5)) := bel_alloc (bel_drew hbl0) _
  have hZ : Bs (w0.drew.alloc (.cells (cb (List.replicate 8 0)).toArray 5)) 0 (.slice (some ⟨w0.heap.size, 0, none⟩) 8 8) (List.replicate 8 0) := Bs.of_blk (Blk.new w0.drew (cb (List.replicate 8 0)).toArray 5) (by simp)
  have hPC := Lib.hid (wPutCell _ 0 _ _ 0 link hZ (by unfold isI; omega) (by simp))
  have s0 : w0.drew.cell? ⟨w.heap.size, 1, none⟩ = some (.int .i64 link) := by rw [(hB0.drew).cell]; rfl
  have s1 : (w0.drew.alloc (.cells (cb (List.replicate 8 0)).toArray 5)).cell? ⟨w.heap.size, 1, none⟩ = some (.int .i64 link) := by rw [hB1.cell]; rfl
  have c2 : w0.cell? ⟨w.heap.size, 2, none⟩ = some (.string ⟨nm.toArray⟩) := by rw [hB0.cell]; rfl
  unfold bytesL
  have hlen8 : (putCellL (List.replicate 8 0) 0 link).length = 8 := by unfold putCellL; rw [putL_len]; simp
  generalize putCellL (List.replicate 8 0) 0 link = L8 at *
  replace hlen8 := Lib.hid hlen8
  clear hZ
  go_enter Try.func40, Try.ntmps40
  go_upto_region 1 with fail
  rw [← hw0]
  clear hw0
  go_upto_region 5 with fail
  generalize w0.drew.alloc (.cells (cb (List.replicate 8 0)).toArray 5) = w1 at *
  refine wp_region_noPanic ?_
  refine wp_region_held_drew (S := (fun w' => w'.cell? ⟨w.heap.size, 1, none⟩ = some (.int .i64 link))) (by kernel_rfl) ?_ (fun hHeld => ?_)
  · (try dsimp only); (first | exact s0 | exact s1 | exact s2)
  refine wpAnyH_take (i := 1) (oi := { dst := some 15, op := Go.Op.fieldAddr 34 (Go.Operand.tmp 1) 1, type := 0, pos := "header.go:68", after := #[], guard := none }) (v := ?v1) rfl (by kernel_rfl) (by kernel_rfl) (by kernel_rfl) (fun _ _ _ h => h) (Or.inl ⟨by rfl, ?hy1⟩) (by assumption) ?rest1
  case hy1 => (intro w hSw; (try dsimp only at hSw); go_simp <;> with_reducible rfl)
  try simp only [Act.put, List.setIfInBounds_toArray, List.set_cons_zero, List.set_cons_succ]
  refine wpAnyH_take (i := 2) (oi := { dst := some 16, op := Go.Op.load 2 (Go.Operand.tmp 15), type := 2, pos := "header.go:68", after := #[{ on := 1, ground := Go.Ground.data }], guard := none }) (v := ?v2) rfl (by kernel_rfl) (by kernel_rfl) (by kernel_rfl) (fun _ _ _ h => h) (Or.inl ⟨by rfl, ?hy2⟩) (by assumption) ?rest2
  case hy2 => (intro w hSw; (try dsimp only at hSw); go_simp <;> with_reducible rfl)
  try simp only [Act.put, List.setIfInBounds_toArray, List.set_cons_zero, List.set_cons_succ]
  refine wpAnyH_ready (rs := [0]) (by kernel_rfl) (by simp) ?_
  refine AllReadyH.cons (o := { dst := some 14, op := Go.Op.makeSlice 22 (Go.Operand.const (Go.Value.int Go.IntKind.i64 8)) (Go.Operand.const (Go.Value.int Go.IntKind.i64 8)), type := 22, pos := "header.go:68", after := #[], guard := none }) rfl (fun K hK => ?_) AllReadyH.nil
  go_simp
  refine hK.out _ _ ?_ (fun hHeld2 => ?_)
  · (try dsimp only); (first | exact s0 | exact s1 | exact s2)
  clear hK K hHeld
  have hHeld := hHeld2
  clear hHeld2
  try simp only [Act.put, List.setIfInBounds_toArray, List.set_cons_zero, List.set_cons_succ]
  refine wpAnyH_ready (rs := [3]) (by kernel_rfl) (by simp) ?_
  refine AllReadyH.cons (o := { dst := some 17, op := Go.Op.call { callee := Go.Callee.value (Go.Operand.func 48), args := #[Go.Operand.tmp 14, Go.Operand.const (Go.Value.int Go.IntKind.i64 0), Go.Operand.tmp 16], argTypes := #[22, 3, 2] }, type := 22, pos := "header.go:68", after := #[{ on := 0, ground := Go.Ground.data }, { on := 2, ground := Go.Ground.data }], guard := none }) rfl (fun K hK => ?_) AllReadyH.nil
  go_simp
  go_at_call 48; refine hPC.out.mono ?_; rintro e w2 ⟨v2, rfl, hv2, hb2⟩; have s2 := (hb2.cell (World.block_lt_of_cell? _ _ s1)).trans s1; have hB2 := hB1.below hb2; have hbl2 := bel_trans hbl1 hb2; obtain ⟨ad2, cap2, rfl, hcap2⟩ := hv2.len; replace hv2 := Lib.hid hv2; replace hb2 := Lib.hid hb2; replace hbl2 := Lib.hid hbl2
  refine hK.out _ _ ?_ (fun hHeld2 => ?_)
  · (try dsimp only); (first | exact s0 | exact s1 | exact s2)
  clear hK K hHeld
  have hHeld := hHeld2
  clear hHeld2
  try simp only [Act.put, List.setIfInBounds_toArray, List.set_cons_zero, List.set_cons_succ]
  refine wpAnyH_take (i := 4) (oi := { dst := some 4, op := Go.Op.assign (Go.Operand.tmp 17), type := 22, pos := "header.go:68", after := #[{ on := 3, ground := Go.Ground.data }, { on := 3, ground := Go.Ground.chain }, { on := 0, ground := Go.Ground.phase }, { on := 1, ground := Go.Ground.phase }, { on := 2, ground := Go.Ground.phase }, { on := 3, ground := Go.Ground.phase }], guard := none }) (v := ?v3) rfl (by kernel_rfl) (by kernel_rfl) (by kernel_rfl) (fun _ _ _ h => h) (Or.inl ⟨by rfl, ?hy3⟩) (by assumption) ?rest3
  case hy3 => (intro w hSw; (try dsimp only at hSw); go_simp <;> with_reducible rfl)
  try simp only [Act.put, List.setIfInBounds_toArray, List.set_cons_zero, List.set_cons_succ]
  refine wpAnyH_done (by kernel_rfl) ?_ _
  refine NoPanic.normal ?_
  have c2 : w2.cell? ⟨w.heap.size, 2, none⟩ = some (.string ⟨nm.toArray⟩) := by rw [hB2.cell]; rfl
  have c3 : w2.cell? ⟨w.heap.size, 3, none⟩ = some (.bool imm) := by rw [hB2.cell]; rfl
  have c4 : w2.cell? ⟨w.heap.size, 4, none⟩ = some (.bool hid) := by rw [hB2.cell]; rfl
  have hby := Lib.hid (fun w => wByteOf w nm.length imm hid (by omega))
  have hmN : markN nm.length imm hid < 256 := by unfold markN; cases imm <;> cases hid <;> simp <;> omega
  obtain ⟨mk, hmk2⟩ : ∃ mk, mk = UInt8.ofNat (markN nm.length imm hid) := ⟨_, rfl⟩
  have hmk3 : (markN nm.length imm hid : Int) = (mk.toNat : Int) := by rw [hmk2, UInt8.toNat_ofNat']; omega
  rw [hmk3] at hby
  have hmk2' := Lib.hid hmk2
  clear hmk2 hmk3 hmN
  have hA2 := (hv2.out.mono (show w.heap.size + 1 ≤ w1.heap.size by have := hB1.lt; omega)).alloc (.cells #[.int .u8 (mk.toNat : Int)] 5)
  have hL1 := Bs.lit1 w2 mk
  obtain ⟨v3, w3, hr3, hv3, hg3, ho3⟩ := Bs.append (P := Try.prog) (ty := 22) hA2 hL1 Try.underlying22 info5 (by have := hlen8.out; simp only [List.length_cons, List.length_nil]; omega) (by have := hB2.lt; simp; omega)
  have hB3 := ((hB2.alloc (.cells #[.int .u8 (mk.toNat : Int)] 5)).kept hg3 (fun e => by have h9 := hA2.ge (Nat.le_refl _) e.symm; omega))
  have hbl3 := Lib.hid ((bel_alloc hbl2.out (.cells #[.int .u8 (mk.toNat : Int)] 5)).grown hg3 (by have := hB2.lt; simp; omega) (fun k e => by have h9 := hA2.ge (Nat.le_refl _) e; omega))
  have hsrc := Src.ofString (P := Try.prog) w3 (tx := 9) Try.underlying9 ⟨nm.toArray⟩
  have hsz : (⟨nm.toArray⟩ : ByteArray).size = nm.length := by simp [ByteArray.size]
  have hcb : byteCells ⟨nm.toArray⟩ = cb nm := by simp [byteCells, cb]
  rw [hsz, hcb] at hsrc
  obtain ⟨v4, w4, hr4, hv4, hg4, ho4⟩ := Bs.appendS (P := Try.prog) (ty := 22) hv3 hsrc Try.underlying22 info5 h0' (by have := hlen8.out; simp only [List.length_append, List.length_cons, List.length_nil]; omega) (by have := hB3.lt; omega)
  have hbl4 := Lib.hid (hbl3.out.grown hg4 (by have := hB3.lt; omega) (fun k e => by have h9 := hv3.ge (Nat.le_refl _) e; omega))
  have d2 : w3.cell? ⟨w.heap.size, 2, none⟩ = some (.string ⟨nm.toArray⟩) := by rw [hB3.cell]; rfl
  obtain ⟨a3, n3, cc3, rfl⟩ := hv3.form
  obtain ⟨a4, n4, cc4, rfl⟩ := hv4.form
  obtain ⟨L, hL⟩ : ∃ L, L = L8 ++ [mk] ++ nm := ⟨_, rfl⟩
  rw [← hL] at hv4
  have hLl : L.length = 9 + nm.length := by rw [hL]; have := hlen8.out; simp only [List.length_append, List.length_cons, List.length_nil]; omega
  replace hLl := Lib.hid hLl
  replace hv4 := Lib.hid hv4
  have hL' := Lib.hid hL
  clear hL hsrc hsz hcb hv3 hg4 ho4 hg3 ho3 hL1 hA2 hB3
  go_upto_region 7 with (first | (go_at_call 62; refine (hby.out _).mono ?_; rintro e _ ⟨rfl, rfl⟩) | (at_builtin; refine wpList_append_bs rfl _ _ 22 rfl hr3 rfl rfl ?_))
  go_upto_region 8 with (at_builtin; refine wpList_append_bs2 rfl _ _ 22 9 rfl hr4 rfl rfl ?_)
  obtain ⟨pad, hpad⟩ : ∃ pad, pad = (8 - (9 + nm.length) % 8) % 8 := ⟨_, rfl⟩
  have hpad' := Lib.hid hpad
  clear hpad hr3 hr4 d2
  go_loopw [4] (fun b wr => ∃ k : Nat, k ≤ pad ∧ Bs wr (w.heap.size + 1) b (L ++ List.replicate k 0) ∧ Below w.heap.size w wr ∧ w.heap.size + 1 ≤ wr.heap.size) (fun b _ => (match b with | .slice _ n _ => 100 - n | _ => 0))
  case atStart => exact ⟨0, by omega, by simpa using hv4.out, hbl4.out, by
    have h1 := hbl4.out.size
    rcases hv4.out.lt with e | ⟨x, e, h2, h3⟩
    · cases a4 with
      | none =>
        have := hv4.out.len
        obtain ⟨a, c, he, hc⟩ := this
        cases he
        rcases hv4.out with ⟨h9, h10⟩ | ⟨b, o, c2, he2, _⟩
        · have := hLl.out; rw [h10] at this; simp at this; omega
        · cases he2
      | some x => cases e
    · omega⟩
  case round =>
    obtain ⟨k, hk, hb, hbel, hsz⟩ := hrel
    obtain ⟨a5, cc5, rfl, hcap5⟩ := hb.len
    obtain ⟨N, hN⟩ : ∃ N, (L ++ List.replicate k (0 : UInt8)).length = N := ⟨_, rfl⟩
    have hNe : N = 9 + nm.length + k := by rw [← hN, List.length_append, List.length_replicate, hLl.out]
    rw [hN]
    by_cases hkp : k < pad
    · have t2 : ((N : Int) % 8 != 0) = true := by
        have := hpad'.out
        simp only [bne_iff_ne, ne_eq]
        omega
      have hA5 := hb.alloc (.cells #[.int .u8 ((0 : UInt8).toNat : Int)] 5)
      obtain ⟨v6, w6, hr6, hv6, hg6, ho6⟩ := Bs.append (P := Try.prog) (ty := 22) hA5 (Bs.lit1 wr 0) Try.underlying22 info5 (by have := hpad'.out; rw [hN]; simp only [List.length_cons, List.length_nil]; omega) (by simp; omega)
      have hbl6 := Lib.hid ((bel_alloc hbel (.cells #[.int .u8 ((0 : UInt8).toNat : Int)] 5)).grown hg6 (by simp; omega) (fun k e => by have h9 := hA5.ge (Nat.le_refl _) e; omega))
      have hs6 : w.heap.size + 1 ≤ w6.heap.size := by have := hg6.size; simp at this; omega
      obtain ⟨a6, cc6, rfl, hcap6⟩ := hv6.len
      have hl6 : (L ++ List.replicate k (0 : UInt8) ++ [0]).length = N + 1 := by rw [List.length_append, hN]; rfl
      rw [hl6] at hr6
      rw [hN] at hr6
      have e6 : L ++ List.replicate k (0 : UInt8) ++ [0] = L ++ List.replicate (k + 1) 0 := by
        rw [List.append_assoc, ← List.replicate_succ']
      rw [hl6, e6] at hv6
      replace hv6 := Lib.hid hv6
      replace hNe := Lib.hid hNe
      have hkp' := Lib.hid hkp
      clear hg6 ho6 hA5 hb hbel hcap6 hl6 e6 hkp hN hcap5 hk
      go_wp2_with (at_builtin; refine wpList_append_bs rfl _ _ 22 rfl hr6 rfl rfl ?_)
      go_roundw
      case rel => exact ⟨k + 1, by have := hkp'.out; omega, hv6.out, hbl6.out, hs6⟩
      case measure => have := hNe.out; have := hpad'.out; have := hkp'.out; show 100 - (N + 1) < 100 - N; omega
    · have hkk : k = pad := by omega
      subst hkk
      have t2 : ((N : Int) % 8 != 0) = false := by
        have := hpad'.out
        simp only [bne_eq_false_iff_eq]
        omega
      rw [hN] at hb
      replace hb := Lib.hid hb
      replace hbel := Lib.hid hbel
      replace hNe := Lib.hid hNe
      clear hN hcap5 hkp hk
      go_wp2
      refine bodyPost_ret (v := .tuple #[.slice a5 N cc5, .int .i64 0]) (by simp [results, Try.results40, go_sem]) rfl ?_
      refine ⟨⟨_, rfl, ?_⟩, hbel.out⟩
      rw [← hmk2'.out, ← hL'.out, ← hpad'.out]
      exact hb.out.mono (by omega)

end Go.Proofs.Ytcfblcgdjhpdaaa

/- 'Read'. -/
namespace Go.Proofs.Ytcfblcgdjhpdaaa
open Go.RowKit
set_option linter.unusedVariables false
set_option linter.unusedSimpArgs false
attribute [local go_sem] cell_set set_set m_undef

theorem Blk.six {w : World} {b : Nat} {x y z u v s : Value} {t : TypeId} (h : Blk w b #[x, y, z, u, v, s] t) : (w.cell? ⟨b, 0, none⟩ = some x ∧ w.frozen? ⟨b, 0, none⟩ = false) ∧ (w.cell? ⟨b, 1, none⟩ = some y ∧ w.frozen? ⟨b, 1, none⟩ = false) ∧ (w.cell? ⟨b, 2, none⟩ = some z ∧ w.frozen? ⟨b, 2, none⟩ = false) ∧
    (w.cell? ⟨b, 3, none⟩ = some u ∧ w.frozen? ⟨b, 3, none⟩ = false) ∧ (w.cell? ⟨b, 4, none⟩ = some v ∧ w.frozen? ⟨b, 4, none⟩ = false) ∧ (w.cell? ⟨b, 5, none⟩ = some s ∧ w.frozen? ⟨b, 5, none⟩ = false) := by
  refine ⟨⟨?_, h.frozen _⟩, ⟨?_, h.frozen _⟩, ⟨?_, h.frozen _⟩, ⟨?_, h.frozen _⟩, ⟨?_, h.frozen _⟩, ?_, h.frozen _⟩ <;> rw [h.cell] <;> rfl
theorem Blk.put6 {w : World} {b : Nat} {x0 y0 z0 u0 v0 s0 x y z u v t : Value} {ty : TypeId} (h : Blk w b #[x0, y0, z0, u0, v0, s0] ty) :
    Blk ((((((w.setCell ⟨b, 0, none⟩ x).setCell ⟨b, 1, none⟩ y).setCell ⟨b, 2, none⟩ z).setCell ⟨b, 3, none⟩ u).setCell ⟨b, 4, none⟩ v).setCell ⟨b, 5, none⟩ t) b #[x, y, z, u, v, t] ty := (((((h.set 0 x).set 1 y).set 2 z).set 3 u).set 4 v).set 5 t
theorem Turn.notO {w w' : World} {O O' : Nat → Prop} {k : Nat} (h : Turn w w' O O') (hk : ¬ O k) (hlt : k < w.heap.size) : ¬ O' k := fun h2 => by
  rcases h.new k h2 with h3 | h3
  · exact hk h3
  · omega
/-- A block that is not the memory's is stored into. -/
theorem Turn.setNew {w w' : World} {O O' : Nat → Prop} (h : Turn w w' O O') {b o : Nat} (hb : w.heap.size ≤ b) (v : Value) : Turn w (w'.setCell ⟨b, o, none⟩ v) O O' :=
  ⟨h.os, h.tape, h.output, by simpa using h.size, fun k hk hn => (Below.heap_setCell _ _ _ _ (by intro e; simp at e; omega)).trans (h.block k hk hn), h.new⟩
theorem MemP.setNew {w : World} {base mb : Nat} {M : List UInt8} {O : Nat → Prop} (h : MemP w base mb M O) {b o : Nat} (hb : ¬ O b) (v : Value) : MemP (w.setCell ⟨b, o, none⟩ v) base mb M O :=
  h.kept (grownBy_setCell w b o v) (fun k hk => by rw [← Option.some.inj hk]; exact hb)
/-- The length byte of a header. -/
def rdB (M : List UInt8) (a : Int) : Nat := ((loadL M a 40).getD 8 0).toNat
def rdN (M : List UInt8) (a : Int) : Nat := rdB M a % 32
def rdXt (M : List UInt8) (a : Int) : Int := alignZ (a + 9 + (rdN M a : Int))
def rdOk (M : List UInt8) (a : Int) : Bool := decide (a % 8 = 0 ∧ 1536 ≤ a ∧ a < hereL M ∧ rdN M a ≠ 0 ∧ rdXt M a + 8 ≤ hereL M)
/-- What 'Read' reads. -/
def rdV (M : List UInt8) (a : Int) : Value :=
  if rdOk M a then hdV a (cellL (loadL M a 40) 0) (((loadL M a 40).drop 9).take (rdN M a)) (decide (128 ≤ rdB M a)) (decide (rdB M a / 64 % 2 = 1)) (rdXt M a) else hdV 0 0 [] false false 0
theorem read_low {w : World} {base mb : Nat} {M : List UInt8} {O : Nat → Prop} (h : MemP w base mb M O) (hbase : base ≤ w.heap.size) (at_ : Int) (hat : isI at_) (hno : ¬ (at_ % 8 = 0 ∧ 1536 ≤ at_ ∧ at_ < hereL M)) :
    Calls Try.prog 30 #[.pointer (some ⟨mb, 0, none⟩), .int .i64 at_] w fun e w' => MemQ w w' base mb M O (.tuple #[hdV 0 0 [] false false 0, .bool false]) e := by
  unfold isI at hat
  obtain ⟨w0, hw0⟩ : ∃ w0, w0 = w.alloc (.cells #[.int .i64 0, .int .i64 0, .string ⟨#[]⟩, .bool false, .bool false, .int .i64 0] 34) := ⟨_, rfl⟩
  have hB0 : Blk w0 w.heap.size #[.int .i64 0, .int .i64 0, .string ⟨#[]⟩, .bool false, .bool false, .int .i64 0] 34 := by subst hw0; exact Blk.new _ _ _
  have hbl0 : Below w.heap.size w w0 := by subst hw0; exact bel_alloc (Below.refl _ _) _
  have hM0 := h.below hbl0
  have hnO : ¬ O w.heap.size := fun hO => by have := (h.lt hO).1; omega
  have hT0 := Turn.of_below hbl0 O
  have hH := Lib.hid (mHere hM0 (Nat.le_trans hbase hbl0.size))
  have h7 := and7 at_ hat
  obtain ⟨r, hr⟩ : ∃ r, r = at_ % 8 := ⟨_, rfl⟩
  rw [← hr] at h7
  obtain ⟨here, hhere⟩ : ∃ here, here = hereL M := ⟨_, rfl⟩
  rw [← hhere] at hH
  replace hM0 := Lib.hid hM0
  replace hT0 := Lib.hid hT0
  replace hhere := Lib.hid hhere
  replace hr := Lib.hid hr
  replace h := Lib.hid h
  have hB0l := hB0.lt
  go_enter Try.func30, Try.ntmps30
  go_upto_region 1 with fail
  rw [← hw0]
  clear hw0
  go_upto_region 2 with (go_at_call 42; refine hH.out.mono ?_; rintro e w1 ⟨rfl, O1, hM1, hT1⟩; have hB1 := hB0.turn hT1 hnO; have hnO1 := hT1.notO hnO hB0l; obtain ⟨y1, y2, y3, y4, y5, y6⟩ := hB1.six; replace hM1 := Lib.hid hM1; have hs1 := hT1.size; replace hT1 := Lib.hid hT1)
  have hfin : True := trivial
  by_cases h1 : r = 0
  · have t1 : (r != 0) = false := by simp; exact h1
    by_cases h2 : at_ < 1536
    · have t2 : (at_ < 1536) = True := by simp; exact h2
      clear h1 h2 hat
      go_wp2
      refine ret_blk (v := .tuple #[hdV 0 0 [] false false 0, .bool false]) w.heap.size #[.int .i64 0, .int .i64 0, .string ⟨#[]⟩, .bool false, .bool false, .int .i64 0] 34 (Blk.put6 hB1) (fun w' h => by obtain ⟨e1, e2, e3, e4, e5, e6⟩ := h.six; simp [results, Try.results30, go_sem, hdV, e1, e2, e3, e4, e5, e6]) rfl ?_
      refine ⟨rfl, O1, ?_, ?_⟩
      · (repeat (refine MemP.setNew ?_ hnO1 _)); exact hM1.out
      · (repeat (refine Turn.setNew ?_ (Nat.le_refl _) _)); exact hT0.out.trans hT1.out
    · have t2 : (at_ < 1536) = False := by simp; omega
      have t3 : (here ≤ at_) = True := by simp; have e1 := hr.out; have e2 := hhere.out; rw [← e1, ← e2] at hno; omega
      clear h1 h2 hat
      go_wp2
      refine ret_blk (v := .tuple #[hdV 0 0 [] false false 0, .bool false]) w.heap.size #[.int .i64 0, .int .i64 0, .string ⟨#[]⟩, .bool false, .bool false, .int .i64 0] 34 (Blk.put6 hB1) (fun w' h => by obtain ⟨e1, e2, e3, e4, e5, e6⟩ := h.six; simp [results, Try.results30, go_sem, hdV, e1, e2, e3, e4, e5, e6]) rfl ?_
      refine ⟨rfl, O1, ?_, ?_⟩
      · (repeat (refine MemP.setNew ?_ hnO1 _)); exact hM1.out
      · (repeat (refine Turn.setNew ?_ (Nat.le_refl _) _)); exact hT0.out.trans hT1.out
  · have t1 : (r != 0) = true := by simp; exact h1
    clear h1 hat
    go_wp2
    refine ret_blk (v := .tuple #[hdV 0 0 [] false false 0, .bool false]) w.heap.size #[.int .i64 0, .int .i64 0, .string ⟨#[]⟩, .bool false, .bool false, .int .i64 0] 34 (Blk.put6 hB1) (fun w' h => by obtain ⟨e1, e2, e3, e4, e5, e6⟩ := h.six; simp [results, Try.results30, go_sem, hdV, e1, e2, e3, e4, e5, e6]) rfl ?_
    refine ⟨rfl, O1, ?_, ?_⟩
    · (repeat (refine MemP.setNew ?_ hnO1 _)); exact hM1.out
    · (repeat (refine Turn.setNew ?_ (Nat.le_refl _) _)); exact hT0.out.trans hT1.out

theorem MemP.drew {w : World} {base mb : Nat} {M : List UInt8} {O : Nat → Prop} (h : MemP w base mb M O) : MemP w.drew base mb M O := h.below (bel_drew (Below.refl _ _))
theorem Turn.drew {w w' : World} {O O' : Nat → Prop} (h : Turn w w' O O') : Turn w w'.drew O O' := h.trans (Turn.of_below (bel_drew (Below.refl _ _)) O')
theorem hereL_le (M : List UInt8) : hereL M ≤ 5632 := by unfold hereL; split <;> omega
theorem alignZ_small (p : Int) (h : 0 ≤ p ∧ p ≤ 1000000) : p ≤ alignZ p ∧ alignZ p < p + 8 ∧ alignZ p % 8 = 0 := by
  unfold alignZ
  have := IntKind.wrap_i64 (p + (8 - p % 8))
  split <;> omega
theorem and31 (x : Nat) (h : x < 256) : bits .and .u8 (x : Int) 31 = ((x % 32 : Nat) : Int) := by
  have h2 := u8_and_nat x 31 h (by omega)
  rw [show (31 : Nat) = 2 ^ 5 - 1 from rfl, Nat.and_two_pow_sub_one_eq_mod] at h2
  exact h2
set_option maxRecDepth 100000 in
theorem nat128 : ∀ x : Nat, x < 256 → x &&& 128 = if 128 ≤ x then 128 else 0 := by decide
set_option maxRecDepth 100000 in
theorem nat64 : ∀ x : Nat, x < 256 → x &&& 64 = if x / 64 % 2 = 1 then 64 else 0 := by decide
theorem gt128 (x : Nat) (h : x < 256) : decide ((0 : Int) < bits .and .u8 (x : Int) 128) = decide (128 ≤ x) := by
  have h2 : bits .and .u8 (x : Int) 128 = ((x &&& 128 : Nat) : Int) := u8_and_nat x 128 h (by omega)
  rw [h2, nat128 x h]
  split <;> simp_all
theorem gt64 (x : Nat) (h : x < 256) : decide ((0 : Int) < bits .and .u8 (x : Int) 64) = decide (x / 64 % 2 = 1) := by
  have h2 : bits .and .u8 (x : Int) 64 = ((x &&& 64 : Nat) : Int) := u8_and_nat x 64 h (by omega)
  rw [h2, nat64 x h]
  split <;> simp_all
set_option maxRecDepth 100000 in
set_option maxHeartbeats 2000000 in
theorem read_in {w : World} {base mb : Nat} {M : List UInt8} {O : Nat → Prop} (h : MemP w base mb M O) (hbase : base ≤ w.heap.size) (at_ : Int) (hat : isI at_) (h8 : at_ % 8 = 0) (hlo : 1536 ≤ at_) (hhi : at_ < hereL M) :
    Calls Try.prog 30 #[.pointer (some ⟨mb, 0, none⟩), .int .i64 at_] w fun e w' => MemQ w w' base mb M O (.tuple #[rdV M at_, .bool (rdOk M at_)]) e := by
  have hhl := hereL_le M
  unfold isI at hat
  obtain ⟨w0, hw0⟩ : ∃ w0, w0 = w.alloc (.cells #[.int .i64 0, .int .i64 0, .string ⟨#[]⟩, .bool false, .bool false, .int .i64 0] 34) := ⟨_, rfl⟩
  have hB0 : Blk w0 w.heap.size #[.int .i64 0, .int .i64 0, .string ⟨#[]⟩, .bool false, .bool false, .int .i64 0] 34 := by subst hw0; exact Blk.new _ _ _
  have hbl0 : Below w.heap.size w w0 := by subst hw0; exact bel_alloc (Below.refl _ _) _
  have hM0 := h.below hbl0
  have hnO : ¬ O w.heap.size := fun hO => by have := (h.lt hO).1; omega
  have hT0 := Turn.of_below hbl0 O
  have hH := Lib.hid (mHere hM0 (Nat.le_trans hbase hbl0.size))
  have h7 := and7 at_ hat
  obtain ⟨r, hr⟩ : ∃ r, r = at_ % 8 := ⟨_, rfl⟩
  rw [← hr] at h7
  obtain ⟨here, hhere⟩ : ∃ here, here = hereL M := ⟨_, rfl⟩
  rw [← hhere] at hH
  replace hM0 := Lib.hid hM0
  replace hT0 := Lib.hid hT0
  replace hhere := Lib.hid hhere
  replace hr := Lib.hid hr
  replace h := Lib.hid h
  have hB0l := hB0.lt
  go_enter Try.func30, Try.ntmps30
  go_upto_region 1 with fail
  rw [← hw0]
  clear hw0
  go_upto_region 2 with (go_at_call 42; refine hH.out.mono ?_; rintro e w1 ⟨rfl, O1, hM1, hT1⟩; have hB1 := hB0.turn hT1 hnO; have hnO1 := hT1.notO hnO hB0l; obtain ⟨y1, y2, y3, y4, y5, y6⟩ := hB1.six; replace hM1 := Lib.hid hM1; have hs1 := hT1.size; replace hT1 := Lib.hid hT1)
  have t1 : (r != 0) = false := by simp; rw [hr.out]; exact h8
  have t2 : (at_ < 1536) = False := by simp; omega
  have t3 : (here ≤ at_) = False := by simp; rw [hhere.out]; exact hhi
  have hL := Lib.hid (mLoad hM1.out (by have := hbl0.size; omega) at_ 40 hat)
  have hlen : (loadL M at_ 40).length = 40 := by rw [loadL_len]; rfl
  obtain ⟨x, hx⟩ : ∃ x, x = rdB M at_ := ⟨_, rfl⟩
  have hx2 : x = ((loadL M at_ 40)[8]'(by rw [hlen]; omega)).toNat := by
    rw [hx, rdB, List.getD_eq_getElem?_getD, List.getElem?_eq_getElem (by rw [hlen]; omega)]; rfl
  have hx256 : x < 256 := by rw [hx2]; exact UInt8.toNat_lt _
  have hn : rdN M at_ = x % 32 := by rw [rdN, hx]
  obtain ⟨n, hnn⟩ : ∃ n, n = x % 32 := ⟨_, rfl⟩
  rw [← hnn] at hn
  obtain ⟨xt, hxt⟩ : ∃ xt, xt = rdXt M at_ := ⟨_, rfl⟩
  have hxt2 : xt = alignZ (at_ + 9 + (n : Int)) := by rw [hxt, rdXt, hn]
  have h31 := and31 x hx256
  rw [← hnn] at h31
  have w1 : IntKind.i64.wrap (n : Int) = (n : Int) := by rw [IntKind.wrap_i64]; omega
  obtain ⟨p9, hp9⟩ : ∃ p9, p9 = at_ + 9 := ⟨_, rfl⟩
  obtain ⟨p, hp⟩ : ∃ p, p = at_ + 9 + (n : Int) := ⟨_, rfl⟩
  have w2 : IntKind.i64.wrap (at_ + 9) = p9 := by rw [IntKind.wrap_i64]; omega
  have w3 : IntKind.i64.wrap (p9 + (n : Int)) = p := by rw [IntKind.wrap_i64]; omega
  have hal := alignZ_small p (by omega)
  rw [← hp] at hxt2
  rw [← hxt2] at hal
  have hAl := Lib.hid (fun w => wAlign w p (by unfold isI; omega))
  rw [← hxt2] at hAl
  obtain ⟨xt8, hxt8⟩ : ∃ xt8, xt8 = xt + 8 := ⟨_, rfl⟩
  have w4 : IntKind.i64.wrap (xt + 8) = xt8 := by rw [IntKind.wrap_i64]; omega
  have hok : rdOk M at_ = decide (n ≠ 0 ∧ xt + 8 ≤ here) := by
    unfold rdOk
    rw [hn, ← hxt, hhere.out]
    simp [h8, hlo, hhi]
  have hnx : n < 32 := by omega
  replace hxt8 := Lib.hid hxt8
  replace hnn := Lib.hid hnn
  replace hx2 := Lib.hid hx2
  replace hlen := Lib.hid hlen
  replace hok := Lib.hid hok
  replace hn := Lib.hid hn
  replace hxt := Lib.hid hxt
  replace hx := Lib.hid hx
  have hat' := Lib.hid hat
  clear hat h8 hlo hhi hhl hp hp9 hxt2 hal
  go_upto_region 5 with (go_at_call 50; refine hL.out.mono ?_; rintro e w2 ⟨v2, O2, rfl, hv2, hM2, hT2, hn2⟩; have hB2 := hB1.turn hT2 hnO1; have hnO2 := hT2.notO hnO1 (by omega); have hlen := hlen.out; have hx2 := hx2.out; obtain ⟨bb, oo, cap, he⟩ := hv2.some_of (by intro e; rw [e] at hlen; simp at hlen); rw [hlen] at he; subst he; obtain ⟨s2, s2f⟩ := hv2.at 8 (by rw [hlen]; omega); rw [← hx2] at s2; obtain ⟨y1, y2, y3, y4, y5, y6⟩ := hB2.six; have hs2 := hT2.size; replace hM2 := Lib.hid hM2; replace hT2 := Lib.hid hT2; replace hn2 := Lib.hid hn2; replace hv2 := Lib.hid hv2; replace hlen := Lib.hid hlen; replace hx2 := Lib.hid hx2)
  go_upto_region 7 with (go_at_call 41; refine (hAl.out _).mono ?_; rintro e _ ⟨rfl, rfl⟩)
  have hbad : (n = 0 ∨ here < xt8) → (Ending.returned (.tuple #[hdV 0 0 [] false false 0, .bool false])) = .returned (.tuple #[rdV M at_, .bool (rdOk M at_)]) := fun hh => by
    have hok2 : rdOk M at_ = false := by rw [hok.out, decide_eq_false_iff_not]; have := hxt8.out; omega
    unfold rdV
    rw [hok2]
    rfl
  replace hbad := Lib.hid hbad
  by_cases hn0 : n = 0
  · have q1 : ((n : Int) == 0) = true := by simp; exact hn0
    have hb := Lib.hid (hbad.out (.inl hn0))
    clear hn0
    go_wp2
    refine ret_blk (v := .tuple #[hdV 0 0 [] false false 0, .bool false]) w.heap.size #[.int .i64 0, .int .i64 0, .string ⟨#[]⟩, .bool false, .bool false, .int .i64 0] 34 (Blk.put6 hB2) (fun w' h => by obtain ⟨e1, e2, e3, e4, e5, e6⟩ := h.six; simp [results, Try.results30, go_sem, hdV, e1, e2, e3, e4, e5, e6]) rfl ?_
    refine ⟨hb.out, O2, ?_, ?_⟩
    · (repeat (refine MemP.setNew ?_ hnO2 _)); exact hM2.out
    · (repeat (refine Turn.setNew ?_ (Nat.le_refl _) _)); exact (hT0.out.trans hT1.out).trans hT2.out

  · have q1 : ((n : Int) == 0) = false := by simp; exact hn0
    by_cases hx8 : here < xt8
    · have q2 : (here < xt8) = True := by simp; exact hx8
      have hb := Lib.hid (hbad.out (.inr hx8))
      clear hx8 hn0
      go_wp2
      refine ret_blk (v := .tuple #[hdV 0 0 [] false false 0, .bool false]) w.heap.size #[.int .i64 0, .int .i64 0, .string ⟨#[]⟩, .bool false, .bool false, .int .i64 0] 34 (Blk.put6 hB2) (fun w' h => by obtain ⟨e1, e2, e3, e4, e5, e6⟩ := h.six; simp [results, Try.results30, go_sem, hdV, e1, e2, e3, e4, e5, e6]) rfl ?_
      refine ⟨hb.out, O2, ?_, ?_⟩
      · (repeat (refine MemP.setNew ?_ hnO2 _)); exact hM2.out
      · (repeat (refine Turn.setNew ?_ (Nat.le_refl _) _)); exact (hT0.out.trans hT1.out).trans hT2.out

    · have q2 : (here < xt8) = False := by simp; omega
      have hgood : (Ending.returned (.tuple #[hdV at_ (cellL (loadL M at_ 40) 0) (((loadL M at_ 40).drop 9).take n) (decide (128 ≤ x)) (decide (x / 64 % 2 = 1)) xt, .bool true])) = .returned (.tuple #[rdV M at_, .bool (rdOk M at_)]) := by
        have hok2 : rdOk M at_ = true := by rw [hok.out, decide_eq_true_iff]; have := hxt8.out; omega
        unfold rdV
        rw [hok2, hn.out, ← hxt.out, ← hx.out]
        rfl
      obtain ⟨L, hL9⟩ : ∃ L, L = loadL M at_ 40 := ⟨_, rfl⟩
      clear hx2
      rw [← hL9] at hgood hlen hv2
      replace hgood := Lib.hid hgood
      have hcap := (hv2.out.len)
      have hv3 := hv2.out.below (bel_drew (Below.refl _ _))
      have hC := Lib.hid (wCell w2.drew _ _ L 0 hv3 (by unfold isI; omega) (by have := hlen.out; omega))
      obtain ⟨nm, hnm⟩ : ∃ nm, nm = (L.drop 9).take n := ⟨_, rfl⟩
      rw [← hnm] at hgood
      obtain ⟨ct, hct⟩ : ∃ ct, ct = cellL L 0 := ⟨_, rfl⟩
      rw [← hct] at hC hgood
      have hd9 := hv3.drop 9 (by have := hlen.out; omega)
      have ht9 := hd9.take n (by rw [List.length_drop]; have := hlen.out; omega)
      rw [← hnm] at ht9
      have estr : ∀ w3, Below w2.drew.heap.size w2.drew w3 → (convert 22 9 (.slice (some ⟨bb, oo + 9, none⟩) n (cap - 9))).run Try.prog w3 = .ok (.string ⟨nm.toArray⟩) w3 := fun w3 hb => (ht9.below hb).str Try.underlying22 Try.underlying5 Try.underlying9
      have estr2 := estr w2.drew (Below.refl _ _)
      replace estr := Lib.hid estr
      have s2d : w2.drew.cell? ⟨bb, oo + 8, none⟩ = some (.int .u8 (x : Int)) := s2
      have hbne : w.heap.size ≠ bb := by
        rcases hv2.out.lt with e | ⟨k, e, h1, h2⟩
        · cases e
        · have e' : bb = k := Option.some.inj e
          omega
      have g1 := gt128 x hx256
      have g2 := gt64 x hx256
      have hB2' := hB2.drew
      have hcap2 : 40 ≤ cap := by
        obtain ⟨a', c', e9, h9⟩ := hcap
        rw [hlen.out] at e9 h9
        cases e9; exact h9
      obtain ⟨m, hm⟩ : ∃ m, m = IntKind.i64.wrap (9 + (n : Int)) := ⟨_, rfl⟩
      have hm2 : m = 9 + (n : Int) := by rw [hm, IntKind.wrap_i64]; omega
      have m1 : (0 ≤ m) = True := by simp; omega
      have m2 : (m ≤ (cap : Int)) = True := by simp; omega
      have m3 : (9 ≤ m) = True := by simp; omega
      have m4 : max m 0 = m := by omega
      have m5 : m.toNat - 9 = n := by omega
      have m6 : (cap = 9) = False := by simp; omega
      replace hm := hm.symm
      replace hcap2 := Lib.hid hcap2
      clear hcap hv3 hd9 ht9 hct hnm hL9 hx8 hn0 hv2 hm2
      go_upto_region 9 with fail
      refine wp_region_noPanic ?_
      refine wp_region_held_drew (S := (fun w' => w'.cell? ⟨bb, oo + 8, none⟩ = some (.int .u8 (x : Int)))) (by kernel_rfl) ?_ (fun hHeld => ?_)
      · (try dsimp only); (first | with_reducible exact s3 | with_reducible exact s2 | with_reducible exact s2d | ((repeat (with_reducible refine cell_other ?_ hbne)); with_reducible exact s3))
      refine wpAnyH_take (i := 0) (oi := { dst := some 47, op := Go.Op.move (Go.Operand.tmp 1), type := 2, pos := "header.go:45", after := #[], guard := none }) (v := ?v1) rfl (by kernel_rfl) (by kernel_rfl) (by kernel_rfl) (fun _ _ _ h => h) (Or.inl ⟨by rfl, ?hy1⟩) (by assumption) ?rest1
      case hy1 => (intro w hSw; (try dsimp only at hSw); go_simp <;> with_reducible rfl)
      try simp only [Act.put, List.setIfInBounds_toArray, List.set_cons_zero, List.set_cons_succ]
      refine wpAnyH_take (i := 1) (oi := { dst := some 48, op := Go.Op.move (Go.Operand.tmp 7), type := 22, pos := "header.go:45", after := #[], guard := none }) (v := ?v2) rfl (by kernel_rfl) (by kernel_rfl) (by kernel_rfl) (fun _ _ _ h => h) (Or.inl ⟨by rfl, ?hy2⟩) (by assumption) ?rest2
      case hy2 => (intro w hSw; (try dsimp only at hSw); go_simp <;> with_reducible rfl)
      try simp only [Act.put, List.setIfInBounds_toArray, List.set_cons_zero, List.set_cons_succ]
      refine wpAnyH_take (i := 3) (oi := { dst := some 50, op := Go.Op.move (Go.Operand.tmp 7), type := 22, pos := "header.go:45", after := #[], guard := none }) (v := ?v3) rfl (by kernel_rfl) (by kernel_rfl) (by kernel_rfl) (fun _ _ _ h => h) (Or.inl ⟨by rfl, ?hy3⟩) (by assumption) ?rest3
      case hy3 => (intro w hSw; (try dsimp only at hSw); go_simp <;> with_reducible rfl)
      try simp only [Act.put, List.setIfInBounds_toArray, List.set_cons_zero, List.set_cons_succ]
      refine wpAnyH_take (i := 4) (oi := { dst := some 51, op := Go.Op.move (Go.Operand.tmp 8), type := 2, pos := "header.go:45", after := #[], guard := none }) (v := ?v4) rfl (by kernel_rfl) (by kernel_rfl) (by kernel_rfl) (fun _ _ _ h => h) (Or.inl ⟨by rfl, ?hy4⟩) (by assumption) ?rest4
      case hy4 => (intro w hSw; (try dsimp only at hSw); go_simp <;> with_reducible rfl)
      try simp only [Act.put, List.setIfInBounds_toArray, List.set_cons_zero, List.set_cons_succ]
      refine wpAnyH_take (i := 5) (oi := { dst := some 52, op := Go.Op.binOp Go.BinOp.add 2 (Go.Operand.const (Go.Value.int Go.IntKind.i64 9)) (Go.Operand.tmp 51) 2, type := 2, pos := "header.go:45", after := #[{ on := 4, ground := Go.Ground.data }], guard := none }) (v := ?v5) rfl (by kernel_rfl) (by kernel_rfl) (by kernel_rfl) (fun _ _ _ h => h) (Or.inl ⟨by rfl, ?hy5⟩) (by assumption) ?rest5
      case hy5 => (intro w hSw; (try dsimp only at hSw); go_simp <;> with_reducible rfl)
      try simp only [Act.put, List.setIfInBounds_toArray, List.set_cons_zero, List.set_cons_succ]
      refine wpAnyH_take (i := 6) (oi := { dst := some 53, op := Go.Op.slice 22 (Go.Operand.tmp 50) (some (Go.Operand.const (Go.Value.int Go.IntKind.i64 9))) (some (Go.Operand.tmp 52)) none, type := 22, pos := "header.go:45", after := #[{ on := 3, ground := Go.Ground.data }, { on := 5, ground := Go.Ground.data }], guard := none }) (v := ?v6) rfl (by kernel_rfl) (by kernel_rfl) (by kernel_rfl) (fun _ _ _ h => h) (Or.inl ⟨by rfl, ?hy6⟩) (by assumption) ?rest6
      case hy6 => (intro w hSw; (try dsimp only at hSw); go_simp <;> with_reducible rfl)
      try simp only [Act.put, List.setIfInBounds_toArray, List.set_cons_zero, List.set_cons_succ]
      refine wpAnyH_take (i := 8) (oi := { dst := some 55, op := Go.Op.move (Go.Operand.tmp 7), type := 22, pos := "header.go:45", after := #[], guard := none }) (v := ?v7) rfl (by kernel_rfl) (by kernel_rfl) (by kernel_rfl) (fun _ _ _ h => h) (Or.inl ⟨by rfl, ?hy7⟩) (by assumption) ?rest7
      case hy7 => (intro w hSw; (try dsimp only at hSw); go_simp <;> with_reducible rfl)
      try simp only [Act.put, List.setIfInBounds_toArray, List.set_cons_zero, List.set_cons_succ]
      refine wpAnyH_take (i := 9) (oi := { dst := some 56, op := Go.Op.indexAddr 22 (Go.Operand.tmp 55) (Go.Operand.const (Go.Value.int Go.IntKind.i64 8)), type := 0, pos := "header.go:45", after := #[{ on := 8, ground := Go.Ground.data }], guard := none }) (v := ?v8) rfl (by kernel_rfl) (by kernel_rfl) (by kernel_rfl) (fun _ _ _ h => h) (Or.inl ⟨by rfl, ?hy8⟩) (by assumption) ?rest8
      case hy8 => (intro w hSw; (try dsimp only at hSw); go_simp <;> with_reducible rfl)
      try simp only [Act.put, List.setIfInBounds_toArray, List.set_cons_zero, List.set_cons_succ]
      refine wpAnyH_take (i := 10) (oi := { dst := some 57, op := Go.Op.load 5 (Go.Operand.tmp 56), type := 5, pos := "header.go:45", after := #[{ on := 9, ground := Go.Ground.data }], guard := none }) (v := ?v9) rfl (by kernel_rfl) (by kernel_rfl) (by kernel_rfl) (fun _ _ _ h => h) (Or.inl ⟨by rfl, ?hy9⟩) (by assumption) ?rest9
      case hy9 => (intro w hSw; (try dsimp only at hSw); go_simp <;> with_reducible rfl)
      try simp only [Act.put, List.setIfInBounds_toArray, List.set_cons_zero, List.set_cons_succ]
      refine wpAnyH_take (i := 11) (oi := { dst := some 58, op := Go.Op.binOp Go.BinOp.and 5 (Go.Operand.tmp 57) (Go.Operand.const (Go.Value.int Go.IntKind.u8 128)) 5, type := 5, pos := "header.go:45", after := #[{ on := 10, ground := Go.Ground.data }], guard := none }) (v := ?v10) rfl (by kernel_rfl) (by kernel_rfl) (by kernel_rfl) (fun _ _ _ h => h) (Or.inl ⟨by rfl, ?hy10⟩) (by assumption) ?rest10
      case hy10 => (intro w hSw; (try dsimp only at hSw); go_simp <;> with_reducible rfl)
      try simp only [Act.put, List.setIfInBounds_toArray, List.set_cons_zero, List.set_cons_succ]
      refine wpAnyH_take (i := 12) (oi := { dst := some 59, op := Go.Op.binOp Go.BinOp.gtr 5 (Go.Operand.tmp 58) (Go.Operand.const (Go.Value.int Go.IntKind.u8 0)) 5, type := 4, pos := "header.go:45", after := #[{ on := 11, ground := Go.Ground.data }], guard := none }) (v := ?v11) rfl (by kernel_rfl) (by kernel_rfl) (by kernel_rfl) (fun _ _ _ h => h) (Or.inl ⟨by rfl, ?hy11⟩) (by assumption) ?rest11
      case hy11 => (intro w hSw; (try dsimp only at hSw); go_simp <;> with_reducible rfl)
      try simp only [Act.put, List.setIfInBounds_toArray, List.set_cons_zero, List.set_cons_succ]
      refine wpAnyH_take (i := 13) (oi := { dst := some 60, op := Go.Op.move (Go.Operand.tmp 7), type := 22, pos := "header.go:45", after := #[], guard := none }) (v := ?v12) rfl (by kernel_rfl) (by kernel_rfl) (by kernel_rfl) (fun _ _ _ h => h) (Or.inl ⟨by rfl, ?hy12⟩) (by assumption) ?rest12
      case hy12 => (intro w hSw; (try dsimp only at hSw); go_simp <;> with_reducible rfl)
      try simp only [Act.put, List.setIfInBounds_toArray, List.set_cons_zero, List.set_cons_succ]
      refine wpAnyH_take (i := 14) (oi := { dst := some 61, op := Go.Op.indexAddr 22 (Go.Operand.tmp 60) (Go.Operand.const (Go.Value.int Go.IntKind.i64 8)), type := 0, pos := "header.go:45", after := #[{ on := 13, ground := Go.Ground.data }], guard := none }) (v := ?v13) rfl (by kernel_rfl) (by kernel_rfl) (by kernel_rfl) (fun _ _ _ h => h) (Or.inl ⟨by rfl, ?hy13⟩) (by assumption) ?rest13
      case hy13 => (intro w hSw; (try dsimp only at hSw); go_simp <;> with_reducible rfl)
      try simp only [Act.put, List.setIfInBounds_toArray, List.set_cons_zero, List.set_cons_succ]
      refine wpAnyH_take (i := 15) (oi := { dst := some 62, op := Go.Op.load 5 (Go.Operand.tmp 61), type := 5, pos := "header.go:45", after := #[{ on := 14, ground := Go.Ground.data }], guard := none }) (v := ?v14) rfl (by kernel_rfl) (by kernel_rfl) (by kernel_rfl) (fun _ _ _ h => h) (Or.inl ⟨by rfl, ?hy14⟩) (by assumption) ?rest14
      case hy14 => (intro w hSw; (try dsimp only at hSw); go_simp <;> with_reducible rfl)
      try simp only [Act.put, List.setIfInBounds_toArray, List.set_cons_zero, List.set_cons_succ]
      refine wpAnyH_take (i := 16) (oi := { dst := some 63, op := Go.Op.binOp Go.BinOp.and 5 (Go.Operand.tmp 62) (Go.Operand.const (Go.Value.int Go.IntKind.u8 64)) 5, type := 5, pos := "header.go:45", after := #[{ on := 15, ground := Go.Ground.data }], guard := none }) (v := ?v15) rfl (by kernel_rfl) (by kernel_rfl) (by kernel_rfl) (fun _ _ _ h => h) (Or.inl ⟨by rfl, ?hy15⟩) (by assumption) ?rest15
      case hy15 => (intro w hSw; (try dsimp only at hSw); go_simp <;> with_reducible rfl)
      try simp only [Act.put, List.setIfInBounds_toArray, List.set_cons_zero, List.set_cons_succ]
      refine wpAnyH_take (i := 17) (oi := { dst := some 64, op := Go.Op.binOp Go.BinOp.gtr 5 (Go.Operand.tmp 63) (Go.Operand.const (Go.Value.int Go.IntKind.u8 0)) 5, type := 4, pos := "header.go:45", after := #[{ on := 16, ground := Go.Ground.data }], guard := none }) (v := ?v16) rfl (by kernel_rfl) (by kernel_rfl) (by kernel_rfl) (fun _ _ _ h => h) (Or.inl ⟨by rfl, ?hy16⟩) (by assumption) ?rest16
      case hy16 => (intro w hSw; (try dsimp only at hSw); go_simp <;> with_reducible rfl)
      try simp only [Act.put, List.setIfInBounds_toArray, List.set_cons_zero, List.set_cons_succ]
      refine wpAnyH_take (i := 18) (oi := { dst := some 65, op := Go.Op.move (Go.Operand.tmp 9), type := 2, pos := "header.go:45", after := #[], guard := none }) (v := ?v17) rfl (by kernel_rfl) (by kernel_rfl) (by kernel_rfl) (fun _ _ _ h => h) (Or.inl ⟨by rfl, ?hy17⟩) (by assumption) ?rest17
      case hy17 => (intro w hSw; (try dsimp only at hSw); go_simp <;> with_reducible rfl)
      try simp only [Act.put, List.setIfInBounds_toArray, List.set_cons_zero, List.set_cons_succ]
      refine wpAnyH_ready (rs := [2, 7]) (by kernel_rfl) (by simp) ?_
      refine AllReadyH.cons (o := { dst := some 49, op := Go.Op.call { callee := Go.Callee.value (Go.Operand.func 58), args := #[Go.Operand.tmp 48, Go.Operand.const (Go.Value.int Go.IntKind.i64 0)], argTypes := #[22, 3] }, type := 2, pos := "header.go:45", after := #[{ on := 1, ground := Go.Ground.data }], guard := none }) rfl (fun K hK => ?_) ?_
      ·
        go_simp
        go_at_call 58; refine hC.out.mono ?_; rintro e w3 ⟨rfl, hb3⟩; have s3 := (hb3.cell (World.block_lt_of_cell? _ _ s2)).trans s2; have hB3 := (hB2.drew).below hb3; have estr3 := estr.out w3 hb3; obtain ⟨y1, y2, y3, y4, y5, y6⟩ := hB3.six; have hM3 := hM2.out.drew.below hb3; have hT3 := hT2.out.drew.trans (Turn.of_below hb3 O2); replace hM3 := Lib.hid hM3; replace hT3 := Lib.hid hT3; replace hb3 := Lib.hid hb3
        refine hK.out _ _ ?_ (fun hHeld2 => ?_)
        · (try dsimp only); (first | with_reducible exact s3 | with_reducible exact s2 | with_reducible exact s2d | ((repeat (with_reducible refine cell_other ?_ hbne)); with_reducible exact s3))
        clear hK K hHeld
        have hHeld := hHeld2
        clear hHeld2
        try simp only [Act.put, List.setIfInBounds_toArray, List.set_cons_zero, List.set_cons_succ]
        refine wpAnyH_ready (rs := [7]) (by kernel_rfl) (by simp) ?_
        refine AllReadyH.cons (o := { dst := some 54, op := Go.Op.convert 22 9 (Go.Operand.tmp 53), type := 9, pos := "header.go:45", after := #[{ on := 6, ground := Go.Ground.data }], guard := none }) rfl (fun K hK => ?_) AllReadyH.nil
        go_simp
        refine hK.out _ _ ?_ (fun hHeld2 => ?_)
        · (try dsimp only); (first | with_reducible exact s3 | with_reducible exact s2 | with_reducible exact s2d | ((repeat (with_reducible refine cell_other ?_ hbne)); with_reducible exact s3))
        clear hK K hHeld
        have hHeld := hHeld2
        clear hHeld2
        try simp only [Act.put, List.setIfInBounds_toArray, List.set_cons_zero, List.set_cons_succ]
        refine wpAnyH_take (i := 19) (oi := { dst := some 66, op := Go.Op.build 34 #[(0, Go.Operand.tmp 47), (1, Go.Operand.tmp 49), (2, Go.Operand.tmp 54), (3, Go.Operand.tmp 59), (4, Go.Operand.tmp 64), (5, Go.Operand.tmp 65)], type := 34, pos := "header.go:45", after := #[{ on := 0, ground := Go.Ground.data }, { on := 2, ground := Go.Ground.data }, { on := 7, ground := Go.Ground.data }, { on := 12, ground := Go.Ground.data }, { on := 17, ground := Go.Ground.data }, { on := 18, ground := Go.Ground.data }], guard := none }) (v := ?v18) rfl (by kernel_rfl) (by kernel_rfl) (by kernel_rfl) (fun _ _ _ h => h) (Or.inl ⟨by rfl, ?hy18⟩) (by assumption) ?rest18
        case hy18 => (intro w hSw; (try dsimp only at hSw); go_simp <;> with_reducible rfl)
        try simp only [Act.put, List.setIfInBounds_toArray, List.set_cons_zero, List.set_cons_succ]
        refine wpAnyH_ready (rs := [20]) (by kernel_rfl) (by simp) ?_
        refine AllReadyH.cons (o := { dst := none, op := Go.Op.store 34 (Go.Operand.tmp 4) (Go.Operand.tmp 66), type := 0, pos := "header.go:45", after := #[{ on := 19, ground := Go.Ground.data }, { on := 2, ground := Go.Ground.chain }, { on := 0, ground := Go.Ground.phase }, { on := 1, ground := Go.Ground.phase }, { on := 2, ground := Go.Ground.phase }, { on := 3, ground := Go.Ground.phase }, { on := 4, ground := Go.Ground.phase }, { on := 5, ground := Go.Ground.phase }, { on := 6, ground := Go.Ground.phase }, { on := 7, ground := Go.Ground.phase }, { on := 8, ground := Go.Ground.phase }, { on := 9, ground := Go.Ground.phase }, { on := 10, ground := Go.Ground.phase }, { on := 11, ground := Go.Ground.phase }, { on := 12, ground := Go.Ground.phase }, { on := 13, ground := Go.Ground.phase }, { on := 14, ground := Go.Ground.phase }, { on := 15, ground := Go.Ground.phase }, { on := 16, ground := Go.Ground.phase }, { on := 17, ground := Go.Ground.phase }, { on := 18, ground := Go.Ground.phase }, { on := 19, ground := Go.Ground.phase }], guard := none }) rfl (fun K hK => ?_) AllReadyH.nil
        go_simp
        refine hK.out _ _ ?_ (fun hHeld2 => ?_)
        · (try dsimp only); (first | with_reducible exact s3 | with_reducible exact s2 | with_reducible exact s2d | ((repeat (with_reducible refine cell_other ?_ hbne)); with_reducible exact s3))
        clear hK K hHeld
        have hHeld := hHeld2
        clear hHeld2
        try simp only [Act.put, List.setIfInBounds_toArray, List.set_cons_zero, List.set_cons_succ]
        refine wpAnyH_take (i := 21) (oi := { dst := some 5, op := Go.Op.assign (Go.Operand.const (Go.Value.bool true)), type := 4, pos := "header.go:45", after := #[{ on := 20, ground := Go.Ground.chain }, { on := 0, ground := Go.Ground.phase }, { on := 1, ground := Go.Ground.phase }, { on := 2, ground := Go.Ground.phase }, { on := 3, ground := Go.Ground.phase }, { on := 4, ground := Go.Ground.phase }, { on := 5, ground := Go.Ground.phase }, { on := 6, ground := Go.Ground.phase }, { on := 7, ground := Go.Ground.phase }, { on := 8, ground := Go.Ground.phase }, { on := 9, ground := Go.Ground.phase }, { on := 10, ground := Go.Ground.phase }, { on := 11, ground := Go.Ground.phase }, { on := 12, ground := Go.Ground.phase }, { on := 13, ground := Go.Ground.phase }, { on := 14, ground := Go.Ground.phase }, { on := 15, ground := Go.Ground.phase }, { on := 16, ground := Go.Ground.phase }, { on := 17, ground := Go.Ground.phase }, { on := 18, ground := Go.Ground.phase }, { on := 19, ground := Go.Ground.phase }, { on := 20, ground := Go.Ground.phase }], guard := none }) (v := ?v19) rfl (by kernel_rfl) (by kernel_rfl) (by kernel_rfl) (fun _ _ _ h => h) (Or.inl ⟨by rfl, ?hy19⟩) (by assumption) ?rest19
        case hy19 => (intro w hSw; (try dsimp only at hSw); go_simp <;> with_reducible rfl)
        try simp only [Act.put, List.setIfInBounds_toArray, List.set_cons_zero, List.set_cons_succ]
        refine wpAnyH_done (by kernel_rfl) ?_ _
        refine NoPanic.normal ?_
        go_wp2
        refine ret_blk (v := .tuple #[hdV at_ ct nm (decide (128 ≤ x)) (decide (x / 64 % 2 = 1)) xt, .bool true]) w.heap.size #[.int .i64 at_, .int .i64 ct, .string ⟨nm.toArray⟩, .bool (decide (128 ≤ x)), .bool (decide (x / 64 % 2 = 1)), .int .i64 xt] 34 (Blk.put6 hB3) (fun w' h => by obtain ⟨e1, e2, e3, e4, e5, e6⟩ := h.six; simp [results, Try.results30, go_sem, hdV, e1, e2, e3, e4, e5, e6]) rfl ?_
        refine ⟨hgood.out, O2, ?_, ?_⟩
        · (repeat (refine MemP.setNew ?_ hnO2 _)); exact hM3.out
        · (repeat (refine Turn.setNew ?_ (Nat.le_refl _) _)); exact (hT0.out.trans hT1.out).trans hT3.out
      refine AllReadyH.cons (o := { dst := some 54, op := Go.Op.convert 22 9 (Go.Operand.tmp 53), type := 9, pos := "header.go:45", after := #[{ on := 6, ground := Go.Ground.data }], guard := none }) rfl (fun K hK => ?_) ?_
      ·
        go_simp
        refine hK.out _ _ ?_ (fun hHeld2 => ?_)
        · (try dsimp only); (first | with_reducible exact s3 | with_reducible exact s2 | with_reducible exact s2d | ((repeat (with_reducible refine cell_other ?_ hbne)); with_reducible exact s3))
        clear hK K hHeld
        have hHeld := hHeld2
        clear hHeld2
        try simp only [Act.put, List.setIfInBounds_toArray, List.set_cons_zero, List.set_cons_succ]
        refine wpAnyH_ready (rs := [2]) (by kernel_rfl) (by simp) ?_
        refine AllReadyH.cons (o := { dst := some 49, op := Go.Op.call { callee := Go.Callee.value (Go.Operand.func 58), args := #[Go.Operand.tmp 48, Go.Operand.const (Go.Value.int Go.IntKind.i64 0)], argTypes := #[22, 3] }, type := 2, pos := "header.go:45", after := #[{ on := 1, ground := Go.Ground.data }], guard := none }) rfl (fun K hK => ?_) AllReadyH.nil
        go_simp
        go_at_call 58; refine hC.out.mono ?_; rintro e w3 ⟨rfl, hb3⟩; have s3 := (hb3.cell (World.block_lt_of_cell? _ _ s2)).trans s2; have hB3 := (hB2.drew).below hb3; have estr3 := estr.out w3 hb3; obtain ⟨y1, y2, y3, y4, y5, y6⟩ := hB3.six; have hM3 := hM2.out.drew.below hb3; have hT3 := hT2.out.drew.trans (Turn.of_below hb3 O2); replace hM3 := Lib.hid hM3; replace hT3 := Lib.hid hT3; replace hb3 := Lib.hid hb3
        refine hK.out _ _ ?_ (fun hHeld2 => ?_)
        · (try dsimp only); (first | with_reducible exact s3 | with_reducible exact s2 | with_reducible exact s2d | ((repeat (with_reducible refine cell_other ?_ hbne)); with_reducible exact s3))
        clear hK K hHeld
        have hHeld := hHeld2
        clear hHeld2
        try simp only [Act.put, List.setIfInBounds_toArray, List.set_cons_zero, List.set_cons_succ]
        refine wpAnyH_take (i := 19) (oi := { dst := some 66, op := Go.Op.build 34 #[(0, Go.Operand.tmp 47), (1, Go.Operand.tmp 49), (2, Go.Operand.tmp 54), (3, Go.Operand.tmp 59), (4, Go.Operand.tmp 64), (5, Go.Operand.tmp 65)], type := 34, pos := "header.go:45", after := #[{ on := 0, ground := Go.Ground.data }, { on := 2, ground := Go.Ground.data }, { on := 7, ground := Go.Ground.data }, { on := 12, ground := Go.Ground.data }, { on := 17, ground := Go.Ground.data }, { on := 18, ground := Go.Ground.data }], guard := none }) (v := ?v20) rfl (by kernel_rfl) (by kernel_rfl) (by kernel_rfl) (fun _ _ _ h => h) (Or.inl ⟨by rfl, ?hy20⟩) (by assumption) ?rest20
        case hy20 => (intro w hSw; (try dsimp only at hSw); go_simp <;> with_reducible rfl)
        try simp only [Act.put, List.setIfInBounds_toArray, List.set_cons_zero, List.set_cons_succ]
        refine wpAnyH_ready (rs := [20]) (by kernel_rfl) (by simp) ?_
        refine AllReadyH.cons (o := { dst := none, op := Go.Op.store 34 (Go.Operand.tmp 4) (Go.Operand.tmp 66), type := 0, pos := "header.go:45", after := #[{ on := 19, ground := Go.Ground.data }, { on := 2, ground := Go.Ground.chain }, { on := 0, ground := Go.Ground.phase }, { on := 1, ground := Go.Ground.phase }, { on := 2, ground := Go.Ground.phase }, { on := 3, ground := Go.Ground.phase }, { on := 4, ground := Go.Ground.phase }, { on := 5, ground := Go.Ground.phase }, { on := 6, ground := Go.Ground.phase }, { on := 7, ground := Go.Ground.phase }, { on := 8, ground := Go.Ground.phase }, { on := 9, ground := Go.Ground.phase }, { on := 10, ground := Go.Ground.phase }, { on := 11, ground := Go.Ground.phase }, { on := 12, ground := Go.Ground.phase }, { on := 13, ground := Go.Ground.phase }, { on := 14, ground := Go.Ground.phase }, { on := 15, ground := Go.Ground.phase }, { on := 16, ground := Go.Ground.phase }, { on := 17, ground := Go.Ground.phase }, { on := 18, ground := Go.Ground.phase }, { on := 19, ground := Go.Ground.phase }], guard := none }) rfl (fun K hK => ?_) AllReadyH.nil
        go_simp
        refine hK.out _ _ ?_ (fun hHeld2 => ?_)
        · (try dsimp only); (first | with_reducible exact s3 | with_reducible exact s2 | with_reducible exact s2d | ((repeat (with_reducible refine cell_other ?_ hbne)); with_reducible exact s3))
        clear hK K hHeld
        have hHeld := hHeld2
        clear hHeld2
        try simp only [Act.put, List.setIfInBounds_toArray, List.set_cons_zero, List.set_cons_succ]
        refine wpAnyH_take (i := 21) (oi := { dst := some 5, op := Go.Op.assign (Go.Operand.const (Go.Value.bool true)), type := 4, pos := "header.go:45", after := #[{ on := 20, ground := Go.Ground.chain }, { on := 0, ground := Go.Ground.phase }, { on := 1, ground := Go.Ground.phase }, { on := 2, ground := Go.Ground.phase }, { on := 3, ground := Go.Ground.phase }, { on := 4, ground := Go.Ground.phase }, { on := 5, ground := Go.Ground.phase }, { on := 6, ground := Go.Ground.phase }, { on := 7, ground := Go.Ground.phase }, { on := 8, ground := Go.Ground.phase }, { on := 9, ground := Go.Ground.phase }, { on := 10, ground := Go.Ground.phase }, { on := 11, ground := Go.Ground.phase }, { on := 12, ground := Go.Ground.phase }, { on := 13, ground := Go.Ground.phase }, { on := 14, ground := Go.Ground.phase }, { on := 15, ground := Go.Ground.phase }, { on := 16, ground := Go.Ground.phase }, { on := 17, ground := Go.Ground.phase }, { on := 18, ground := Go.Ground.phase }, { on := 19, ground := Go.Ground.phase }, { on := 20, ground := Go.Ground.phase }], guard := none }) (v := ?v21) rfl (by kernel_rfl) (by kernel_rfl) (by kernel_rfl) (fun _ _ _ h => h) (Or.inl ⟨by rfl, ?hy21⟩) (by assumption) ?rest21
        case hy21 => (intro w hSw; (try dsimp only at hSw); go_simp <;> with_reducible rfl)
        try simp only [Act.put, List.setIfInBounds_toArray, List.set_cons_zero, List.set_cons_succ]
        refine wpAnyH_done (by kernel_rfl) ?_ _
        refine NoPanic.normal ?_
        go_wp2
        refine ret_blk (v := .tuple #[hdV at_ ct nm (decide (128 ≤ x)) (decide (x / 64 % 2 = 1)) xt, .bool true]) w.heap.size #[.int .i64 at_, .int .i64 ct, .string ⟨nm.toArray⟩, .bool (decide (128 ≤ x)), .bool (decide (x / 64 % 2 = 1)), .int .i64 xt] 34 (Blk.put6 hB3) (fun w' h => by obtain ⟨e1, e2, e3, e4, e5, e6⟩ := h.six; simp [results, Try.results30, go_sem, hdV, e1, e2, e3, e4, e5, e6]) rfl ?_
        refine ⟨hgood.out, O2, ?_, ?_⟩
        · (repeat (refine MemP.setNew ?_ hnO2 _)); exact hM3.out
        · (repeat (refine Turn.setNew ?_ (Nat.le_refl _) _)); exact (hT0.out.trans hT1.out).trans hT3.out
      exact AllReadyH.nil

end Go.Proofs.Ytcfblcgdjhpdaaa

/- A header that is laid is read as it was. -/
namespace Go.Proofs.Ytcfblcgdjhpdaaa
open Go.RowKit
set_option linter.unusedVariables false
set_option linter.unusedSimpArgs false

theorem bytesL_len (link : Int) (nm : List UInt8) (im hd : Bool) : (bytesL link nm im hd).length = 9 + nm.length + (8 - (9 + nm.length) % 8) % 8 := by
  unfold bytesL
  rw [List.length_append, List.length_append, List.length_append, cellBytes_len, List.length_replicate]
  simp only [List.length_cons, List.length_nil]
theorem bytesL_low (link : Int) (nm : List UInt8) (im hd : Bool) (j : Nat) (hj : j < 8) : (bytesL link nm im hd).getD j 0 = UInt8.ofNat ((IntKind.u64.wrap link).toNat / 2 ^ (8 * j)) := by
  have h8 := cellBytes_len link
  rw [← cellBytes_getD link j hj]
  unfold bytesL
  rw [List.getD_eq_getElem?_getD, List.getD_eq_getElem?_getD, List.append_assoc, List.append_assoc, List.getElem?_append_left (by omega)]
theorem bytesL_mark (link : Int) (nm : List UInt8) (im hd : Bool) : (bytesL link nm im hd).getD 8 0 = UInt8.ofNat (markN nm.length im hd) := by
  have h8 := cellBytes_len link
  unfold bytesL
  rw [List.getD_eq_getElem?_getD, List.append_assoc, List.append_assoc, List.getElem?_append_right (by omega), h8]
  rfl
theorem bytesL_name (link : Int) (nm : List UInt8) (im hd : Bool) (j : Nat) (hj : j < nm.length) : (bytesL link nm im hd).getD (9 + j) 0 = nm[j] := by
  have h8 := cellBytes_len link
  unfold bytesL
  rw [List.getD_eq_getElem?_getD, List.append_assoc, List.append_assoc, List.getElem?_append_right (by omega), h8, show 9 + j - 8 = j + 1 by omega, List.singleton_append, List.getElem?_cons_succ,
    List.getElem?_append_left hj, List.getElem?_eq_getElem hj]
  rfl
theorem markN_lt (n : Nat) (im hd : Bool) (h : n < 32) : markN n im hd < 256 ∧ markN n im hd % 32 = n ∧ (128 ≤ markN n im hd ↔ im = true) ∧ (markN n im hd / 64 % 2 = 1 ↔ hd = true) := by
  unfold markN
  cases im <;> cases hd <;> simp <;> omega
theorem alignZ_up (p : Int) (h : 0 ≤ p ∧ p ≤ 1000000) : alignZ p = p + (8 - p % 8) % 8 := by
  have := alignZ_small p h
  omega
/-- A header that is laid is read as it was. -/
theorem read_laid {M : List UInt8} (hM : M.length = 8192) (a here link : Int) (nm : List UInt8) (im hd : Bool) (hlink : isI link) (h0 : nm ≠ []) (hl : nm.length ≤ 31) (ha : 1536 ≤ a) (ha8 : a % 8 = 0) (hh : a + (bytesL link nm im hd).length + 8 ≤ here) (hh2 : here ≤ 5632) :
    hereL (setM (layL M a (bytesL link nm im hd)) 0 here) = here ∧ rdOk (setM (layL M a (bytesL link nm im hd)) 0 here) a = true ∧
    rdV (setM (layL M a (bytesL link nm im hd)) 0 here) a = hdV a link nm im hd (a + (bytesL link nm im hd).length) := by
  have hbl := bytesL_len link nm im hd
  obtain ⟨bl, hb⟩ : ∃ bl, bl = bytesL link nm im hd := ⟨_, rfl⟩
  have b1 := bytesL_low link nm im hd
  have b2 := bytesL_mark link nm im hd
  have b3 := bytesL_name link nm im hd
  have hK := Lib.hid (markN_lt nm.length im hd (by omega))
  rw [← hb] at hh hbl b1 b2 b3 ⊢
  have hhb : 1536 ≤ here ∧ here ≤ 5632 := by omega
  have hM1 : (layL M a bl).length = 8192 := by rw [layL_len]; exact hM
  obtain ⟨M2, hM2⟩ : ∃ M2, M2 = setM (layL M a bl) 0 here := ⟨_, rfl⟩
  rw [← hM2]
  have hg := Lib.hid (show getM M2 0 = here by rw [hM2]; exact getM_setM hM1 0 here (by unfold isI; omega) (by omega))
  have hhere := Lib.hid (show hereL M2 = here by unfold hereL; rw [hg.out, if_pos hhb])
  have hat : ∀ i : Nat, i < bl.length → memAt M2 (a + i) = bl.getD i 0 := fun i hi => by
    have c1 : ¬ (0 ≤ a + (i : Int) ∧ a + (i : Int) < 0 + 8 ∧ 0 ≤ a + (i : Int) ∧ a + (i : Int) < 8192) := by omega
    have c2 : a ≤ a + (i : Int) ∧ a + (i : Int) < a + bl.length ∧ 0 ≤ a + (i : Int) ∧ a + (i : Int) < 8192 := by omega
    have c3 : (a + (i : Int) - a).toNat = i := by omega
    rw [hM2, memAt_setM hM1, if_neg c1, memAt_layL hM, if_pos c2, c3]
  have l40 : ∀ i : Nat, i < bl.length → (i : Int) < 40 := fun i hi => by omega
  have hgd : ∀ i : Nat, i < bl.length → (loadL M2 a 40).getD i 0 = bl.getD i 0 := fun i hi => by
    rw [loadL_getD _ _ _ _ (l40 i hi) (by decide), hat i hi]
  have f8 : 8 < bl.length := by omega
  have fa : 0 ≤ a + 9 + (nm.length : Int) ∧ a + 9 + (nm.length : Int) ≤ 1000000 := by omega
  have fb : a + 9 + (nm.length : Int) + (8 - (a + 9 + (nm.length : Int)) % 8) % 8 = a + bl.length := by omega
  have hnl : nm.length ≠ 0 := fun e => h0 (List.length_eq_zero_iff.1 e)
  have fc : a % 8 = 0 ∧ 1536 ≤ a ∧ a < here ∧ nm.length ≠ 0 ∧ a + bl.length + 8 ≤ here := by omega
  have fd : ∀ i, i < 8 → i < bl.length := fun i hi => by omega
  have fe : ∀ i, i < nm.length → 9 + i < bl.length := fun i hi => by omega
  have hB := Lib.hid (show rdB M2 a = markN nm.length im hd by
    unfold rdB
    rw [hgd 8 f8, b2, UInt8.toNat_ofNat']
    exact Nat.mod_eq_of_lt hK.out.1)
  have hN := Lib.hid (show rdN M2 a = nm.length by unfold rdN; rw [hB.out]; exact hK.out.2.1)
  have hX := Lib.hid (show rdXt M2 a = a + bl.length by
    unfold rdXt
    rw [hN.out, alignZ_up _ fa]
    exact fb)
  have hok := Lib.hid (show rdOk M2 a = true by
    unfold rdOk
    rw [hN.out, hX.out, hhere.out, decide_eq_true_iff]
    exact fc)
  refine ⟨hhere.out, hok.out, ?_⟩
  unfold rdV
  rw [hok.out, hN.out, hX.out, hB.out]
  have hc : cellL (loadL M2 a 40) 0 = link := by
    apply cellL_val _ _ _ hlink
    intro i hi
    have c1 : (0 : Int) ≤ 0 + (i : Int) ∧ 0 + (i : Int) < 40 := by omega
    rw [byteZ_load _ _ _ _ c1.1 c1.2 (by decide), Int.zero_add, hat i (fd i hi), b1 i hi, UInt8.toNat_ofNat']
  have hnm : ((loadL M2 a 40).drop 9).take nm.length = nm := by
    have e40 : (loadL M2 a 40).length = 40 := by rw [loadL_len]; rfl
    have e31 : min nm.length (40 - 9) = nm.length := by omega
    apply List.ext_getElem
    · rw [List.length_take, List.length_drop, e40]; exact e31
    · intro i h1 h2
      rw [List.getElem_take, List.getElem_drop]
      have h3 := hgd (9 + i) (fe i h2)
      rw [b3 i h2, List.getD_eq_getElem?_getD, List.getElem?_eq_getElem (by rw [List.length_take, List.length_drop] at h1; exact Nat.add_comm i 9 ▸ Nat.lt_of_lt_of_le (Nat.add_lt_of_lt_sub (Nat.lt_of_lt_of_le h1 (Nat.min_le_right _ _))) (Nat.le_refl _))] at h3
      exact h3
  rw [hc, hnm]
  obtain ⟨_, _, k3, k4⟩ := hK.out
  generalize markN nm.length im hd = q at *
  have e1 : decide (128 ≤ q) = im := by cases im <;> simp_all
  have e2 : decide (q / 64 % 2 = 1) = hd := by cases hd <;> simp_all
  rw [e1, e2]
  rfl
end Go.Proofs.Ytcfblcgdjhpdaaa

/- 'awake'. -/
namespace Go.Proofs.Ytcfblcgdjhpdaaa
open Go.RowKit
set_option linter.unusedVariables false
set_option linter.unusedSimpArgs false
attribute [local go_sem] cell_set set_set m_undef

theorem mRead {w : World} {base mb : Nat} {M : List UInt8} {O : Nat → Prop} (h : MemP w base mb M O) (hbase : base ≤ w.heap.size) (at_ : Int) (hat : isI at_) :
    Calls Try.prog 30 #[.pointer (some ⟨mb, 0, none⟩), .int .i64 at_] w fun e w' => MemQ w w' base mb M O (.tuple #[rdV M at_, .bool (rdOk M at_)]) e := by
  by_cases hc : at_ % 8 = 0 ∧ 1536 ≤ at_ ∧ at_ < hereL M
  · exact read_in h hbase at_ hat hc.1 hc.2.1 hc.2.2
  · have hok : rdOk M at_ = false := by
      unfold rdOk
      rw [decide_eq_false_iff_not]
      exact fun h2 => hc ⟨h2.1, h2.2.1, h2.2.2.1⟩
    have hV : rdV M at_ = hdV 0 0 [] false false 0 := by unfold rdV; rw [hok]; rfl
    rw [hok, hV]
    exact read_low h hbase at_ hat hc
end Go.Proofs.Ytcfblcgdjhpdaaa

/- The reference's 'Here', 'Inside', 'Read', 'Latest'. -/
namespace Go.Proofs.Ytcfblcgdjhpdaaa
open Go.RowKit
set_option linter.unusedVariables false
set_option linter.unusedSimpArgs false
attribute [local go_sem] cell_set set_set m_undef

theorem getM_isI (M : List UInt8) (a : Int) : isI (getM M a) := by
  unfold getM cellL isI
  have := IntKind.wrap_i64 (leN (loadL M a 8) 0 8 : Int)
  omega
set_option maxHeartbeats 1000000 in
theorem rHere {w : World} {base rb : Nat} {M : List UInt8} {R : Nat → Prop} (h : RefP w base rb M R) :
    Calls Try.prog 18 #[.pointer (some ⟨rb, 0, none⟩)] w fun e w' => e = .returned (.int .i64 (hereL M)) ∧ Below w.heap.size w w' := by
  have hG := Lib.hid (rGet h 0 (by unfold isI; omega))
  unfold hereL
  generalize getM M 0 = n at *
  clear h
  go_enter Try.func18, Try.ntmps18
  by_cases h1 : 1536 ≤ n
  · have t1 : (n < 1536) = False := by simp; omega
    by_cases h2 : n ≤ 5632
    · have t2 : ((5632 : Int) < n) = False := by simp; omega
      rw [if_pos ⟨h1, h2⟩]
      clear h1 h2
      go_wp2_with (go_at_call 47; refine hG.out.mono ?_; rintro e w1 ⟨rfl, hb1⟩; replace hb1 := Lib.hid hb1)
      go_ret
      exact ⟨rfl, hb1.out⟩
    · have t2 : ((5632 : Int) < n) = True := by simp; omega
      rw [if_neg (fun h => h2 h.2)]
      clear h1 h2
      go_wp2_with (go_at_call 47; refine hG.out.mono ?_; rintro e w1 ⟨rfl, hb1⟩; replace hb1 := Lib.hid hb1)
      go_ret
      exact ⟨rfl, hb1.out⟩
  · have t1 : (n < 1536) = True := by simp; omega
    rw [if_neg (fun h => h1 h.1)]
    clear h1
    go_wp2_with (go_at_call 47; refine hG.out.mono ?_; rintro e w1 ⟨rfl, hb1⟩; replace hb1 := Lib.hid hb1)
    go_ret
    exact ⟨rfl, hb1.out⟩
/-- Whether a whole cell stands there. -/
def insL (M : List UInt8) (a : Int) : Bool := decide (a % 8 = 0 ∧ 1536 ≤ a ∧ a + 8 ≤ hereL M)
set_option maxHeartbeats 1000000 in
theorem rInside {w : World} {base rb : Nat} {M : List UInt8} {R : Nat → Prop} (h : RefP w base rb M R) (a : Int) (ha : isI a) :
    Calls Try.prog 55 #[.pointer (some ⟨rb, 0, none⟩), .int .i64 a] w fun e w' => e = .returned (.bool (insL M a)) ∧ Below w.heap.size w w' := by
  have hH := Lib.hid (rHere h)
  have hl : 1536 ≤ hereL M ∧ hereL M ≤ 5632 := by unfold hereL; split <;> omega
  unfold insL
  generalize hereL M = here at *
  unfold isI at ha
  have wh : IntKind.i64.wrap (here - 8) = here - 8 := by rw [IntKind.wrap_i64]; omega
  obtain ⟨r, hr⟩ : ∃ r, r = a.tmod 8 := ⟨_, rfl⟩
  have hr0 : r = 0 ↔ a % 8 = 0 := by rw [hr, Int.tmod_eq_emod]; split <;> omega
  have rm : a.tmod 8 = r := hr.symm
  clear hr h
  obtain ⟨h8, hh8⟩ : ∃ h8, h8 = here - 8 := ⟨_, rfl⟩
  rw [← hh8] at wh
  rw [hh8] at wh
  have wh2 : wrap64 (here - 8) = h8 := by rw [hh8]; unfold wrap64; omega
  rw [← hh8] at wh
  by_cases g1 : r = 0
  · have t1 : (r == 0) = true := by simp; exact g1
    by_cases g2 : 1536 ≤ a
    · have t2 : ((1536 : Int) ≤ a) = True := by simp; exact g2
      by_cases g3 : a ≤ h8
      · have t3 : (a ≤ h8) = True := by simp; exact g3
        have e : decide (a % 8 = 0 ∧ 1536 ≤ a ∧ a + 8 ≤ here) = true := by rw [decide_eq_true_iff]; exact ⟨hr0.1 g1, g2, by omega⟩
        rw [e]
        clear g1 g2 g3 e hh8 hl ha hr0
        go_enter Try.func55, Try.ntmps55
        go_wp2_with (go_at_call 18; refine hH.out.mono ?_; rintro e w1 ⟨rfl, hb1⟩; replace hb1 := Lib.hid hb1)
        go_ret
        exact ⟨rfl, hb1.out⟩
      · have t3 : (a ≤ h8) = False := by simp; omega
        have e : decide (a % 8 = 0 ∧ 1536 ≤ a ∧ a + 8 ≤ here) = false := by rw [decide_eq_false_iff_not]; omega
        rw [e]
        clear g1 g2 g3 e hh8 hl ha hr0
        go_enter Try.func55, Try.ntmps55
        go_wp2_with (go_at_call 18; refine hH.out.mono ?_; rintro e w1 ⟨rfl, hb1⟩; replace hb1 := Lib.hid hb1)
        go_ret
        exact ⟨rfl, hb1.out⟩
    · have t2 : ((1536 : Int) ≤ a) = False := by simp; omega
      have e : decide (a % 8 = 0 ∧ 1536 ≤ a ∧ a + 8 ≤ here) = false := by rw [decide_eq_false_iff_not]; omega
      rw [e]
      clear g1 g2 e hh8 hl ha hr0
      go_enter Try.func55, Try.ntmps55
      go_wp2
      go_ret
      exact ⟨rfl, Below.refl _ _⟩
  · have t1 : (r == 0) = false := by simp; exact g1
    have e : decide (a % 8 = 0 ∧ 1536 ≤ a ∧ a + 8 ≤ here) = false := by rw [decide_eq_false_iff_not]; exact fun h => g1 (hr0.2 h.1)
    rw [e]
    clear g1 e hh8 hl ha hr0
    go_enter Try.func55, Try.ntmps55
    go_wp2
    go_ret
    exact ⟨rfl, Below.refl _ _⟩
theorem rread_low {w : World} {base rb : Nat} {M : List UInt8} {R : Nat → Prop} (h : RefP w base rb M R) (at_ : Int) (hat : isI at_) (hno : ¬ (at_ % 8 = 0 ∧ 1536 ≤ at_ ∧ at_ < hereL M)) :
    Calls Try.prog 31 #[.pointer (some ⟨rb, 0, none⟩), .int .i64 at_] w fun e w' => e = .returned (.tuple #[hdV 0 0 [] false false 0, .bool false]) ∧ Below w.heap.size w w' := by
  unfold isI at hat
  obtain ⟨w0, hw0⟩ : ∃ w0, w0 = w.alloc (.cells #[.int .i64 0, .int .i64 0, .string ⟨#[]⟩, .bool false, .bool false, .int .i64 0] 34) := ⟨_, rfl⟩
  have hB0 : Blk w0 w.heap.size #[.int .i64 0, .int .i64 0, .string ⟨#[]⟩, .bool false, .bool false, .int .i64 0] 34 := by subst hw0; exact Blk.new _ _ _
  have hbl0 : Below w.heap.size w w0 := by subst hw0; exact bel_alloc (Below.refl _ _) _
  have hM0 := h.below hbl0
  obtain ⟨here, hhere⟩ : ∃ here, here = hereL M := ⟨_, rfl⟩
  have hH := Lib.hid (rHere hM0)
  rw [← hhere] at hH
  obtain ⟨r, hr⟩ : ∃ r, r = at_.tmod 8 := ⟨_, rfl⟩
  have hr0 : r = 0 ↔ at_ % 8 = 0 := by rw [hr, Int.tmod_eq_emod]; split <;> omega
  replace hM0 := Lib.hid hM0
  replace hhere := Lib.hid hhere
  replace h := Lib.hid h
  replace hr0 := Lib.hid hr0
  have rm : at_.tmod 8 = r := hr.symm
  clear hr
  have hB0l := hB0.lt
  obtain ⟨y1, y2, y3, y4, y5, y6⟩ := hB0.six
  have hbl0' := Lib.hid hbl0
  clear hbl0
  go_enter Try.func31, Try.ntmps31
  go_upto_region 1 with fail
  rw [← hw0]
  clear hw0
  by_cases h1 : r = 0
  · have t1 : (r != 0) = false := by simp; exact h1
    by_cases h2 : at_ < 1536
    · have t2 : (at_ < 1536) = True := by simp; exact h2
      clear h1 h2 hat
      go_wp2
      refine ret_blk (v := .tuple #[hdV 0 0 [] false false 0, .bool false]) w.heap.size #[.int .i64 0, .int .i64 0, .string ⟨#[]⟩, .bool false, .bool false, .int .i64 0] 34 (Blk.put6 hB0) (fun w' h => by obtain ⟨e1, e2, e3, e4, e5, e6⟩ := h.six; simp [results, Try.results31, go_sem, hdV, e1, e2, e3, e4, e5, e6]) rfl ?_
      refine ⟨rfl, ?_⟩
      (repeat (refine bel_set ?_ (Nat.le_refl _) _)); exact hbl0'.out
    · have t2 : (at_ < 1536) = False := by simp; omega
      have t3 : (here ≤ at_) = True := by simp; have e2 := hhere.out; have e1 := hr0.out.1 h1; rw [← e2] at hno; omega
      clear h1 h2 hat
      go_wp2_with (go_at_call 18; refine hH.out.mono ?_; rintro e w1 ⟨rfl, hb1⟩; have hB1 := hB0.below hb1; clear y1 y2 y3 y4 y5 y6; obtain ⟨y1, y2, y3, y4, y5, y6⟩ := hB1.six; have hbl1 := Lib.hid (bel_trans hbl0'.out hb1); have hM1 := Lib.hid (hM0.out.below hb1); clear hb1)
      refine ret_blk (v := .tuple #[hdV 0 0 [] false false 0, .bool false]) w.heap.size #[.int .i64 0, .int .i64 0, .string ⟨#[]⟩, .bool false, .bool false, .int .i64 0] 34 (Blk.put6 hB1) (fun w' h => by obtain ⟨e1, e2, e3, e4, e5, e6⟩ := h.six; simp [results, Try.results31, go_sem, hdV, e1, e2, e3, e4, e5, e6]) rfl ?_
      refine ⟨rfl, ?_⟩
      (repeat (refine bel_set ?_ (Nat.le_refl _) _)); exact hbl1.out
  · have t1 : (r != 0) = true := by simp; exact h1
    clear h1 hat
    go_wp2
    refine ret_blk (v := .tuple #[hdV 0 0 [] false false 0, .bool false]) w.heap.size #[.int .i64 0, .int .i64 0, .string ⟨#[]⟩, .bool false, .bool false, .int .i64 0] 34 (Blk.put6 hB0) (fun w' h => by obtain ⟨e1, e2, e3, e4, e5, e6⟩ := h.six; simp [results, Try.results31, go_sem, hdV, e1, e2, e3, e4, e5, e6]) rfl ?_
    refine ⟨rfl, ?_⟩
    (repeat (refine bel_set ?_ (Nat.le_refl _) _)); exact hbl0'.out

theorem ne64 (x : Nat) (h : x < 256) : (bits .and .u8 (x : Int) 64 != 0) = decide (x / 64 % 2 = 1) := by
  have h2 : bits .and .u8 (x : Int) 64 = ((x &&& 64 : Nat) : Int) := u8_and_nat x 64 h (by omega)
  rw [h2, nat64 x h]
  split <;> simp_all
set_option maxRecDepth 100000 in
set_option maxHeartbeats 2000000 in
theorem rread_in {w : World} {base rb : Nat} {M : List UInt8} {R : Nat → Prop} (h : RefP w base rb M R) (at_ : Int) (hat : isI at_) (h8 : at_ % 8 = 0) (hlo : 1536 ≤ at_) (hhi : at_ < hereL M) :
    Calls Try.prog 31 #[.pointer (some ⟨rb, 0, none⟩), .int .i64 at_] w fun e w' => e = .returned (.tuple #[rdV M at_, .bool (rdOk M at_)]) ∧ Below w.heap.size w w' := by
  have hhl := hereL_le M
  unfold isI at hat
  obtain ⟨w0, hw0⟩ : ∃ w0, w0 = w.alloc (.cells #[.int .i64 0, .int .i64 0, .string ⟨#[]⟩, .bool false, .bool false, .int .i64 0] 34) := ⟨_, rfl⟩
  have hB0 : Blk w0 w.heap.size #[.int .i64 0, .int .i64 0, .string ⟨#[]⟩, .bool false, .bool false, .int .i64 0] 34 := by subst hw0; exact Blk.new _ _ _
  have hbl0 : Below w.heap.size w w0 := by subst hw0; exact bel_alloc (Below.refl _ _) _
  have hM0 := h.below hbl0
  obtain ⟨here, hhere⟩ : ∃ here, here = hereL M := ⟨_, rfl⟩
  have hH := Lib.hid (rHere hM0)
  rw [← hhere] at hH
  obtain ⟨r, hr⟩ : ∃ r, r = at_.tmod 8 := ⟨_, rfl⟩
  have hr0 : r = 0 ↔ at_ % 8 = 0 := by rw [hr, Int.tmod_eq_emod]; split <;> omega
  replace hM0 := Lib.hid hM0
  replace hhere := Lib.hid hhere
  replace h := Lib.hid h
  replace hr0 := Lib.hid hr0
  have rm : at_.tmod 8 = r := hr.symm
  clear hr
  have hB0l := hB0.lt
  obtain ⟨y1, y2, y3, y4, y5, y6⟩ := hB0.six
  have hbl0' := Lib.hid hbl0
  clear hbl0
  go_enter Try.func31, Try.ntmps31
  go_upto_region 1 with fail
  rw [← hw0]
  clear hw0
  have t1 : (r != 0) = false := by simp; exact hr0.out.2 h8
  have t2 : (at_ < 1536) = False := by simp; omega
  have t3 : (here ≤ at_) = False := by simp; rw [hhere.out]; exact hhi
  obtain ⟨x, hx⟩ : ∃ x, x = rdB M at_ := ⟨_, rfl⟩
  have hm8 : rdB M at_ = (memAt M (at_ + 8)).toNat := by
    unfold rdB
    rw [loadL_getD M at_ 40 8 (by omega) (by omega)]
    rfl
  rw [← hx] at hm8
  have hx256 : x < 256 := by rw [hm8]; exact UInt8.toNat_lt _
  have hn : rdN M at_ = x % 32 := by rw [rdN, hx]
  obtain ⟨n, hnn⟩ : ∃ n, n = x % 32 := ⟨_, rfl⟩
  rw [← hnn] at hn
  have rm2 : (x : Int).tmod 32 = (n : Int) := by rw [Int.tmod_eq_emod_of_nonneg (by omega)]; omega
  obtain ⟨xt, hxt⟩ : ∃ xt, xt = rdXt M at_ := ⟨_, rfl⟩
  have hxt2 : xt = alignZ (at_ + 9 + (n : Int)) := by rw [hxt, rdXt, hn]
  have wn : IntKind.i64.wrap (n : Int) = (n : Int) := by rw [IntKind.wrap_i64]; omega
  obtain ⟨p8, hp8⟩ : ∃ p8, p8 = at_ + 8 := ⟨_, rfl⟩
  obtain ⟨p9, hp9⟩ : ∃ p9, p9 = at_ + 9 := ⟨_, rfl⟩
  obtain ⟨p, hp⟩ : ∃ p, p = at_ + 9 + (n : Int) := ⟨_, rfl⟩
  have wa : IntKind.i64.wrap (at_ + 8) = p8 := by rw [IntKind.wrap_i64]; omega
  have wb : IntKind.i64.wrap (at_ + 9) = p9 := by rw [IntKind.wrap_i64]; omega
  have wc : IntKind.i64.wrap (p9 + (n : Int)) = p := by rw [IntKind.wrap_i64]; omega
  have hal := alignZ_small p (by omega)
  rw [← hp] at hxt2
  rw [← hxt2] at hal
  have hAl := Lib.hid (fun w => rAlign w p (by unfold isI; omega))
  rw [← hxt2] at hAl
  have hok : rdOk M at_ = decide (n ≠ 0 ∧ xt + 8 ≤ here) := by
    unfold rdOk
    rw [hn, ← hxt, hhere.out]
    simp [h8, hlo, hhi]
  have hin : insL M xt = decide (xt + 8 ≤ here) := by
    unfold insL
    rw [← hhere.out]
    have e1 : xt % 8 = 0 := hal.2.2
    have e2 : 1536 ≤ xt := by omega
    simp [e1, e2]
  have hL1 := Lib.hid (fun (w9 : World) (h9 : RefP w9 base rb M R) => rLoad h9 p8 1 (by unfold isI; omega))
  have hLn := Lib.hid (fun (w9 : World) (h9 : RefP w9 base rb M R) => rLoad h9 p9 (n : Int) (by unfold isI; omega))
  have hGt := Lib.hid (fun (w9 : World) (h9 : RefP w9 base rb M R) => rGet h9 at_ hat)
  have hIn := Lib.hid (fun (w9 : World) (h9 : RefP w9 base rb M R) => rInside h9 xt (by unfold isI; omega))
  rw [hin] at hIn
  have hlen1 : (loadL M p8 1).length = 1 := by rw [loadL_len]; rfl
  have hm9 : ((loadL M p8 1)[0]'(by rw [hlen1]; omega)).toNat = x := by rw [hm8, loadL_get, hp8]; simp
  have hnx : n < 32 := by omega
  have hnm : loadL M p9 (n : Int) = ((loadL M at_ 40).drop 9).take n := by
    have e40 : (loadL M at_ 40).length = 40 := by rw [loadL_len]; rfl
    have en : (loadL M p9 (n : Int)).length = n := by rw [loadL_len]; omega
    apply List.ext_getElem
    · rw [en, List.length_take, List.length_drop, e40]; omega
    · intro i i1 i2
      rw [loadL_get, List.getElem_take, List.getElem_drop, loadL_get, hp9, Int.add_assoc]
      rfl
  have hlk : getM M at_ = cellL (loadL M at_ 40) 0 := by
    unfold getM cellL
    rw [leN_congr (l := loadL M at_ 8) (a := 0) (m := loadL M at_ 40) (b := 0) 8]
    intro i hi
    rw [byteZ_load _ _ _ _ (by omega) (by omega) (by omega), byteZ_load _ _ _ _ (by omega) (by omega) (by omega)]
  obtain ⟨nm, hnm2⟩ : ∃ nm, nm = loadL M p9 (n : Int) := ⟨_, rfl⟩
  rw [← hnm2] at hnm hLn
  obtain ⟨ct, hct⟩ : ∃ ct, ct = getM M at_ := ⟨_, rfl⟩
  rw [← hct] at hlk hGt
  have hbad : (n = 0 ∨ here < xt + 8) → (Ending.returned (.tuple #[hdV 0 0 [] false false 0, .bool false])) = .returned (.tuple #[rdV M at_, .bool (rdOk M at_)]) := fun hh => by
    have hok2 : rdOk M at_ = false := by rw [hok, decide_eq_false_iff_not]; omega
    unfold rdV
    rw [hok2]
    rfl
  have hgood : n ≠ 0 → xt + 8 ≤ here → (Ending.returned (.tuple #[hdV at_ ct nm (decide (128 ≤ x)) (decide (x / 64 % 2 = 1)) xt, .bool true])) = .returned (.tuple #[rdV M at_, .bool (rdOk M at_)]) := fun hh1 hh2 => by
    have hok2 : rdOk M at_ = true := by rw [hok, decide_eq_true_iff]; exact ⟨hh1, hh2⟩
    unfold rdV
    rw [hok2, hn, ← hxt, ← hx, ← hnm, ← hlk]
    rfl
  replace hbad := Lib.hid hbad
  replace hgood := Lib.hid hgood
  replace hlen1 := Lib.hid hlen1
  replace hm9 := Lib.hid hm9
  have g1 : decide ((128 : Int) ≤ (x : Int)) = decide (128 ≤ x) := by by_cases h9 : 128 ≤ x <;> simp [h9] <;> omega
  have g2 := ne64 x hx256
  clear hp hp9 hp8 hxt2 hal hnm hlk hct hnm2 hok hin hn hxt hx hm8 hx256 hnn hat h8 hlo hhi hhl hnx
  go_upto_region 4 with (first
    | (go_at_call 18; refine hH.out.mono ?_; rintro e w1 ⟨rfl, hb1⟩; have hB1 := hB0.below hb1; clear y1 y2 y3 y4 y5 y6; obtain ⟨y1, y2, y3, y4, y5, y6⟩ := hB1.six; have hbl1 := Lib.hid (bel_trans hbl0'.out hb1); have hM1 := Lib.hid (hM0.out.below hb1); clear hb1)
    | (go_at_call 51; refine (hL1.out _ hM1.out).mono ?_; rintro e w2 ⟨v2, rfl, hv2, hb2⟩; have hB2 := hB1.below hb2; clear y1 y2 y3 y4 y5 y6; obtain ⟨y1, y2, y3, y4, y5, y6⟩ := hB2.six; have hbl2 := Lib.hid (bel_trans hbl1.out hb2); have hM2 := Lib.hid (hM1.out.below hb2); obtain ⟨bb, oo, cap, he⟩ := hv2.some_of (by intro e; have h9 := hlen1.out; rw [e] at h9; simp at h9); rw [hlen1.out] at he; subst he; obtain ⟨s2, s2f⟩ := hv2.at 0 (by rw [hlen1.out]; omega); rw [hm9.out, Nat.add_zero] at s2; clear s2f hv2 hb2))
  clear hL1 hlen1 hm9
  go_upto_region 6 with (go_at_call 45; refine (hAl.out _).mono ?_; rintro e _ ⟨rfl, rfl⟩)
  by_cases hn0 : n = 0
  · have q1 : ((n : Int) == 0) = true := by simp; exact hn0
    have hb := Lib.hid (hbad.out (.inl hn0))
    clear hn0
    go_wp2
    refine ret_blk (v := .tuple #[hdV 0 0 [] false false 0, .bool false]) w.heap.size #[.int .i64 0, .int .i64 0, .string ⟨#[]⟩, .bool false, .bool false, .int .i64 0] 34 (Blk.put6 hB2) (fun w' h => by obtain ⟨e1, e2, e3, e4, e5, e6⟩ := h.six; simp [results, Try.results31, go_sem, hdV, e1, e2, e3, e4, e5, e6]) rfl ?_
    refine ⟨hb.out, ?_⟩
    (repeat (refine bel_set ?_ (Nat.le_refl _) _)); exact hbl2.out
  · have q1 : ((n : Int) == 0) = false := by simp; exact hn0
    have IN : True := trivial
    by_cases hx8 : xt + 8 ≤ here
    · have hb := Lib.hid (hgood.out hn0 hx8)
      have q2 : decide (xt + 8 ≤ here) = true := by simp; exact hx8
      rw [q2] at hIn
      clear hx8 hn0 q2 hbad hgood
      go_upto_region 8 with (go_at_call 55; refine (hIn.out _ hM2.out).mono ?_; rintro e w3 ⟨rfl, hb3⟩; have hB3 := hB2.below hb3; clear y1 y2 y3 y4 y5 y6; obtain ⟨y1, y2, y3, y4, y5, y6⟩ := hB3.six; have hbl3 := Lib.hid (bel_trans hbl2.out hb3); have hM3 := Lib.hid (hM2.out.below hb3); clear hb3 s2)
      go_wp2_with (first
        | (go_at_call 47; refine (hGt.out _ hM3.out).mono ?_; rintro e w4 ⟨rfl, hb4⟩; have hB4 := hB3.below hb4; clear y1 y2 y3 y4 y5 y6; obtain ⟨y1, y2, y3, y4, y5, y6⟩ := hB4.six; have hbl4 := Lib.hid (bel_trans hbl3.out hb4); have hM4 := Lib.hid (hM3.out.below hb4); clear hb4)
        | (go_at_call 51; refine (hLn.out _ hM4.out).mono ?_; rintro e w5 ⟨v5, rfl, hv5, hb5⟩; have hB5 := hB4.below hb5; clear y1 y2 y3 y4 y5 y6; obtain ⟨y1, y2, y3, y4, y5, y6⟩ := hB5.six; have hbl5 := Lib.hid (bel_trans hbl4.out hb5); have estr := hv5.str (P := Try.prog) (src := 22) (dst := 9) Try.underlying22 Try.underlying5 Try.underlying9; obtain ⟨a5, c5, he, h9⟩ := hv5.len; subst he; clear hv5 hb5 h9))
      refine ret_blk (v := .tuple #[hdV at_ ct nm (decide (128 ≤ x)) (decide (x / 64 % 2 = 1)) xt, .bool true]) w.heap.size #[.int .i64 at_, .int .i64 ct, .string ⟨nm.toArray⟩, .bool (decide (128 ≤ x)), .bool (decide (x / 64 % 2 = 1)), .int .i64 xt] 34 (Blk.put6 hB5) (fun w' h => by obtain ⟨e1, e2, e3, e4, e5, e6⟩ := h.six; simp [results, Try.results31, go_sem, hdV, e1, e2, e3, e4, e5, e6]) rfl ?_
      refine ⟨hb.out, ?_⟩
      (repeat (refine bel_set ?_ (Nat.le_refl _) _)); exact hbl5.out
    · have hb := Lib.hid (hbad.out (.inr (by omega)))
      have q2 : decide (xt + 8 ≤ here) = false := by simp; omega
      rw [q2] at hIn
      clear hx8 hn0 q2 hbad hgood
      go_wp2_with (go_at_call 55; refine (hIn.out _ hM2.out).mono ?_; rintro e w3 ⟨rfl, hb3⟩; have hB3 := hB2.below hb3; clear y1 y2 y3 y4 y5 y6; obtain ⟨y1, y2, y3, y4, y5, y6⟩ := hB3.six; have hbl3 := Lib.hid (bel_trans hbl2.out hb3); clear hb3 s2)
      refine ret_blk (v := .tuple #[hdV 0 0 [] false false 0, .bool false]) w.heap.size #[.int .i64 0, .int .i64 0, .string ⟨#[]⟩, .bool false, .bool false, .int .i64 0] 34 (Blk.put6 hB3) (fun w' h => by obtain ⟨e1, e2, e3, e4, e5, e6⟩ := h.six; simp [results, Try.results31, go_sem, hdV, e1, e2, e3, e4, e5, e6]) rfl ?_
      refine ⟨hb.out, ?_⟩
      (repeat (refine bel_set ?_ (Nat.le_refl _) _)); exact hbl3.out

theorem rRead {w : World} {base rb : Nat} {M : List UInt8} {R : Nat → Prop} (h : RefP w base rb M R) (at_ : Int) (hat : isI at_) :
    Calls Try.prog 31 #[.pointer (some ⟨rb, 0, none⟩), .int .i64 at_] w fun e w' => e = .returned (.tuple #[rdV M at_, .bool (rdOk M at_)]) ∧ Below w.heap.size w w' := by
  by_cases hc : at_ % 8 = 0 ∧ 1536 ≤ at_ ∧ at_ < hereL M
  · exact rread_in h at_ hat hc.1 hc.2.1 hc.2.2
  · have hok : rdOk M at_ = false := by
      unfold rdOk
      rw [decide_eq_false_iff_not]
      exact fun h2 => hc ⟨h2.1, h2.2.1, h2.2.2.1⟩
    have hV : rdV M at_ = hdV 0 0 [] false false 0 := by unfold rdV; rw [hok]; rfl
    rw [hok, hV]
    exact rread_low h at_ hat hc
end Go.Proofs.Ytcfblcgdjhpdaaa

/- 'Latest'; 'HeaderReads'. -/
namespace Go.Proofs.Ytcfblcgdjhpdaaa
open Go.RowKit
set_option linter.unusedVariables false
set_option linter.unusedSimpArgs false
attribute [local go_sem] cell_set set_set m_undef

theorem rdV_form (M : List UInt8) (a : Int) : ∃ A K S I H X, rdV M a = .agg #[.int .i64 A, .int .i64 K, .string S, .bool I, .bool H, .int .i64 X] ∧ (rdOk M a = true → A = a) := by
  unfold rdV
  cases rdOk M a with
  | true => exact ⟨_, _, _, _, _, _, rfl, fun _ => rfl⟩
  | false => exact ⟨_, _, _, _, _, _, rfl, fun h => by cases h⟩
/-- The latest header's place. -/
def latestL (M : List UInt8) : Int := if rdOk M (getM M 8) then getM M 8 else 0
set_option maxHeartbeats 1000000 in
theorem mLatest {w : World} {base mb : Nat} {M : List UInt8} {O : Nat → Prop} (h : MemP w base mb M O) (hbase : base ≤ w.heap.size) :
    Calls Try.prog 29 #[.pointer (some ⟨mb, 0, none⟩)] w fun e w' => MemQ w w' base mb M O (.int .i64 (latestL M)) e := by
  have hG := Lib.hid (mGet h hbase 8 (by unfold isI; omega))
  have hRd := Lib.hid (fun (w9 : World) (O9 : Nat → Prop) (h9 : MemP w9 base mb M O9) (hb9 : base ≤ w9.heap.size) => mRead h9 hb9 (getM M 8) (getM_isI M 8))
  unfold latestL
  obtain ⟨A, K, S, I, H, X, hV, hA⟩ := rdV_form M (getM M 8)
  rw [hV] at hRd
  clear hV
  generalize rdOk M (getM M 8) = ok at *
  generalize getM M 8 = n at *
  replace hbase := Lib.hid hbase
  go_enter Try.func29, Try.ntmps29
  go_upto_region 2 with (first
    | (go_at_call 54; refine hG.out.mono ?_; rintro e w1 ⟨rfl, O1, hM1, hT1⟩; have hs1 := Lib.hid hT1.size; replace hM1 := Lib.hid hM1; replace hT1 := Lib.hid hT1)
    | (go_at_call 30; refine (hRd.out _ _ hM1.out (Nat.le_trans hbase.out hs1.out)).mono ?_; rintro e w2 ⟨rfl, O2, hM2, hT2⟩; replace hM2 := Lib.hid hM2; replace hT2 := Lib.hid hT2))
  obtain ⟨w3, hw3⟩ : ∃ w3, w3 = w2.alloc (.cells #[.int .i64 A, .int .i64 K, .string S, .bool I, .bool H, .int .i64 X] 34) := ⟨_, rfl⟩
  rw [← hw3]
  have hB3 : Blk w3 w2.heap.size #[.int .i64 A, .int .i64 K, .string S, .bool I, .bool H, .int .i64 X] 34 := by subst hw3; exact Blk.new _ _ _
  have hb3 : Below w2.heap.size w2 w3 := by subst hw3; exact bel_alloc (Below.refl _ _) _
  have hM3 := Lib.hid (hM2.out.below hb3)
  have hT3 := Lib.hid ((hT1.out.trans hT2.out).trans (Turn.of_below hb3 O2))
  obtain ⟨y1, y2, y3, y4, y5, y6⟩ := hB3.six
  clear hw3 hb3
  cases ok with
  | true =>
    have hA' := hA rfl
    subst hA'
    clear hA
    go_wp2
    go_ret
    exact ⟨rfl, O2, hM3.out, hT3.out⟩
  | false =>
    clear hA
    go_wp2
    go_ret
    exact ⟨rfl, O2, hM3.out, hT3.out⟩
set_option maxHeartbeats 1000000 in
theorem rLatest {w : World} {base rb : Nat} {M : List UInt8} {R : Nat → Prop} (h : RefP w base rb M R) :
    Calls Try.prog 24 #[.pointer (some ⟨rb, 0, none⟩)] w fun e w' => e = .returned (.int .i64 (latestL M)) ∧ Below w.heap.size w w' := by
  have hG := Lib.hid (rGet h 8 (by unfold isI; omega))
  have hRd := Lib.hid (fun (w9 : World) (h9 : RefP w9 base rb M R) => rRead h9 (getM M 8) (getM_isI M 8))
  unfold latestL
  obtain ⟨A, K, S, I, H, X, hV, hA⟩ := rdV_form M (getM M 8)
  rw [hV] at hRd
  clear hV hA
  generalize rdOk M (getM M 8) = ok at *
  generalize getM M 8 = n at *
  replace h := Lib.hid h
  go_enter Try.func24, Try.ntmps24
  go_upto_region 3 with (first
    | (go_at_call 47; refine hG.out.mono ?_; rintro e w1 ⟨rfl, hb1⟩; have hM1 := Lib.hid (h.out.below hb1); replace hb1 := Lib.hid hb1)
    | (go_at_call 31; refine (hRd.out _ hM1.out).mono ?_; rintro e w2 ⟨rfl, hb2⟩; have hb2' := Lib.hid (bel_trans hb1.out hb2); clear hb2))
  obtain ⟨w3, hw3⟩ : ∃ w3, w3 = w2.alloc (.cells #[.int .i64 A, .int .i64 K, .string S, .bool I, .bool H, .int .i64 X] 34) := ⟨_, rfl⟩
  rw [← hw3]
  have hb3 : Below w.heap.size w w3 := by subst hw3; exact bel_alloc hb2'.out _
  replace hb3 := Lib.hid hb3
  clear hw3
  cases ok with
  | true =>
    go_wp2
    go_ret
    exact ⟨rfl, hb3.out⟩
  | false =>
    go_wp2
    go_ret
    exact ⟨rfl, hb3.out⟩
end Go.Proofs.Ytcfblcgdjhpdaaa

/- 'Mark'. -/
namespace Go.Proofs.Ytcfblcgdjhpdaaa
open Go.RowKit
set_option linter.unusedVariables false
set_option linter.unusedSimpArgs false
attribute [local go_sem] cell_set set_set m_undef

theorem rmark (w : World) (n : Nat) (now hides : Bool) (hn : n < 32) : Calls Try.prog 52 #[.int .i64 (n : Int), .bool now, .bool hides] w fun e w' => e = .returned (.int .u8 (markN n now hides : Int)) ∧ w = w' := by
  have w1 : IntKind.u8.wrap (n : Int) = (n : Int) := by rw [IntKind.wrap_u8]; omega
  have w2 : IntKind.u8.wrap ((n : Int) + 128) = ((n + 128 : Nat) : Int) := by rw [IntKind.wrap_u8]; omega
  have w3 : IntKind.u8.wrap ((n : Int) + 64) = ((n + 64 : Nat) : Int) := by rw [IntKind.wrap_u8]; omega
  have w4 : IntKind.u8.wrap (((n + 128 : Nat) : Int) + 64) = ((n + 128 + 64 : Nat) : Int) := by rw [IntKind.wrap_u8]; omega
  obtain ⟨a1, ha1⟩ : ∃ a1 : Int, a1 = ((n + 128 : Nat) : Int) := ⟨_, rfl⟩
  obtain ⟨a2, ha2⟩ : ∃ a2 : Int, a2 = ((n + 64 : Nat) : Int) := ⟨_, rfl⟩
  obtain ⟨a3, ha3⟩ : ∃ a3 : Int, a3 = ((n + 128 + 64 : Nat) : Int) := ⟨_, rfl⟩
  rw [← ha1] at w2 w4
  rw [← ha2] at w3
  rw [← ha3] at w4
  obtain ⟨a0, ha0⟩ : ∃ a0 : Int, a0 = (n : Int) := ⟨_, rfl⟩
  rw [← ha0] at w1 w2 w3 ⊢
  have ha := Lib.hid (And.intro ha0 (And.intro ha1 (And.intro ha2 ha3)))
  clear ha0 ha1 ha2 ha3
  go_enter Try.func52, Try.ntmps52
  cases now <;> cases hides
  all_goals
    go_wp2
    go_ret
    have ha' := ha.out
    refine ⟨?_, rfl⟩
    unfold markN
    simp
    omega
theorem or32 (x y : Nat) (hx : x < 256) (hy : y < 256) : bits .or .u8 (x : Int) (y : Int) = ((x ||| y : Nat) : Int) := u8_or_nat x y hx hy
/-- The new length byte. -/
def newB (M : List UInt8) (a : Int) (now hides : Bool) : Nat := (rdB M a &&& 32) ||| markN (rdN M a) now hides
theorem newB_lt (M : List UInt8) (a : Int) (now hides : Bool) : newB M a now hides < 256 := by
  unfold newB
  have h1 : rdB M a < 256 := UInt8.toNat_lt _
  have h2 : rdN M a < 32 := Nat.mod_lt _ (by omega)
  have h3 := (markN_lt (rdN M a) now hides h2).1
  have h4 : rdB M a &&& 32 ≤ 32 := Nat.and_le_right
  exact Nat.or_lt_two_pow (n := 8) (by omega) h3
/-- What 'Mark' makes of the memory. -/
def markM (M : List UInt8) (a : Int) (now hides : Bool) : List UInt8 := if rdOk M a then layL M (a + 8) [UInt8.ofNat (newB M a now hides)] else M
theorem rdV_good (M : List UInt8) (a : Int) (h : rdOk M a = true) : ∃ K S I H X, rdV M a = .agg #[.int .i64 a, .int .i64 K, .string S, .bool I, .bool H, .int .i64 X] ∧ S.size = rdN M a ∧ 1536 ≤ a ∧ a ≤ 5632 := by
  unfold rdV
  rw [h]
  have h2 : a % 8 = 0 ∧ 1536 ≤ a ∧ a < hereL M ∧ rdN M a ≠ 0 ∧ rdXt M a + 8 ≤ hereL M := of_decide_eq_true h
  have h3 := hereL_le M
  have h4 : rdN M a < 32 := Nat.mod_lt _ (by omega)
  obtain ⟨n, hn⟩ : ∃ n, n = rdN M a := ⟨_, rfl⟩
  obtain ⟨e, he⟩ : ∃ e, e = hereL M := ⟨_, rfl⟩
  rw [← hn] at h4 ⊢
  rw [← he] at h3
  have h5 : a < e := by rw [he]; exact h2.2.2.1
  refine ⟨_, _, _, _, _, rfl, ?_, h2.2.1, by clear h2; omega⟩
  have e40 : (loadL M a 40).length = 40 := by rw [loadL_len]; rfl
  show ((((loadL M a 40).drop 9).take n).toArray).size = n
  rw [List.size_toArray, List.length_take, List.length_drop, e40]
  clear h2; omega
theorem load1 (M : List UInt8) (a : Int) : loadL M (a + 8) 1 = [memAt M (a + 8)] := by
  have h1 : (loadL M (a + 8) 1).length = 1 := by rw [loadL_len]; rfl
  apply List.ext_getElem
  · rw [h1]; rfl
  · intro i i1 i2
    rw [h1] at i1
    have e : i = 0 := by omega
    subst e
    rw [loadL_get]
    simp
theorem rdB_at (M : List UInt8) (a : Int) : rdB M a = (memAt M (a + 8)).toNat := by
  unfold rdB
  rw [loadL_getD M a 40 8 (by omega) (by omega)]
  rfl
end Go.Proofs.Ytcfblcgdjhpdaaa

/- The reference's 'Mark'; what stands behind it. -/
namespace Go.Proofs.Ytcfblcgdjhpdaaa
open Go.RowKit
set_option linter.unusedVariables false
set_option linter.unusedSimpArgs false
attribute [local go_sem] cell_set set_set m_undef

set_option maxRecDepth 100000 in
set_option maxHeartbeats 1000000 in
theorem rMark {w : World} {base rb : Nat} {M : List UInt8} {R : Nat → Prop} (h : RefP w base rb M R) (at_ : Int) (hat : isI at_) (now hides : Bool) :
    Calls Try.prog 23 #[.pointer (some ⟨rb, 0, none⟩), .int .i64 at_, .bool now, .bool hides] w fun e w' => RefQ w w' base rb (markM M at_ now hides) R (.bool (rdOk M at_)) e := by
  have hRd := Lib.hid (rRead h at_ hat)
  obtain ⟨ok, hok⟩ : ∃ ok, ok = rdOk M at_ := ⟨_, rfl⟩
  unfold markM
  cases ok with
  | false =>
    obtain ⟨A, K, S, I, H, X, hV, _⟩ := rdV_form M at_
    rw [← hok, hV] at hRd
    rw [← hok]
    clear hok hV
    simp only [Bool.false_eq_true, if_false]
    replace h := Lib.hid h
    go_enter Try.func23, Try.ntmps23
    go_upto_region 2 with (go_at_call 31; refine hRd.out.mono ?_; rintro e w1 ⟨rfl, hb1⟩; replace hb1 := Lib.hid hb1)
    obtain ⟨w3, hw3⟩ : ∃ w3, w3 = w1.alloc (.cells #[.int .i64 A, .int .i64 K, .string S, .bool I, .bool H, .int .i64 X] 34) := ⟨_, rfl⟩
    rw [← hw3]
    have hb3 := Lib.hid (show Below w.heap.size w w3 by subst hw3; exact bel_alloc hb1.out _)
    clear hw3
    go_wp2
    go_ret
    exact ⟨rfl, R, h.out.below hb3.out, Turn.of_below hb3.out R⟩
  | true =>
    obtain ⟨K, S, I, H, X, hV, hS, ha1, ha2⟩ := rdV_good M at_ hok.symm
    rw [← hok, hV] at hRd
    rw [← hok]
    simp only [if_true]
    obtain ⟨nb, hnb⟩ : ∃ nb, nb = newB M at_ now hides := ⟨_, rfl⟩
    have hnl : nb < 256 := by rw [hnb]; exact newB_lt _ _ _ _
    rw [← hnb]
    have hnn : rdN M at_ < 32 := Nat.mod_lt _ (by omega)
    have hrb : rdB M at_ < 256 := UInt8.toNat_lt _
    have hmk := (markN_lt (rdN M at_) now hides hnn).1
    have hand : bits .and .u8 (rdB M at_ : Int) 32 = ((rdB M at_ &&& 32 : Nat) : Int) := u8_and_nat (rdB M at_) 32 hrb (by omega)
    have hal : rdB M at_ &&& 32 < 256 := Nat.lt_of_le_of_lt Nat.and_le_right (by omega)
    have hor := or32 (markN (rdN M at_) now hides) (rdB M at_ &&& 32) hmk hal
    have hnb2 : markN (rdN M at_) now hides ||| (rdB M at_ &&& 32) = nb := by rw [Nat.or_comm]; exact hnb.symm
    rw [hnb2] at hor
    have hB := rdB_at M at_
    have hby := Lib.hid (fun w => rmark w S.size now hides (by rw [hS]; exact hnn))
    rw [hS] at hby
    obtain ⟨p8, hp8⟩ : ∃ p8, p8 = at_ + 8 := ⟨_, rfl⟩
    have wa : IntKind.i64.wrap (at_ + 8) = p8 := by clear hor hand hnb2; rw [IntKind.wrap_i64]; omega
    have hp8i : isI p8 := by clear hor hand hnb2; unfold isI; omega
    have hLo := Lib.hid (fun (w9 : World) (h9 : RefP w9 base rb M R) => rLoad h9 p8 1 hp8i)
    have hl1 : loadL M p8 1 = [memAt M p8] := by rw [hp8]; exact load1 M at_
    rw [← hp8] at hB ⊢
    rw [hl1] at hLo
    obtain ⟨c8, hc8⟩ : ∃ c8, c8 = memAt M p8 := ⟨_, rfl⟩
    rw [← hc8] at hLo hB
    rw [hB] at hand hor
    obtain ⟨mk, hmk2⟩ : ∃ mk, mk = markN (rdN M at_) now hides := ⟨_, rfl⟩
    rw [← hmk2] at hor hby
    obtain ⟨old, hold⟩ : ∃ old, old = c8.toNat &&& 32 := ⟨_, rfl⟩
    rw [← hold] at hand hor
    obtain ⟨cN, hcN⟩ : ∃ cN, cN = c8.toNat := ⟨_, rfl⟩
    rw [← hcN] at hand
    obtain ⟨nbb, hnbb⟩ : ∃ nbb, nbb = UInt8.ofNat nb := ⟨_, rfl⟩
    have hnbn : (nb : Int) = (nbb.toNat : Int) := by rw [hnbb, UInt8.toNat_ofNat']; omega
    rw [hnbn] at hor
    rw [← hnbb]
    have hLay := Lib.hid (fun (w9 : World) (h9 : RefP w9 base rb M R) (B9 : Nat) (v9 : Value) (bs9 : List UInt8) (hv9 : Bs w9 B9 v9 bs9) (hl9 : bs9.length ≤ 1000000) (hk9 : ∀ k, v9.ownBlock = some k → ¬ R k) => rLay h9 p8 hp8i hv9 hl9 hk9)
    have hSz : ((S.size : Nat) : Int) = ((rdN M at_ : Nat) : Int) := by rw [hS]
    generalize rdN M at_ = n at *
    replace hcN := Lib.hid hcN
    replace h := Lib.hid h
    clear hV hS ha1 ha2 hnb hnb2 hnl hnn hrb hmk hal hB hp8 hp8i hl1 hc8 hmk2 hold hnbb hnbn hok hat
    go_enter Try.func23, Try.ntmps23
    go_upto_region 2 with (go_at_call 31; refine hRd.out.mono ?_; rintro e w1 ⟨rfl, hb1⟩; replace hb1 := Lib.hid hb1)
    obtain ⟨w3, hw3⟩ : ∃ w3, w3 = w1.alloc (.cells #[.int .i64 at_, .int .i64 K, .string S, .bool I, .bool H, .int .i64 X] 34) := ⟨_, rfl⟩
    rw [← hw3]
    have hb3 := Lib.hid (show Below w.heap.size w w3 by subst hw3; exact bel_alloc hb1.out _)
    have hB3 : Blk w3 w1.heap.size #[.int .i64 at_, .int .i64 K, .string S, .bool I, .bool H, .int .i64 X] 34 := by subst hw3; exact Blk.new _ _ _
    clear hw3
    go_upto_region 5 with (go_at_call 51; refine (hLo.out _ (h.out.below hb3.out)).mono ?_; rintro e w4 ⟨v4, rfl, hv4, hb4⟩; have hB4 := hB3.below hb4; have hbl4 := Lib.hid (bel_trans hb3.out hb4); have hR4 := Lib.hid (h.out.below hbl4.out); obtain ⟨bb, oo, cap, he⟩ := hv4.some_of (by simp); subst he; obtain ⟨s2, s2f⟩ := hv4.at 0 (by simp); rw [Nat.add_zero, List.getElem_cons_zero, ← hcN.out] at s2; clear s2f hv4 hb4; obtain ⟨y1, y2, y3, y4, y5, y6⟩ := hB4.six)
    have hA5 : Bs (w4.alloc (.cells #[.int .u8 (nbb.toNat : Int)] 5)) w4.heap.size (.slice (some ⟨w4.heap.size, 0, none⟩) 1 1) [nbb] := Bs.lit1 w4 nbb
    have hb5 : Below w4.heap.size w4 (w4.alloc (.cells #[.int .u8 (nbb.toNat : Int)] 5)) := bel_alloc (Below.refl _ _) _
    have hL5 := hLay.out _ (hR4.out.below hb5) _ _ _ hA5 (by simp) (fun k hk hO => by have := (hR4.out.lt hO).1; have e' : w4.heap.size = k := Option.some.inj hk; omega)
    replace hL5 := Lib.hid hL5
    replace hb5 := Lib.hid hb5
    clear hA5
    go_wp2_with (first
      | (go_at_call 52; refine (hby.out _).mono ?_; rintro e _ ⟨rfl, rfl⟩)
      | (go_at_call 46; refine hL5.out.mono ?_; rintro e w6 ⟨rfl, R6, hM6, hT6⟩; replace hM6 := Lib.hid hM6; replace hT6 := Lib.hid hT6))
    go_ret
    exact ⟨rfl, R6, hM6.out, ((Turn.of_below hbl4.out R).trans (Turn.of_below hb5.out _)).trans hT6.out⟩
/-- A cell's byte with its spare bit. -/
theorem mark_bits : ∀ o : Nat, o = 0 ∨ o = 32 → ∀ n : Fin 32, ∀ im hd : Bool, (o ||| markN n.1 im hd) % 32 = n.1 ∧ decide (128 ≤ (o ||| markN n.1 im hd)) = im ∧ decide ((o ||| markN n.1 im hd) / 64 % 2 = 1) = hd := by
  rintro o (rfl | rfl) <;> decide
set_option maxRecDepth 100000 in
theorem and32 : ∀ b : Fin 256, b.1 &&& 32 = 0 ∨ b.1 &&& 32 = 32 := by decide
/-- Behind 'Mark' the header has the marks. -/
theorem mark_reads {M : List UInt8} (hM : M.length = 8192) (a : Int) (im hd : Bool) (h : rdOk M a = true) :
    ∃ K S X, rdV (markM M a im hd) a = .agg #[.int .i64 a, .int .i64 K, .string S, .bool im, .bool hd, .int .i64 X] ∧ rdOk (markM M a im hd) a = true := by
  have h2 : a % 8 = 0 ∧ 1536 ≤ a ∧ a < hereL M ∧ rdN M a ≠ 0 ∧ rdXt M a + 8 ≤ hereL M := of_decide_eq_true h
  have hhl := hereL_le M
  have ha : 1536 ≤ a := h2.2.1
  have ha2 : a ≤ 5632 := by have := h2.2.2.1; clear h2; generalize hereL M = e at *; omega
  have hnn : rdN M a < 32 := Nat.mod_lt _ (by omega)
  have hrb : rdB M a < 256 := UInt8.toNat_lt _
  have hnl := newB_lt M a im hd
  obtain ⟨m1, m2, m3⟩ := mark_bits (rdB M a &&& 32) (and32 ⟨rdB M a, hrb⟩) ⟨rdN M a, hnn⟩ im hd
  have e0 : newB M a im hd = (rdB M a &&& 32) ||| markN (rdN M a) im hd := rfl
  rw [← e0] at m1 m2 m3
  unfold markM
  rw [if_pos h]
  obtain ⟨M2, hM2⟩ : ∃ M2, M2 = layL M (a + 8) [UInt8.ofNat (newB M a im hd)] := ⟨_, rfl⟩
  rw [← hM2]
  obtain ⟨nb, hnb⟩ : ∃ nb, nb = newB M a im hd := ⟨_, rfl⟩
  rw [← hnb] at m1 m2 m3 hM2 hnl
  have c8 : ∀ i : Nat, i < 8 → ¬ (a + 8 ≤ 0 + (i : Int) ∧ 0 + (i : Int) < a + 8 + (([UInt8.ofNat nb] : List UInt8).length : Int) ∧ 0 ≤ 0 + (i : Int) ∧ 0 + (i : Int) < 8192) := fun i hi => by omega
  have hg : getM M2 0 = getM M 0 := by
    apply getM_congr
    intro i hi
    rw [hM2, memAt_layL hM, if_neg (c8 i hi)]
  have hhere : hereL M2 = hereL M := by unfold hereL; rw [hg]
  have c9 : a + 8 ≤ a + 8 ∧ a + 8 < a + 8 + (([UInt8.ofNat nb] : List UInt8).length : Int) ∧ 0 ≤ a + 8 ∧ a + 8 < 8192 := by
    refine ⟨by omega, ?_, by omega, by omega⟩
    simp only [List.length_cons, List.length_nil]; omega
  have hB : rdB M2 a = nb := by
    rw [rdB_at, hM2, memAt_layL hM, if_pos c9, show (a + 8 - (a + 8)).toNat = 0 by omega]
    show (UInt8.ofNat nb).toNat = nb
    rw [UInt8.toNat_ofNat']
    exact Nat.mod_eq_of_lt hnl
  have hN : rdN M2 a = rdN M a := by
    show rdB M2 a % 32 = rdN M a
    rw [hB]; exact m1
  have hX : rdXt M2 a = rdXt M a := by unfold rdXt; rw [hN]
  have hok : rdOk M2 a = true := by
    unfold rdOk
    rw [hN, hX, hhere, decide_eq_true_iff]
    exact h2
  have hV : rdV M2 a = hdV a (cellL (loadL M2 a 40) 0) (((loadL M2 a 40).drop 9).take (rdN M2 a)) im hd (rdXt M2 a) := by
    unfold rdV
    rw [if_pos hok, hB, m2, m3]
  exact ⟨_, _, _, hV, hok⟩
end Go.Proofs.Ytcfblcgdjhpdaaa
