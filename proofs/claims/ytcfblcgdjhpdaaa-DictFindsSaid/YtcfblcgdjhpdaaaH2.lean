/- 'Bytes'. -/
import Derived.Test.YtcfblcgdjhpdaaaH1
namespace Go.Proofs.Ytcfblcgdjhpdaaa
open Go.RowKit
set_option linter.unusedVariables false
set_option linter.unusedSimpArgs false
/-- 'append(v, u...)' -/
theorem Bs.appendS {P : Program} {w : World} {B : Nat} {v u : Value} {l l2 : List UInt8} (hv : Bs w B v l) {t tx e ty : TypeId} (hsrc : Src P 1 tx u l2.length (cb l2) w) (ht : P.underlying t = some (.slice e))
    (hi : (P.info? e).map (fun i => (i.zero, i.size, i.bytes)) = some (some (.int .u8 0), 1, 1)) (hl2 : l2 ≠ []) (hlen : l.length + l2.length ≤ 1000000) (hB : B ≤ w.heap.size) :
    ∃ v' w', (Builtin.append_ #[t, tx] ty #[v, u]).run P w = .ok v' w' ∧ Bs w' B v' (l ++ l2) ∧ w.grownBy w' v.ownBlock ∧ (v'.ownBlock = v.ownBlock ∨ v'.ownBlock = some w.heap.size) := by
  obtain ⟨i, hi1, hi2⟩ := Option.map_eq_some_iff.1 hi
  simp only [Prod.mk.injEq] at hi2
  obtain ⟨hz, hs1, hb1⟩ := hi2
  have hgrow : ∀ (a : Option Addr) (cap : Nat), v = .slice a l.length cap → cap < l.length + l2.length → (Builtin.firstCells i.size l.length (.slice a l.length cap)).run P w.drew = .ok (cb l).toArray w.drew →
      ∃ v' w', (Builtin.append_ #[t, tx] ty #[v, u]).run P w = .ok v' w' ∧ Bs w' B v' (l ++ l2) ∧ w.grownBy w' v.ownBlock ∧ (v'.ownBlock = v.ownBlock ∨ v'.ownBlock = some w.heap.size) := by
    intro a cap hva hcap hold
    subst hva
    have hfit : Builtin.nextslicecap (l.length + l2.length) cap * i.bytes ≤ 281474976710656 := growslice_fits hcap (by rw [hb1]; omega)
    have hrun := run_append_grow_src (P := P) w t tx ty e i (.int .u8 0) ht hi1 hz a l.length cap (cb l) hold u l2.length (cb l2) (by rw [hs1]; exact hsrc) hcap (by omega) hfit
    have hge := grownCap_ge w (l.length + l2.length) cap e
    obtain ⟨gc, hgc⟩ : ∃ gc, gc = grownCap w (l.length + l2.length) cap e := ⟨_, rfl⟩
    rw [← hgc] at hrun hge
    obtain ⟨C, hC⟩ : ∃ C, C = (cb l ++ cb l2).toArray ++ Builtin.zeroCells (Value.int .u8 0).cells (gc - (l.length + l2.length)) := ⟨_, rfl⟩
    rw [← hC] at hrun
    have hCs : C.size = gc := by
      rw [hC]
      simp [cb_len, Builtin.zeroCells, Value.cells]
      omega
    have hblk : Blk (w.drew.alloc (.cells C e)) w.heap.size C e := Blk.new w.drew C e
    refine ⟨_, _, hrun, ?_, ⟨rfl, rfl, rfl, by simp, fun k hk _ => Below.heap_alloc w.drew _ k hk⟩, .inr rfl⟩
    refine .inr ⟨w.heap.size, 0, gc, by rw [List.length_append], hB, hblk.lt, by rw [List.length_append]; exact hge, fun j hj => ?_, fun j hj => ?_⟩
    · rw [Nat.zero_add, hblk.cell, hC, Array.getElem?_append_left (by simp [cb_len]; simpa using hj)]
      have : (cb l ++ cb l2) = cb (l ++ l2) := by simp [cb]
      rw [this, List.getElem?_toArray]
      unfold cb
      rw [List.getElem?_map, List.getElem?_eq_getElem hj]
      rfl
    · rw [Nat.zero_add, hblk.cell, hblk.frozen]
      exact ⟨by rw [Array.getElem?_eq_getElem (by omega)]; rfl, rfl⟩
  rcases hv with ⟨rfl, rfl⟩ | ⟨b, o, cap, rfl, h2, h3, h4, h5, h6⟩
  · by_cases h0 : l2 = []
    · exact absurd h0 hl2
    · have : 0 < l2.length := List.length_pos_iff.2 h0
      refine hgrow none 0 rfl (by simpa using this) ?_
      simp [Builtin.firstCells, cb]
  · by_cases hroom : l.length + l2.length ≤ cap
    · have hlb : (cb l2).length = l2.length := cb_len l2
      have hrun := run_append_room_src (P := P) w t tx ty e i ht hi1 b o l.length cap u l2.length (cb l2) (by rw [hs1]; exact hsrc) hroom
        (fun j hj => by rw [hs1, Nat.mul_one, Nat.add_assoc]; exact (h6 _ (by omega)).1) (fun j hj => by rw [hs1, Nat.mul_one, Nat.add_assoc]; exact (h6 _ (by omega)).2)
      rw [hs1, Nat.mul_one] at hrun
      obtain ⟨q1, q2, q3, q4⟩ := setCells_size b (cb l2) (o + l.length) w
      refine ⟨_, _, hrun, ?_, ⟨q2, q3, q4, by omega, fun k hk hne => setCells_heap b _ _ _ k (fun e => hne (by rw [e]; rfl))⟩, .inl rfl⟩
      refine .inr ⟨b, o, cap, by rw [List.length_append], h2, by omega, by rw [List.length_append]; exact hroom, fun j hj => ?_, fun j hj => ?_⟩
      · by_cases hjl : j < l.length
        · rw [World.cell?_setCells_out b _ _ _ _ (fun _ _ => .inl (by show o + j < _; omega)), h5 j hjl, List.getElem_append_left hjl]
        · have hj2 : j - l.length < (cb l2).length := by rw [hlb]; rw [List.length_append] at hj; omega
          have := World.cell?_setCells_in b (cb l2) (o + l.length) w (fun j hj => by rw [Nat.add_assoc]; exact (h6 _ (by omega)).1) (j - l.length) hj2
          rw [show o + l.length + (j - l.length) = o + j by omega] at this
          rw [this, List.getElem_append_right (by omega)]
          simp [cb]
      · rw [World.frozen?_setCells]
        exact ⟨cell_isSome_setCells b _ _ _ _ (h6 j hj).1, (h6 j hj).2⟩
    · refine hgrow (some ⟨b, o, none⟩) cap rfl (by omega) ?_
      have hv' : Bs w B (.slice (some ⟨b, o, none⟩) l.length cap) l := .inr ⟨b, o, cap, rfl, h2, h3, h4, h5, h6⟩
      rw [hs1]
      exact (hv'.src ht).cellsD
section
variable {P : Program} {w w' : World} {v u v' : Value}
/-- The operation, its run given. -/
theorem wp_append_bs2 {o : Oper} {a : Act} {K : Act → World → Prop} {Q : Exit → Act → World → Prop} (s x : Operand) (t tx : TypeId) (ho : o.op = .call { callee := .builtin .append, args := #[s, x], argTypes := #[t, tx] })
    (hr : (Builtin.append_ #[t, tx] o.type #[v, u]).run P w = .ok v' w') (hs : a.eval s = v) (hx : a.eval x = u) (h : K (a.put o.dst v') w') : o.wp P a w K Q := by
  unfold Oper.wp execOp
  simp only [ho, resolve, invoke, builtin, Sem.run_bind, Sem.run_pure, Result.andThen_ok, List.map_toArray, List.map_cons, List.map_nil, hs, hx, hr]
  exact h
theorem wpList_append_bs2 {ops : Array Oper} {rest : List Oper} {o : Oper} {a : Act} {Q : Exit → Act → World → Prop} (hgd : o.guard = none) (s x : Operand) (t tx : TypeId) (ho : o.op = .call { callee := .builtin .append, args := #[s, x], argTypes := #[t, tx] })
    (hr : (Builtin.append_ #[t, tx] o.type #[v, u]).run P w = .ok v' w') (hs : a.eval s = v) (hx : a.eval x = u) (h : wpList P ops Q rest (a.put o.dst v') w') : wpList P ops Q (o :: rest) a w :=
  wpList_plain hgd fun _ hK => wp_append_bs2 s x t tx ho hr hs hx (hK _ _ h)
end

attribute [local go_sem] cell_set set_set m_undef
/-- A header's value. -/
def hdV (at_ link : Int) (nm : List UInt8) (imm hid : Bool) (xt : Int) : Value := .agg #[.int .i64 at_, .int .i64 link, .string ⟨nm.toArray⟩, .bool imm, .bool hid, .int .i64 xt]
/-- A header's bytes. -/
def bytesL (link : Int) (nm : List UInt8) (imm hid : Bool) : List UInt8 := putCellL (List.replicate 8 0) 0 link ++ [UInt8.ofNat (markN nm.length imm hid)] ++ nm ++ List.replicate ((8 - (9 + nm.length) % 8) % 8) 0
/-- What 'Bytes' gives. -/
def BytesP (w w' : World) (link : Int) (nm : List UInt8) (imm hid : Bool) (e : Ending) : Prop :=
  Below w.heap.size w w' ∧ ((nm = [] ∧ e = .returned (.tuple #[.slice none 0 0, .int .i64 (-16)])) ∨ (nm ≠ [] ∧ 31 < nm.length ∧ e = .returned (.tuple #[.slice none 0 0, .int .i64 (-19)])) ∨
    (nm ≠ [] ∧ nm.length ≤ 31 ∧ ∃ v, e = .returned (.tuple #[v, .int .i64 0]) ∧ Bs w' w.heap.size v (bytesL link nm imm hid)))
/-- A new slice of one byte. -/
theorem Bs.lit1 (w : World) (c : UInt8) : Bs (w.alloc (.cells #[.int .u8 (c.toNat : Int)] 5)) w.heap.size (.slice (some ⟨w.heap.size, 0, none⟩) 1 1) [c] := by
  refine .inr ⟨w.heap.size, 0, 1, rfl, Nat.le_refl _, by simp, Nat.le_refl _, fun j hj => ?_, fun j hj => ?_⟩
  · have : j = 0 := by simp at hj; omega
    subst this
    obtain ⟨e1, e2, _⟩ := (Blk.new w #[.int .u8 (c.toNat : Int)] 5).one
    exact e1
  · have : j = 0 := by omega
    subst this
    obtain ⟨e1, e2, _⟩ := (Blk.new w #[.int .u8 (c.toNat : Int)] 5).one
    exact ⟨by rw [e1]; rfl, e2⟩
theorem Bs.form {w : World} {B : Nat} {v : Value} {l : List UInt8} (h : Bs w B v l) : ∃ a n c, v = .slice a n c := by
  obtain ⟨a, cap, e, _⟩ := h.len
  exact ⟨a, _, cap, e⟩
theorem Bs.ge {w : World} {B N k : Nat} {v : Value} {l : List UInt8} (h : Bs w B v l) (hN : N ≤ B) (e : v.ownBlock = some k) : N ≤ k := by
  rcases h.lt with e2 | ⟨j, e2, h1, _⟩
  · rw [e] at e2; cases e2
  · rw [e] at e2; cases e2; omega
theorem str_ne {nm : List UInt8} (h : nm ≠ []) : nm.isEmpty = false := by
  cases nm with
  | nil => exact absurd rfl h
  | cons c r => rfl
set_option maxHeartbeats 1000000 in
theorem bytes_nil (w : World) (at_ link xt : Int) (imm hid : Bool) : Calls Try.prog 40 #[hdV at_ link [] imm hid xt] w fun e w' => e = .returned (.tuple #[.slice none 0 0, .int .i64 (-16)]) ∧ Below w.heap.size w w' := by
  unfold hdV
  go_enter Try.func40, Try.ntmps40
  go_wp2
  refine bodyPost_ret (v := .tuple #[.slice none 0 0, .int .i64 (-16)]) (by simp [results, Try.results40, go_sem]) rfl ?_
  exact ⟨rfl, bel_alloc (Below.refl _ _) _⟩
set_option maxHeartbeats 1000000 in
theorem bytes_long (w : World) (at_ link xt : Int) (nm : List UInt8) (imm hid : Bool) (h0 : nm ≠ []) (hl : 31 < nm.length) : Calls Try.prog 40 #[hdV at_ link nm imm hid xt] w fun e w' => e = .returned (.tuple #[.slice none 0 0, .int .i64 (-19)]) ∧ Below w.heap.size w w' := by
  have hne := str_ne h0
  have t1 : ((31 : Int) < (nm.length : Int)) = True := by simp; omega
  unfold hdV
  clear h0 hl
  go_enter Try.func40, Try.ntmps40
  go_wp2
  refine bodyPost_ret (v := .tuple #[.slice none 0 0, .int .i64 (-19)]) (by simp [results, Try.results40, go_sem]) rfl ?_
  exact ⟨rfl, bel_alloc (Below.refl _ _) _⟩
set_option maxRecDepth 100000 in
set_option maxHeartbeats 1000000 in
theorem bytes_good (w : World) (at_ link xt : Int) (nm : List UInt8) (imm hid : Bool) (h0 : nm ≠ []) (hl : nm.length ≤ 31) : Calls Try.prog 40 #[hdV at_ link nm imm hid xt] w fun e w' => (∃ v, e = .returned (.tuple #[v, .int .i64 0]) ∧ Bs w' w.heap.size v (bytesL link nm imm hid)) ∧ Below w.heap.size w w' := by
  have hne := str_ne h0
  have t1 : ((31 : Int) < (nm.length : Int)) = False := by simp; omega
  unfold hdV
  have h0' := h0
  clear h0
  obtain ⟨w0, hw0⟩ : ∃ w0, w0 = w.alloc (.cells #[.int .i64 at_, .int .i64 link, .string ⟨nm.toArray⟩, .bool imm, .bool hid, .int .i64 xt] 34) := ⟨_, rfl⟩
  have hB0 : Blk w0 w.heap.size #[.int .i64 at_, .int .i64 link, .string ⟨nm.toArray⟩, .bool imm, .bool hid, .int .i64 xt] 34 := by subst hw0; exact Blk.new _ _ _
  have hbl0 : Below w.heap.size w w0 := by subst hw0; exact bel_alloc (Below.refl _ _) _
  have hmk : (Instr.makeSlice 22 (.int .i64 8) (.int .i64 8)).run Try.prog w0.drew = .ok (.slice (some ⟨w0.heap.size, 0, none⟩) 8 8) (w0.drew.alloc (.cells (cb (List.replicate 8 0)).toArray 5)) := run_made w0.drew 8 (by omega)
  have hB1 : Blk (w0.drew.alloc (.cells (cb (List.replicate 8 0)).toArray 5)) w.heap.size #[.int .i64 at_, .int .i64 link, .string ⟨nm.toArray⟩, .bool imm, .bool hid, .int .i64 xt] 34 := (hB0.drew).alloc _
  have hbl1 : Below w.heap.size w (w0.drew.alloc (.cells (cb (List.replicate 8 0)).toArray 5)) := bel_alloc (bel_drew hbl0) _
  have hZ : Bs (w0.drew.alloc (.cells (cb (List.replicate 8 0)).toArray 5)) 0 (.slice (some ⟨w0.heap.size, 0, none⟩) 8 8) (List.replicate 8 0) := Bs.of_blk (Blk.new w0.drew (cb (List.replicate 8 0)).toArray 5) (by simp)
  have hPC := Lib.hid (wPutCell _ 0 _ _ 0 link hZ (by unfold isI; omega) (by simp))
  have s0 : w0.drew.cell? ⟨w.heap.size, 1, none⟩ = some (.int .i64 link) := by rw [(hB0.drew).cell]; rfl
  have s1 : (w0.drew.alloc (.cells (cb (List.replicate 8 0)).toArray 5)).cell? ⟨w.heap.size, 1, none⟩ = some (.int .i64 link) := by rw [hB1.cell]; rfl
  have c2 : w0.cell? ⟨w.heap.size, 2, none⟩ = some (.string ⟨nm.toArray⟩) := by rw [hB0.cell]; rfl
  unfold bytesL
  have hlen8 : (putCellL (List.replicate 8 0) 0 link).length = 8 := by unfold putCellL; rw [putL_len]; simp
  generalize putCellL (List.replicate 8 0) 0 link = L8 at *
  replace hlen8 := Lib.hid hlen8
  clear hZ
  go_enter Try.func40, Try.ntmps40
  go_upto_region 1 with fail
  rw [← hw0]
  clear hw0
  go_upto_region 5 with fail
  generalize w0.drew.alloc (.cells (cb (List.replicate 8 0)).toArray 5) = w1 at *
  refine wp_region_noPanic ?_
  refine wp_region_held_drew (S := (fun w' => w'.cell? ⟨w.heap.size, 1, none⟩ = some (.int .i64 link))) (by kernel_rfl) ?_ (fun hHeld => ?_)
  · (try dsimp only); (first | exact s0 | exact s1 | exact s2)
  refine wpAnyH_take (i := 1) (oi := { dst := some 15, op := Go.Op.fieldAddr 34 (Go.Operand.tmp 1) 1, type := 0, pos := "header.go:68", after := #[], guard := none }) (v := ?v1) rfl (by kernel_rfl) (by kernel_rfl) (by kernel_rfl) (fun _ _ _ h => h) (Or.inl ⟨by rfl, ?hy1⟩) (by assumption) ?rest1
  case hy1 => (intro w hSw; (try dsimp only at hSw); go_simp <;> with_reducible rfl)
  try simp only [Act.put, List.setIfInBounds_toArray, List.set_cons_zero, List.set_cons_succ]
  refine wpAnyH_take (i := 2) (oi := { dst := some 16, op := Go.Op.load 2 (Go.Operand.tmp 15), type := 2, pos := "header.go:68", after := #[{ on := 1, ground := Go.Ground.data }], guard := none }) (v := ?v2) rfl (by kernel_rfl) (by kernel_rfl) (by kernel_rfl) (fun _ _ _ h => h) (Or.inl ⟨by rfl, ?hy2⟩) (by assumption) ?rest2
  case hy2 => (intro w hSw; (try dsimp only at hSw); go_simp <;> with_reducible rfl)
  try simp only [Act.put, List.setIfInBounds_toArray, List.set_cons_zero, List.set_cons_succ]
  refine wpAnyH_ready (rs := [0]) (by kernel_rfl) (by simp) ?_
  refine AllReadyH.cons (o := { dst := some 14, op := Go.Op.makeSlice 22 (Go.Operand.const (Go.Value.int Go.IntKind.i64 8)) (Go.Operand.const (Go.Value.int Go.IntKind.i64 8)), type := 22, pos := "header.go:68", after := #[], guard := none }) rfl (fun K hK => ?_) AllReadyH.nil
  go_simp
  refine hK.out _ _ ?_ (fun hHeld2 => ?_)
  · (try dsimp only); (first | exact s0 | exact s1 | exact s2)
  clear hK K hHeld
  have hHeld := hHeld2
  clear hHeld2
  try simp only [Act.put, List.setIfInBounds_toArray, List.set_cons_zero, List.set_cons_succ]
  refine wpAnyH_ready (rs := [3]) (by kernel_rfl) (by simp) ?_
  refine AllReadyH.cons (o := { dst := some 17, op := Go.Op.call { callee := Go.Callee.value (Go.Operand.func 48), args := #[Go.Operand.tmp 14, Go.Operand.const (Go.Value.int Go.IntKind.i64 0), Go.Operand.tmp 16], argTypes := #[22, 3, 2] }, type := 22, pos := "header.go:68", after := #[{ on := 0, ground := Go.Ground.data }, { on := 2, ground := Go.Ground.data }], guard := none }) rfl (fun K hK => ?_) AllReadyH.nil
  go_simp
  go_at_call 48; refine hPC.out.mono ?_; rintro e w2 ⟨v2, rfl, hv2, hb2⟩; have s2 := (hb2.cell (World.block_lt_of_cell? _ _ s1)).trans s1; have hB2 := hB1.below hb2; have hbl2 := bel_trans hbl1 hb2; obtain ⟨ad2, cap2, rfl, hcap2⟩ := hv2.len; replace hv2 := Lib.hid hv2; replace hb2 := Lib.hid hb2; replace hbl2 := Lib.hid hbl2
  refine hK.out _ _ ?_ (fun hHeld2 => ?_)
  · (try dsimp only); (first | exact s0 | exact s1 | exact s2)
  clear hK K hHeld
  have hHeld := hHeld2
  clear hHeld2
  try simp only [Act.put, List.setIfInBounds_toArray, List.set_cons_zero, List.set_cons_succ]
  refine wpAnyH_take (i := 4) (oi := { dst := some 4, op := Go.Op.assign (Go.Operand.tmp 17), type := 22, pos := "header.go:68", after := #[{ on := 3, ground := Go.Ground.data }, { on := 3, ground := Go.Ground.chain }, { on := 0, ground := Go.Ground.phase }, { on := 1, ground := Go.Ground.phase }, { on := 2, ground := Go.Ground.phase }, { on := 3, ground := Go.Ground.phase }], guard := none }) (v := ?v3) rfl (by kernel_rfl) (by kernel_rfl) (by kernel_rfl) (fun _ _ _ h => h) (Or.inl ⟨by rfl, ?hy3⟩) (by assumption) ?rest3
  case hy3 => (intro w hSw; (try dsimp only at hSw); go_simp <;> with_reducible rfl)
  try simp only [Act.put, List.setIfInBounds_toArray, List.set_cons_zero, List.set_cons_succ]
  refine wpAnyH_done (by kernel_rfl) ?_ _
  refine NoPanic.normal ?_
  have c2 : w2.cell? ⟨w.heap.size, 2, none⟩ = some (.string ⟨nm.toArray⟩) := by rw [hB2.cell]; rfl
  have c3 : w2.cell? ⟨w.heap.size, 3, none⟩ = some (.bool imm) := by rw [hB2.cell]; rfl
  have c4 : w2.cell? ⟨w.heap.size, 4, none⟩ = some (.bool hid) := by rw [hB2.cell]; rfl
  have hby := Lib.hid (fun w => wByteOf w nm.length imm hid (by omega))
  have hmN : markN nm.length imm hid < 256 := by unfold markN; cases imm <;> cases hid <;> simp <;> omega
  obtain ⟨mk, hmk2⟩ : ∃ mk, mk = UInt8.ofNat (markN nm.length imm hid) := ⟨_, rfl⟩
  have hmk3 : (markN nm.length imm hid : Int) = (mk.toNat : Int) := by rw [hmk2, UInt8.toNat_ofNat']; omega
  rw [hmk3] at hby
  have hmk2' := Lib.hid hmk2
  clear hmk2 hmk3 hmN
  have hA2 := (hv2.out.mono (show w.heap.size + 1 ≤ w1.heap.size by have := hB1.lt; omega)).alloc (.cells #[.int .u8 (mk.toNat : Int)] 5)
  have hL1 := Bs.lit1 w2 mk
  obtain ⟨v3, w3, hr3, hv3, hg3, ho3⟩ := Bs.append (P := Try.prog) (ty := 22) hA2 hL1 Try.underlying22 info5 (by have := hlen8.out; simp only [List.length_cons, List.length_nil]; omega) (by have := hB2.lt; simp; omega)
  have hB3 := ((hB2.alloc (.cells #[.int .u8 (mk.toNat : Int)] 5)).kept hg3 (fun e => by have h9 := hA2.ge (Nat.le_refl _) e.symm; omega))
  have hbl3 := Lib.hid ((bel_alloc hbl2.out (.cells #[.int .u8 (mk.toNat : Int)] 5)).grown hg3 (by have := hB2.lt; simp; omega) (fun k e => by have h9 := hA2.ge (Nat.le_refl _) e; omega))
  have hsrc := Src.ofString (P := Try.prog) w3 (tx := 9) Try.underlying9 ⟨nm.toArray⟩
  have hsz : (⟨nm.toArray⟩ : ByteArray).size = nm.length := by simp [ByteArray.size]
  have hcb : byteCells ⟨nm.toArray⟩ = cb nm := by simp [byteCells, cb]
  rw [hsz, hcb] at hsrc
  obtain ⟨v4, w4, hr4, hv4, hg4, ho4⟩ := Bs.appendS (P := Try.prog) (ty := 22) hv3 hsrc Try.underlying22 info5 h0' (by have := hlen8.out; simp only [List.length_append, List.length_cons, List.length_nil]; omega) (by have := hB3.lt; omega)
  have hbl4 := Lib.hid (hbl3.out.grown hg4 (by have := hB3.lt; omega) (fun k e => by have h9 := hv3.ge (Nat.le_refl _) e; omega))
  have d2 : w3.cell? ⟨w.heap.size, 2, none⟩ = some (.string ⟨nm.toArray⟩) := by rw [hB3.cell]; rfl
  obtain ⟨a3, n3, cc3, rfl⟩ := hv3.form
  obtain ⟨a4, n4, cc4, rfl⟩ := hv4.form
  obtain ⟨L, hL⟩ : ∃ L, L = L8 ++ [mk] ++ nm := ⟨_, rfl⟩
  rw [← hL] at hv4
  have hLl : L.length = 9 + nm.length := by rw [hL]; have := hlen8.out; simp only [List.length_append, List.length_cons, List.length_nil]; omega
  replace hLl := Lib.hid hLl
  replace hv4 := Lib.hid hv4
  have hL' := Lib.hid hL
  clear hL hsrc hsz hcb hv3 hg4 ho4 hg3 ho3 hL1 hA2 hB3
  go_upto_region 7 with (first | (go_at_call 62; refine (hby.out _).mono ?_; rintro e _ ⟨rfl, rfl⟩) | (at_builtin; refine wpList_append_bs rfl _ _ 22 rfl hr3 rfl rfl ?_))
  go_upto_region 8 with (at_builtin; refine wpList_append_bs2 rfl _ _ 22 9 rfl hr4 rfl rfl ?_)
  obtain ⟨pad, hpad⟩ : ∃ pad, pad = (8 - (9 + nm.length) % 8) % 8 := ⟨_, rfl⟩
  have hpad' := Lib.hid hpad
  clear hpad hr3 hr4 d2
  go_loopw [4] (fun b wr => ∃ k : Nat, k ≤ pad ∧ Bs wr (w.heap.size + 1) b (L ++ List.replicate k 0) ∧ Below w.heap.size w wr ∧ w.heap.size + 1 ≤ wr.heap.size) (fun b _ => (match b with | .slice _ n _ => 100 - n | _ => 0))
  case atStart => exact ⟨0, by omega, by simpa using hv4.out, hbl4.out, by
    have h1 := hbl4.out.size
    rcases hv4.out.lt with e | ⟨x, e, h2, h3⟩
    · cases a4 with
      | none =>
        have := hv4.out.len
        obtain ⟨a, c, he, hc⟩ := this
        cases he
        rcases hv4.out with ⟨h9, h10⟩ | ⟨b, o, c2, he2, _⟩
        · have := hLl.out; rw [h10] at this; simp at this; omega
        · cases he2
      | some x => cases e
    · omega⟩
  case round =>
    obtain ⟨k, hk, hb, hbel, hsz⟩ := hrel
    obtain ⟨a5, cc5, rfl, hcap5⟩ := hb.len
    obtain ⟨N, hN⟩ : ∃ N, (L ++ List.replicate k (0 : UInt8)).length = N := ⟨_, rfl⟩
    have hNe : N = 9 + nm.length + k := by rw [← hN, List.length_append, List.length_replicate, hLl.out]
    rw [hN]
    by_cases hkp : k < pad
    · have t2 : ((N : Int) % 8 != 0) = true := by
        have := hpad'.out
        simp only [bne_iff_ne, ne_eq]
        omega
      have hA5 := hb.alloc (.cells #[.int .u8 ((0 : UInt8).toNat : Int)] 5)
      obtain ⟨v6, w6, hr6, hv6, hg6, ho6⟩ := Bs.append (P := Try.prog) (ty := 22) hA5 (Bs.lit1 wr 0) Try.underlying22 info5 (by have := hpad'.out; rw [hN]; simp only [List.length_cons, List.length_nil]; omega) (by simp; omega)
      have hbl6 := Lib.hid ((bel_alloc hbel (.cells #[.int .u8 ((0 : UInt8).toNat : Int)] 5)).grown hg6 (by simp; omega) (fun k e => by have h9 := hA5.ge (Nat.le_refl _) e; omega))
      have hs6 : w.heap.size + 1 ≤ w6.heap.size := by have := hg6.size; simp at this; omega
      obtain ⟨a6, cc6, rfl, hcap6⟩ := hv6.len
      have hl6 : (L ++ List.replicate k (0 : UInt8) ++ [0]).length = N + 1 := by rw [List.length_append, hN]; rfl
      rw [hl6] at hr6
      rw [hN] at hr6
      have e6 : L ++ List.replicate k (0 : UInt8) ++ [0] = L ++ List.replicate (k + 1) 0 := by
        rw [List.append_assoc, ← List.replicate_succ']
      rw [hl6, e6] at hv6
      replace hv6 := Lib.hid hv6
      replace hNe := Lib.hid hNe
      have hkp' := Lib.hid hkp
      clear hg6 ho6 hA5 hb hbel hcap6 hl6 e6 hkp hN hcap5 hk
      go_wp2_with (at_builtin; refine wpList_append_bs rfl _ _ 22 rfl hr6 rfl rfl ?_)
      go_roundw
      case rel => exact ⟨k + 1, by have := hkp'.out; omega, hv6.out, hbl6.out, hs6⟩
      case measure => have := hNe.out; have := hpad'.out; have := hkp'.out; show 100 - (N + 1) < 100 - N; omega
    · have hkk : k = pad := by omega
      subst hkk
      have t2 : ((N : Int) % 8 != 0) = false := by
        have := hpad'.out
        simp only [bne_eq_false_iff_eq]
        omega
      rw [hN] at hb
      replace hb := Lib.hid hb
      replace hbel := Lib.hid hbel
      replace hNe := Lib.hid hNe
      clear hN hcap5 hkp hk
      go_wp2
      refine bodyPost_ret (v := .tuple #[.slice a5 N cc5, .int .i64 0]) (by simp [results, Try.results40, go_sem]) rfl ?_
      refine ⟨⟨_, rfl, ?_⟩, hbel.out⟩
      rw [← hmk2'.out, ← hL'.out, ← hpad'.out]
      exact hb.out.mono (by omega)

end Go.Proofs.Ytcfblcgdjhpdaaa
