/- Texts merged: H12 PB1 PB2 PB3 PB4 PB5 PB6 PB7 PB8. -/
import Derived.Test.YtcfblcgdjhpdaaaZ4
import Derived.Lib.LazyBuf
import Derived.WalkKit
import Derived.WalkSpells
import Derived.WalkLawsBesides
import Derived.WalkSmall
import Derived.Lib.Hide
import Derived.Deep.WholeRow
import Derived.Great.Walk
import Derived.Test.YtcfblcgdjhpdaaaProg
import Derived.Deep.CutRange
import Derived.Deep.DeepCutAuto
import Derived.RangeFuncNested
import Derived.RangeFuncBound
import Derived.RangeFuncCalls
import Derived.RangeFuncLeaves
import Derived.RangeFuncWrites
import Derived.Shelf.Abstract
import Derived.Shelf.RegionOpen
import Derived.OwnWalkIn
import Derived.TacticsInMore
import Derived.LoopNIn
import Derived.LoopIn
import Derived.Maps.OwnIn
import Derived.StringKeys
import Derived.Maps.OwnOps
import Derived.Maps.Views
/- The reference's 'Bytes'; 'HeaderBytes'. -/
namespace Go.Proofs.Ytcfblcgdjhpdaaa
open Go.RowKit
set_option linter.unusedVariables false
set_option linter.unusedSimpArgs false
attribute [local go_sem] cell_set set_set m_undef

/-- 'copy(b[j:], s)' -/
theorem Bs.splice {P : Program} {w : World} {B b o n cap : Nat} {l : List UInt8} (h : Bs w B (.slice (some ⟨b, o, none⟩) n cap) l) (j : Nat) (ds : List UInt8) (hj : j + ds.length ≤ l.length) {d sT e ty : TypeId} (hu : P.underlying d = some (.slice e)) (hz : ∀ w, (Go.sizeOf e).run P w = .ok 1 w)
    (dl dc : Nat) (hdl : ds.length ≤ dl) :
    ∃ w', (Builtin.copy_ #[d, sT] ty #[.slice (some ⟨b, o + j, none⟩) dl dc, .string ⟨ds.toArray⟩]).run P w = .ok (.int .i64 (ds.length : Int)) w' ∧ Bs w' B (.slice (some ⟨b, o, none⟩) n cap) (l.take j ++ ds ++ l.drop (j + ds.length)) ∧ w.grownBy w' (some b) := by
  rcases h with ⟨h, _⟩ | ⟨b', o', cap', he, h2, h3, h4, h5, h6⟩
  · cases h
  cases he
  have hsz : (⟨ds.toArray⟩ : ByteArray).size = ds.length := by simp [ByteArray.size]
  have hrun := run_copy_string (P := P) w d sT ty e b (o + j) dl dc ⟨ds.toArray⟩ hu hz (by rw [hsz]; exact hdl) (fun i hi => by rw [hsz] at hi; rw [Nat.add_assoc]; exact (h6 (j + i) (by omega)).1) (fun i hi => by rw [hsz] at hi; rw [Nat.add_assoc]; exact (h6 (j + i) (by omega)).2)
  have hcb : ((⟨ds.toArray⟩ : ByteArray).data.toList.map fun x => Value.int .u8 (x.toNat : Int)) = cb ds := by simp [cb]
  rw [hcb] at hrun
  refine ⟨_, ?_, ?_, grown_setCells b (o + j) (cb ds) w⟩
  · rw [hrun, hsz]; rfl
  obtain ⟨q1, _⟩ := setCells_size b (cb ds) (o + j) w
  have hlen : (l.take j ++ ds ++ l.drop (j + ds.length)).length = l.length := by simp; omega
  refine .inr ⟨b, o, cap, by rw [hlen], h2, by omega, by omega, fun i hi => ?_, fun i hi => ?_⟩
  · rw [hlen] at hi
    by_cases h1 : i < j
    · rw [World.cell?_setCells_out b _ _ _ _ (fun _ _ => .inl (by show o + i < _; omega)), h5 i hi, List.getElem_append_left (by simp; omega), List.getElem_append_left (by simp; omega), List.getElem_take]
    · by_cases h2' : i < j + ds.length
      · have := World.cell?_setCells_in b (cb ds) (o + j) w (fun x hx => by rw [cb_len] at hx; rw [Nat.add_assoc]; exact (h6 (j + x) (by omega)).1) (i - j) (by rw [cb_len]; omega)
        rw [show o + j + (i - j) = o + i by omega] at this
        rw [this, List.getElem_append_left (by simp; omega), List.getElem_append_right (by simp; omega)]
        simp [cb, Nat.min_eq_left (show j ≤ l.length by omega)]
      · have hil : i < l.length := hi
        rw [World.cell?_setCells_out b _ _ _ _ (fun _ _ => .inr (by rw [cb_len]; show _ ≤ o + i; omega)), h5 i hil, List.getElem_append_right (by simp; omega), List.getElem_drop]
        have ei : j + ds.length + (i - (l.take j ++ ds).length) = i := by simp; omega
        simp only [ei]
  · rw [World.frozen?_setCells]
    exact ⟨cell_isSome_setCells b _ _ _ _ (h6 i hi).1, (h6 i hi).2⟩
theorem rbytes_nil (w : World) (at_ link xt : Int) (imm hid : Bool) : Calls Try.prog 44 #[hdV at_ link [] imm hid xt] w fun e w' => e = .returned (.tuple #[.slice none 0 0, .int .i64 (-16)]) ∧ Below w.heap.size w w' := by
  unfold hdV
  go_enter Try.func44, Try.ntmps44
  go_wp2
  refine bodyPost_ret (v := .tuple #[.slice none 0 0, .int .i64 (-16)]) (by simp [results, Try.results44, go_sem]) rfl ?_
  exact ⟨rfl, bel_alloc (Below.refl _ _) _⟩
set_option maxHeartbeats 1000000 in
theorem rbytes_long (w : World) (at_ link xt : Int) (nm : List UInt8) (imm hid : Bool) (h0 : nm ≠ []) (hl : 31 < nm.length) : Calls Try.prog 44 #[hdV at_ link nm imm hid xt] w fun e w' => e = .returned (.tuple #[.slice none 0 0, .int .i64 (-19)]) ∧ Below w.heap.size w w' := by
  have hne := str_ne h0
  have t1 : ((31 : Int) < (nm.length : Int)) = True := by simp; omega
  unfold hdV
  clear h0 hl
  go_enter Try.func44, Try.ntmps44
  go_wp2
  refine bodyPost_ret (v := .tuple #[.slice none 0 0, .int .i64 (-19)]) (by simp [results, Try.results44, go_sem]) rfl ?_
  exact ⟨rfl, bel_alloc (Below.refl _ _) _⟩
/-- The reference's bytes are the same. -/
theorem bytesR_eq (link : Int) (nm : List UInt8) (imm hid : Bool) (hl : nm.length ≤ 31) :
    bytesL link nm imm hid = ((putCellL (List.replicate (9 + nm.length + (8 - (9 + nm.length) % 8) % 8) 0) 0 link).set 8 (UInt8.ofNat (markN nm.length imm hid))).take 9 ++ nm ++ ((putCellL (List.replicate (9 + nm.length + (8 - (9 + nm.length) % 8) % 8) 0) 0 link).set 8 (UInt8.ofNat (markN nm.length imm hid))).drop (9 + nm.length) := by
  obtain ⟨n, hn⟩ : ∃ n, n = nm.length := ⟨_, rfl⟩
  obtain ⟨p, hp⟩ : ∃ p, p = (8 - (9 + n) % 8) % 8 := ⟨_, rfl⟩
  unfold bytesL
  rw [← hn, ← hp]
  obtain ⟨mk, hmk⟩ : ∃ mk, mk = UInt8.ofNat (markN n imm hid) := ⟨_, rfl⟩
  rw [← hmk]
  have hA : ∀ L j : Nat, (putCellL (List.replicate L 0) 0 link).getD j 0 = if j < 8 ∧ j < L then UInt8.ofNat ((IntKind.u64.wrap link).toNat / 2 ^ (8 * j)) else 0 := by
    intro L j
    unfold putCellL
    rw [putL_getD]
    have e0 : ((j : Int) - 0).toNat = j := by omega
    rw [e0, List.length_replicate]
    have ez : (List.replicate L (0 : UInt8)).getD j 0 = 0 := by
      rw [List.getD_eq_getElem?_getD, List.getElem?_replicate]
      split <;> rfl
    rw [ez]
    by_cases h : j < 8 ∧ j < L
    · rw [if_pos h, if_pos ⟨by omega, by omega, h.2⟩]
    · rw [if_neg h, if_neg (by omega)]
  obtain ⟨A, hAe⟩ : ∃ A, A = putCellL (List.replicate (9 + n + p) 0) 0 link := ⟨_, rfl⟩
  have hAl : A.length = 9 + n + p := by rw [hAe]; unfold putCellL; rw [putL_len]; simp
  have hAd : ∀ j : Nat, A.getD j 0 = if j < 8 ∧ j < 9 + n + p then UInt8.ofNat ((IntKind.u64.wrap link).toNat / 2 ^ (8 * j)) else 0 := by rw [hAe]; exact hA _
  obtain ⟨E, hE⟩ : ∃ E, E = putCellL (List.replicate 8 0) 0 link := ⟨_, rfl⟩
  have hEl : E.length = 8 := by rw [hE]; unfold putCellL; rw [putL_len]; simp
  have hEd : ∀ j : Nat, E.getD j 0 = if j < 8 ∧ j < 8 then UInt8.ofNat ((IntKind.u64.wrap link).toNat / 2 ^ (8 * j)) else 0 := by rw [hE]; exact hA 8
  rw [← hAe, ← hE]
  have e1 : (A.set 8 mk).take 9 = E ++ [mk] := by
    apply List.ext_getElem
    · simp; omega
    · intro i h1 h2
      have hi : i < 9 := by simp at h1; omega
      rw [List.getElem_take, List.getElem_set]
      by_cases h8 : i < 8
      · rw [if_neg (by omega), List.getElem_append_left (by omega)]
        have a1 := hAd i
        have a2 := hEd i
        rw [if_pos ⟨h8, by omega⟩, List.getD_eq_getElem?_getD, List.getElem?_eq_getElem (by omega)] at a1
        rw [if_pos ⟨h8, h8⟩, List.getD_eq_getElem?_getD, List.getElem?_eq_getElem (by omega)] at a2
        simp only [Option.getD_some] at a1 a2
        rw [a1, a2]
      · have : i = 8 := by omega
        subst this
        rw [if_pos rfl, List.getElem_append_right (by omega)]
        simp [hEl]
  have e2 : (A.set 8 mk).drop (9 + n) = List.replicate p 0 := by
    apply List.ext_getElem
    · simp; omega
    · intro i h1 h2
      have hi : i < p := by simpa using h2
      rw [List.getElem_drop, List.getElem_set, if_neg (by omega), List.getElem_replicate]
      have a1 := hAd (9 + n + i)
      rw [if_neg (by omega), List.getD_eq_getElem?_getD, List.getElem?_eq_getElem (by omega)] at a1
      simpa using a1
  rw [e1, e2]
set_option maxRecDepth 100000 in
set_option maxHeartbeats 1000000 in
theorem rbytes_good (w : World) (at_ link xt : Int) (nm : List UInt8) (imm hid : Bool) (h0 : nm ≠ []) (hl : nm.length ≤ 31) : Calls Try.prog 44 #[hdV at_ link nm imm hid xt] w fun e w' => (∃ v, e = .returned (.tuple #[v, .int .i64 0]) ∧ Bs w' w.heap.size v (bytesL link nm imm hid)) ∧ Below w.heap.size w w' := by
  have hne := str_ne h0
  have t1 : ((31 : Int) < (nm.length : Int)) = False := by simp; omega
  unfold hdV
  obtain ⟨L, hLe⟩ : ∃ L, L = 9 + nm.length + (8 - (9 + nm.length) % 8) % 8 := ⟨_, rfl⟩
  have hal : alignZ ((9 + nm.length : Nat) : Int) = (L : Int) := by rw [alignZ_up _ (by omega)]; omega
  have hAl := Lib.hid (fun w => rAlign w ((9 + nm.length : Nat) : Int) (by unfold isI; omega))
  rw [hal] at hAl
  obtain ⟨n9, hn9⟩ : ∃ n9 : Int, n9 = ((9 + nm.length : Nat) : Int) := ⟨_, rfl⟩
  rw [← hn9] at hAl
  have wz : IntKind.i64.wrap (9 + (nm.length : Int)) = n9 := by rw [hn9, IntKind.wrap_i64]; omega
  have hLs := Lib.hid (show L ≤ 1000000 by omega)
  have hL9 := Lib.hid (show 8 < L by omega)
  have hL10 := Lib.hid (show 9 < L by have := List.length_pos_iff.2 h0; omega)
  obtain ⟨L8, hL8⟩ : ∃ L8, L8 = putCellL (List.replicate L 0) 0 link := ⟨_, rfl⟩
  have hL8n := Lib.hid (show L8.length = L by rw [hL8]; unfold putCellL; rw [putL_len]; simp)
  have hL80 := Lib.hid (show L8 ≠ [] by intro e; have := hL8n.out; have := hL9.out; rw [e] at *; simp at *; omega)
  have hby := Lib.hid (fun w => rmark w nm.length imm hid (by omega))
  have hmN : markN nm.length imm hid < 256 := (markN_lt _ _ _ (by omega)).1
  obtain ⟨mk, hmk2⟩ : ∃ mk, mk = UInt8.ofNat (markN nm.length imm hid) := ⟨_, rfl⟩
  have hmk3 : (markN nm.length imm hid : Int) = (mk.toNat : Int) := by rw [hmk2, UInt8.toNat_ofNat']; omega
  rw [hmk3] at hby
  replace hmk2 := Lib.hid hmk2
  clear hmk3 hmN hal
  obtain ⟨w0, hw0⟩ : ∃ w0, w0 = w.alloc (.cells #[.int .i64 at_, .int .i64 link, .string ⟨nm.toArray⟩, .bool imm, .bool hid, .int .i64 xt] 34) := ⟨_, rfl⟩
  have hB0 : Blk w0 w.heap.size #[.int .i64 at_, .int .i64 link, .string ⟨nm.toArray⟩, .bool imm, .bool hid, .int .i64 xt] 34 := by subst hw0; exact Blk.new _ _ _
  have hbl0 := Lib.hid (show Below w.heap.size w w0 by subst hw0; exact bel_alloc (Below.refl _ _) _)
  have hmk := fun w9 => run_made w9 L hLs.out
  replace hLe := Lib.hid hLe
  replace hL8 := Lib.hid hL8
  replace hl := Lib.hid hl
  replace hn9 := Lib.hid hn9
  clear h0
  obtain ⟨y1, y2, y3, y4, y5, y6⟩ := hB0.c6
  go_enter Try.func44, Try.ntmps44
  go_upto_region 1 with fail
  rw [← hw0]
  clear hw0
  go_upto_region 5 with fail
  refine wp_region_noPanic ?_
  refine wp_region_held_drew (S := (fun w' => w'.cell? ⟨w.heap.size, 1, none⟩ = some (.int .i64 link) ∧ w'.cell? ⟨w.heap.size, 2, none⟩ = some (.string ⟨nm.toArray⟩))) (by kernel_rfl) ?_ (fun hHeld => ?_)
  · (try dsimp only); exact ⟨y2, y3⟩
  refine wpAnyH_take (i := 0) (oi := { dst := some 12, op := Go.Op.fieldAddr 34 (Go.Operand.tmp 1) 2, type := 0, pos := "ref.go:61", after := #[], guard := none }) (v := ?v5) rfl (by kernel_rfl) (by kernel_rfl) (by kernel_rfl) (fun _ _ _ h => h) (Or.inl ⟨by rfl, ?hy5⟩) (by assumption) ?rest5
  case hy5 => (intro w hSw; (try dsimp only at hSw); go_simp <;> with_reducible rfl)
  try simp only [Act.put, List.setIfInBounds_toArray, List.set_cons_zero, List.set_cons_succ]
  refine wpAnyH_take (i := 1) (oi := { dst := some 13, op := Go.Op.load 9 (Go.Operand.tmp 12), type := 9, pos := "ref.go:61", after := #[{ on := 0, ground := Go.Ground.data }], guard := none }) (v := ?v6) rfl (by kernel_rfl) (by kernel_rfl) (by kernel_rfl) (fun _ _ _ h => h) (Or.inl ⟨by rfl, ?hy6⟩) (by assumption) ?rest6
  case hy6 => (intro w hSw; (try dsimp only at hSw); go_simp <;> with_reducible rfl)
  try simp only [Act.put, List.setIfInBounds_toArray, List.set_cons_zero, List.set_cons_succ]
  refine wpAnyH_take (i := 2) (oi := { dst := some 14, op := Go.Op.call { callee := Go.Callee.builtin Go.Builtin.len, args := #[Go.Operand.tmp 13], argTypes := #[9] }, type := 3, pos := "ref.go:61", after := #[{ on := 1, ground := Go.Ground.data }], guard := none }) (v := ?v7) rfl (by kernel_rfl) (by kernel_rfl) (by kernel_rfl) (fun _ _ _ h => h) (Or.inl ⟨by rfl, ?hy7⟩) (by assumption) ?rest7
  case hy7 => (intro w hSw; (try dsimp only at hSw); go_simp <;> with_reducible rfl)
  try simp only [Act.put, List.setIfInBounds_toArray, List.set_cons_zero, List.set_cons_succ]
  refine wpAnyH_take (i := 3) (oi := { dst := some 15, op := Go.Op.binOp Go.BinOp.add 3 (Go.Operand.const (Go.Value.int Go.IntKind.i64 9)) (Go.Operand.tmp 14) 3, type := 3, pos := "ref.go:61", after := #[{ on := 2, ground := Go.Ground.data }], guard := none }) (v := ?v8) rfl (by kernel_rfl) (by kernel_rfl) (by kernel_rfl) (fun _ _ _ h => h) (Or.inl ⟨by rfl, ?hy8⟩) (by assumption) ?rest8
  case hy8 => (intro w hSw; (try dsimp only at hSw); go_simp <;> with_reducible rfl)
  try simp only [Act.put, List.setIfInBounds_toArray, List.set_cons_zero, List.set_cons_succ]
  refine wpAnyH_take (i := 6) (oi := { dst := some 18, op := Go.Op.fieldAddr 34 (Go.Operand.tmp 1) 1, type := 0, pos := "ref.go:61", after := #[], guard := none }) (v := ?v9) rfl (by kernel_rfl) (by kernel_rfl) (by kernel_rfl) (fun _ _ _ h => h) (Or.inl ⟨by rfl, ?hy9⟩) (by assumption) ?rest9
  case hy9 => (intro w hSw; (try dsimp only at hSw); go_simp <;> with_reducible rfl)
  try simp only [Act.put, List.setIfInBounds_toArray, List.set_cons_zero, List.set_cons_succ]
  refine wpAnyH_take (i := 7) (oi := { dst := some 19, op := Go.Op.load 2 (Go.Operand.tmp 18), type := 2, pos := "ref.go:61", after := #[{ on := 6, ground := Go.Ground.data }], guard := none }) (v := ?v10) rfl (by kernel_rfl) (by kernel_rfl) (by kernel_rfl) (fun _ _ _ h => h) (Or.inl ⟨by rfl, ?hy10⟩) (by assumption) ?rest10
  case hy10 => (intro w hSw; (try dsimp only at hSw); go_simp <;> with_reducible rfl)
  try simp only [Act.put, List.setIfInBounds_toArray, List.set_cons_zero, List.set_cons_succ]
  refine wpAnyH_ready (rs := [4]) (by kernel_rfl) (by simp) ?_
  refine AllReadyH.cons (o := { dst := some 16, op := Go.Op.call { callee := Go.Callee.value (Go.Operand.func 45), args := #[Go.Operand.tmp 15], argTypes := #[2] }, type := 2, pos := "ref.go:61", after := #[{ on := 3, ground := Go.Ground.data }], guard := none }) rfl (fun K hK => ?_) AllReadyH.nil
  go_simp
  go_at_call 45; refine (hAl.out _).mono ?_; rintro e _ ⟨rfl, rfl⟩
  refine hK.out _ _ ?_ (fun hHeld2 => ?_)
  · (try dsimp only); exact ⟨y2, y3⟩
  clear hK K hHeld
  have hHeld := hHeld2
  clear hHeld2
  try simp only [Act.put, List.setIfInBounds_toArray, List.set_cons_zero, List.set_cons_succ]
  refine wpAnyH_ready (rs := [5]) (by kernel_rfl) (by simp) ?_
  refine AllReadyH.cons (o := { dst := some 17, op := Go.Op.makeSlice 22 (Go.Operand.tmp 16) (Go.Operand.tmp 16), type := 22, pos := "ref.go:61", after := #[{ on := 4, ground := Go.Ground.data }, { on := 4, ground := Go.Ground.data }], guard := none }) rfl (fun K hK => ?_) AllReadyH.nil
  go_simp
  obtain ⟨w1, hw1⟩ : ∃ w1, w1 = (w0.alloc (.cells (cb (List.replicate L 0)).toArray 5)).drew := ⟨_, rfl⟩; rw [← hw1]; have hbx : Below w0.heap.size w0 w1 := (by subst hw1; exact bel_drew (bel_alloc (Below.refl _ _) _)); have hZ : Bs w1 0 (.slice (some ⟨w0.heap.size, 0, none⟩) L L) (List.replicate L 0) := (by subst hw1; exact Bs.of_blk (Blk.drew (Blk.new w0 (cb (List.replicate L 0)).toArray 5)) (by simp)); replace hB0 := Blk.below hB0 hbx; replace hbl0 := Lib.hid (bel_trans hbl0.out hbx); have hPC := Lib.hid (rPutCell w1 0 _ _ 0 link hZ (by unfold isI; omega) (by simpa using hLs.out)); clear hw1 hbx hZ hmk; clear y1 y2 y3 y4 y5 y6; obtain ⟨y1, y2, y3, y4, y5, y6⟩ := hB0.c6; have hs1 := Lib.hid (show w.heap.size < w1.heap.size from hB0.lt)
  refine hK.out _ _ ?_ (fun hHeld2 => ?_)
  · (try dsimp only); exact ⟨y2, y3⟩
  clear hK K hHeld
  have hHeld := hHeld2
  clear hHeld2
  try simp only [Act.put, List.setIfInBounds_toArray, List.set_cons_zero, List.set_cons_succ]
  refine wpAnyH_ready (rs := [8]) (by kernel_rfl) (by simp) ?_
  refine AllReadyH.cons (o := { dst := some 20, op := Go.Op.call { callee := Go.Callee.value (Go.Operand.func 49), args := #[Go.Operand.tmp 17, Go.Operand.const (Go.Value.int Go.IntKind.i64 0), Go.Operand.tmp 19], argTypes := #[22, 3, 2] }, type := 22, pos := "ref.go:61", after := #[{ on := 5, ground := Go.Ground.data }, { on := 7, ground := Go.Ground.data }, { on := 4, ground := Go.Ground.chain }], guard := none }) rfl (fun K hK => ?_) AllReadyH.nil
  go_simp
  go_at_call 49; refine hPC.out.mono ?_; rintro e w2 ⟨v2, rfl, hv2, hb2⟩; rw [← hL8.out] at hv2; replace hB0 := hB0.below hb2; replace hbl0 := Lib.hid (bel_trans hbl0.out hb2); obtain ⟨bb, oo, cap, he⟩ := hv2.some_of hL80.out; rw [hL8n.out] at he; subst he; have hlo := Lib.hid (show w.heap.size < bb from Nat.lt_of_lt_of_le hs1.out hv2.lt2.1); clear hPC; clear y1 y2 y3 y4 y5 y6; obtain ⟨y1, y2, y3, y4, y5, y6⟩ := hB0.c6
  refine hK.out _ _ ?_ (fun hHeld2 => ?_)
  · (try dsimp only); exact ⟨y2, y3⟩
  clear hK K hHeld
  have hHeld := hHeld2
  clear hHeld2
  try simp only [Act.put, List.setIfInBounds_toArray, List.set_cons_zero, List.set_cons_succ]
  refine wpAnyH_take (i := 9) (oi := { dst := some 4, op := Go.Op.assign (Go.Operand.tmp 20), type := 22, pos := "ref.go:61", after := #[{ on := 8, ground := Go.Ground.data }, { on := 8, ground := Go.Ground.chain }, { on := 0, ground := Go.Ground.phase }, { on := 1, ground := Go.Ground.phase }, { on := 2, ground := Go.Ground.phase }, { on := 3, ground := Go.Ground.phase }, { on := 4, ground := Go.Ground.phase }, { on := 5, ground := Go.Ground.phase }, { on := 6, ground := Go.Ground.phase }, { on := 7, ground := Go.Ground.phase }, { on := 8, ground := Go.Ground.phase }], guard := none }) (v := ?v11) rfl (by kernel_rfl) (by kernel_rfl) (by kernel_rfl) (fun _ _ _ h => h) (Or.inl ⟨by rfl, ?hy11⟩) (by assumption) ?rest11
  case hy11 => (intro w hSw; (try dsimp only at hSw); go_simp <;> with_reducible rfl)
  try simp only [Act.put, List.setIfInBounds_toArray, List.set_cons_zero, List.set_cons_succ]
  refine wpAnyH_done (by kernel_rfl) ?_ _
  refine NoPanic.normal ?_
  obtain ⟨r1, r1f⟩ := hv2.at 8 (by rw [hL8n.out]; exact hL9.out)
  have hi8 : (8 : Int) < (L : Int) := by have := hL9.out; omega
  go_upto_region 7 with (go_at_call 52; refine (hby.out _).mono ?_; rintro e _ ⟨rfl, rfl⟩)
  have hv3 := hv2.setAt 8 mk (by rw [hL8n.out]; exact hL9.out)
  have hB3 := hB0.set_other (b' := bb) (by have := hlo.out; omega) (oo + 8) (.int .u8 (mk.toNat : Int))
  have hbl3 := Lib.hid (bel_set hbl0.out (b := bb) (o := oo + 8) (by have := hlo.out; omega) (.int .u8 (mk.toNat : Int)))
  obtain ⟨w3, hw3⟩ : ∃ w3, w3 = w2.setCell ⟨bb, oo + 8, none⟩ (.int .u8 (mk.toNat : Int)) := ⟨_, rfl⟩
  rw [← hw3] at hv3 hB3 hbl3 ⊢
  clear hw3 r1 r1f hv2 hB0 hbl0 y1 y2 y3 y4 y5 y6
  obtain ⟨y1, y2, y3, y4, y5, y6⟩ := hB3.c6
  have hc9 : (cap = 9) = False := by have h1 := hL10.out; have h2 := hv3.len2; simp only [eq_iff_iff, iff_false]; omega
  have hi9 : (9 : Int) ≤ (L : Int) := by have := hL9.out; omega
  obtain ⟨w4, hr4, hv4, hg4⟩ := Bs.splice (P := Try.prog) (w := w3.drew) (ty := 3) (hv3.below (bel_drew (Below.refl _ _))) 9 nm (by rw [List.length_set, hL8n.out]; have := hLe.out; omega) (d := 22) (sT := 9) Try.underlying22 (by intro w; kernel_rfl) (L - 9) (cap - 9) (by have := hLe.out; omega)
  refine wp_region_noPanic ?_
  refine wp_region_held_drew (S := (fun w' => w'.cell? ⟨w.heap.size, 2, none⟩ = some (.string ⟨nm.toArray⟩))) (by kernel_rfl) ?_ (fun hHeld => ?_)
  · (try dsimp only); first | exact y3 | exact ((Blk.drew hB3).kept hg4 (fun e => by have e2 := Option.some.inj e; have := hlo.out; omega)).c6.2.2.1
  refine wpAnyH_take (i := 0) (oi := { dst := some 31, op := Go.Op.move (Go.Operand.tmp 4), type := 22, pos := "ref.go:63", after := #[], guard := none }) (v := ?v1) rfl (by kernel_rfl) (by kernel_rfl) (by kernel_rfl) (fun _ _ _ h => h) (Or.inl ⟨by rfl, ?hy1⟩) (by assumption) ?rest1
  case hy1 => (intro w hSw; (try dsimp only at hSw); go_simp <;> with_reducible rfl)
  try simp only [Act.put, List.setIfInBounds_toArray, List.set_cons_zero, List.set_cons_succ]
  refine wpAnyH_take (i := 1) (oi := { dst := some 32, op := Go.Op.slice 22 (Go.Operand.tmp 31) (some (Go.Operand.const (Go.Value.int Go.IntKind.i64 9))) none none, type := 22, pos := "ref.go:63", after := #[{ on := 0, ground := Go.Ground.data }], guard := none }) (v := ?v2) rfl (by kernel_rfl) (by kernel_rfl) (by kernel_rfl) (fun _ _ _ h => h) (Or.inl ⟨by rfl, ?hy2⟩) (by assumption) ?rest2
  case hy2 => (intro w hSw; (try dsimp only at hSw); go_simp <;> with_reducible rfl)
  try simp only [Act.put, List.setIfInBounds_toArray, List.set_cons_zero, List.set_cons_succ]
  refine wpAnyH_take (i := 2) (oi := { dst := some 33, op := Go.Op.fieldAddr 34 (Go.Operand.tmp 1) 2, type := 0, pos := "ref.go:63", after := #[], guard := none }) (v := ?v3) rfl (by kernel_rfl) (by kernel_rfl) (by kernel_rfl) (fun _ _ _ h => h) (Or.inl ⟨by rfl, ?hy3⟩) (by assumption) ?rest3
  case hy3 => (intro w hSw; (try dsimp only at hSw); go_simp <;> with_reducible rfl)
  try simp only [Act.put, List.setIfInBounds_toArray, List.set_cons_zero, List.set_cons_succ]
  refine wpAnyH_take (i := 3) (oi := { dst := some 34, op := Go.Op.load 9 (Go.Operand.tmp 33), type := 9, pos := "ref.go:63", after := #[{ on := 2, ground := Go.Ground.data }], guard := none }) (v := ?v4) rfl (by kernel_rfl) (by kernel_rfl) (by kernel_rfl) (fun _ _ _ h => h) (Or.inl ⟨by rfl, ?hy4⟩) (by assumption) ?rest4
  case hy4 => (intro w hSw; (try dsimp only at hSw); go_simp <;> with_reducible rfl)
  try simp only [Act.put, List.setIfInBounds_toArray, List.set_cons_zero, List.set_cons_succ]
  refine wpAnyH_ready (rs := [4]) (by kernel_rfl) (by simp) ?_
  refine AllReadyH.cons (o := { dst := some 35, op := Go.Op.call { callee := Go.Callee.builtin Go.Builtin.copy, args := #[Go.Operand.tmp 32, Go.Operand.tmp 34], argTypes := #[22, 9] }, type := 3, pos := "ref.go:63", after := #[{ on := 1, ground := Go.Ground.data }, { on := 3, ground := Go.Ground.data }], guard := none }) rfl (fun K hK => ?_) AllReadyH.nil
  go_simp
  refine hK.out _ _ ?_ (fun hHeld2 => ?_)
  · (try dsimp only); first | exact y3 | exact ((Blk.drew hB3).kept hg4 (fun e => by have e2 := Option.some.inj e; have := hlo.out; omega)).c6.2.2.1
  clear hK K hHeld
  have hHeld := hHeld2
  clear hHeld2
  try simp only [Act.put, List.setIfInBounds_toArray, List.set_cons_zero, List.set_cons_succ]
  refine wpAnyH_done (by kernel_rfl) ?_ _
  refine NoPanic.normal ?_
  have hbl4 := hbl3.out.drew.grown hg4 (Nat.le_of_lt (show w.heap.size < w3.heap.size from hB3.lt)) (fun k e => by cases e; have := hlo.out; omega)
  go_wp2
  refine bodyPost_ret (v := .tuple #[.slice (some ⟨bb, oo, none⟩) L cap, .int .i64 0]) (by simp [results, Try.results44, go_sem]) rfl ?_
  refine ⟨⟨_, rfl, ?_⟩, hbl4⟩
  rw [bytesR_eq link nm imm hid hl.out, ← hLe.out, ← hL8.out, ← hmk2.out]
  refine hv4.rebase (fun k hk => by have e := Option.some.inj hk; subst e; exact Nat.le_of_lt hlo.out)
/-- Both give the same. -/
def BothP (w w' : World) (nm bl : List UInt8) (e : Ending) : Prop :=
  ∃ v t, e = .returned (.tuple #[v, .int .i64 t]) ∧ Bs w' w.heap.size v bl ∧ Below w.heap.size w w' ∧ t = (if nm = [] then -16 else if 31 < nm.length then -19 else 0)
def bytesAny (link : Int) (nm : List UInt8) (imm hid : Bool) : List UInt8 := if nm = [] then [] else if 31 < nm.length then [] else bytesL link nm imm hid
theorem wBytesAny (w : World) (at_ link xt : Int) (nm : List UInt8) (imm hid : Bool) : Calls Try.prog 40 #[hdV at_ link nm imm hid xt] w fun e w' => BothP w w' nm (bytesAny link nm imm hid) e := by
  unfold BothP bytesAny
  by_cases h0 : nm = []
  · subst h0
    exact (bytes_nil w at_ link xt imm hid).mono fun e w' ⟨he, hb⟩ => ⟨_, _, he, .inl ⟨rfl, by simp⟩, hb, by simp⟩
  · by_cases h1 : 31 < nm.length
    · exact (bytes_long w at_ link xt nm imm hid h0 h1).mono fun e w' ⟨he, hb⟩ => ⟨_, _, he, .inl ⟨rfl, by simp [h0, h1]⟩, hb, by simp [h0, h1]⟩
    · exact (bytes_good w at_ link xt nm imm hid h0 (by omega)).mono fun e w' ⟨⟨v, he, hv⟩, hb⟩ => ⟨v, _, he, by rw [if_neg h0, if_neg h1]; exact hv, hb, by rw [if_neg h0, if_neg h1]⟩
theorem rBytesAny (w : World) (at_ link xt : Int) (nm : List UInt8) (imm hid : Bool) : Calls Try.prog 44 #[hdV at_ link nm imm hid xt] w fun e w' => BothP w w' nm (bytesAny link nm imm hid) e := by
  unfold BothP bytesAny
  by_cases h0 : nm = []
  · subst h0
    exact (rbytes_nil w at_ link xt imm hid).mono fun e w' ⟨he, hb⟩ => ⟨_, _, he, .inl ⟨rfl, by simp⟩, hb, by simp⟩
  · by_cases h1 : 31 < nm.length
    · exact (rbytes_long w at_ link xt nm imm hid h0 h1).mono fun e w' ⟨he, hb⟩ => ⟨_, _, he, .inl ⟨rfl, by simp [h0, h1]⟩, hb, by simp [h0, h1]⟩
    · exact (rbytes_good w at_ link xt nm imm hid h0 (by omega)).mono fun e w' ⟨⟨v, he, hv⟩, hb⟩ => ⟨v, _, he, by rw [if_neg h0, if_neg h1]; exact hv, hb, by rw [if_neg h0, if_neg h1]⟩
end Go.Proofs.Ytcfblcgdjhpdaaa


/- The two tables: what 'rows' and 'table' give, as lists. -/
namespace Go.Proofs.Ytcfblcgdjhpdaaa
open Go.RowKit
set_option linter.unusedVariables false
set_option linter.unusedSimpArgs false

/-- A row of 'rows': name, takes, lays, now, only. -/
abbrev Row := ByteArray × Int × Int × Bool × Bool
/-- A row of 'table': name, takes, lays, mark. -/
abbrev TRow := ByteArray × Int × Int × Int
noncomputable def rowL : List Row := [
  (⟨#[]⟩, 0, 0, false, false),
  (⟨#[69, 88, 73, 84]⟩, 0, 0, false, false),
  (⟨#[40, 108, 105, 116, 41]⟩, 0, 1, false, false),
  (⟨#[40, 98, 114, 97, 110, 99, 104, 41]⟩, 0, 0, false, false),
  (⟨#[40, 48, 98, 114, 97, 110, 99, 104, 41]⟩, 1, 0, false, false),
  (⟨#[40, 100, 111, 41]⟩, 2, 0, false, false),
  (⟨#[40, 108, 111, 111, 112, 41]⟩, 0, 0, false, false),
  (⟨#[40, 43, 108, 111, 111, 112, 41]⟩, 1, 0, false, false),
  (⟨#[40, 115, 34, 41]⟩, 0, 2, false, false),
  (⟨#[40, 46, 34, 41]⟩, 0, 0, false, false),
  (⟨#[40, 97, 98, 111, 114, 116, 34, 41]⟩, 1, 0, false, false),
  (⟨#[40, 100, 111, 101, 115, 41]⟩, 0, 0, false, false),
  (⟨#[69, 88, 69, 67, 85, 84, 69]⟩, 1, 0, false, false),
  (⟨#[68, 85, 80]⟩, 1, 2, false, false),
  (⟨#[68, 82, 79, 80]⟩, 1, 0, false, false),
  (⟨#[83, 87, 65, 80]⟩, 2, 2, false, false),
  (⟨#[79, 86, 69, 82]⟩, 2, 3, false, false),
  (⟨#[82, 79, 84]⟩, 3, 3, false, false),
  (⟨#[63, 68, 85, 80]⟩, 1, 2, false, false),
  (⟨#[50, 68, 85, 80]⟩, 2, 4, false, false),
  (⟨#[50, 68, 82, 79, 80]⟩, 2, 0, false, false),
  (⟨#[50, 83, 87, 65, 80]⟩, 4, 4, false, false),
  (⟨#[50, 79, 86, 69, 82]⟩, 4, 6, false, false),
  (⟨#[68, 69, 80, 84, 72]⟩, 0, 1, false, false),
  (⟨#[62, 82]⟩, 1, 0, false, false),
  (⟨#[82, 62]⟩, 0, 1, false, false),
  (⟨#[82, 64]⟩, 0, 1, false, false),
  (⟨#[43]⟩, 2, 1, false, false),
  (⟨#[45]⟩, 2, 1, false, false),
  (⟨#[42]⟩, 2, 1, false, false),
  (⟨#[47]⟩, 2, 1, false, false),
  (⟨#[77, 79, 68]⟩, 2, 1, false, false),
  (⟨#[47, 77, 79, 68]⟩, 2, 2, false, false),
  (⟨#[42, 47]⟩, 3, 1, false, false),
  (⟨#[42, 47, 77, 79, 68]⟩, 3, 2, false, false),
  (⟨#[78, 69, 71, 65, 84, 69]⟩, 1, 1, false, false),
  (⟨#[65, 66, 83]⟩, 1, 1, false, false),
  (⟨#[77, 73, 78]⟩, 2, 1, false, false),
  (⟨#[77, 65, 88]⟩, 2, 1, false, false),
  (⟨#[49, 43]⟩, 1, 1, false, false),
  (⟨#[49, 45]⟩, 1, 1, false, false),
  (⟨#[50, 42]⟩, 1, 1, false, false),
  (⟨#[50, 47]⟩, 1, 1, false, false),
  (⟨#[76, 83, 72, 73, 70, 84]⟩, 2, 1, false, false),
  (⟨#[82, 83, 72, 73, 70, 84]⟩, 2, 1, false, false),
  (⟨#[65, 78, 68]⟩, 2, 1, false, false),
  (⟨#[79, 82]⟩, 2, 1, false, false),
  (⟨#[88, 79, 82]⟩, 2, 1, false, false),
  (⟨#[73, 78, 86, 69, 82, 84]⟩, 1, 1, false, false),
  (⟨#[61]⟩, 2, 1, false, false),
  (⟨#[60]⟩, 2, 1, false, false),
  (⟨#[62]⟩, 2, 1, false, false),
  (⟨#[85, 60]⟩, 2, 1, false, false),
  (⟨#[48, 61]⟩, 1, 1, false, false),
  (⟨#[48, 60]⟩, 1, 1, false, false),
  (⟨#[77, 42]⟩, 2, 2, false, false),
  (⟨#[85, 77, 42]⟩, 2, 2, false, false),
  (⟨#[85, 77, 47, 77, 79, 68]⟩, 3, 2, false, false),
  (⟨#[83, 77, 47, 82, 69, 77]⟩, 3, 2, false, false),
  (⟨#[70, 77, 47, 77, 79, 68]⟩, 3, 2, false, false),
  (⟨#[83, 62, 68]⟩, 1, 2, false, false),
  (⟨#[64]⟩, 1, 1, false, false),
  (⟨#[33]⟩, 2, 0, false, false),
  (⟨#[67, 64]⟩, 1, 1, false, false),
  (⟨#[67, 33]⟩, 2, 0, false, false),
  (⟨#[43, 33]⟩, 2, 0, false, false),
  (⟨#[50, 64]⟩, 1, 2, false, false),
  (⟨#[50, 33]⟩, 3, 0, false, false),
  (⟨#[67, 69, 76, 76, 43]⟩, 1, 1, false, false),
  (⟨#[67, 69, 76, 76, 83]⟩, 1, 1, false, false),
  (⟨#[67, 72, 65, 82, 43]⟩, 1, 1, false, false),
  (⟨#[67, 72, 65, 82, 83]⟩, 1, 1, false, false),
  (⟨#[65, 76, 73, 71, 78]⟩, 0, 0, false, false),
  (⟨#[65, 76, 73, 71, 78, 69, 68]⟩, 1, 1, false, false),
  (⟨#[72, 69, 82, 69]⟩, 0, 1, false, false),
  (⟨#[65, 76, 76, 79, 84]⟩, 1, 0, false, false),
  (⟨#[44]⟩, 1, 0, false, false),
  (⟨#[67, 44]⟩, 1, 0, false, false),
  (⟨#[70, 73, 76, 76]⟩, 3, 0, false, false),
  (⟨#[77, 79, 86, 69]⟩, 3, 0, false, false),
  (⟨#[67, 79, 85, 78, 84]⟩, 1, 2, false, false),
  (⟨#[66, 65, 83, 69]⟩, 0, 1, false, false),
  (⟨#[83, 84, 65, 84, 69]⟩, 0, 1, false, false),
  (⟨#[68, 69, 67, 73, 77, 65, 76]⟩, 0, 0, false, false),
  (⟨#[72, 69, 88]⟩, 0, 0, false, false),
  (⟨#[69, 77, 73, 84]⟩, 1, 0, false, false),
  (⟨#[84, 89, 80, 69]⟩, 2, 0, false, false),
  (⟨#[46]⟩, 1, 0, false, false),
  (⟨#[85, 46]⟩, 1, 0, false, false),
  (⟨#[67, 82]⟩, 0, 0, false, false),
  (⟨#[83, 80, 65, 67, 69]⟩, 0, 0, false, false),
  (⟨#[83, 80, 65, 67, 69, 83]⟩, 1, 0, false, false),
  (⟨#[66, 76]⟩, 0, 1, false, false),
  (⟨#[73]⟩, 0, 1, false, false),
  (⟨#[74]⟩, 0, 1, false, false),
  (⟨#[85, 78, 76, 79, 79, 80]⟩, 0, 0, false, false),
  (⟨#[58]⟩, 0, 0, false, false),
  (⟨#[59]⟩, 0, 0, true, true),
  (⟨#[67, 82, 69, 65, 84, 69]⟩, 0, 0, false, false),
  (⟨#[86, 65, 82, 73, 65, 66, 76, 69]⟩, 0, 0, false, false),
  (⟨#[67, 79, 78, 83, 84, 65, 78, 84]⟩, 1, 0, false, false),
  (⟨#[68, 79, 69, 83, 62]⟩, 0, 0, true, true),
  (⟨#[73, 77, 77, 69, 68, 73, 65, 84, 69]⟩, 0, 0, false, false),
  (⟨#[39]⟩, 0, 1, false, false),
  (⟨#[91, 39, 93]⟩, 0, 0, true, true),
  (⟨#[76, 73, 84, 69, 82, 65, 76]⟩, 1, 0, true, true),
  (⟨#[80, 79, 83, 84, 80, 79, 78, 69]⟩, 0, 0, true, true),
  (⟨#[82, 69, 67, 85, 82, 83, 69]⟩, 0, 0, true, true),
  (⟨#[91]⟩, 0, 0, true, false),
  (⟨#[93]⟩, 0, 0, false, false),
  (⟨#[73, 70]⟩, 0, 1, true, true),
  (⟨#[69, 76, 83, 69]⟩, 1, 1, true, true),
  (⟨#[84, 72, 69, 78]⟩, 1, 0, true, true),
  (⟨#[66, 69, 71, 73, 78]⟩, 0, 1, true, true),
  (⟨#[85, 78, 84, 73, 76]⟩, 1, 0, true, true),
  (⟨#[87, 72, 73, 76, 69]⟩, 1, 2, true, true),
  (⟨#[82, 69, 80, 69, 65, 84]⟩, 2, 0, true, true),
  (⟨#[65, 71, 65, 73, 78]⟩, 1, 0, true, true),
  (⟨#[68, 79]⟩, 0, 1, true, true),
  (⟨#[76, 79, 79, 80]⟩, 1, 0, true, true),
  (⟨#[43, 76, 79, 79, 80]⟩, 1, 0, true, true),
  (⟨#[40]⟩, 0, 0, true, false),
  (⟨#[92]⟩, 0, 0, true, false),
  (⟨#[46, 34]⟩, 0, 0, true, false),
  (⟨#[83, 34]⟩, 0, 2, true, false),
  (⟨#[65, 66, 79, 82, 84]⟩, 0, 0, false, false),
  (⟨#[65, 66, 79, 82, 84, 34]⟩, 0, 0, true, true),
  (⟨#[84, 72, 82, 79, 87]⟩, 1, 0, false, false),
  (⟨#[67, 72, 65, 82]⟩, 0, 1, false, false),
  (⟨#[91, 67, 72, 65, 82, 93]⟩, 0, 0, true, true),
  (⟨#[62, 66, 79, 68, 89]⟩, 1, 1, false, false),
  (⟨#[67, 82, 69, 65, 84, 69, 45, 70, 73, 76, 69]⟩, 3, 2, false, false),
  (⟨#[79, 80, 69, 78, 45, 70, 73, 76, 69]⟩, 3, 2, false, false),
  (⟨#[67, 76, 79, 83, 69, 45, 70, 73, 76, 69]⟩, 1, 1, false, false),
  (⟨#[82, 69, 65, 68, 45, 70, 73, 76, 69]⟩, 3, 2, false, false),
  (⟨#[87, 82, 73, 84, 69, 45, 70, 73, 76, 69]⟩, 3, 1, false, false),
  (⟨#[70, 73, 76, 69, 45, 83, 73, 90, 69]⟩, 1, 3, false, false),
  (⟨#[82, 69, 83, 73, 90, 69, 45, 70, 73, 76, 69]⟩, 3, 1, false, false),
  (⟨#[68, 69, 76, 69, 84, 69, 45, 70, 73, 76, 69]⟩, 2, 1, false, false),
  (⟨#[82, 69, 78, 65, 77, 69, 45, 70, 73, 76, 69]⟩, 4, 1, false, false),
  (⟨#[70, 73, 76, 69, 45, 80, 79, 83, 73, 84, 73, 79, 78]⟩, 1, 3, false, false),
  (⟨#[82, 69, 80, 79, 83, 73, 84, 73, 79, 78, 45, 70, 73, 76, 69]⟩, 3, 1, false, false)]
noncomputable def tabL : List TRow := [
  (⟨#[69, 88, 73, 84]⟩, 0, 0, 0),
  (⟨#[40, 108, 105, 116, 41]⟩, 0, 1, 0),
  (⟨#[40, 98, 114, 97, 110, 99, 104, 41]⟩, 0, 0, 0),
  (⟨#[40, 48, 98, 114, 97, 110, 99, 104, 41]⟩, 1, 0, 0),
  (⟨#[40, 100, 111, 41]⟩, 2, 0, 0),
  (⟨#[40, 108, 111, 111, 112, 41]⟩, 0, 0, 0),
  (⟨#[40, 43, 108, 111, 111, 112, 41]⟩, 1, 0, 0),
  (⟨#[40, 115, 34, 41]⟩, 0, 2, 0),
  (⟨#[40, 46, 34, 41]⟩, 0, 0, 0),
  (⟨#[40, 97, 98, 111, 114, 116, 34, 41]⟩, 1, 0, 0),
  (⟨#[40, 100, 111, 101, 115, 41]⟩, 0, 0, 0),
  (⟨#[69, 88, 69, 67, 85, 84, 69]⟩, 1, 0, 0),
  (⟨#[68, 85, 80]⟩, 1, 2, 0),
  (⟨#[68, 82, 79, 80]⟩, 1, 0, 0),
  (⟨#[83, 87, 65, 80]⟩, 2, 2, 0),
  (⟨#[79, 86, 69, 82]⟩, 2, 3, 0),
  (⟨#[82, 79, 84]⟩, 3, 3, 0),
  (⟨#[63, 68, 85, 80]⟩, 1, 2, 0),
  (⟨#[50, 68, 85, 80]⟩, 2, 4, 0),
  (⟨#[50, 68, 82, 79, 80]⟩, 2, 0, 0),
  (⟨#[50, 83, 87, 65, 80]⟩, 4, 4, 0),
  (⟨#[50, 79, 86, 69, 82]⟩, 4, 6, 0),
  (⟨#[68, 69, 80, 84, 72]⟩, 0, 1, 0),
  (⟨#[62, 82]⟩, 1, 0, 0),
  (⟨#[82, 62]⟩, 0, 1, 0),
  (⟨#[82, 64]⟩, 0, 1, 0),
  (⟨#[43]⟩, 2, 1, 0),
  (⟨#[45]⟩, 2, 1, 0),
  (⟨#[42]⟩, 2, 1, 0),
  (⟨#[47]⟩, 2, 1, 0),
  (⟨#[77, 79, 68]⟩, 2, 1, 0),
  (⟨#[47, 77, 79, 68]⟩, 2, 2, 0),
  (⟨#[42, 47]⟩, 3, 1, 0),
  (⟨#[42, 47, 77, 79, 68]⟩, 3, 2, 0),
  (⟨#[78, 69, 71, 65, 84, 69]⟩, 1, 1, 0),
  (⟨#[65, 66, 83]⟩, 1, 1, 0),
  (⟨#[77, 73, 78]⟩, 2, 1, 0),
  (⟨#[77, 65, 88]⟩, 2, 1, 0),
  (⟨#[49, 43]⟩, 1, 1, 0),
  (⟨#[49, 45]⟩, 1, 1, 0),
  (⟨#[50, 42]⟩, 1, 1, 0),
  (⟨#[50, 47]⟩, 1, 1, 0),
  (⟨#[76, 83, 72, 73, 70, 84]⟩, 2, 1, 0),
  (⟨#[82, 83, 72, 73, 70, 84]⟩, 2, 1, 0),
  (⟨#[65, 78, 68]⟩, 2, 1, 0),
  (⟨#[79, 82]⟩, 2, 1, 0),
  (⟨#[88, 79, 82]⟩, 2, 1, 0),
  (⟨#[73, 78, 86, 69, 82, 84]⟩, 1, 1, 0),
  (⟨#[61]⟩, 2, 1, 0),
  (⟨#[60]⟩, 2, 1, 0),
  (⟨#[62]⟩, 2, 1, 0),
  (⟨#[85, 60]⟩, 2, 1, 0),
  (⟨#[48, 61]⟩, 1, 1, 0),
  (⟨#[48, 60]⟩, 1, 1, 0),
  (⟨#[77, 42]⟩, 2, 2, 0),
  (⟨#[85, 77, 42]⟩, 2, 2, 0),
  (⟨#[85, 77, 47, 77, 79, 68]⟩, 3, 2, 0),
  (⟨#[83, 77, 47, 82, 69, 77]⟩, 3, 2, 0),
  (⟨#[70, 77, 47, 77, 79, 68]⟩, 3, 2, 0),
  (⟨#[83, 62, 68]⟩, 1, 2, 0),
  (⟨#[64]⟩, 1, 1, 0),
  (⟨#[33]⟩, 2, 0, 0),
  (⟨#[67, 64]⟩, 1, 1, 0),
  (⟨#[67, 33]⟩, 2, 0, 0),
  (⟨#[43, 33]⟩, 2, 0, 0),
  (⟨#[50, 64]⟩, 1, 2, 0),
  (⟨#[50, 33]⟩, 3, 0, 0),
  (⟨#[67, 69, 76, 76, 43]⟩, 1, 1, 0),
  (⟨#[67, 69, 76, 76, 83]⟩, 1, 1, 0),
  (⟨#[67, 72, 65, 82, 43]⟩, 1, 1, 0),
  (⟨#[67, 72, 65, 82, 83]⟩, 1, 1, 0),
  (⟨#[65, 76, 73, 71, 78]⟩, 0, 0, 0),
  (⟨#[65, 76, 73, 71, 78, 69, 68]⟩, 1, 1, 0),
  (⟨#[72, 69, 82, 69]⟩, 0, 1, 0),
  (⟨#[65, 76, 76, 79, 84]⟩, 1, 0, 0),
  (⟨#[44]⟩, 1, 0, 0),
  (⟨#[67, 44]⟩, 1, 0, 0),
  (⟨#[70, 73, 76, 76]⟩, 3, 0, 0),
  (⟨#[77, 79, 86, 69]⟩, 3, 0, 0),
  (⟨#[67, 79, 85, 78, 84]⟩, 1, 2, 0),
  (⟨#[66, 65, 83, 69]⟩, 0, 1, 0),
  (⟨#[83, 84, 65, 84, 69]⟩, 0, 1, 0),
  (⟨#[68, 69, 67, 73, 77, 65, 76]⟩, 0, 0, 0),
  (⟨#[72, 69, 88]⟩, 0, 0, 0),
  (⟨#[69, 77, 73, 84]⟩, 1, 0, 0),
  (⟨#[84, 89, 80, 69]⟩, 2, 0, 0),
  (⟨#[46]⟩, 1, 0, 0),
  (⟨#[85, 46]⟩, 1, 0, 0),
  (⟨#[67, 82]⟩, 0, 0, 0),
  (⟨#[83, 80, 65, 67, 69]⟩, 0, 0, 0),
  (⟨#[83, 80, 65, 67, 69, 83]⟩, 1, 0, 0),
  (⟨#[66, 76]⟩, 0, 1, 0),
  (⟨#[73]⟩, 0, 1, 0),
  (⟨#[74]⟩, 0, 1, 0),
  (⟨#[85, 78, 76, 79, 79, 80]⟩, 0, 0, 0),
  (⟨#[58]⟩, 0, 0, 0),
  (⟨#[59]⟩, 0, 0, 2),
  (⟨#[67, 82, 69, 65, 84, 69]⟩, 0, 0, 0),
  (⟨#[86, 65, 82, 73, 65, 66, 76, 69]⟩, 0, 0, 0),
  (⟨#[67, 79, 78, 83, 84, 65, 78, 84]⟩, 1, 0, 0),
  (⟨#[68, 79, 69, 83, 62]⟩, 0, 0, 2),
  (⟨#[73, 77, 77, 69, 68, 73, 65, 84, 69]⟩, 0, 0, 0),
  (⟨#[39]⟩, 0, 1, 0),
  (⟨#[91, 39, 93]⟩, 0, 0, 2),
  (⟨#[76, 73, 84, 69, 82, 65, 76]⟩, 1, 0, 2),
  (⟨#[80, 79, 83, 84, 80, 79, 78, 69]⟩, 0, 0, 2),
  (⟨#[82, 69, 67, 85, 82, 83, 69]⟩, 0, 0, 2),
  (⟨#[91]⟩, 0, 0, 1),
  (⟨#[93]⟩, 0, 0, 0),
  (⟨#[73, 70]⟩, 0, 1, 2),
  (⟨#[69, 76, 83, 69]⟩, 1, 1, 2),
  (⟨#[84, 72, 69, 78]⟩, 1, 0, 2),
  (⟨#[66, 69, 71, 73, 78]⟩, 0, 1, 2),
  (⟨#[85, 78, 84, 73, 76]⟩, 1, 0, 2),
  (⟨#[87, 72, 73, 76, 69]⟩, 1, 2, 2),
  (⟨#[82, 69, 80, 69, 65, 84]⟩, 2, 0, 2),
  (⟨#[65, 71, 65, 73, 78]⟩, 1, 0, 2),
  (⟨#[68, 79]⟩, 0, 1, 2),
  (⟨#[76, 79, 79, 80]⟩, 1, 0, 2),
  (⟨#[43, 76, 79, 79, 80]⟩, 1, 0, 2),
  (⟨#[40]⟩, 0, 0, 1),
  (⟨#[92]⟩, 0, 0, 1),
  (⟨#[46, 34]⟩, 0, 0, 1),
  (⟨#[83, 34]⟩, 0, 2, 1),
  (⟨#[65, 66, 79, 82, 84]⟩, 0, 0, 0),
  (⟨#[65, 66, 79, 82, 84, 34]⟩, 0, 0, 2),
  (⟨#[84, 72, 82, 79, 87]⟩, 1, 0, 0),
  (⟨#[67, 72, 65, 82]⟩, 0, 1, 0),
  (⟨#[91, 67, 72, 65, 82, 93]⟩, 0, 0, 2),
  (⟨#[62, 66, 79, 68, 89]⟩, 1, 1, 0),
  (⟨#[67, 82, 69, 65, 84, 69, 45, 70, 73, 76, 69]⟩, 3, 2, 0),
  (⟨#[79, 80, 69, 78, 45, 70, 73, 76, 69]⟩, 3, 2, 0),
  (⟨#[67, 76, 79, 83, 69, 45, 70, 73, 76, 69]⟩, 1, 1, 0),
  (⟨#[82, 69, 65, 68, 45, 70, 73, 76, 69]⟩, 3, 2, 0),
  (⟨#[87, 82, 73, 84, 69, 45, 70, 73, 76, 69]⟩, 3, 1, 0),
  (⟨#[70, 73, 76, 69, 45, 83, 73, 90, 69]⟩, 1, 3, 0),
  (⟨#[82, 69, 83, 73, 90, 69, 45, 70, 73, 76, 69]⟩, 3, 1, 0),
  (⟨#[68, 69, 76, 69, 84, 69, 45, 70, 73, 76, 69]⟩, 2, 1, 0),
  (⟨#[82, 69, 78, 65, 77, 69, 45, 70, 73, 76, 69]⟩, 4, 1, 0),
  (⟨#[70, 73, 76, 69, 45, 80, 79, 83, 73, 84, 73, 79, 78]⟩, 1, 3, 0),
  (⟨#[82, 69, 80, 79, 83, 73, 84, 73, 79, 78, 45, 70, 73, 76, 69]⟩, 3, 1, 0)]
def cellsR (r : Row) : List Value := [.string r.1, .int .i64 r.2.1, .int .i64 r.2.2.1, .bool r.2.2.2.1, .bool r.2.2.2.2]
def cellsT (r : TRow) : List Value := [.string r.1, .int .i64 r.2.1, .int .i64 r.2.2.1, .int .i64 r.2.2.2]
noncomputable def cells19 : Array Value := (rowL.flatMap cellsR).toArray
noncomputable def cells20 : Array Value := (tabL.flatMap cellsT).toArray

/-- What builds of constants, one behind the other, leave in a frame. -/
noncomputable def buildAll (P : Program) : List Oper → Act → Option Act
  | [], a => some a
  | o :: rest, a =>
    match o.guard, o.op with
    | none, .build t parts =>
      match P.built t (parts.map fun (i, x) => (i, a.eval x)).toList with
      | some cells => buildAll P rest (a.put o.dst (.agg cells))
      | none => none
    | _, _ => none
theorem wpList_buildAll {P : Program} {ops : Array Oper} {Q : Exit → Act → World → Prop} {rest : List Oper} {w : World} {a' : Act} : ∀ (l : List Oper) (a : Act), buildAll P l a = some a' → wpList P ops Q rest a' w → wpList P ops Q (l ++ rest) a w
  | [], a, h, hk => by cases h; exact hk
  | o :: l, a, h, hk => by
    unfold buildAll at h
    split at h
    · rename_i t parts hg ho
      split at h
      · rename_i cells hc
        refine wpList_build hg t parts ho (by rw [hc]; rfl) ?_
        rw [hc]
        exact wpList_buildAll l _ h hk
      · cases h
    · cases h
noncomputable def opsOf (f : Func) (n : Nat) : List Oper :=
  match n, f.body with
  | 1, some (.seq _ (.seq (.region _ ops _) _)) => ops.toList
  | _, _ => []

noncomputable def ops19 : List Oper := opsOf Try.f60 1
noncomputable def ops20 : List Oper := opsOf Try.f61 1
theorem region_builds {P : Program} {id : Nat} {opsA : Array Oper} {l rest : List Oper} {Q : Exit → Act → World → Prop} {a a' : Act} {w : World} (hl : opsA.toList = l ++ rest) (h : buildAll P l a = some a')
    (hk : wpList P opsA Q rest a' w) : (Code.region id opsA false).wp P Q a w := wp_region_list (by rw [hl]; exact wpList_buildAll l a h hk)
/-- The frames ahead of the builds. -/
noncomputable def fr19 (p : Value) : Act := { tmps := #[p, undef, undef, undef, undef, undef, undef, undef, undef, undef, undef, undef, undef, undef, undef, undef, undef, undef, undef, undef, undef, undef, undef, undef, undef, undef, undef, undef, undef, undef, undef, undef, undef, undef, undef, undef, undef, undef, undef, undef, undef, undef, undef, undef, undef, undef, undef, undef, undef, undef, undef, undef, undef, undef, undef, undef, undef, undef, undef, undef, undef, undef, undef, undef, undef, undef, undef, undef, undef, undef, undef, undef, undef, undef, undef, undef, undef, undef, undef, undef, undef, undef, undef, undef, undef, undef, undef, undef, undef, undef, undef, undef, undef, undef, undef, undef, undef, undef, undef, undef, undef, undef, undef, undef, undef, undef, undef, undef, undef, undef, undef, undef, undef, undef, undef, undef, undef, undef, undef, undef, undef, undef, undef, undef, undef, undef, undef, undef, undef, undef, undef, undef, undef, undef, undef, undef, undef, undef, undef, undef, undef, undef, undef, undef], defers := [] }
noncomputable def fr20 (p : Value) : Act := { tmps := #[p, undef, undef, undef, undef, undef, undef, undef, undef, undef, undef, undef, undef, undef, undef, undef, undef, undef, undef, undef, undef, undef, undef, undef, undef, undef, undef, undef, undef, undef, undef, undef, undef, undef, undef, undef, undef, undef, undef, undef, undef, undef, undef, undef, undef, undef, undef, undef, undef, undef, undef, undef, undef, undef, undef, undef, undef, undef, undef, undef, undef, undef, undef, undef, undef, undef, undef, undef, undef, undef, undef, undef, undef, undef, undef, undef, undef, undef, undef, undef, undef, undef, undef, undef, undef, undef, undef, undef, undef, undef, undef, undef, undef, undef, undef, undef, undef, undef, undef, undef, undef, undef, undef, undef, undef, undef, undef, undef, undef, undef, undef, undef, undef, undef, undef, undef, undef, undef, undef, undef, undef, undef, undef, undef, undef, undef, undef, undef, undef, undef, undef, undef, undef, undef, undef, undef, undef, undef, undef, undef, undef, undef, undef], defers := [] }
noncomputable def zero39 : Array Value := match (Try.prog.info? 95).bind (·.zero) with | some (.agg c) => c | _ => #[]
noncomputable def st19 : Oper := ops19.getD 143 default
noncomputable def bs20 : Oper := ops20.getD 141 default
noncomputable def as20 : Oper := ops20.getD 142 default
noncomputable def parts20 : Array (Nat × Operand) := match bs20.op with | .buildSlice _ _ p => p | _ => #[]
theorem info39 : (Try.prog.info? 95).map (fun i => (i.zero, i.size)) = some (some (.agg zero39), 710) := by kernel_rfl
theorem zero39_size : zero39.size = 710 := by kernel_rfl
theorem cells19_size : cells19.size = 710 := by kernel_rfl
theorem cells19_one : cells19.all (·.oneCell') = true := by kernel_rfl
theorem cells20_size : cells20.size = 564 := by kernel_rfl
end Go.Proofs.Ytcfblcgdjhpdaaa

/- What the builds of both tables come to (by the kernel). -/
namespace Go.Proofs.Ytcfblcgdjhpdaaa
open Go.RowKit

theorem built19 (p : Value) : (buildAll Try.prog (ops19.take 143) (fr19 p)).map (fun a => (a.eval (.tmp 0), a.eval (.tmp 143), a.tmps.getD 0 undef, a.defers)) = some (p, .agg cells19, p, []) := by kernel_rfl
theorem st19_op : st19.op = .store 95 (.tmp 0) (.tmp 143) ∧ st19.guard = none ∧ st19.dst = none := by refine ⟨by kernel_rfl, by kernel_rfl, by kernel_rfl⟩
theorem ops19_is : ops19 = ops19.take 143 ++ [st19] := by kernel_rfl
theorem built20 (p : Value) : (buildAll Try.prog (ops20.take 141) (fr20 p)).map (fun a => (Try.prog.builtSlice 101 141 (parts20.map fun (i, x) => (i, a.eval x)).toList, a.tmps.size, a.defers)) = some (some cells20, 143, []) := by kernel_rfl
theorem bs20_op : bs20.op = .buildSlice 98 141 parts20 ∧ bs20.guard = none ∧ bs20.dst = some 142 := by refine ⟨by kernel_rfl, by kernel_rfl, by kernel_rfl⟩
theorem as20_op : as20.op = .assign (.tmp 142) ∧ as20.guard = none ∧ as20.dst = some 0 := by refine ⟨by kernel_rfl, by kernel_rfl, by kernel_rfl⟩
theorem ops20_is : ops20 = ops20.take 141 ++ [bs20, as20] := by kernel_rfl
end Go.Proofs.Ytcfblcgdjhpdaaa

/- 'rows' and 'table' give the two lists. -/
namespace Go.Proofs.Ytcfblcgdjhpdaaa
open Go.RowKit
set_option linter.unusedVariables false
set_option linter.unusedSimpArgs false

theorem results_cell {P : Program} {fn : Func} {k : Nat} {t : TypeId} {tmps : Array Value} {p : Addr} {v : Value} {w : World} (hr : fn.results = #[ResultVar.cell k t]) (hp : tmps.getD k undef = .pointer (some p))
    (hl : (loadVar t p).run P w = .ok v w) : (results fn tmps).run P w = .ok v w := by
  have e : (tmps[k]?).getD undef = .pointer (some p) := by simpa using hp
  simp [results, hr, e, asAddr, hl]
set_option maxRecDepth 100000 in
set_option maxHeartbeats 4000000 in
theorem rowsC (w : World) : Calls Try.prog 60 #[] w fun e w' => e = .returned (.agg cells19) ∧ Below w.heap.size w w' := by
  have hz := (zero_of_info info39).1
  have hs := (zero_of_info info39).2
  have hB := built19 (.pointer (some ⟨w.heap.size, 0, none⟩))
  obtain ⟨a', ha', hv⟩ := Option.map_eq_some_iff.1 hB
  simp only [Prod.mk.injEq] at hv
  obtain ⟨h0, h1, h2, h3⟩ := hv
  clear hB
  go_enter Try.func60, Try.ntmps60
  go_upto_region 1 with fail
  refine region_builds (l := ops19.take 143) (rest := [st19]) (a' := a') ?_ ha' ?_
  · exact ops19_is
  refine wpList_store_row st19_op.2.1 95 (.tmp 0) (.tmp 143) st19_op.1 w.heap.size cells19 h0 h1 95 zero39 (heap_alloc_last w _) (by rw [hs, cells19_size]) (by rw [zero39_size, cells19_size]) cells19_one ?_
  rw [World.setRow_alloc_new, st19_op.2.2]
  clear ha' h0 h1 hz
  rename_i Q' K hK
  simp only [wpList]
  refine hK _ _ ?_
  clear hK K
  go_wp2
  refine bodyPost_ret (v := .agg cells19) ?_ h3 ⟨rfl, ?_⟩
  · show (results Try.f60 a'.tmps).run Try.prog _ = _
    exact results_cell Try.results60 h2 (run_loadVar_new w 95 cells19 142 94 (by kernel_rfl) (by rw [hs, cells19_size]))
  · exact (Below.refl _ _).alloc (Nat.le_refl _) _

set_option maxRecDepth 100000 in
set_option maxHeartbeats 4000000 in
theorem tableC (w : World) : Calls Try.prog 61 #[] w fun e w' => e = .returned (.slice (some ⟨w.heap.size, 0, none⟩) 141 141) ∧ w' = w.alloc (.cells cells20 101) := by
  have hB := built20 (.slice none 0 0)
  obtain ⟨a', ha', hv⟩ := Option.map_eq_some_iff.1 hB
  simp only [Prod.mk.injEq] at hv
  obtain ⟨h0, h1, h3⟩ := hv
  clear hB
  go_enter Try.func61, Try.ntmps61
  go_upto_region 1 with fail
  refine region_builds (l := ops20.take 141) (rest := [bs20, as20]) (a' := a') ?_ ha' ?_
  · exact ops20_is
  refine Great.wpList_buildSliceTo bs20_op.2.1 98 101 141 parts20 bs20_op.1 w.heap.size rfl (some 142) bs20_op.2.2 (by kernel_rfl) cells20 h0 ?_
  clear ha' h0
  refine wpList_plain as20_op.2.1 fun K' hK' => ?_
  rename_i Q' K hK
  have ev : (a'.put (some 142) (.slice (some ⟨w.heap.size, 0, none⟩) 141 141)).eval (.tmp 142) = .slice (some ⟨w.heap.size, 0, none⟩) 141 141 := by
    simp [Act.put, Act.eval, h1]
  unfold Oper.wp execOp
  simp only [as20_op.1, ev, Sem.run_pure, Result.andThen_ok, Oper.upon_value]
  refine hK' _ _ ?_
  rw [as20_op.2.2]
  simp only [wpList]
  refine hK _ _ ?_
  clear hK K hK' K'
  go_wp2
  refine bodyPost_ret (v := .slice (some ⟨w.heap.size, 0, none⟩) 141 141) ?_ h3 ⟨rfl, rfl⟩
  simp [results, Try.results61, Act.put, h1, go_sem]
end Go.Proofs.Ytcfblcgdjhpdaaa

/- 'Of', 'Xt', 'Number' of both packages. -/
namespace Go.Proofs.Ytcfblcgdjhpdaaa
open Go.RowKit
set_option linter.unusedVariables false
set_option linter.unusedSimpArgs false

def primV (r : Row) : Value := .agg #[.string r.1, .int .i64 r.2.1, .int .i64 r.2.2.1, .bool r.2.2.2.1, .bool r.2.2.2.2]
theorem extract_flat {α β} [Inhabited α] (f : α → List β) (k : Nat) (hf : ∀ x, (f x).length = k) : ∀ (L : List α) (i : Nat), i < L.length → (((L.flatMap f).drop (i * k)).take k) = f (L.getD i default)
  | [], i, h => by simp at h
  | x :: L, 0, h => by simp [hf x]
  | x :: L, i + 1, h => by
    have := extract_flat f k hf L i (by simpa using h)
    rw [List.flatMap_cons, Nat.add_mul, Nat.one_mul, Nat.add_comm, ← hf x, List.drop_append, hf x]
    have e0 : List.drop (k + i * k) (f x) = [] := List.drop_eq_nil_of_le (by rw [hf x]; omega)
    simpa [List.getD_cons_succ, e0] using this
theorem rowL_len : rowL.length = 142 := by kernel_rfl
theorem tabL_len : tabL.length = 141 := by kernel_rfl
theorem index19 (n : Int) (h1 : 0 ≤ n) (h2 : n < 142) (w : World) : (Instr.index 95 (.agg cells19) (.int .i64 n)).run Try.prog w = .ok (primV (rowL.getD n.toNat default)) w := by
  show _ = Result.ok (Value.agg (cellsR (rowL.getD n.toNat default)).toArray) w
  have hu : Try.prog.underlying 95 = some (.array 142 94) := by kernel_rfl
  have hu2 : Try.prog.underlying 94 = some (.struct ((match Try.prog.underlying 94 with | some (.struct f) => f | _ => #[]))) := by kernel_rfl
  have hi : (Try.prog.info? 94).map (·.size) = some 5 := by kernel_rfl
  obtain ⟨i, hi', hs⟩ := Option.map_eq_some_iff.1 hi
  have e := extract_flat cellsR 5 (fun _ => rfl) rowL n.toNat (by rw [rowL_len]; omega)
  simp [Instr.index, run_underlying hu, asIntOf, h1, h2, part, isAgg, run_underlying hu2, sizeOf, typeInfo, hi', hs]
  rw [cells19]
  have e2 : n.toNat * 5 + 5 - n.toNat * 5 = 5 := by omega
  apply Array.ext'
  rw [Array.toList_extract]
  simp only [List.extract_eq_take_drop, e2]
  simpa using e

attribute [local irreducible] cells19 cells20 rowL tabL
attribute [local go_sem] cell_set set_set
set_option maxRecDepth 100000 in
set_option maxHeartbeats 400000 in
theorem wOf (n : Int) (h1 : 1 ≤ n) (h2 : n ≤ 141) (w : World) : Calls Try.prog 34 #[.int .i64 n] w fun e w' => e = .returned (.tuple #[primV (rowL.getD n.toNat default), .bool true]) ∧ Below w.heap.size w w' := by
  have t1 : ¬ n < 1 := by omega
  have t2 : ¬ 141 < n := by omega
  have hI := fun w => index19 n (by omega) (by omega) w
  obtain ⟨r, hr⟩ : ∃ r, r = rowL.getD n.toNat default := ⟨_, rfl⟩
  rw [← hr] at hI ⊢
  clear hr h1 h2
  obtain ⟨nm, tk, ly, nw, on⟩ := r
  unfold primV at *
  go_enter Try.func34, Try.ntmps34
  go_wp2_with (first
    | (go_at_call 60; refine (rowsC _).mono ?_; rintro e w1 ⟨rfl, hb_w1⟩; obtain ⟨k1, k2, k3, k4, k5, k6, k7, k8, k9, k10, k11⟩ := (show Blk w1 (w.heap.size) #[.string ⟨#[]⟩, .int .i64 0, .int .i64 0, .bool false, .bool false] 73 from (by repeat (first | (with_reducible assumption) | (with_reducible refine Blk.new' ?_; first | rfl | (simp; done) | (simp; omega)) | (with_reducible apply Blk.setFive) | (with_reducible apply Blk.set0) | (with_reducible apply Blk.set1) | (with_reducible apply Blk.setOne) | (with_reducible refine Blk.set_other ?_ (by omega) _ _) | (with_reducible apply Blk.alloc) | (with_reducible apply Blk.drew) | (with_reducible refine Blk.below ?_ (by with_reducible assumption))))).five))
  refine ret_blk (v := .tuple #[.agg #[.string nm, .int .i64 tk, .int .i64 ly, .bool nw, .bool on], .bool true]) w.heap.size #[.string nm, .int .i64 tk, .int .i64 ly, .bool nw, .bool on] 73 ?_ (fun w' h => by obtain ⟨c1, c2, c3, c4, c5, _⟩ := h.five; simp [results, Try.results34, go_sem, c1, c2, c3, c4, c5]) rfl ⟨rfl, ?_⟩
  · repeat (first | (with_reducible assumption) | (with_reducible refine Blk.new' ?_; first | rfl | (simp; done) | (simp; omega)) | (with_reducible apply Blk.setFive) | (with_reducible apply Blk.set0) | (with_reducible apply Blk.set1) | (with_reducible apply Blk.setOne) | (with_reducible refine Blk.set_other ?_ (by omega) _ _) | (with_reducible apply Blk.alloc) | (with_reducible apply Blk.drew) | (with_reducible refine Blk.below ?_ (by with_reducible assumption)))
  · repeat (first | (with_reducible exact Below.refl _ _) | (with_reducible assumption) | (with_reducible apply bel_alloc) | (with_reducible apply bel_drew) | (with_reducible refine bel_set ?_ (by first | exact Nat.le_refl _ | (simp; done) | omega | (simp; omega)) _) | (with_reducible refine bel_trans ?_ (by with_reducible assumption)))

def noPrim : Row := (⟨#[]⟩, 0, 0, false, false)
set_option maxRecDepth 100000 in
set_option maxHeartbeats 400000 in
theorem wOf_no (n : Int) (h : ¬ (1 ≤ n ∧ n ≤ 141)) (w : World) : Calls Try.prog 34 #[.int .i64 n] w fun e w' => e = .returned (.tuple #[primV noPrim, .bool false]) ∧ Below w.heap.size w w' := by
  unfold primV noPrim
  by_cases t1 : n < 1
  · clear h
    go_enter Try.func34, Try.ntmps34
    go_wp2
    refine ret_blk (v := .tuple #[.agg #[.string ⟨#[]⟩, .int .i64 0, .int .i64 0, .bool false, .bool false], .bool false]) w.heap.size #[.string ⟨#[]⟩, .int .i64 0, .int .i64 0, .bool false, .bool false] 73 ?_ (fun w' h => by obtain ⟨c1, c2, c3, c4, c5, _⟩ := h.five; simp [results, Try.results34, go_sem, c1, c2, c3, c4, c5]) rfl ⟨rfl, ?_⟩
    · repeat (first | (with_reducible assumption) | (with_reducible refine Blk.new' ?_; first | rfl | (simp; done) | (simp; omega)) | (with_reducible apply Blk.setFive) | (with_reducible apply Blk.set0) | (with_reducible apply Blk.set1) | (with_reducible apply Blk.setOne) | (with_reducible refine Blk.set_other ?_ (by omega) _ _) | (with_reducible apply Blk.alloc) | (with_reducible apply Blk.drew) | (with_reducible refine Blk.below ?_ (by with_reducible assumption)))
    · repeat (first | (with_reducible exact Below.refl _ _) | (with_reducible assumption) | (with_reducible apply bel_alloc) | (with_reducible apply bel_drew) | (with_reducible refine bel_set ?_ (by first | exact Nat.le_refl _ | (simp; done) | omega | (simp; omega)) _) | (with_reducible refine bel_trans ?_ (by with_reducible assumption)))
  · have t2 : 141 < n := by omega
    clear h
    go_enter Try.func34, Try.ntmps34
    go_wp2
    refine ret_blk (v := .tuple #[.agg #[.string ⟨#[]⟩, .int .i64 0, .int .i64 0, .bool false, .bool false], .bool false]) w.heap.size #[.string ⟨#[]⟩, .int .i64 0, .int .i64 0, .bool false, .bool false] 73 ?_ (fun w' h => by obtain ⟨c1, c2, c3, c4, c5, _⟩ := h.five; simp [results, Try.results34, go_sem, c1, c2, c3, c4, c5]) rfl ⟨rfl, ?_⟩
    · repeat (first | (with_reducible assumption) | (with_reducible refine Blk.new' ?_; first | rfl | (simp; done) | (simp; omega)) | (with_reducible apply Blk.setFive) | (with_reducible apply Blk.set0) | (with_reducible apply Blk.set1) | (with_reducible apply Blk.setOne) | (with_reducible refine Blk.set_other ?_ (by omega) _ _) | (with_reducible apply Blk.alloc) | (with_reducible apply Blk.drew) | (with_reducible refine Blk.below ?_ (by with_reducible assumption)))
    · repeat (first | (with_reducible exact Below.refl _ _) | (with_reducible assumption) | (with_reducible apply bel_alloc) | (with_reducible apply bel_drew) | (with_reducible refine bel_set ?_ (by first | exact Nat.le_refl _ | (simp; done) | omega | (simp; omega)) _) | (with_reducible refine bel_trans ?_ (by with_reducible assumption)))
theorem tableB (w : World) : Calls Try.prog 61 #[] w fun e w' => e = .returned (.slice (some ⟨w.heap.size, 0, none⟩) 141 141) ∧ Below w.heap.size w w' ∧ Blk w' w.heap.size cells20 101 :=
  (tableC w).mono fun e w' ⟨h, h2⟩ => ⟨h, by subst h2; exact ⟨(Below.refl _ _).alloc (Nat.le_refl _) _, Blk.new _ _ _⟩⟩
theorem tab_cells (i : Nat) (hi : i < 141) (j : Nat) (hj : j < 4) : cells20[i * 4 + j]? = (cellsT (tabL.getD i default))[j]? := by
  have e := extract_flat cellsT 4 (fun _ => rfl) tabL i (by rw [tabL_len]; exact hi)
  rw [← e]
  simp [cells20, List.getElem?_take, hj]
def toRow (t : TRow) : Row := (t.1, t.2.1, t.2.2.1, decide (0 < t.2.2.2), t.2.2.2 == 2)
theorem tab_row : tabL.map toRow = rowL.tail := by kernel_rfl
theorem tab_rowL (i : Nat) (hi : i < 141) : toRow (tabL.getD i default) = rowL.getD (i + 1) default := by
  have e : rowL.getD (i + 1) default = rowL.tail.getD i default := by simp [List.getD]
  rw [e, ← tab_row]
  simp [List.getD, List.getElem?_map]
  have : i < tabL.length := by rw [tabL_len]; exact hi
  simp [this]
theorem wXt (n : Int) (w : World) : Calls Try.prog 35 #[.int .i64 n] w fun e w' => e = .returned (.int .i64 (if 1 ≤ n ∧ n ≤ 141 then n * 8 else 0)) ∧ Below w.heap.size w w' := by
  by_cases t1 : n < 1
  · rw [if_neg (by omega)]
    go_enter Try.func35, Try.ntmps35
    go_wp2
    go_ret
    exact ⟨rfl, by repeat (first | (with_reducible exact Below.refl _ _) | (with_reducible assumption) | (with_reducible apply bel_alloc) | (with_reducible apply bel_drew) | (with_reducible refine bel_set ?_ (by first | exact Nat.le_refl _ | (simp; done) | omega | (simp; omega)) _) | (with_reducible refine bel_trans ?_ (by with_reducible assumption)))⟩
  by_cases t2 : 141 < n
  · rw [if_neg (by omega)]
    go_enter Try.func35, Try.ntmps35
    go_wp2
    go_ret
    exact ⟨rfl, by repeat (first | (with_reducible exact Below.refl _ _) | (with_reducible assumption) | (with_reducible apply bel_alloc) | (with_reducible apply bel_drew) | (with_reducible refine bel_set ?_ (by first | exact Nat.le_refl _ | (simp; done) | omega | (simp; omega)) _) | (with_reducible refine bel_trans ?_ (by with_reducible assumption)))⟩
  · rw [if_pos (by omega)]
    go_enter Try.func35, Try.ntmps35
    go_wp2
    go_ret
    exact ⟨rfl, by repeat (first | (with_reducible exact Below.refl _ _) | (with_reducible assumption) | (with_reducible apply bel_alloc) | (with_reducible apply bel_drew) | (with_reducible refine bel_set ?_ (by first | exact Nat.le_refl _ | (simp; done) | omega | (simp; omega)) _) | (with_reducible refine bel_trans ?_ (by with_reducible assumption)))⟩
theorem rXt (n : Int) (w : World) : Calls Try.prog 39 #[.int .i64 n] w fun e w' => e = .returned (.int .i64 (if 1 ≤ n ∧ n ≤ 141 then n * 8 else 0)) ∧ Below w.heap.size w w' := by
  by_cases t1 : n < 1
  · rw [if_neg (by omega)]
    go_enter Try.func39, Try.ntmps39
    go_wp2
    go_ret
    exact ⟨rfl, by repeat (first | (with_reducible exact Below.refl _ _) | (with_reducible assumption) | (with_reducible apply bel_alloc) | (with_reducible apply bel_drew) | (with_reducible refine bel_set ?_ (by first | exact Nat.le_refl _ | (simp; done) | omega | (simp; omega)) _) | (with_reducible refine bel_trans ?_ (by with_reducible assumption)))⟩
  by_cases t2 : 141 < n
  · rw [if_neg (by omega)]
    go_enter Try.func39, Try.ntmps39
    go_wp2_with (go_at_call 61; refine (tableB _).mono ?_; rintro e w1 ⟨rfl, hb_w1, hk⟩)
    go_ret
    exact ⟨rfl, by repeat (first | (with_reducible exact Below.refl _ _) | (with_reducible assumption) | (with_reducible apply bel_alloc) | (with_reducible apply bel_drew) | (with_reducible refine bel_set ?_ (by first | exact Nat.le_refl _ | (simp; done) | omega | (simp; omega)) _) | (with_reducible refine bel_trans ?_ (by with_reducible assumption)))⟩
  · rw [if_pos (by omega)]
    go_enter Try.func39, Try.ntmps39
    go_wp2_with (go_at_call 61; refine (tableB _).mono ?_; rintro e w1 ⟨rfl, hb_w1, hk⟩)
    rw [Int.mul_comm]
    go_ret
    exact ⟨rfl, by repeat (first | (with_reducible exact Below.refl _ _) | (with_reducible assumption) | (with_reducible apply bel_alloc) | (with_reducible apply bel_drew) | (with_reducible refine bel_set ?_ (by first | exact Nat.le_refl _ | (simp; done) | omega | (simp; omega)) _) | (with_reducible refine bel_trans ?_ (by with_reducible assumption)))⟩

def numF (x : Int) : Int := if x % 8 = 0 ∧ 8 ≤ x ∧ x ≤ 1128 then x / 8 else 0
theorem mask7 (x : Int) (hx : isI x) : bits .and .i64 x 7 = x % 8 := by
  obtain ⟨h1, h2⟩ := hx
  unfold bits
  simp
  have e : IntKind.i64.bits = 64 := rfl
  rw [e]
  have h : ((x % 2 ^ 64).toNat &&& (7 % 2 ^ 64)) = (x % 2 ^ 64).toNat % 8 := Nat.and_two_pow_sub_one_eq_mod _ 3
  rw [h, IntKind.wrap_i64]
  omega
theorem ret_i64 {a b : Int} (h : a = b) : Ending.returned (.int .i64 a) = .returned (.int .i64 b) := by rw [h]
set_option maxRecDepth 100000 in
set_option maxHeartbeats 800000 in
theorem rOf (n : Int) (h1 : 1 ≤ n) (h2 : n ≤ 141) (w : World) : Calls Try.prog 38 #[.int .i64 n] w fun e w' => e = .returned (.tuple #[primV (rowL.getD n.toNat default), .bool true]) ∧ Below w.heap.size w w' := by
  have t1 : ¬ n < 1 := by omega
  have t2 : ¬ 141 < n := by omega
  have hr := tab_rowL (n.toNat - 1) (by omega)
  rw [show n.toNat - 1 + 1 = n.toNat by omega] at hr
  obtain ⟨i, hi⟩ : ∃ i : Nat, i = n.toNat - 1 := ⟨_, rfl⟩
  have hn : n = (i : Int) + 1 := by omega
  have hc := fun j hj => tab_cells i (by omega) j hj
  rw [← hi] at hr
  rw [← hr]
  clear hr
  subst hn
  obtain ⟨r, hr⟩ : ∃ r, r = tabL.getD i default := ⟨_, rfl⟩
  rw [← hr] at hc ⊢
  clear hr
  obtain ⟨nm, tk, ly, mk⟩ := r
  have c0 : cells20[i * 4]? = some (.string nm) := hc 0 (by omega)
  have c1 : cells20[i * 4 + 1]? = some (.int .i64 tk) := hc 1 (by omega)
  have c2 : cells20[i * 4 + 2]? = some (.int .i64 ly) := hc 2 (by omega)
  have c3 : cells20[i * 4 + 3]? = some (.int .i64 mk) := hc 3 (by omega)
  have hw : IntKind.i64.wrap ((i : Int) + 1 - 1) = i := by rw [IntKind.wrap_i64]; omega
  clear hc hi
  unfold primV toRow
  go_enter Try.func38, Try.ntmps38
  go_wp2_with (go_at_call 61; refine (tableB _).mono ?_; rintro e w1 ⟨rfl, hb_w1, hk0⟩; have hk : Blk w1 (w.heap.size + 1) cells20 101 := (by simpa using hk0); clear hk0; obtain ⟨k1, k2, k3, k4, k5, k6, k7, k8, k9, k10, k11⟩ := (show Blk w1 (w.heap.size) #[.string ⟨#[]⟩, .int .i64 0, .int .i64 0, .bool false, .bool false] 73 from (by repeat (first | (with_reducible assumption) | (with_reducible refine Blk.new' ?_; first | rfl | (simp; done) | (simp; omega)) | (with_reducible apply Blk.setFive) | (with_reducible apply Blk.set0) | (with_reducible apply Blk.set1) | (with_reducible apply Blk.setOne) | (with_reducible refine Blk.set_other ?_ (by omega) _ _) | (with_reducible apply Blk.alloc) | (with_reducible apply Blk.drew) | (with_reducible refine Blk.below ?_ (by with_reducible assumption))))).five; have y0 := (hk.cell (i * 4)).trans c0; have y1 := (hk.cell (i * 4 + 1)).trans c1; have y2 := (hk.cell (i * 4 + 2)).trans c2; have y3 := (hk.cell (i * 4 + 3)).trans c3)
  refine ret_blk (v := .tuple #[.agg #[.string nm, .int .i64 tk, .int .i64 ly, .bool (decide (0 < mk)), .bool (mk == 2)], .bool true]) w.heap.size #[.string nm, .int .i64 tk, .int .i64 ly, .bool (decide (0 < mk)), .bool (mk == 2)] 73 ?_ (fun w' h => by obtain ⟨c1, c2, c3, c4, c5, _⟩ := h.five; simp [results, Try.results38, go_sem, c1, c2, c3, c4, c5]) rfl ⟨rfl, ?_⟩
  · repeat (first | (with_reducible assumption) | (with_reducible refine Blk.new' ?_; first | rfl | (simp; done) | (simp; omega)) | (with_reducible apply Blk.setFive) | (with_reducible apply Blk.set0) | (with_reducible apply Blk.set1) | (with_reducible apply Blk.setOne) | (with_reducible refine Blk.set_other ?_ (by omega) _ _) | (with_reducible apply Blk.alloc) | (with_reducible apply Blk.drew) | (with_reducible refine Blk.below ?_ (by with_reducible assumption)))
  · repeat (first | (with_reducible exact Below.refl _ _) | (with_reducible assumption) | (with_reducible apply bel_alloc) | (with_reducible apply bel_drew) | (with_reducible refine bel_set ?_ (by first | exact Nat.le_refl _ | (simp; done) | omega | (simp; omega)) _) | (with_reducible refine bel_trans ?_ (by with_reducible assumption)))
set_option maxRecDepth 100000 in
set_option maxHeartbeats 400000 in
theorem rOf_no (n : Int) (h : ¬ (1 ≤ n ∧ n ≤ 141)) (w : World) : Calls Try.prog 38 #[.int .i64 n] w fun e w' => e = .returned (.tuple #[primV noPrim, .bool false]) ∧ Below w.heap.size w w' := by
  unfold primV noPrim
  by_cases t1 : n < 1
  · clear h
    go_enter Try.func38, Try.ntmps38
    go_wp2_with (go_at_call 61; refine (tableB _).mono ?_; rintro e w1 ⟨rfl, hb_w1, hk⟩; obtain ⟨k1, k2, k3, k4, k5, k6, k7, k8, k9, k10, k11⟩ := (show Blk w1 (w.heap.size) #[.string ⟨#[]⟩, .int .i64 0, .int .i64 0, .bool false, .bool false] 73 from (by repeat (first | (with_reducible assumption) | (with_reducible refine Blk.new' ?_; first | rfl | (simp; done) | (simp; omega)) | (with_reducible apply Blk.setFive) | (with_reducible apply Blk.set0) | (with_reducible apply Blk.set1) | (with_reducible apply Blk.setOne) | (with_reducible refine Blk.set_other ?_ (by omega) _ _) | (with_reducible apply Blk.alloc) | (with_reducible apply Blk.drew) | (with_reducible refine Blk.below ?_ (by with_reducible assumption))))).five)
    refine ret_blk (v := .tuple #[.agg #[.string ⟨#[]⟩, .int .i64 0, .int .i64 0, .bool false, .bool false], .bool false]) w.heap.size #[.string ⟨#[]⟩, .int .i64 0, .int .i64 0, .bool false, .bool false] 73 ?_ (fun w' h => by obtain ⟨c1, c2, c3, c4, c5, _⟩ := h.five; simp [results, Try.results38, go_sem, c1, c2, c3, c4, c5]) rfl ⟨rfl, ?_⟩
    · repeat (first | (with_reducible assumption) | (with_reducible refine Blk.new' ?_; first | rfl | (simp; done) | (simp; omega)) | (with_reducible apply Blk.setFive) | (with_reducible apply Blk.set0) | (with_reducible apply Blk.set1) | (with_reducible apply Blk.setOne) | (with_reducible refine Blk.set_other ?_ (by omega) _ _) | (with_reducible apply Blk.alloc) | (with_reducible apply Blk.drew) | (with_reducible refine Blk.below ?_ (by with_reducible assumption)))
    · repeat (first | (with_reducible exact Below.refl _ _) | (with_reducible assumption) | (with_reducible apply bel_alloc) | (with_reducible apply bel_drew) | (with_reducible refine bel_set ?_ (by first | exact Nat.le_refl _ | (simp; done) | omega | (simp; omega)) _) | (with_reducible refine bel_trans ?_ (by with_reducible assumption)))
  · have t2 : 141 < n := by omega
    clear h
    go_enter Try.func38, Try.ntmps38
    go_wp2_with (go_at_call 61; refine (tableB _).mono ?_; rintro e w1 ⟨rfl, hb_w1, hk⟩; obtain ⟨k1, k2, k3, k4, k5, k6, k7, k8, k9, k10, k11⟩ := (show Blk w1 (w.heap.size) #[.string ⟨#[]⟩, .int .i64 0, .int .i64 0, .bool false, .bool false] 73 from (by repeat (first | (with_reducible assumption) | (with_reducible refine Blk.new' ?_; first | rfl | (simp; done) | (simp; omega)) | (with_reducible apply Blk.setFive) | (with_reducible apply Blk.set0) | (with_reducible apply Blk.set1) | (with_reducible apply Blk.setOne) | (with_reducible refine Blk.set_other ?_ (by omega) _ _) | (with_reducible apply Blk.alloc) | (with_reducible apply Blk.drew) | (with_reducible refine Blk.below ?_ (by with_reducible assumption))))).five)
    refine ret_blk (v := .tuple #[.agg #[.string ⟨#[]⟩, .int .i64 0, .int .i64 0, .bool false, .bool false], .bool false]) w.heap.size #[.string ⟨#[]⟩, .int .i64 0, .int .i64 0, .bool false, .bool false] 73 ?_ (fun w' h => by obtain ⟨c1, c2, c3, c4, c5, _⟩ := h.five; simp [results, Try.results38, go_sem, c1, c2, c3, c4, c5]) rfl ⟨rfl, ?_⟩
    · repeat (first | (with_reducible assumption) | (with_reducible refine Blk.new' ?_; first | rfl | (simp; done) | (simp; omega)) | (with_reducible apply Blk.setFive) | (with_reducible apply Blk.set0) | (with_reducible apply Blk.set1) | (with_reducible apply Blk.setOne) | (with_reducible refine Blk.set_other ?_ (by omega) _ _) | (with_reducible apply Blk.alloc) | (with_reducible apply Blk.drew) | (with_reducible refine Blk.below ?_ (by with_reducible assumption)))
    · repeat (first | (with_reducible exact Below.refl _ _) | (with_reducible assumption) | (with_reducible apply bel_alloc) | (with_reducible apply bel_drew) | (with_reducible refine bel_set ?_ (by first | exact Nat.le_refl _ | (simp; done) | omega | (simp; omega)) _) | (with_reducible refine bel_trans ?_ (by with_reducible assumption)))
end Go.Proofs.Ytcfblcgdjhpdaaa

/- 'Large' of both packages. -/
namespace Go.Proofs.Ytcfblcgdjhpdaaa
open Go.RowKit
set_option linter.unusedVariables false
set_option linter.unusedSimpArgs false

def up (c : UInt8) : UInt8 := if 97 ≤ c.toNat ∧ c.toNat ≤ 122 then c - 32 else c
def large (s : ByteArray) : ByteArray := ⟨(s.data.toList.map up).toArray⟩
/-- What the row holds when k bytes are done. -/
def st (l : List UInt8) (k : Nat) : List UInt8 := (l.map up).take k ++ l.drop k
theorem st_len (l : List UInt8) (k : Nat) (hk : k ≤ l.length) : (st l k).length = l.length := by unfold st; simp; omega
theorem st_at (l : List UInt8) (k : Nat) (hk : k < l.length) : (st l k)[k]? = some l[k] := by
  unfold st
  rw [List.getElem?_append_right (by simp; omega)]
  simp [Nat.min_eq_left (Nat.le_of_lt hk), hk]
theorem st_next (l : List UInt8) (k : Nat) (hk : k < l.length) : (st l k).set k (up l[k]) = st l (k + 1) := by
  apply List.ext_getElem?
  intro i
  unfold st
  rw [List.getElem?_set]
  have h1 : min k l.length = k := by omega
  have h2 : min (k + 1) l.length = k + 1 := by omega
  by_cases e : k = i
  · subst e
    rw [if_pos rfl, if_pos (by simp; omega), List.getElem?_append_left (by simp; omega)]
    simp [hk]
  · rw [if_neg e]
    by_cases hi : i < k
    · rw [List.getElem?_append_left (by simp; omega), List.getElem?_append_left (by simp; omega), List.getElem?_take, List.getElem?_take, if_pos hi, if_pos (by omega)]
    · rw [List.getElem?_append_right (by simp; omega), List.getElem?_append_right (by simp; omega)]
      simp [h1, h2]
      congr 1; omega
theorem st_end (l : List UInt8) : st l l.length = l.map up := by unfold st; rw [List.drop_length, List.append_nil, List.take_of_length_le (by simp)]
theorem up_same {l : List UInt8} {k : Nat} (hk : k < l.length) (h : up l[k] = l[k]) : st l (k + 1) = st l k := by
  rw [← st_next l k hk, h]
  apply List.ext_getElem?
  intro i
  rw [List.getElem?_set]
  split
  · rename_i e
    subst e
    rw [if_pos (by rw [st_len l k (by omega)]; exact hk), st_at l k hk]
  · rfl

set_option maxRecDepth 100000 in
set_option maxHeartbeats 800000 in
theorem wLarge (s : ByteArray) (hs : s.size ≤ 1000) (w : World) : Calls Try.prog 32 #[.string s] w fun e w' => e = .returned (.string (large s)) ∧ Below w.heap.size w w' := by
  have hconv := run_bytes_of_string (P := Try.prog) w 9 22 5 s Try.underlying9 Try.underlying22 Try.underlying5
  have hrow := Bytes.conv w.drew s (grownCap w s.size 0 5) 5 (bytesRow s (grownCap w s.size 0 5)).size ((bytesRow s (grownCap w s.size 0 5)).size + 1) (by simp [bytesRow])
  obtain ⟨R, hR⟩ : ∃ R, R = bytesRow s (grownCap w s.size 0 5) := ⟨_, rfl⟩
  obtain ⟨cap, hcap⟩ : ∃ cap, cap = grownCap w s.size 0 5 := ⟨_, rfl⟩
  rw [← hR] at hrow hconv
  rw [← hcap] at hconv
  clear hR hcap
  obtain ⟨l, hl⟩ : ∃ l, l = s.data.toList := ⟨_, rfl⟩
  have hn : l.length = s.size := by rw [hl, Array.length_toList]; rfl
  rw [← hl] at hrow
  unfold large
  rw [← hl]
  clear hl
  obtain ⟨n, hn2⟩ : ∃ n, n = s.size := ⟨_, rfl⟩
  rw [← hn2] at hn hconv hs
  clear hn2
  have hw : ∀ k : Nat, k ≤ 1000 → IntKind.i64.wrap ((k : Int) + 1) = ((k + 1 : Nat) : Int) := fun k hk => by rw [IntKind.wrap_i64]; omega
  go_enter Try.func32, Try.ntmps32
  go_wp2
  go_loopw [10] (fun i wr => ∃ k : Nat, k ≤ n ∧ i = .int .i64 (k : Int) ∧ Bytes wr w.heap.size (st l k) ∧ Below w.heap.size w wr) (fun i _ => (n - (intOf i).toNat))
  case atStart =>
    exact ⟨0, by omega, rfl, by rw [show st l 0 = l by simp [st]]; exact hrow, by repeat (first | (with_reducible exact Below.refl _ _) | (with_reducible assumption) | (with_reducible apply bel_alloc) | (with_reducible apply bel_drew) | (with_reducible refine bel_set ?_ (by first | exact Nat.le_refl _ | (simp; done) | omega | (simp; omega)) _) | (with_reducible refine bel_trans ?_ (by with_reducible assumption)))⟩
  case round =>
    obtain ⟨k, hk, rfl, hB, hbl⟩ := hrel
    clear hrow hconv
    by_cases hk0 : k < n
    · have hkl : k < l.length := by omega
      have hlen := st_len l k (by omega)
      have hat := hB k (by omega)
      have hst := st_at l k hkl
      rw [List.getElem?_eq_getElem (by omega)] at hst
      have hst' := Option.some.inj hst
      rw [hst'] at hat
      obtain ⟨c1, f1⟩ := hat
      have hx : l[k].toNat < 256 := l[k].toNat_lt
      have hnx := st_next l k hkl
      have hsame := fun h => up_same hkl h
      have hup : up l[k] = if 97 ≤ l[k].toNat ∧ l[k].toNat ≤ 122 then l[k] - 32 else l[k] := rfl
      have hset := hB.set k (up l[k]) (by omega)
      rw [hnx] at hset
      have hwk := hw k (by omega)
      have hB' := hB
      clear hst hst' hnx hw hlen hB
      by_cases hu : 97 ≤ l[k].toNat ∧ l[k].toNat ≤ 122
      · have hv : ((up l[k]).toNat : Int) = (l[k].toNat : Int) - 32 := by
          rw [hup, if_pos hu, UInt8.toNat_sub_of_le _ _ (by show 32 ≤ l[k]; exact UInt8.le_iff_toNat_le.2 (by simpa using (by omega : 32 ≤ l[k].toNat)))]
          have : (32 : UInt8).toNat = 32 := rfl
          omega
        rw [hv] at hset
        have hset' := Lib.hid hset
        clear hsame hup hset hv hB'
        obtain ⟨x, hxe⟩ : ∃ x : Int, x = (l[k].toNat : Int) := ⟨_, rfl⟩
        rw [← hxe] at c1 hset'
        have t1 : (97 : Int) ≤ x := by omega
        have t2 : x ≤ 122 := by omega
        have hw8 : IntKind.u8.wrap (x - 32) = x - 32 := by rw [IntKind.wrap_u8]; omega
        clear hxe hu hx
        go_wp2
        go_roundw
        case rel => exact ⟨k + 1, by omega, rfl, hset'.out, by repeat (first | (with_reducible exact Below.refl _ _) | (with_reducible assumption) | (with_reducible apply bel_alloc) | (with_reducible apply bel_drew) | (with_reducible refine bel_set ?_ (by first | exact Nat.le_refl _ | (simp; done) | omega | (simp; omega)) _) | (with_reducible refine bel_trans ?_ (by with_reducible assumption)))⟩
        case measure => simp [intOf]; omega
      · have hv := hsame (by rw [hup, if_neg hu])
        clear hsame hup hset
        obtain ⟨x, hxe⟩ : ∃ x : Int, x = (l[k].toNat : Int) := ⟨_, rfl⟩
        rw [← hxe] at c1
        rw [← hv] at hB'
        have hB2 := Lib.hid hB'
        clear hv hB'
        by_cases t1 : (97 : Int) ≤ x
        · have t2 : ¬ x ≤ 122 := by omega
          clear hxe hu hx
          go_wp2
          go_roundw
          case rel => exact ⟨k + 1, by omega, rfl, hB2.out, by repeat (first | (with_reducible exact Below.refl _ _) | (with_reducible assumption) | (with_reducible apply bel_alloc) | (with_reducible apply bel_drew) | (with_reducible refine bel_set ?_ (by first | exact Nat.le_refl _ | (simp; done) | omega | (simp; omega)) _) | (with_reducible refine bel_trans ?_ (by with_reducible assumption)))⟩
          case measure => simp [intOf]; omega
        · clear hxe hu hx
          go_wp2
          go_roundw
          case rel => exact ⟨k + 1, by omega, rfl, hB2.out, by repeat (first | (with_reducible exact Below.refl _ _) | (with_reducible assumption) | (with_reducible apply bel_alloc) | (with_reducible apply bel_drew) | (with_reducible refine bel_set ?_ (by first | exact Nat.le_refl _ | (simp; done) | omega | (simp; omega)) _) | (with_reducible refine bel_trans ?_ (by with_reducible assumption)))⟩
          case measure => simp [intOf]; omega
    · obtain rfl : k = n := by omega
      have hback := run_convert_bytes_back (P := Try.prog) wr 22 9 5 ⟨w.heap.size, 0, none⟩ cap (l.map up) Try.underlying22 Try.underlying5 Try.underlying9 (fun j hj => by
        have h := (hB j (by rw [← hn, st_end]; exact hj)).1
        have e : (st l k)[j]'(by rw [← hn, st_end]; exact hj) = (l.map up)[j] := by simp only [← hn, st_end]
        rw [e] at h
        have hadd : (⟨w.heap.size, 0, none⟩ : Addr).add j = ⟨w.heap.size, j, none⟩ := by unfold Addr.add; split <;> simp_all
        rw [hadd]
        simpa using h)
      rw [List.length_map, hn] at hback
      clear hB
      go_wp2
      go_ret
      exact ⟨rfl, by repeat (first | (with_reducible exact Below.refl _ _) | (with_reducible assumption) | (with_reducible apply bel_alloc) | (with_reducible apply bel_drew) | (with_reducible refine bel_set ?_ (by first | exact Nat.le_refl _ | (simp; done) | omega | (simp; omega)) _) | (with_reducible refine bel_trans ?_ (by with_reducible assumption)))⟩
set_option maxRecDepth 100000 in
set_option maxHeartbeats 800000 in
theorem rLarge (s : ByteArray) (hs : s.size ≤ 1000) (w : World) : Calls Try.prog 36 #[.string s] w fun e w' => e = .returned (.string (large s)) ∧ Below w.heap.size w w' := by
  have hconv := run_bytes_of_string (P := Try.prog) w 9 22 5 s Try.underlying9 Try.underlying22 Try.underlying5
  have hrow := Bytes.conv w.drew s (grownCap w s.size 0 5) 5 (bytesRow s (grownCap w s.size 0 5)).size ((bytesRow s (grownCap w s.size 0 5)).size + 1) (by simp [bytesRow])
  obtain ⟨R, hR⟩ : ∃ R, R = bytesRow s (grownCap w s.size 0 5) := ⟨_, rfl⟩
  obtain ⟨cap, hcap⟩ : ∃ cap, cap = grownCap w s.size 0 5 := ⟨_, rfl⟩
  rw [← hR] at hrow hconv
  rw [← hcap] at hconv
  clear hR hcap
  obtain ⟨l, hl⟩ : ∃ l, l = s.data.toList := ⟨_, rfl⟩
  have hn : l.length = s.size := by rw [hl, Array.length_toList]; rfl
  rw [← hl] at hrow
  unfold large
  rw [← hl]
  clear hl
  obtain ⟨n, hn2⟩ : ∃ n, n = s.size := ⟨_, rfl⟩
  rw [← hn2] at hn hconv hs
  clear hn2
  have hw : ∀ k : Nat, k ≤ 1000 → IntKind.i64.wrap ((k : Int) + 1) = ((k + 1 : Nat) : Int) := fun k hk => by rw [IntKind.wrap_i64]; omega
  go_enter Try.func36, Try.ntmps36
  go_wp2
  go_loopw [9] (fun i wr => ∃ k : Nat, k ≤ n ∧ i = .int .i64 (k : Int) ∧ Bytes wr w.heap.size (st l k) ∧ Below w.heap.size w wr) (fun i _ => (n - (intOf i).toNat))
  case atStart =>
    exact ⟨0, by omega, rfl, by rw [show st l 0 = l by simp [st]]; exact hrow, by repeat (first | (with_reducible exact Below.refl _ _) | (with_reducible assumption) | (with_reducible apply bel_alloc) | (with_reducible apply bel_drew) | (with_reducible refine bel_set ?_ (by first | exact Nat.le_refl _ | (simp; done) | omega | (simp; omega)) _) | (with_reducible refine bel_trans ?_ (by with_reducible assumption)))⟩
  case round =>
    obtain ⟨k, hk, rfl, hB, hbl⟩ := hrel
    clear hrow hconv
    by_cases hk0 : k < n
    · have hkl : k < l.length := by omega
      have hlen := st_len l k (by omega)
      have hat := hB k (by omega)
      have hst := st_at l k hkl
      rw [List.getElem?_eq_getElem (by omega)] at hst
      have hst' := Option.some.inj hst
      rw [hst'] at hat
      obtain ⟨c1, f1⟩ := hat
      have hx : l[k].toNat < 256 := l[k].toNat_lt
      have hnx := st_next l k hkl
      have hsame := fun h => up_same hkl h
      have hup : up l[k] = if 97 ≤ l[k].toNat ∧ l[k].toNat ≤ 122 then l[k] - 32 else l[k] := rfl
      have hset := hB.set k (up l[k]) (by omega)
      rw [hnx] at hset
      have hwk := hw k (by omega)
      have hB' := hB
      clear hst hst' hnx hw hlen hB
      by_cases hu : 97 ≤ l[k].toNat ∧ l[k].toNat ≤ 122
      · have hv : ((up l[k]).toNat : Int) = (l[k].toNat : Int) - 32 := by
          rw [hup, if_pos hu, UInt8.toNat_sub_of_le _ _ (by show 32 ≤ l[k]; exact UInt8.le_iff_toNat_le.2 (by simpa using (by omega : 32 ≤ l[k].toNat)))]
          have : (32 : UInt8).toNat = 32 := rfl
          omega
        rw [hv] at hset
        have hset' := Lib.hid hset
        clear hsame hup hset hv hB'
        obtain ⟨x, hxe⟩ : ∃ x : Int, x = (l[k].toNat : Int) := ⟨_, rfl⟩
        rw [← hxe] at c1 hset'
        have t1 : (97 : Int) ≤ x := by omega
        have t2 : x ≤ 122 := by omega
        have hw8 : IntKind.u8.wrap (x - 32) = x - 32 := by rw [IntKind.wrap_u8]; omega
        clear hxe hu hx
        go_wp2
        go_roundw
        case rel => exact ⟨k + 1, by omega, rfl, hset'.out, by repeat (first | (with_reducible exact Below.refl _ _) | (with_reducible assumption) | (with_reducible apply bel_alloc) | (with_reducible apply bel_drew) | (with_reducible refine bel_set ?_ (by first | exact Nat.le_refl _ | (simp; done) | omega | (simp; omega)) _) | (with_reducible refine bel_trans ?_ (by with_reducible assumption)))⟩
        case measure => simp [intOf]; omega
      · have hv := hsame (by rw [hup, if_neg hu])
        clear hsame hup hset
        obtain ⟨x, hxe⟩ : ∃ x : Int, x = (l[k].toNat : Int) := ⟨_, rfl⟩
        rw [← hxe] at c1
        rw [← hv] at hB'
        have hB2 := Lib.hid hB'
        clear hv hB'
        by_cases t1 : (97 : Int) ≤ x
        · have t2 : ¬ x ≤ 122 := by omega
          clear hxe hu hx
          go_wp2
          go_roundw
          case rel => exact ⟨k + 1, by omega, rfl, hB2.out, by repeat (first | (with_reducible exact Below.refl _ _) | (with_reducible assumption) | (with_reducible apply bel_alloc) | (with_reducible apply bel_drew) | (with_reducible refine bel_set ?_ (by first | exact Nat.le_refl _ | (simp; done) | omega | (simp; omega)) _) | (with_reducible refine bel_trans ?_ (by with_reducible assumption)))⟩
          case measure => simp [intOf]; omega
        · clear hxe hu hx
          go_wp2
          go_roundw
          case rel => exact ⟨k + 1, by omega, rfl, hB2.out, by repeat (first | (with_reducible exact Below.refl _ _) | (with_reducible assumption) | (with_reducible apply bel_alloc) | (with_reducible apply bel_drew) | (with_reducible refine bel_set ?_ (by first | exact Nat.le_refl _ | (simp; done) | omega | (simp; omega)) _) | (with_reducible refine bel_trans ?_ (by with_reducible assumption)))⟩
          case measure => simp [intOf]; omega
    · obtain rfl : k = n := by omega
      have hback := run_convert_bytes_back (P := Try.prog) wr 22 9 5 ⟨w.heap.size, 0, none⟩ cap (l.map up) Try.underlying22 Try.underlying5 Try.underlying9 (fun j hj => by
        have h := (hB j (by rw [← hn, st_end]; exact hj)).1
        have e : (st l k)[j]'(by rw [← hn, st_end]; exact hj) = (l.map up)[j] := by simp only [← hn, st_end]
        rw [e] at h
        have hadd : (⟨w.heap.size, 0, none⟩ : Addr).add j = ⟨w.heap.size, j, none⟩ := by unfold Addr.add; split <;> simp_all
        rw [hadd]
        simpa using h)
      rw [List.length_map, hn] at hback
      clear hB
      go_wp2
      go_ret
      exact ⟨rfl, by repeat (first | (with_reducible exact Below.refl _ _) | (with_reducible assumption) | (with_reducible apply bel_alloc) | (with_reducible apply bel_drew) | (with_reducible refine bel_set ?_ (by first | exact Nat.le_refl _ | (simp; done) | omega | (simp; omega)) _) | (with_reducible refine bel_trans ?_ (by with_reducible assumption)))⟩
end Go.Proofs.Ytcfblcgdjhpdaaa

/- The iterator over all primitives. -/
namespace Go.Proofs.Ytcfblcgdjhpdaaa
open Go.RowKit Go.Shelf
set_option linter.unusedVariables false
set_option linter.unusedSimpArgs false
attribute [local go_sem] Oper.semAt_some
attribute [local irreducible] cells19 cells20 rowL tabL

/-- A primitive's number. -/
abbrev Ix := { n : Nat // 1 ≤ n ∧ n ≤ 141 }
def allIx : List Ix := (List.finRange 141).map fun i => ⟨i.1 + 1, by omega, by have := i.2; omega⟩
theorem allIx_len : allIx.length = 141 := by simp [allIx]
theorem allIx_at (k : Nat) (hk : k < 141) : allIx[k]? = some ⟨k + 1, by omega, by omega⟩ := by simp [allIx, hk]
theorem allIx_next (k : Nat) (hk : k < 141) : allIx.take k ++ [⟨k + 1, by omega, by omega⟩] = allIx.take (k + 1) := by
  rw [List.take_add_one, allIx_at k hk]; rfl
noncomputable def rowAt (x : Ix) : Row := rowL.getD x.1 default
noncomputable abbrev encs (x : Ix) : Array Value := #[.int .i64 (x.1 : Int), primV (rowAt x)]
theorem grown_of_below {w w' : World} (h : Below w.heap.size w w') : w.grownBy w' none := ⟨h.os, h.tape, h.output, h.size, fun k hk _ => h.block k hk⟩

set_option maxRecDepth 100000 in
set_option maxHeartbeats 1000000 in
theorem all_stops (n : Nat) (hn : 1 ≤ n) (w : World) : SeqStopsK Fence.wide n Try.prog 76 #[] encs (fun _ _ => True) (fun ys => ys = allIx) (fun pre => pre <+: allIx) 141 w := fun l J Jx W hW hJ hJx hY h0 => by
  have hw1 : ∀ k : Nat, k < 141 → IntKind.i64.wrap ((k : Int) + 1) = (k : Int) + 1 := fun k hk => by rw [IntKind.wrap_i64]; omega
  refine callsIn_of_wp Try.func76 rfl trivial ?_ rfl
  simp only [Try.ntmps76, List.size_toArray, List.length_cons, List.length_nil, Nat.reduceAdd, Nat.reduceSub, Array.replicate_succ, Array.replicate_zero, List.push_toArray, List.append_toArray, List.nil_append, List.cons_append]
  gi_wp2
  gi_loopw [5] (fun p wr => ∃ k : Nat, k ≤ 141 ∧ p = .int .i64 (k : Int) ∧ J (allIx.take k) wr ) (fun p wr => 141 - (intOf p).toNat)
  case atStart =>
    exact ⟨0, by omega, rfl, h0⟩
  case round =>
    obtain ⟨k, hk, rfl, hJs⟩ := hrel
    by_cases hk0 : k < 141
    · have hwk := hw1 k hk0
      have t1 : (k : Int) < 141 := by omega
      have HO := fun w => wOf ((k : Int) + 1) (by omega) (by omega) w
      have HY := fun W2 hJ' => hY (allIx.take k) ⟨k + 1, by omega, by omega⟩ W2 hJ' (by rw [List.length_take]; omega)
      rw [allIx_next k hk0] at HY
      have ekn : ((k : Int) + 1).toNat = k + 1 := by omega
      have ek : ((k + 1 : Nat) : Int) = (k : Int) + 1 := by omega
      have hJ1 := fun W2 (hb : Below wr.heap.size wr W2) => hJ (allIx.take k) wr W2 none hJs (grown_of_below hb) (fun r e => by cases e)
      rw [ekn] at HO
      unfold encs rowAt at HY
      dsimp only at HY
      rw [ek] at HY
      obtain ⟨r, hr⟩ : ∃ r, r = rowL.getD (k + 1) default := ⟨_, rfl⟩
      rw [← hr] at HO HY
      obtain ⟨nm, tk, ly, nw, on⟩ := r
      unfold primV at HO HY
      have HO' := Lib.hid HO
      have HY' := Lib.hid HY
      have hJ1' := Lib.hid hJ1
      clear hr HO HY hJ1 hY ekn ek
      gi_wp2_with (refine ⟨trivial, ?_⟩; gi_at_call 34; refine (callsIn_wide.2 (HO'.out _)).mono ?_; rintro e w1 ⟨rfl, hb_w1⟩; obtain ⟨fn, tmps, assign, body, hy, hR⟩ := HY'.out (w1.alloc (.cells #[.string nm, .int .i64 tk, .int .i64 ly, .bool nw, .bool on] 73)) (hJ1'.out _ (by repeat (first | (with_reducible exact Below.refl _ _) | (with_reducible assumption) | (with_reducible apply bel_alloc) | (with_reducible apply bel_drew) | (with_reducible refine bel_set ?_ (by first | exact Nat.le_refl _ | (simp; done) | omega | (simp; omega)) _) | (with_reducible refine bel_trans ?_ (by with_reducible assumption))))))
      refine hR.mono ?_
      rintro e W3 (⟨rfl, hJ3, -⟩ | ⟨rfl, hJx3⟩)
      · gi_wp2
        go_roundw
        case rel => exact ⟨k + 1, by omega, rfl, hJ3⟩
        case measure => simp [intOf]; omega
      · gi_wp2
        refine bodyPost_ret (results_none rfl _ _ _) rfl ?_
        exact ⟨⟨_, rfl⟩, .inr ⟨allIx.take (k + 1), List.take_prefix _ _, hJx3⟩⟩
    · obtain rfl : k = 141 := by omega
      gi_wp2
      go_end0
      exact ⟨⟨_, rfl⟩, .inl ⟨allIx, rfl, by rw [← allIx_len, List.take_length] at hJs; exact hJs⟩⟩
end Go.Proofs.Ytcfblcgdjhpdaaa

/- 'names': the map of all names that can be found. -/
namespace Go.Proofs.Ytcfblcgdjhpdaaa
open Go.RowKit Go.Shelf
set_option linter.unusedVariables false
set_option linter.unusedSimpArgs false
attribute [local go_sem] Oper.semAt_some
attribute [local irreducible] cells19 cells20 rowL tabL

theorem wAll (w : World) : Calls Try.prog 70 #[] w fun e w' => e = .returned (.func (.func 76) #[] #[]) ∧ w' = w := by
  go_enter Try.func70, Try.ntmps70
  go_wp2
  go_ret
  exact ⟨rfl, rfl⟩

def vis (x : Ix) : Bool := decide (x.1 < 2) || decide (11 < x.1)
/-- The map, as a datum. -/
noncomputable def namesD (xs : List Ix) : DataW Unit := (xs.filter vis).foldl (fun D x => D.put (.string (rowAt x).1.data.toList) (.lit (.int .i64 (x.1 : Int)))) (.map [])
theorem namesD_yes (pre : List Ix) (x : Ix) (h : vis x = true) : namesD (pre ++ [x]) = (namesD pre).put (.string (rowAt x).1.data.toList) (.lit (.int .i64 (x.1 : Int))) := by simp [namesD, h]
theorem namesD_no (pre : List Ix) (x : Ix) (h : vis x = false) : namesD (pre ++ [x]) = namesD pre := by simp [namesD, h]

theorem names_small : rowL.all (fun r => decide (r.1.size ≤ 16)) = true := by kernel_rfl
theorem name_small (x : Ix) : (rowAt x).1.size ≤ 16 := by
  have h := List.all_eq_true.1 names_small
  have hx : x.1 < rowL.length := by rw [rowL_len]; have := x.2; omega
  have h2 := h (rowAt x) (by unfold rowAt; simp only [List.getD, List.getElem?_eq_getElem hx, Option.getD_some]; exact List.getElem_mem hx)
  simpa using h2
/-- A row's five cells. -/
def rowC (r : Row) : Array Value := #[.string r.1, .int .i64 r.2.1, .int .i64 r.2.2.1, .bool r.2.2.2.1, .bool r.2.2.2.2]
theorem blk_own {X Y : World} {row : Option Nat} {B : Nat} {c : Array Value} {t : TypeId} (h : Blk X B c t) (hg : X.grownBy Y row) (hr : ∀ r, row = some r → ∃ o : Obj, X.heap[r]? = some o ∧ o.isCells = false) : Blk Y B c t := by
  unfold Blk at *
  refine (hg.block B (Array.getElem?_eq_some_iff.1 h).1 (fun e => ?_)).trans h
  obtain ⟨o, ho, hc⟩ := hr B e.symm
  rw [h] at ho
  cases ho
  cases hc
set_option maxRecDepth 100000 in
set_option maxHeartbeats 2000000 in
theorem names_in (w : World) : Calls Try.prog 59 #[] w fun e W' => e = .returned (.map (some w.heap.size)) ∧ W'.ownsMap Try.prog 9 (plainElem (H := Unit) Try.prog 3) w.heap.size (allIx.filter vis).length (namesD allIx) ∧ Below w.heap.size w W' := by
  refine (callsIn_wide (n := 3)).1 ?_
  have hmm := @run_makeMap Try.prog
  refine callsIn_of_wp_marks Try.func59 rfl trivial ?_ rfl
  simp only [Try.ntmps59, List.size_toArray, List.length_cons, List.length_nil, Nat.reduceAdd, Nat.reduceSub, Array.replicate_succ, Array.replicate_zero, List.push_toArray, List.append_toArray, List.nil_append, List.cons_append]
  gi_wp2_with (refine ⟨trivial, ?_⟩; gi_at_call 70; refine (callsIn_wide.2 (wAll _)).mono ?_; rintro e w' ⟨rfl, rfl⟩)
  have hm0 := World.ownsMap_made w Try.prog 9 (plainElem (H := Unit) Try.prog 3)
  have bM := Boxed.new (w.alloc (.map #[] 0)) 91 (.map (some w.heap.size))
  simp only [World.size_alloc] at bM
  have hB0 : Below w.heap.size w ((w.alloc (.map #[] 0)).alloc (.cells #[.map (some w.heap.size)] 91)) := ((Below.refl _ w).alloc (Nat.le_refl _) _).alloc (by simp) _
  refine wpIn_rangeFunc_ownH rfl (by omega) (gf := 76) (lb := #[]) rfl trivial (enters_of Try.func76 (by kernel_rfl) rfl) (all_stops (3 - 1) (by omega) _) (fun _ _ => trivial) (fun _ _ _ _ _ _ _ _ => trivial) (Below.refl _ _) (fun _ => rfl)
    (fun pre W => (Boxed W (w.heap.size + 1) 91 (.map (some w.heap.size)) ∧ W.ownsMap Try.prog 9 (plainElem (H := Unit) Try.prog 3) w.heap.size (pre.filter vis).length (namesD pre)) ∧ Below w.heap.size w W)
    (fun _ _ _ => False)
    (OwnFrom.and (fun s A B row hs hg hr => ⟨boxed_own _ 91 (fun _ => .map (some w.heap.size)) s A B row hs.1 hg (fun r e => (hr r e).2), hs.2.kept hg (fun e => by have := (hr _ e.symm).1; simp at this; omega)⟩) (ownFrom_below (Nat.le_refl _) (by simp; omega)))
    (fun _ _ _ _ _ hs _ _ => hs)
    ⟨⟨bM, hm0.alloc _⟩, hB0⟩
    (fun x a' W => ∃ Bx, w.heap.size + 1 < Bx ∧ Blk W Bx (rowC (rowAt x)) 73 ∧ a' = { tmps := #[.map none, .pointer (some ⟨w.heap.size + 1, 0, none⟩), .int .i64 (x.1 : Int), .pointer (some ⟨Bx, 0, none⟩), .map (some w.heap.size), .func (.func 76) #[] #[], .int .i64 (x.1 : Int), primV (rowAt x), undef, undef, undef, undef, undef, undef, undef, undef, undef, undef, undef], defers := [] })
    (fun x a' s X Y row hs hg hr => by obtain ⟨Bx, h1, h2, h3⟩ := hs; exact ⟨Bx, h1, blk_own h2 hg (fun r e => (hr r e).2), h3⟩)
    ?assign ?body ?done ?stop
  case assign =>
    rintro l pre x W K ⟨⟨bM1, hown1⟩, hB1⟩ hK
    have hlt := bM1.lt
    have hK' := hK
    unfold encs at *
    obtain ⟨r, hr⟩ : ∃ r, r = rowAt x := ⟨_, rfl⟩
    simp only [← hr] at hK' ⊢
    clear hr
    obtain ⟨nm, tk, ly, nw, on⟩ := r
    unfold rowC at hK'
    unfold primV at hK' ⊢
    gi_wp2
    exact hK' _ _ ((KeepsOthers.alloc _ _).from _) trivial ⟨⟨bM1.alloc _, hown1.alloc _⟩, hB1.alloc hB1.size _⟩ ⟨W.heap.size, hlt, Blk.new _ _ _, rfl⟩
  case body =>
    rintro l pre x a' W hl ⟨r, hr⟩ ⟨⟨bM1, hown⟩, hB⟩ ⟨Bx, hBx, bX, rfl⟩ hlt
    have cM := bM1.cell
    have hsz := name_small x
    have hwf : (Lit.int .i64 (x.1 : Int)).wf = true := by have := x.2; simp [Lit.wf, IntKind.min, IntKind.max, IntKind.signed, IntKind.bits]; omega
    have hkey := WideMaps.keyOf_string_mk (P := Try.prog) Try.underlying9 (s := (rowAt x).1) (by unfold maxLen; omega)
    have hcnt : (pre.filter vis).length < maxLen := by have := List.length_filter_le vis pre; unfold maxLen; omega
    have hY := namesD_yes pre x
    have hN := namesD_no pre x
    have hfY : vis x = true → ((pre ++ [x]).filter vis).length = (pre.filter vis).length + 1 := fun h => by simp [h]
    have hfN : vis x = false → ((pre ++ [x]).filter vis).length = (pre.filter vis).length := fun h => by simp [h]
    have hv : vis x = (decide (x.1 < 2) || decide (11 < x.1)) := rfl
    obtain ⟨m, hm⟩ : ∃ m, m = (pre.filter vis).length := ⟨_, rfl⟩
    rw [← hm] at hown hcnt hfY hfN
    obtain ⟨ro, hro⟩ : ∃ r, r = rowAt x := ⟨_, rfl⟩
    rw [← hro] at hY hkey bX hsz ⊢
    obtain ⟨nm, tk, ly, nw, on⟩ := ro
    unfold primV
    unfold rowC at bX
    obtain ⟨n, hn⟩ := x
    dsimp only at *
    have hY' := Lib.hid hY
    have hN' := Lib.hid hN
    have hfY' := Lib.hid hfY
    have hfN' := Lib.hid hfN
    have hv' := Lib.hid hv
    clear hY hN hfY hfN hv hm hro hr
    obtain ⟨k1, k2, k3, k4, k5, k6, k7, k8, k9, k10, k11⟩ := bX.five
    by_cases t1 : n < 2
    · have hvt : vis ⟨n, hn⟩ = true := by rw [hv'.out]; simp [t1]
      have t1' : (n : Int) < 2 := by omega
      clear t1
      gi_wp2_with (gi_at_mapUpdate; refine wpListIn_mapUpdate_own _ rfl _ _ _ 91 rfl 9 3 (Maps.string_keyed Try.underlying9) Try.underlying91 _ w.heap.size m _ rfl hown hcnt _ _ _ rfl rfl hkey _ [] (plainElem_int Try.underlying3 hwf) ?_; intro w1 hown1 hgrow1)
      obtain ⟨es, ck, hh, _⟩ := hown
      refine ⟨KeepsFrom.of_grownBy hgrow1 (fun j e => by cases e; (try simp only [World.size_alloc]); omega), trivial, ⟨bM1.kept hgrow1 (by simp), ?_⟩, hB.grown hgrow1 hB.size (fun k e => by cases e; exact Nat.le_refl _)⟩
      rw [hfY'.out hvt, hY'.out hvt]
      exact hown1
    by_cases t2 : 11 < n
    · have hvt : vis ⟨n, hn⟩ = true := by rw [hv'.out]; simp [t2]
      have t1' : ¬ (n : Int) < 2 := by omega
      have t2' : (11 : Int) < (n : Int) := by omega
      clear t1 t2
      gi_wp2_with (gi_at_mapUpdate; refine wpListIn_mapUpdate_own _ rfl _ _ _ 91 rfl 9 3 (Maps.string_keyed Try.underlying9) Try.underlying91 _ w.heap.size m _ rfl hown hcnt _ _ _ rfl rfl hkey _ [] (plainElem_int Try.underlying3 hwf) ?_; intro w1 hown1 hgrow1)
      obtain ⟨es, ck, hh, _⟩ := hown
      refine ⟨KeepsFrom.of_grownBy hgrow1 (fun j e => by cases e; (try simp only [World.size_alloc]); omega), trivial, ⟨bM1.kept hgrow1 (by simp), ?_⟩, hB.grown hgrow1 hB.size (fun k e => by cases e; exact Nat.le_refl _)⟩
      rw [hfY'.out hvt, hY'.out hvt]
      exact hown1
    · have hvt : vis ⟨n, hn⟩ = false := by rw [hv'.out]; simp [t1, t2]
      have t1' : ¬ (n : Int) < 2 := by omega
      have t2' : ¬ (11 : Int) < (n : Int) := by omega
      clear t1 t2
      gi_wp2
      refine ⟨KeepsFrom.refl _ _, trivial, ⟨bM1, ?_⟩, hB⟩
      rw [hfN'.out hvt, hN'.out hvt]
      exact hown
  case done =>
    rintro D ys W hD rfl ⟨⟨bM1, hown⟩, hB⟩ hK
    have cM := bM1.cell
    gi_wp2
    refine ⟨by simp, .inl ⟨_, _, rfl, run_takeDeferred hK, ?_⟩⟩
    exact ⟨_, results_tmp rfl _ _ _, rfl, hown.kept (grownBy_putObj' _ D _) (fun e => by cases e; simp at hD; omega), hB.trans (belowK_b (w := w) (Nat.le_refl _) W D _ _ (by simp at hD; omega) hK rfl rfl)⟩
  case stop =>
    rintro D c pre W _ _ h _
    exact h.elim
end Go.Proofs.Ytcfblcgdjhpdaaa

/- 'Find' of the package: the map's answer as a list's. -/
namespace Go.Proofs.Ytcfblcgdjhpdaaa
open Go.RowKit Go.Shelf
set_option linter.unusedVariables false
set_option linter.unusedSimpArgs false
attribute [local irreducible] cells19 cells20 rowL tabL

noncomputable def nameOf (x : Ix) : List UInt8 := (rowAt x).1.data.toList
noncomputable def numOf (k : List UInt8) : Int := match (allIx.filter vis).find? (fun x => nameOf x == k) with | some x => (x.1 : Int) | none => 0
noncomputable def putAll (D : DataW Unit) (xs : List Ix) : DataW Unit := xs.foldl (fun D x => D.put (.string (nameOf x)) (.lit (.int .i64 (x.1 : Int)))) D
theorem putAll_not (k : List UInt8) (z : DataW Unit) : ∀ (xs : List Ix) (D : DataW Unit), (∀ x ∈ xs, nameOf x ≠ k) → (putAll D xs).atKey (.string k) z = D.atKey (.string k) z
  | [], D, _ => rfl
  | x :: xs, D, h => by
    show (putAll (D.put _ _) xs).atKey _ _ = _
    rw [putAll_not k z xs _ (fun y hy => h y (List.mem_cons_of_mem _ hy))]
    exact Maps.atKey_put_other (by intro e; exact h x List.mem_cons_self (by cases e; rfl)) _ _
theorem putAll_at (k : List UInt8) (z : DataW Unit) : ∀ (xs : List Ix) (D : DataW Unit), Maps.IsMap D → (xs.map nameOf).Nodup →
    (putAll D xs).atKey (.string k) z = match xs.find? (fun x => nameOf x == k) with | some x => .lit (.int .i64 (x.1 : Int)) | none => D.atKey (.string k) z
  | [], D, _, _ => rfl
  | x :: xs, D, hD, hn => by
    have hn' : nameOf x ∉ xs.map nameOf ∧ (xs.map nameOf).Nodup := by simpa using hn
    show (putAll (D.put _ _) xs).atKey _ _ = _
    by_cases e : nameOf x = k
    · rw [putAll_not k z xs _ (fun y hy e2 => hn'.1 (by rw [e, ← e2]; exact List.mem_map_of_mem hy))]
      rw [List.find?_cons_of_pos (by simpa using e)]
      rw [e]
      exact Maps.atKey_put_same hD (by trivial) _ _
    · rw [List.find?_cons_of_neg (by simpa using e)]
      rw [putAll_at k z xs _ (hD.put _ _) hn'.2]
      rw [Maps.atKey_put_other (by intro h; exact e (by cases h; rfl))]
theorem names_nodup : ((allIx.filter vis).map nameOf).Nodup := of_decide_eq_true (by kernel_rfl)
theorem namesD_at (k : List UInt8) : (namesD allIx).atKey (.string k) (.lit (.int .i64 0)) = .lit (.int .i64 (numOf k)) := by
  show (putAll (.map []) (allIx.filter vis)).atKey _ _ = _
  rw [putAll_at k _ _ _ Maps.isMap_empty names_nodup]
  unfold numOf
  cases (allIx.filter vis).find? (fun x => nameOf x == k) <;> rfl
theorem large_size (s : ByteArray) : (large s).size = s.size := by
  show (List.map up s.data.toList).toArray.size = s.data.size
  simp

set_option maxRecDepth 100000 in
set_option maxHeartbeats 800000 in
theorem wFind (s : ByteArray) (hs : s.size ≤ 1000) (w : World) : Calls Try.prog 33 #[.string s] w fun e w' => e = .returned (.int .i64 (numOf (large s).data.toList)) ∧ Below w.heap.size w w' := by
  have hkey := WideMaps.keyOf_string_mk (P := Try.prog) Try.underlying9 (s := large s) (by rw [large_size]; unfold maxLen; omega)
  have hat0 := namesD_at (large s).data.toList
  have HL := Lib.hid (fun w => wLarge s hs w)
  obtain ⟨L, hL⟩ : ∃ L, L = large s := ⟨_, rfl⟩
  rw [← hL] at hkey hat0 HL ⊢
  obtain ⟨N, hN⟩ : ∃ N, N = numOf L.data.toList := ⟨_, rfl⟩
  rw [← hN] at hat0 ⊢
  have hat := Lib.hid hat0
  clear hN hL hat0 hs
  go_enter Try.func33, Try.ntmps33
  go_wp2_with (first
    | (go_at_call 59; refine (names_in _).mono ?_; rintro e w1 ⟨rfl, hown, hb_w1⟩)
    | (go_at_call 32; refine (HL.out _).mono ?_; rintro e w2 ⟨rfl, hb_w2⟩; obtain ⟨c, hrun, hc, hwc⟩ := (hown.kept (grown_of_below hb_w2) (fun e => by cases e)).lookup_int (Maps.string_keyed Try.underlying9) Try.underlying91 Try.underlying3 (Try.zeroValue3 _) hkey; rw [hat.out] at hc; have hcN : N = c := (by cases hc; rfl); subst hcN; clear hown hc hwc))
  go_ret
  exact ⟨rfl, by repeat (first | (with_reducible exact Below.refl _ _) | (with_reducible assumption) | (with_reducible apply bel_alloc) | (with_reducible apply bel_drew) | (with_reducible refine bel_set ?_ (by first | exact Nat.le_refl _ | (simp; done) | omega | (simp; omega)) _) | (with_reducible refine bel_trans ?_ (by with_reducible assumption)))⟩
end Go.Proofs.Ytcfblcgdjhpdaaa
