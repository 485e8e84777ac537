/- The reference's 'Bytes'; 'HeaderBytes'. -/
import Derived.Test.YtcfblcgdjhpdaaaH10
import Derived.Test.YtcfblcgdjhpdaaaQ2
import Derived.Lib.LazyBuf
namespace Go.Proofs.Ytcfblcgdjhpdaaa
open Go.RowKit
set_option linter.unusedVariables false
set_option linter.unusedSimpArgs false
attribute [local go_sem] cell_set set_set m_undef

/-- 'copy(b[j:], s)' -/
theorem Bs.splice {P : Program} {w : World} {B b o n cap : Nat} {l : List UInt8} (h : Bs w B (.slice (some ⟨b, o, none⟩) n cap) l) (j : Nat) (ds : List UInt8) (hj : j + ds.length ≤ l.length) {d sT e ty : TypeId} (hu : P.underlying d = some (.slice e)) (hz : ∀ w, (Go.sizeOf e).run P w = .ok 1 w)
    (dl dc : Nat) (hdl : ds.length ≤ dl) :
    ∃ w', (Builtin.copy_ #[d, sT] ty #[.slice (some ⟨b, o + j, none⟩) dl dc, .string ⟨ds.toArray⟩]).run P w = .ok (.int .i64 (ds.length : Int)) w' ∧ Bs w' B (.slice (some ⟨b, o, none⟩) n cap) (l.take j ++ ds ++ l.drop (j + ds.length)) ∧ w.grownBy w' (some b) := by
  rcases h with ⟨h, _⟩ | ⟨b', o', cap', he, h2, h3, h4, h5, h6⟩
  · cases h
  cases he
  have hsz : (⟨ds.toArray⟩ : ByteArray).size = ds.length := by simp [ByteArray.size]
  have hrun := run_copy_string (P := P) w d sT ty e b (o + j) dl dc ⟨ds.toArray⟩ hu hz (by rw [hsz]; exact hdl) (fun i hi => by rw [hsz] at hi; rw [Nat.add_assoc]; exact (h6 (j + i) (by omega)).1) (fun i hi => by rw [hsz] at hi; rw [Nat.add_assoc]; exact (h6 (j + i) (by omega)).2)
  have hcb : ((⟨ds.toArray⟩ : ByteArray).data.toList.map fun x => Value.int .u8 (x.toNat : Int)) = cb ds := by simp [cb]
  rw [hcb] at hrun
  refine ⟨_, ?_, ?_, grown_setCells b (o + j) (cb ds) w⟩
  · rw [hrun, hsz]; rfl
  obtain ⟨q1, _⟩ := setCells_size b (cb ds) (o + j) w
  have hlen : (l.take j ++ ds ++ l.drop (j + ds.length)).length = l.length := by simp; omega
  refine .inr ⟨b, o, cap, by rw [hlen], h2, by omega, by omega, fun i hi => ?_, fun i hi => ?_⟩
  · rw [hlen] at hi
    by_cases h1 : i < j
    · rw [World.cell?_setCells_out b _ _ _ _ (fun _ _ => .inl (by show o + i < _; omega)), h5 i hi, List.getElem_append_left (by simp; omega), List.getElem_append_left (by simp; omega), List.getElem_take]
    · by_cases h2' : i < j + ds.length
      · have := World.cell?_setCells_in b (cb ds) (o + j) w (fun x hx => by rw [cb_len] at hx; rw [Nat.add_assoc]; exact (h6 (j + x) (by omega)).1) (i - j) (by rw [cb_len]; omega)
        rw [show o + j + (i - j) = o + i by omega] at this
        rw [this, List.getElem_append_left (by simp; omega), List.getElem_append_right (by simp; omega)]
        simp [cb, Nat.min_eq_left (show j ≤ l.length by omega)]
      · have hil : i < l.length := hi
        rw [World.cell?_setCells_out b _ _ _ _ (fun _ _ => .inr (by rw [cb_len]; show _ ≤ o + i; omega)), h5 i hil, List.getElem_append_right (by simp; omega), List.getElem_drop]
        have ei : j + ds.length + (i - (l.take j ++ ds).length) = i := by simp; omega
        simp only [ei]
  · rw [World.frozen?_setCells]
    exact ⟨cell_isSome_setCells b _ _ _ _ (h6 i hi).1, (h6 i hi).2⟩
theorem rbytes_nil (w : World) (at_ link xt : Int) (imm hid : Bool) : Calls Try.prog 44 #[hdV at_ link [] imm hid xt] w fun e w' => e = .returned (.tuple #[.slice none 0 0, .int .i64 (-16)]) ∧ Below w.heap.size w w' := by
  unfold hdV
  go_enter Try.func44, Try.ntmps44
  go_wp2
  refine bodyPost_ret (v := .tuple #[.slice none 0 0, .int .i64 (-16)]) (by simp [results, Try.results44, go_sem]) rfl ?_
  exact ⟨rfl, bel_alloc (Below.refl _ _) _⟩
set_option maxHeartbeats 1000000 in
theorem rbytes_long (w : World) (at_ link xt : Int) (nm : List UInt8) (imm hid : Bool) (h0 : nm ≠ []) (hl : 31 < nm.length) : Calls Try.prog 44 #[hdV at_ link nm imm hid xt] w fun e w' => e = .returned (.tuple #[.slice none 0 0, .int .i64 (-19)]) ∧ Below w.heap.size w w' := by
  have hne := str_ne h0
  have t1 : ((31 : Int) < (nm.length : Int)) = True := by simp; omega
  unfold hdV
  clear h0 hl
  go_enter Try.func44, Try.ntmps44
  go_wp2
  refine bodyPost_ret (v := .tuple #[.slice none 0 0, .int .i64 (-19)]) (by simp [results, Try.results44, go_sem]) rfl ?_
  exact ⟨rfl, bel_alloc (Below.refl _ _) _⟩
/-- The reference's bytes are the same. -/
theorem bytesR_eq (link : Int) (nm : List UInt8) (imm hid : Bool) (hl : nm.length ≤ 31) :
    bytesL link nm imm hid = ((putCellL (List.replicate (9 + nm.length + (8 - (9 + nm.length) % 8) % 8) 0) 0 link).set 8 (UInt8.ofNat (markN nm.length imm hid))).take 9 ++ nm ++ ((putCellL (List.replicate (9 + nm.length + (8 - (9 + nm.length) % 8) % 8) 0) 0 link).set 8 (UInt8.ofNat (markN nm.length imm hid))).drop (9 + nm.length) := by
  obtain ⟨n, hn⟩ : ∃ n, n = nm.length := ⟨_, rfl⟩
  obtain ⟨p, hp⟩ : ∃ p, p = (8 - (9 + n) % 8) % 8 := ⟨_, rfl⟩
  unfold bytesL
  rw [← hn, ← hp]
  obtain ⟨mk, hmk⟩ : ∃ mk, mk = UInt8.ofNat (markN n imm hid) := ⟨_, rfl⟩
  rw [← hmk]
  have hA : ∀ L j : Nat, (putCellL (List.replicate L 0) 0 link).getD j 0 = if j < 8 ∧ j < L then UInt8.ofNat ((IntKind.u64.wrap link).toNat / 2 ^ (8 * j)) else 0 := by
    intro L j
    unfold putCellL
    rw [putL_getD]
    have e0 : ((j : Int) - 0).toNat = j := by omega
    rw [e0, List.length_replicate]
    have ez : (List.replicate L (0 : UInt8)).getD j 0 = 0 := by
      rw [List.getD_eq_getElem?_getD, List.getElem?_replicate]
      split <;> rfl
    rw [ez]
    by_cases h : j < 8 ∧ j < L
    · rw [if_pos h, if_pos ⟨by omega, by omega, h.2⟩]
    · rw [if_neg h, if_neg (by omega)]
  obtain ⟨A, hAe⟩ : ∃ A, A = putCellL (List.replicate (9 + n + p) 0) 0 link := ⟨_, rfl⟩
  have hAl : A.length = 9 + n + p := by rw [hAe]; unfold putCellL; rw [putL_len]; simp
  have hAd : ∀ j : Nat, A.getD j 0 = if j < 8 ∧ j < 9 + n + p then UInt8.ofNat ((IntKind.u64.wrap link).toNat / 2 ^ (8 * j)) else 0 := by rw [hAe]; exact hA _
  obtain ⟨E, hE⟩ : ∃ E, E = putCellL (List.replicate 8 0) 0 link := ⟨_, rfl⟩
  have hEl : E.length = 8 := by rw [hE]; unfold putCellL; rw [putL_len]; simp
  have hEd : ∀ j : Nat, E.getD j 0 = if j < 8 ∧ j < 8 then UInt8.ofNat ((IntKind.u64.wrap link).toNat / 2 ^ (8 * j)) else 0 := by rw [hE]; exact hA 8
  rw [← hAe, ← hE]
  have e1 : (A.set 8 mk).take 9 = E ++ [mk] := by
    apply List.ext_getElem
    · simp; omega
    · intro i h1 h2
      have hi : i < 9 := by simp at h1; omega
      rw [List.getElem_take, List.getElem_set]
      by_cases h8 : i < 8
      · rw [if_neg (by omega), List.getElem_append_left (by omega)]
        have a1 := hAd i
        have a2 := hEd i
        rw [if_pos ⟨h8, by omega⟩, List.getD_eq_getElem?_getD, List.getElem?_eq_getElem (by omega)] at a1
        rw [if_pos ⟨h8, h8⟩, List.getD_eq_getElem?_getD, List.getElem?_eq_getElem (by omega)] at a2
        simp only [Option.getD_some] at a1 a2
        rw [a1, a2]
      · have : i = 8 := by omega
        subst this
        rw [if_pos rfl, List.getElem_append_right (by omega)]
        simp [hEl]
  have e2 : (A.set 8 mk).drop (9 + n) = List.replicate p 0 := by
    apply List.ext_getElem
    · simp; omega
    · intro i h1 h2
      have hi : i < p := by simpa using h2
      rw [List.getElem_drop, List.getElem_set, if_neg (by omega), List.getElem_replicate]
      have a1 := hAd (9 + n + i)
      rw [if_neg (by omega), List.getD_eq_getElem?_getD, List.getElem?_eq_getElem (by omega)] at a1
      simpa using a1
  rw [e1, e2]
set_option maxRecDepth 100000 in
set_option maxHeartbeats 1000000 in
theorem rbytes_good (w : World) (at_ link xt : Int) (nm : List UInt8) (imm hid : Bool) (h0 : nm ≠ []) (hl : nm.length ≤ 31) : Calls Try.prog 44 #[hdV at_ link nm imm hid xt] w fun e w' => (∃ v, e = .returned (.tuple #[v, .int .i64 0]) ∧ Bs w' w.heap.size v (bytesL link nm imm hid)) ∧ Below w.heap.size w w' := by
  have hne := str_ne h0
  have t1 : ((31 : Int) < (nm.length : Int)) = False := by simp; omega
  unfold hdV
  obtain ⟨L, hLe⟩ : ∃ L, L = 9 + nm.length + (8 - (9 + nm.length) % 8) % 8 := ⟨_, rfl⟩
  have hal : alignZ ((9 + nm.length : Nat) : Int) = (L : Int) := by rw [alignZ_up _ (by omega)]; omega
  have hAl := Lib.hid (fun w => rAlign w ((9 + nm.length : Nat) : Int) (by unfold isI; omega))
  rw [hal] at hAl
  obtain ⟨n9, hn9⟩ : ∃ n9 : Int, n9 = ((9 + nm.length : Nat) : Int) := ⟨_, rfl⟩
  rw [← hn9] at hAl
  have wz : IntKind.i64.wrap (9 + (nm.length : Int)) = n9 := by rw [hn9, IntKind.wrap_i64]; omega
  have hLs := Lib.hid (show L ≤ 1000000 by omega)
  have hL9 := Lib.hid (show 8 < L by omega)
  have hL10 := Lib.hid (show 9 < L by have := List.length_pos_iff.2 h0; omega)
  obtain ⟨L8, hL8⟩ : ∃ L8, L8 = putCellL (List.replicate L 0) 0 link := ⟨_, rfl⟩
  have hL8n := Lib.hid (show L8.length = L by rw [hL8]; unfold putCellL; rw [putL_len]; simp)
  have hL80 := Lib.hid (show L8 ≠ [] by intro e; have := hL8n.out; have := hL9.out; rw [e] at *; simp at *; omega)
  have hby := Lib.hid (fun w => rmark w nm.length imm hid (by omega))
  have hmN : markN nm.length imm hid < 256 := (markN_lt _ _ _ (by omega)).1
  obtain ⟨mk, hmk2⟩ : ∃ mk, mk = UInt8.ofNat (markN nm.length imm hid) := ⟨_, rfl⟩
  have hmk3 : (markN nm.length imm hid : Int) = (mk.toNat : Int) := by rw [hmk2, UInt8.toNat_ofNat']; omega
  rw [hmk3] at hby
  replace hmk2 := Lib.hid hmk2
  clear hmk3 hmN hal
  obtain ⟨w0, hw0⟩ : ∃ w0, w0 = w.alloc (.cells #[.int .i64 at_, .int .i64 link, .string ⟨nm.toArray⟩, .bool imm, .bool hid, .int .i64 xt] 34) := ⟨_, rfl⟩
  have hB0 : Blk w0 w.heap.size #[.int .i64 at_, .int .i64 link, .string ⟨nm.toArray⟩, .bool imm, .bool hid, .int .i64 xt] 34 := by subst hw0; exact Blk.new _ _ _
  have hbl0 := Lib.hid (show Below w.heap.size w w0 by subst hw0; exact bel_alloc (Below.refl _ _) _)
  have hmk := fun w9 => run_made w9 L hLs.out
  replace hLe := Lib.hid hLe
  replace hL8 := Lib.hid hL8
  replace hl := Lib.hid hl
  replace hn9 := Lib.hid hn9
  clear h0
  obtain ⟨y1, y2, y3, y4, y5, y6⟩ := hB0.c6
  go_enter Try.func44, Try.ntmps44
  go_upto_region 1 with fail
  rw [← hw0]
  clear hw0
  go_upto_region 5 with fail
  refine wp_region_noPanic ?_
  refine wp_region_held_drew (S := (fun w' => w'.cell? ⟨w.heap.size, 1, none⟩ = some (.int .i64 link) ∧ w'.cell? ⟨w.heap.size, 2, none⟩ = some (.string ⟨nm.toArray⟩))) (by kernel_rfl) ?_ (fun hHeld => ?_)
  · (try dsimp only); exact ⟨y2, y3⟩
  refine wpAnyH_take (i := 0) (oi := { dst := some 12, op := Go.Op.fieldAddr 34 (Go.Operand.tmp 1) 2, type := 0, pos := "ref.go:61", after := #[], guard := none }) (v := ?v5) rfl (by kernel_rfl) (by kernel_rfl) (by kernel_rfl) (fun _ _ _ h => h) (Or.inl ⟨by rfl, ?hy5⟩) (by assumption) ?rest5
  case hy5 => (intro w hSw; (try dsimp only at hSw); go_simp <;> with_reducible rfl)
  try simp only [Act.put, List.setIfInBounds_toArray, List.set_cons_zero, List.set_cons_succ]
  refine wpAnyH_take (i := 1) (oi := { dst := some 13, op := Go.Op.load 9 (Go.Operand.tmp 12), type := 9, pos := "ref.go:61", after := #[{ on := 0, ground := Go.Ground.data }], guard := none }) (v := ?v6) rfl (by kernel_rfl) (by kernel_rfl) (by kernel_rfl) (fun _ _ _ h => h) (Or.inl ⟨by rfl, ?hy6⟩) (by assumption) ?rest6
  case hy6 => (intro w hSw; (try dsimp only at hSw); go_simp <;> with_reducible rfl)
  try simp only [Act.put, List.setIfInBounds_toArray, List.set_cons_zero, List.set_cons_succ]
  refine wpAnyH_take (i := 2) (oi := { dst := some 14, op := Go.Op.call { callee := Go.Callee.builtin Go.Builtin.len, args := #[Go.Operand.tmp 13], argTypes := #[9] }, type := 3, pos := "ref.go:61", after := #[{ on := 1, ground := Go.Ground.data }], guard := none }) (v := ?v7) rfl (by kernel_rfl) (by kernel_rfl) (by kernel_rfl) (fun _ _ _ h => h) (Or.inl ⟨by rfl, ?hy7⟩) (by assumption) ?rest7
  case hy7 => (intro w hSw; (try dsimp only at hSw); go_simp <;> with_reducible rfl)
  try simp only [Act.put, List.setIfInBounds_toArray, List.set_cons_zero, List.set_cons_succ]
  refine wpAnyH_take (i := 3) (oi := { dst := some 15, op := Go.Op.binOp Go.BinOp.add 3 (Go.Operand.const (Go.Value.int Go.IntKind.i64 9)) (Go.Operand.tmp 14) 3, type := 3, pos := "ref.go:61", after := #[{ on := 2, ground := Go.Ground.data }], guard := none }) (v := ?v8) rfl (by kernel_rfl) (by kernel_rfl) (by kernel_rfl) (fun _ _ _ h => h) (Or.inl ⟨by rfl, ?hy8⟩) (by assumption) ?rest8
  case hy8 => (intro w hSw; (try dsimp only at hSw); go_simp <;> with_reducible rfl)
  try simp only [Act.put, List.setIfInBounds_toArray, List.set_cons_zero, List.set_cons_succ]
  refine wpAnyH_take (i := 6) (oi := { dst := some 18, op := Go.Op.fieldAddr 34 (Go.Operand.tmp 1) 1, type := 0, pos := "ref.go:61", after := #[], guard := none }) (v := ?v9) rfl (by kernel_rfl) (by kernel_rfl) (by kernel_rfl) (fun _ _ _ h => h) (Or.inl ⟨by rfl, ?hy9⟩) (by assumption) ?rest9
  case hy9 => (intro w hSw; (try dsimp only at hSw); go_simp <;> with_reducible rfl)
  try simp only [Act.put, List.setIfInBounds_toArray, List.set_cons_zero, List.set_cons_succ]
  refine wpAnyH_take (i := 7) (oi := { dst := some 19, op := Go.Op.load 2 (Go.Operand.tmp 18), type := 2, pos := "ref.go:61", after := #[{ on := 6, ground := Go.Ground.data }], guard := none }) (v := ?v10) rfl (by kernel_rfl) (by kernel_rfl) (by kernel_rfl) (fun _ _ _ h => h) (Or.inl ⟨by rfl, ?hy10⟩) (by assumption) ?rest10
  case hy10 => (intro w hSw; (try dsimp only at hSw); go_simp <;> with_reducible rfl)
  try simp only [Act.put, List.setIfInBounds_toArray, List.set_cons_zero, List.set_cons_succ]
  refine wpAnyH_ready (rs := [4]) (by kernel_rfl) (by simp) ?_
  refine AllReadyH.cons (o := { dst := some 16, op := Go.Op.call { callee := Go.Callee.value (Go.Operand.func 45), args := #[Go.Operand.tmp 15], argTypes := #[2] }, type := 2, pos := "ref.go:61", after := #[{ on := 3, ground := Go.Ground.data }], guard := none }) rfl (fun K hK => ?_) AllReadyH.nil
  go_simp
  go_at_call 45; refine (hAl.out _).mono ?_; rintro e _ ⟨rfl, rfl⟩
  refine hK.out _ _ ?_ (fun hHeld2 => ?_)
  · (try dsimp only); exact ⟨y2, y3⟩
  clear hK K hHeld
  have hHeld := hHeld2
  clear hHeld2
  try simp only [Act.put, List.setIfInBounds_toArray, List.set_cons_zero, List.set_cons_succ]
  refine wpAnyH_ready (rs := [5]) (by kernel_rfl) (by simp) ?_
  refine AllReadyH.cons (o := { dst := some 17, op := Go.Op.makeSlice 22 (Go.Operand.tmp 16) (Go.Operand.tmp 16), type := 22, pos := "ref.go:61", after := #[{ on := 4, ground := Go.Ground.data }, { on := 4, ground := Go.Ground.data }], guard := none }) rfl (fun K hK => ?_) AllReadyH.nil
  go_simp
  obtain ⟨w1, hw1⟩ : ∃ w1, w1 = (w0.alloc (.cells (cb (List.replicate L 0)).toArray 5)).drew := ⟨_, rfl⟩; rw [← hw1]; have hbx : Below w0.heap.size w0 w1 := (by subst hw1; exact bel_drew (bel_alloc (Below.refl _ _) _)); have hZ : Bs w1 0 (.slice (some ⟨w0.heap.size, 0, none⟩) L L) (List.replicate L 0) := (by subst hw1; exact Bs.of_blk (Blk.drew (Blk.new w0 (cb (List.replicate L 0)).toArray 5)) (by simp)); replace hB0 := Blk.below hB0 hbx; replace hbl0 := Lib.hid (bel_trans hbl0.out hbx); have hPC := Lib.hid (rPutCell w1 0 _ _ 0 link hZ (by unfold isI; omega) (by simpa using hLs.out)); clear hw1 hbx hZ hmk; clear y1 y2 y3 y4 y5 y6; obtain ⟨y1, y2, y3, y4, y5, y6⟩ := hB0.c6; have hs1 := Lib.hid (show w.heap.size < w1.heap.size from hB0.lt)
  refine hK.out _ _ ?_ (fun hHeld2 => ?_)
  · (try dsimp only); exact ⟨y2, y3⟩
  clear hK K hHeld
  have hHeld := hHeld2
  clear hHeld2
  try simp only [Act.put, List.setIfInBounds_toArray, List.set_cons_zero, List.set_cons_succ]
  refine wpAnyH_ready (rs := [8]) (by kernel_rfl) (by simp) ?_
  refine AllReadyH.cons (o := { dst := some 20, op := Go.Op.call { callee := Go.Callee.value (Go.Operand.func 49), args := #[Go.Operand.tmp 17, Go.Operand.const (Go.Value.int Go.IntKind.i64 0), Go.Operand.tmp 19], argTypes := #[22, 3, 2] }, type := 22, pos := "ref.go:61", after := #[{ on := 5, ground := Go.Ground.data }, { on := 7, ground := Go.Ground.data }, { on := 4, ground := Go.Ground.chain }], guard := none }) rfl (fun K hK => ?_) AllReadyH.nil
  go_simp
  go_at_call 49; refine hPC.out.mono ?_; rintro e w2 ⟨v2, rfl, hv2, hb2⟩; rw [← hL8.out] at hv2; replace hB0 := hB0.below hb2; replace hbl0 := Lib.hid (bel_trans hbl0.out hb2); obtain ⟨bb, oo, cap, he⟩ := hv2.some_of hL80.out; rw [hL8n.out] at he; subst he; have hlo := Lib.hid (show w.heap.size < bb from Nat.lt_of_lt_of_le hs1.out hv2.lt2.1); clear hPC; clear y1 y2 y3 y4 y5 y6; obtain ⟨y1, y2, y3, y4, y5, y6⟩ := hB0.c6
  refine hK.out _ _ ?_ (fun hHeld2 => ?_)
  · (try dsimp only); exact ⟨y2, y3⟩
  clear hK K hHeld
  have hHeld := hHeld2
  clear hHeld2
  try simp only [Act.put, List.setIfInBounds_toArray, List.set_cons_zero, List.set_cons_succ]
  refine wpAnyH_take (i := 9) (oi := { dst := some 4, op := Go.Op.assign (Go.Operand.tmp 20), type := 22, pos := "ref.go:61", after := #[{ on := 8, ground := Go.Ground.data }, { on := 8, ground := Go.Ground.chain }, { on := 0, ground := Go.Ground.phase }, { on := 1, ground := Go.Ground.phase }, { on := 2, ground := Go.Ground.phase }, { on := 3, ground := Go.Ground.phase }, { on := 4, ground := Go.Ground.phase }, { on := 5, ground := Go.Ground.phase }, { on := 6, ground := Go.Ground.phase }, { on := 7, ground := Go.Ground.phase }, { on := 8, ground := Go.Ground.phase }], guard := none }) (v := ?v11) rfl (by kernel_rfl) (by kernel_rfl) (by kernel_rfl) (fun _ _ _ h => h) (Or.inl ⟨by rfl, ?hy11⟩) (by assumption) ?rest11
  case hy11 => (intro w hSw; (try dsimp only at hSw); go_simp <;> with_reducible rfl)
  try simp only [Act.put, List.setIfInBounds_toArray, List.set_cons_zero, List.set_cons_succ]
  refine wpAnyH_done (by kernel_rfl) ?_ _
  refine NoPanic.normal ?_
  obtain ⟨r1, r1f⟩ := hv2.at 8 (by rw [hL8n.out]; exact hL9.out)
  have hi8 : (8 : Int) < (L : Int) := by have := hL9.out; omega
  go_upto_region 7 with (go_at_call 52; refine (hby.out _).mono ?_; rintro e _ ⟨rfl, rfl⟩)
  have hv3 := hv2.setAt 8 mk (by rw [hL8n.out]; exact hL9.out)
  have hB3 := hB0.set_other (b' := bb) (by have := hlo.out; omega) (oo + 8) (.int .u8 (mk.toNat : Int))
  have hbl3 := Lib.hid (bel_set hbl0.out (b := bb) (o := oo + 8) (by have := hlo.out; omega) (.int .u8 (mk.toNat : Int)))
  obtain ⟨w3, hw3⟩ : ∃ w3, w3 = w2.setCell ⟨bb, oo + 8, none⟩ (.int .u8 (mk.toNat : Int)) := ⟨_, rfl⟩
  rw [← hw3] at hv3 hB3 hbl3 ⊢
  clear hw3 r1 r1f hv2 hB0 hbl0 y1 y2 y3 y4 y5 y6
  obtain ⟨y1, y2, y3, y4, y5, y6⟩ := hB3.c6
  have hc9 : (cap = 9) = False := by have h1 := hL10.out; have h2 := hv3.len2; simp only [eq_iff_iff, iff_false]; omega
  have hi9 : (9 : Int) ≤ (L : Int) := by have := hL9.out; omega
  obtain ⟨w4, hr4, hv4, hg4⟩ := Bs.splice (P := Try.prog) (w := w3.drew) (ty := 3) (hv3.below (bel_drew (Below.refl _ _))) 9 nm (by rw [List.length_set, hL8n.out]; have := hLe.out; omega) (d := 22) (sT := 9) Try.underlying22 (by intro w; kernel_rfl) (L - 9) (cap - 9) (by have := hLe.out; omega)
  refine wp_region_noPanic ?_
  refine wp_region_held_drew (S := (fun w' => w'.cell? ⟨w.heap.size, 2, none⟩ = some (.string ⟨nm.toArray⟩))) (by kernel_rfl) ?_ (fun hHeld => ?_)
  · (try dsimp only); first | exact y3 | exact ((Blk.drew hB3).kept hg4 (fun e => by have e2 := Option.some.inj e; have := hlo.out; omega)).c6.2.2.1
  refine wpAnyH_take (i := 0) (oi := { dst := some 31, op := Go.Op.move (Go.Operand.tmp 4), type := 22, pos := "ref.go:63", after := #[], guard := none }) (v := ?v1) rfl (by kernel_rfl) (by kernel_rfl) (by kernel_rfl) (fun _ _ _ h => h) (Or.inl ⟨by rfl, ?hy1⟩) (by assumption) ?rest1
  case hy1 => (intro w hSw; (try dsimp only at hSw); go_simp <;> with_reducible rfl)
  try simp only [Act.put, List.setIfInBounds_toArray, List.set_cons_zero, List.set_cons_succ]
  refine wpAnyH_take (i := 1) (oi := { dst := some 32, op := Go.Op.slice 22 (Go.Operand.tmp 31) (some (Go.Operand.const (Go.Value.int Go.IntKind.i64 9))) none none, type := 22, pos := "ref.go:63", after := #[{ on := 0, ground := Go.Ground.data }], guard := none }) (v := ?v2) rfl (by kernel_rfl) (by kernel_rfl) (by kernel_rfl) (fun _ _ _ h => h) (Or.inl ⟨by rfl, ?hy2⟩) (by assumption) ?rest2
  case hy2 => (intro w hSw; (try dsimp only at hSw); go_simp <;> with_reducible rfl)
  try simp only [Act.put, List.setIfInBounds_toArray, List.set_cons_zero, List.set_cons_succ]
  refine wpAnyH_take (i := 2) (oi := { dst := some 33, op := Go.Op.fieldAddr 34 (Go.Operand.tmp 1) 2, type := 0, pos := "ref.go:63", after := #[], guard := none }) (v := ?v3) rfl (by kernel_rfl) (by kernel_rfl) (by kernel_rfl) (fun _ _ _ h => h) (Or.inl ⟨by rfl, ?hy3⟩) (by assumption) ?rest3
  case hy3 => (intro w hSw; (try dsimp only at hSw); go_simp <;> with_reducible rfl)
  try simp only [Act.put, List.setIfInBounds_toArray, List.set_cons_zero, List.set_cons_succ]
  refine wpAnyH_take (i := 3) (oi := { dst := some 34, op := Go.Op.load 9 (Go.Operand.tmp 33), type := 9, pos := "ref.go:63", after := #[{ on := 2, ground := Go.Ground.data }], guard := none }) (v := ?v4) rfl (by kernel_rfl) (by kernel_rfl) (by kernel_rfl) (fun _ _ _ h => h) (Or.inl ⟨by rfl, ?hy4⟩) (by assumption) ?rest4
  case hy4 => (intro w hSw; (try dsimp only at hSw); go_simp <;> with_reducible rfl)
  try simp only [Act.put, List.setIfInBounds_toArray, List.set_cons_zero, List.set_cons_succ]
  refine wpAnyH_ready (rs := [4]) (by kernel_rfl) (by simp) ?_
  refine AllReadyH.cons (o := { dst := some 35, op := Go.Op.call { callee := Go.Callee.builtin Go.Builtin.copy, args := #[Go.Operand.tmp 32, Go.Operand.tmp 34], argTypes := #[22, 9] }, type := 3, pos := "ref.go:63", after := #[{ on := 1, ground := Go.Ground.data }, { on := 3, ground := Go.Ground.data }], guard := none }) rfl (fun K hK => ?_) AllReadyH.nil
  go_simp
  refine hK.out _ _ ?_ (fun hHeld2 => ?_)
  · (try dsimp only); first | exact y3 | exact ((Blk.drew hB3).kept hg4 (fun e => by have e2 := Option.some.inj e; have := hlo.out; omega)).c6.2.2.1
  clear hK K hHeld
  have hHeld := hHeld2
  clear hHeld2
  try simp only [Act.put, List.setIfInBounds_toArray, List.set_cons_zero, List.set_cons_succ]
  refine wpAnyH_done (by kernel_rfl) ?_ _
  refine NoPanic.normal ?_
  have hbl4 := hbl3.out.drew.grown hg4 (Nat.le_of_lt (show w.heap.size < w3.heap.size from hB3.lt)) (fun k e => by cases e; have := hlo.out; omega)
  go_wp2
  refine bodyPost_ret (v := .tuple #[.slice (some ⟨bb, oo, none⟩) L cap, .int .i64 0]) (by simp [results, Try.results44, go_sem]) rfl ?_
  refine ⟨⟨_, rfl, ?_⟩, hbl4⟩
  rw [bytesR_eq link nm imm hid hl.out, ← hLe.out, ← hL8.out, ← hmk2.out]
  refine hv4.rebase (fun k hk => by have e := Option.some.inj hk; subst e; exact Nat.le_of_lt hlo.out)
/-- Both give the same. -/
def BothP (w w' : World) (nm bl : List UInt8) (e : Ending) : Prop :=
  ∃ v t, e = .returned (.tuple #[v, .int .i64 t]) ∧ Bs w' w.heap.size v bl ∧ Below w.heap.size w w' ∧ t = (if nm = [] then -16 else if 31 < nm.length then -19 else 0)
def bytesAny (link : Int) (nm : List UInt8) (imm hid : Bool) : List UInt8 := if nm = [] then [] else if 31 < nm.length then [] else bytesL link nm imm hid
theorem wBytesAny (w : World) (at_ link xt : Int) (nm : List UInt8) (imm hid : Bool) : Calls Try.prog 40 #[hdV at_ link nm imm hid xt] w fun e w' => BothP w w' nm (bytesAny link nm imm hid) e := by
  unfold BothP bytesAny
  by_cases h0 : nm = []
  · subst h0
    exact (bytes_nil w at_ link xt imm hid).mono fun e w' ⟨he, hb⟩ => ⟨_, _, he, .inl ⟨rfl, by simp⟩, hb, by simp⟩
  · by_cases h1 : 31 < nm.length
    · exact (bytes_long w at_ link xt nm imm hid h0 h1).mono fun e w' ⟨he, hb⟩ => ⟨_, _, he, .inl ⟨rfl, by simp [h0, h1]⟩, hb, by simp [h0, h1]⟩
    · exact (bytes_good w at_ link xt nm imm hid h0 (by omega)).mono fun e w' ⟨⟨v, he, hv⟩, hb⟩ => ⟨v, _, he, by rw [if_neg h0, if_neg h1]; exact hv, hb, by rw [if_neg h0, if_neg h1]⟩
theorem rBytesAny (w : World) (at_ link xt : Int) (nm : List UInt8) (imm hid : Bool) : Calls Try.prog 44 #[hdV at_ link nm imm hid xt] w fun e w' => BothP w w' nm (bytesAny link nm imm hid) e := by
  unfold BothP bytesAny
  by_cases h0 : nm = []
  · subst h0
    exact (rbytes_nil w at_ link xt imm hid).mono fun e w' ⟨he, hb⟩ => ⟨_, _, he, .inl ⟨rfl, by simp⟩, hb, by simp⟩
  · by_cases h1 : 31 < nm.length
    · exact (rbytes_long w at_ link xt nm imm hid h0 h1).mono fun e w' ⟨he, hb⟩ => ⟨_, _, he, .inl ⟨rfl, by simp [h0, h1]⟩, hb, by simp [h0, h1]⟩
    · exact (rbytes_good w at_ link xt nm imm hid h0 (by omega)).mono fun e w' ⟨⟨v, he, hv⟩, hb⟩ => ⟨v, _, he, by rw [if_neg h0, if_neg h1]; exact hv, hb, by rw [if_neg h0, if_neg h1]⟩
end Go.Proofs.Ytcfblcgdjhpdaaa

