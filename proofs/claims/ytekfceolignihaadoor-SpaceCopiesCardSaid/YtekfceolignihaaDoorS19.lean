/- The reference's 'Take', 'Used', 'Free', 'New'. -/
import Derived.Test.YtekfceolignihaaDoorS18
namespace Go.Proofs.YtekfceolignihaaDoor
open Go.RowKit
set_option linter.unusedVariables false
set_option linter.unusedSimpArgs false
attribute [local go_sem] cell_set set_set m_undef
attribute [local irreducible] freeW cnt freeL

theorem take_at {C : List Int} {k : Nat} (h : isFree C k = true) (hl : ∀ j, j < k → isFree C j = false) : takeR C = .tuple #[.int .i64 (k : Int), .int .i64 0] ∧ takeC C = C.set k 1 := by
  unfold takeR takeC; rw [takeO_some h hl]; exact ⟨rfl, rfl⟩
theorem take_no {C : List Int} (h : ∀ j, isFree C j = false) : takeR C = .tuple #[.int .i64 0, .int .i64 50] ∧ takeC C = C := by
  unfold takeR takeC; rw [takeO_none h]; exact ⟨rfl, rfl⟩
theorem used_two {b : Int} {C : List Int} (h : Good b C) (m : Nat) (hm : m ≤ 2) : usedTo C m = [] := by
  unfold usedTo
  rw [List.map_eq_nil_iff, List.filter_eq_nil_iff]
  intro j hj
  have hj2 := List.mem_range.1 hj
  simp only [decide_eq_true_eq, Int.not_lt]
  rw [List.getD]
  cases hx : C[j]? with
  | none => exact Int.le_refl 0
  | some x => have := h.2 j x (by omega) hx; show x ≤ 0; omega
theorem used_end {b : Int} {C : List Int} (h : Good b C) : usedTo C (max C.length 2) = usedL C := by
  by_cases h2 : 2 ≤ C.length
  · rw [show max C.length 2 = C.length by omega]; rfl
  · rw [show max C.length 2 = 2 by omega, used_two h 2 (by omega)]
    unfold usedL
    rw [used_two h _ (by omega)]
section
variable {W w : World} {K : Kp} {rb hb cc : Nat} {C : List Int} {T : List Value}
set_option maxHeartbeats 1000000 in
theorem rTakeF (h : Pls W w (K.and (RefB rb hb C cc T))) (ha : ApartR K rb hb) (hn : C.length ≤ 1000000) :
    Calls Tryd.prog 25 #[.pointer (some ⟨rb, 0, none⟩)] w fun e w' => e = .returned (takeR C) ∧ Pls W w' (K.and (RefB rb hb (takeC C) cc T)) := by
  have y1 := RefB.cells h.fact.2
  have hc := Lib.hid (fun (n : Nat) (x : Int) (hx : C[n]? = some x) => RefB.cnt h.fact.2 n x hx)
  have hs := Lib.hid (fun (n : Nat) (hl : n < C.length) => RefB.setC h ha n 1 hl)
  have hya := Lib.hid (fun (k : Nat) (h : isFree C k = true) (hl : ∀ j, j < k → isFree C j = false) => take_at h hl)
  have hno := Lib.hid (fun (h : ∀ j, isFree C j = false) => take_no h)
  have hfl := Lib.hid (fun (j : Nat) (h : isFree C j = true) => isFree_lt h)
  obtain ⟨R, hR⟩ : ∃ R, R = takeR C := ⟨_, rfl⟩
  obtain ⟨C9, hC9⟩ : ∃ C9, C9 = takeC C := ⟨_, rfl⟩
  rw [← hR, ← hC9]
  replace hR := Lib.hid hR
  replace hC9 := Lib.hid hC9
  replace h := Lib.hid h
  go_enter Tryd.func25, Tryd.ntmps25
  go_wp2
  go_loopw [4] (fun i wr => ∃ k : Nat, i = .int .i64 (k : Int) ∧ 2 ≤ k ∧ k ≤ max C.length 2 ∧ (∀ j, j < k → isFree C j = false) ∧ wr = w) (fun i wr => C.length - (intOf i).toNat)
  case atStart => exact ⟨2, rfl, by omega, by omega, fun j hj => by
    cases e : isFree C j with
    | false => rfl
    | true => have := (hfl.out j e).1; omega, rfl⟩
  case round =>
    obtain ⟨k, rfl, hk2, hkm, hlow, rfl⟩ := hrel
    by_cases hlt : k < C.length
    · have t1 : ((k : Int) < (C.length : Int)) = True := eq_true (by omega)
      have i1 : (0 : Int) ≤ (k : Int) := by omega
      have i2 : (k : Int) < (C.length : Int) := by omega
      have wk : IntKind.i64.wrap ((k : Int) + 1) = ((k + 1 : Nat) : Int) := by rw [IntKind.wrap_i64]; omega
      have hx : C[k]? = some C[k] := List.getElem?_eq_getElem hlt
      obtain ⟨c1, c2⟩ := hc.out k _ hx
      by_cases h0 : C[k] = 0
      · have hf : isFree C k = true := by unfold isFree; rw [hx, h0]; simp; omega
        obtain ⟨e1, e2⟩ := hya.out k hf hlow
        have hS := hs.out k hlt
        have t0 : (C[k] == 0) = true := by simp; exact h0
        generalize C[k] = x at *
        rw [← hC9.out] at e2
        rw [← e2] at hS
        replace e1 := Lib.hid e1
        clear e2 hf hx hlow h0 hn hkm
        go_wp2
        go_ret2
        exact ⟨by rw [hR.out, e1.out]; rfl, hS⟩
      · have t0 : (C[k] == 0) = false := by simp; exact h0
        have hf : isFree C k = false := by unfold isFree; rw [hx]; simp [h0]
        have hlow2 := Lib.hid (fun (j : Nat) (hj : j < k + 1) => (show isFree C j = false by
          by_cases e : j = k
          · rw [e]; exact hf
          · exact hlow j (by omega)))
        generalize C[k] = x at *
        replace hlt := Lib.hid hlt
        clear hf hx hlow h0 hn hkm
        go_wp2
        go_roundw
        case rel => exact ⟨k + 1, rfl, by omega, by have := hlt.out; omega, hlow2.out, by trivial⟩
        case measure => have := hlt.out; simp [intOf]; omega
    · have t1 : ((k : Int) < (C.length : Int)) = False := eq_false (by omega)
      obtain ⟨e1, e2⟩ := hno.out (fun j => by
        by_cases hj : j < k
        · exact hlow j hj
        · cases e : isFree C j with
          | false => rfl
          | true => have := (hfl.out j e).2.2; omega)
      rw [← hC9.out] at e2
      replace e1 := Lib.hid e1
      replace e2 := Lib.hid e2
      clear hlt hlow hkm hn
      go_wp2
      go_ret2
      exact ⟨by rw [hR.out, e1.out]; rfl, by rw [e2.out]; exact h.out⟩
set_option maxHeartbeats 1000000 in
theorem rUsed (h : Pls W w (K.and (RefB rb hb C cc T))) (hn : C.length ≤ 1000000) {b : Int} (hg : Good b C) :
    Calls Tryd.prog 27 #[.pointer (some ⟨rb, 0, none⟩)] w fun e w' => ∃ v, e = .returned v ∧ Pls W w' ((K.and (RefB rb hb C cc T)).and (.vs 1 v (usedL C).length (ints (usedL C)))) ∧ (∀ b, v.ownBlock = some b → ¬ (K.and (RefB rb hb C cc T)).S b) := by
  have hM : ∀ (w9 : World), (K.and (RefB rb hb C cc T)).P w9 → w9.cell? ⟨rb, 0, none⟩ = some (.slice (some ⟨hb, 0, none⟩) C.length cc) ∧ ∀ (n : Nat) (x : Int), C[n]? = some x → w9.cell? ⟨hb, n, none⟩ = some (.int .i64 x) := fun w9 h9 => ⟨RefB.cells h9.2, fun n x hx => (RefB.cnt h9.2 n x hx).1⟩
  have hul := usedTo_len C
  have h20 := used_two hg 2 (by omega)
  have hend := used_end hg
  rw [← hend]
  generalize hKM : K.and (RefB rb hb C cc T) = KM at *
  replace hM := Lib.hid hM
  clear hKM hend hg
  go_enter Tryd.func27, Tryd.ntmps27
  go_wp2
  go_loopw [3, 4] (fun o i wr => ∃ k : Nat, i = .int .i64 (k : Int) ∧ 2 ≤ k ∧ k ≤ max C.length 2 ∧ Pls W wr (KM.and (.vs 1 o (usedTo C k).length (ints (usedTo C k)))) ∧ (∀ b, o.ownBlock = some b → ¬ KM.S b)) (fun o i wr => C.length - (intOf i).toNat)
  case atStart =>
    refine ⟨2, rfl, by omega, by omega, h.keep (fun h => ⟨h, by rw [h20]; exact Vs.nil _ 0 1⟩) (fun k hk => ?_), fun b hb => by cases hb⟩
    rcases hk with hk | hk
    · exact hk
    · cases hk
  case round =>
    obtain ⟨k, rfl, hk2, hk, hS, hown⟩ := hrel
    obtain ⟨ad, cap, rfl, hcap⟩ := (show Vs wr 0 1 _ _ _ from hS.fact.2).form
    obtain ⟨y1, hc⟩ := hM.out wr hS.fact.1
    clear hcap h h20
    by_cases hlt : k < C.length
    · have t1 : ((k : Int) < (C.length : Int)) = True := eq_true (by omega)
      have i1 : (0 : Int) ≤ (k : Int) := by omega
      have i2 : (k : Int) < (C.length : Int) := by omega
      have wk : IntKind.i64.wrap ((k : Int) + 1) = ((k + 1 : Nat) : Int) := by rw [IntKind.wrap_i64]; omega
      have hx : C[k]? = some C[k] := List.getElem?_eq_getElem hlt
      have c1 := hc k _ hx
      have hul1 := hul k
      by_cases hp : 0 < C[k]
      · have hy := usedTo_yes C k _ hx hp
        have tp : (0 < C[k]) = True := eq_true hp
        have hSa := hS.alloc (.cells #[.int .i64 (k : Int)] 3)
        obtain ⟨v', w4, hr, hS4, hown4⟩ := Pls.appendVs (P := Tryd.prog) (ty := 32) hSa hown ((Vs.lit1 wr (.int .i64 (k : Int)) 3 rfl).src (t := 32) Tryd.underlying32) Tryd.underlying32 infoI rfl (by omega) (by omega) (by omega)
        rw [← ints_add, ← hy, show (usedTo C k).length + 1 = (usedTo C (k + 1)).length by rw [hy, List.length_append]; rfl] at hS4
        obtain ⟨a', c', rfl, hcap'⟩ := (show Vs w4 0 1 v' _ _ from hS4.fact.2).form
        rw [show (usedTo C (k + 1)).length = (usedTo C k).length + 1 by rw [hy, List.length_append]; rfl] at hr
        have hle := Lib.hid (show (usedTo C k).length + 1 = (usedTo C (k + 1)).length by rw [hy, List.length_append]; rfl)
        generalize C[k] = x at *
        replace hS4 := Lib.hid hS4
        replace hlt := Lib.hid hlt
        clear hS hSa hcap' hc hx hp hul1 hul hn hk hy
        go_wp2_with (at_builtin; refine wpList_append_bs rfl _ _ 32 rfl hr rfl rfl ?_)
        go_roundw
        case rel => exact ⟨k + 1, rfl, by omega, by have := hlt.out; omega, by rw [hle.out]; exact hS4.out, fun b hb => hown4 b ((own_len a' _ _ c').trans hb)⟩
        case measure => have := hlt.out; simp [intOf]; omega
      · have hy := usedTo_no C k _ hx hp
        have tp : (0 < C[k]) = False := eq_false hp
        generalize C[k] = x at *
        rw [← hy] at hS
        replace hS := Lib.hid hS
        replace hlt := Lib.hid hlt
        clear hc hx hp hul1 hul hn hk
        go_wp2
        go_roundw
        case rel => exact ⟨k + 1, rfl, by omega, by have := hlt.out; omega, by rw [← hy]; exact hS.out, hown⟩
        case measure => have := hlt.out; simp [intOf]; omega
    · have t1 : ((k : Int) < (C.length : Int)) = False := eq_false (by omega)
      have hkk : k = max C.length 2 := by omega
      subst hkk
      clear hlt hk hul
      go_wp2
      go_ret
      exact ⟨_, rfl, hS, hown⟩
set_option maxHeartbeats 1000000 in
theorem rFree (h : Pls W w (K.and (RefB rb hb C cc T))) (hn : C.length ≤ 1000000) {b : Int} (hg : Good b C) :
    Calls Tryd.prog 28 #[.pointer (some ⟨rb, 0, none⟩)] w fun e w' => e = .returned (.int .i64 (freeN C : Int)) ∧ Pls W w' (K.and (RefB rb hb C cc T)) := by
  have hfu := free_used hg
  have w1 : IntKind.i64.wrap ((C.length : Int) - 2) = (C.length : Int) - 2 := by rw [IntKind.wrap_i64]; omega
  obtain ⟨m, hm⟩ : ∃ m : Int, (if (C.length : Int) - 2 < 0 then (0 : Int) else (C.length : Int) - 2) = m := ⟨_, rfl⟩
  have w2' : IntKind.i64.wrap (m - ((usedL C).length : Int)) = (freeN C : Int) := by
    rw [IntKind.wrap_i64, ← hm]
    split <;> omega
  have hS := h.drew
  have y1 := RefB.cells hS.fact.2
  clear h hfu
  go_enter Tryd.func28, Tryd.ntmps28
  go_upto_region 1 with fail
  refine wp_region_noPanic ?_
  refine wp_region_held_drew (S := (fun w' => w'.cell? ⟨rb, 0, none⟩ = some (.slice (some ⟨hb, 0, none⟩) C.length cc))) (by kernel_rfl) ?_ (fun hHeld => ?_)
  · (try dsimp only); first | exact y2 | exact y1
  refine wpAnyH_take (i := 0) (oi := { dst := some 3, op := Go.Op.move (Go.Operand.tmp 0), type := 36, pos := "ref.go:72", after := #[], guard := none }) (v := ?v1) rfl (by kernel_rfl) (by kernel_rfl) (by kernel_rfl) (fun _ _ _ h => h) (Or.inl ⟨by rfl, ?hy1⟩) (by assumption) ?rest1
  case hy1 => (intro w hSw; (try dsimp only at hSw); have y1 := hSw; go_simp <;> with_reducible rfl)
  try simp only [Act.put, List.setIfInBounds_toArray, List.set_cons_zero, List.set_cons_succ]
  refine wpAnyH_take (i := 1) (oi := { dst := some 4, op := Go.Op.nilCheck (Go.Operand.tmp 3), type := 0, pos := "ref.go:72", after := #[{ on := 0, ground := Go.Ground.data }], guard := none }) (v := ?v2) rfl (by kernel_rfl) (by kernel_rfl) (by kernel_rfl) (fun _ _ _ h => h) (Or.inl ⟨by rfl, ?hy2⟩) (by assumption) ?rest2
  case hy2 => (intro w hSw; (try dsimp only at hSw); have y1 := hSw; go_simp <;> with_reducible rfl)
  try simp only [Act.put, List.setIfInBounds_toArray, List.set_cons_zero, List.set_cons_succ]
  refine wpAnyH_take (i := 2) (oi := { dst := some 5, op := Go.Op.fieldAddr 52 (Go.Operand.tmp 4) 0, type := 0, pos := "ref.go:72", after := #[{ on := 1, ground := Go.Ground.data }], guard := none }) (v := ?v3) rfl (by kernel_rfl) (by kernel_rfl) (by kernel_rfl) (fun _ _ _ h => h) (Or.inl ⟨by rfl, ?hy3⟩) (by assumption) ?rest3
  case hy3 => (intro w hSw; (try dsimp only at hSw); have y1 := hSw; go_simp <;> with_reducible rfl)
  try simp only [Act.put, List.setIfInBounds_toArray, List.set_cons_zero, List.set_cons_succ]
  refine wpAnyH_take (i := 3) (oi := { dst := some 6, op := Go.Op.load 32 (Go.Operand.tmp 5), type := 32, pos := "ref.go:72", after := #[{ on := 2, ground := Go.Ground.data }], guard := none }) (v := ?v4) rfl (by kernel_rfl) (by kernel_rfl) (by kernel_rfl) (fun _ _ _ h => h) (Or.inl ⟨by rfl, ?hy4⟩) (by assumption) ?rest4
  case hy4 => (intro w hSw; (try dsimp only at hSw); have y1 := hSw; go_simp <;> with_reducible rfl)
  try simp only [Act.put, List.setIfInBounds_toArray, List.set_cons_zero, List.set_cons_succ]
  refine wpAnyH_take (i := 4) (oi := { dst := some 7, op := Go.Op.call { callee := Go.Callee.builtin Go.Builtin.len, args := #[Go.Operand.tmp 6], argTypes := #[32] }, type := 3, pos := "ref.go:72", after := #[{ on := 3, ground := Go.Ground.data }], guard := none }) (v := ?v5) rfl (by kernel_rfl) (by kernel_rfl) (by kernel_rfl) (fun _ _ _ h => h) (Or.inl ⟨by rfl, ?hy5⟩) (by assumption) ?rest5
  case hy5 => (intro w hSw; (try dsimp only at hSw); have y1 := hSw; go_simp <;> with_reducible rfl)
  try simp only [Act.put, List.setIfInBounds_toArray, List.set_cons_zero, List.set_cons_succ]
  refine wpAnyH_take (i := 5) (oi := { dst := some 8, op := Go.Op.binOp Go.BinOp.sub 3 (Go.Operand.tmp 7) (Go.Operand.const (Go.Value.int Go.IntKind.i64 2)) 3, type := 3, pos := "ref.go:72", after := #[{ on := 4, ground := Go.Ground.data }], guard := none }) (v := ?v6) rfl (by kernel_rfl) (by kernel_rfl) (by kernel_rfl) (fun _ _ _ h => h) (Or.inl ⟨by rfl, ?hy6⟩) (by assumption) ?rest6
  case hy6 => (intro w hSw; (try dsimp only at hSw); have y1 := hSw; go_simp <;> with_reducible rfl)
  try simp only [Act.put, List.setIfInBounds_toArray, List.set_cons_zero, List.set_cons_succ]
  refine wpAnyH_take (i := 6) (oi := { dst := some 9, op := Go.Op.call { callee := Go.Callee.builtin Go.Builtin.max, args := #[Go.Operand.tmp 8, Go.Operand.const (Go.Value.int Go.IntKind.i64 0)], argTypes := #[3, 3] }, type := 3, pos := "ref.go:72", after := #[{ on := 5, ground := Go.Ground.data }], guard := none }) (v := ?v7) rfl (by kernel_rfl) (by kernel_rfl) (by kernel_rfl) (fun _ _ _ h => h) (Or.inl ⟨by rfl, ?hy7⟩) (by assumption) ?rest7
  case hy7 => (intro w hSw; (try dsimp only at hSw); have y1 := hSw; go_simp <;> with_reducible rfl)
  try simp only [Act.put, List.setIfInBounds_toArray, List.set_cons_zero, List.set_cons_succ]
  refine wpAnyH_take (i := 7) (oi := { dst := some 10, op := Go.Op.move (Go.Operand.tmp 0), type := 36, pos := "ref.go:72", after := #[], guard := none }) (v := ?v8) rfl (by kernel_rfl) (by kernel_rfl) (by kernel_rfl) (fun _ _ _ h => h) (Or.inl ⟨by rfl, ?hy8⟩) (by assumption) ?rest8
  case hy8 => (intro w hSw; (try dsimp only at hSw); have y1 := hSw; go_simp <;> with_reducible rfl)
  try simp only [Act.put, List.setIfInBounds_toArray, List.set_cons_zero, List.set_cons_succ]
  refine wpAnyH_ready (rs := [8]) (by kernel_rfl) (by simp) ?_
  refine AllReadyH.cons (o := { dst := some 11, op := Go.Op.call { callee := Go.Callee.value (Go.Operand.func 27), args := #[Go.Operand.tmp 10], argTypes := #[36] }, type := 32, pos := "ref.go:72", after := #[{ on := 7, ground := Go.Ground.data }], guard := none }) rfl (fun K hK => ?_) AllReadyH.nil
  go_simp
  go_at_call 27; refine (rUsed hS hn hg).mono ?_; rintro e w2 ⟨v, rfl, hS2, hown⟩; obtain ⟨au, cu, rfl, hcu⟩ := (show Vs w2 0 1 v _ _ from hS2.fact.2).form; have y2 := RefB.cells hS2.fact.1.2; have hS3 := hS2.weak; clear hcu hown hS2
  refine hK.out _ _ ?_ (fun hHeld2 => ?_)
  · (try dsimp only); first | exact y2 | exact y1
  clear hK K hHeld
  have hHeld := hHeld2
  clear hHeld2
  try simp only [Act.put, List.setIfInBounds_toArray, List.set_cons_zero, List.set_cons_succ]
  refine wpAnyH_take (i := 9) (oi := { dst := some 12, op := Go.Op.call { callee := Go.Callee.builtin Go.Builtin.len, args := #[Go.Operand.tmp 11], argTypes := #[32] }, type := 3, pos := "ref.go:72", after := #[{ on := 8, ground := Go.Ground.data }], guard := none }) (v := ?v9) rfl (by kernel_rfl) (by kernel_rfl) (by kernel_rfl) (fun _ _ _ h => h) (Or.inl ⟨by rfl, ?hy9⟩) (by assumption) ?rest9
  case hy9 => (intro w hSw; (try dsimp only at hSw); have y1 := hSw; go_simp <;> with_reducible rfl)
  try simp only [Act.put, List.setIfInBounds_toArray, List.set_cons_zero, List.set_cons_succ]
  refine wpAnyH_take (i := 10) (oi := { dst := some 13, op := Go.Op.binOp Go.BinOp.sub 3 (Go.Operand.tmp 9) (Go.Operand.tmp 12) 3, type := 3, pos := "ref.go:72", after := #[{ on := 6, ground := Go.Ground.data }, { on := 9, ground := Go.Ground.data }], guard := none }) (v := ?v10) rfl (by kernel_rfl) (by kernel_rfl) (by kernel_rfl) (fun _ _ _ h => h) (Or.inl ⟨by rfl, ?hy10⟩) (by assumption) ?rest10
  case hy10 => (intro w hSw; (try dsimp only at hSw); have y1 := hSw; go_simp <;> with_reducible rfl)
  try simp only [Act.put, List.setIfInBounds_toArray, List.set_cons_zero, List.set_cons_succ]
  refine wpAnyH_take (i := 11) (oi := { dst := some 2, op := Go.Op.assign (Go.Operand.tmp 13), type := 3, pos := "ref.go:72", after := #[{ on := 10, ground := Go.Ground.data }, { on := 8, ground := Go.Ground.chain }, { on := 0, ground := Go.Ground.phase }, { on := 1, ground := Go.Ground.phase }, { on := 2, ground := Go.Ground.phase }, { on := 3, ground := Go.Ground.phase }, { on := 4, ground := Go.Ground.phase }, { on := 5, ground := Go.Ground.phase }, { on := 6, ground := Go.Ground.phase }, { on := 7, ground := Go.Ground.phase }, { on := 8, ground := Go.Ground.phase }, { on := 9, ground := Go.Ground.phase }, { on := 10, ground := Go.Ground.phase }], guard := none }) (v := ?v11) rfl (by kernel_rfl) (by kernel_rfl) (by kernel_rfl) (fun _ _ _ h => h) (Or.inl ⟨by rfl, ?hy11⟩) (by assumption) ?rest11
  case hy11 => (intro w hSw; (try dsimp only at hSw); have y1 := hSw; go_simp <;> with_reducible rfl)
  try simp only [Act.put, List.setIfInBounds_toArray, List.set_cons_zero, List.set_cons_succ]
  refine wpAnyH_done (by kernel_rfl) ?_ _
  refine NoPanic.normal ?_
  go_wp2
  go_ret
  exact ⟨rfl, hS3⟩
end
end Go.Proofs.YtekfceolignihaaDoor
