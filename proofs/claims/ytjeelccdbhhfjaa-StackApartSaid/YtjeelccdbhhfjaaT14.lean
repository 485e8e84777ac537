/- 'StackApart'. -/
import Derived.Test.YtjeelccdbhhfjaaOA
import Derived.Test.YtjeelccdbhhfjaaN2
namespace Go.Proofs.Ytjeelccdbhhfjaa
open Go.RowKit
set_option linter.unusedVariables false
set_option linter.unusedSimpArgs false
attribute [local go_sem] cell_set set_set m_undef

/-- The memories differ at this stack alone. -/
def Apart (M N : List UInt8) (a lo hi : Int) : Prop := M.length = 8192 ∧ ∀ z, (z < a ∨ a + 8 ≤ z) → (z < lo ∨ hi ≤ z) → memAt M z = memAt N z
theorem Apart.set {M N : List UInt8} {a lo hi : Int} (h : Apart M N a lo hi) (b n : Int) (hb : (a ≤ b ∧ b + 8 ≤ a + 8) ∨ (lo ≤ b ∧ b + 8 ≤ hi)) : Apart (setM M b n) N a lo hi := by
  refine ⟨by rw [setM_len]; exact h.1, fun z h1 h2 => ?_⟩
  rw [memAt_setM h.1, if_neg (by omega)]
  exact h.2 z h1 h2
theorem Apart.push {M N : List UInt8} {a lo hi : Int} (h : Apart M N a lo hi) (hk : Sk a lo hi) (n : Int) : Apart (pushM M a lo hi n) N a lo hi := by
  obtain ⟨b1, b2, b3, b4, b5, b6, b7, b8, b9⟩ := topL_bd (M := M) hk
  unfold pushM
  generalize topL M a lo hi = t at *
  split
  · exact h
  · exact (h.set _ _ (by omega)).set _ _ (by omega)
theorem Apart.pop {M N : List UInt8} {a lo hi : Int} (h : Apart M N a lo hi) (hk : Sk a lo hi) : Apart (popM M a lo hi) N a lo hi := by
  unfold popM
  split
  · exact h.set _ _ (by omega)
  · exact h
theorem leN_digit (l : List UInt8) (a : Int) (i : Nat) : ∀ k : Nat, i < k → leN l a k / 2 ^ (8 * i) % 256 = byteZ l (a + i) := by
  intro k
  induction k with
  | zero => intro h; omega
  | succ k ih =>
    intro h
    show (leN l a k + byteZ l (a + k) * 2 ^ (8 * k)) / 2 ^ (8 * i) % 256 = _
    by_cases e : i = k
    · subst e
      rw [Nat.add_mul_div_right _ _ (Nat.pow_pos (by omega)), Nat.div_eq_of_lt (leN_lt l a i), Nat.zero_add]
      exact Nat.mod_eq_of_lt (byteZ_lt _ _)
    · have hik : i < k := by omega
      have e2 : byteZ l (a + k) * 2 ^ (8 * k) = (byteZ l (a + k) * 2 ^ (8 * (k - i - 1)) * 256) * 2 ^ (8 * i) := by
        have : (2 : Nat) ^ (8 * k) = 2 ^ (8 * (k - i - 1)) * 256 * 2 ^ (8 * i) := by
          rw [show (256 : Nat) = 2 ^ 8 by decide, ← Nat.pow_add, ← Nat.pow_add]
          congr 1; omega
        rw [this]; simp only [Nat.mul_assoc]
      rw [e2, Nat.add_mul_div_right _ _ (Nat.pow_pos (by omega)), Nat.add_mul_mod_self_right]
      exact ih hik
theorem byte_of (n i : Nat) (x : UInt8) (h : n < 18446744073709551616) (hx : n / 2 ^ (8 * i) % 256 = x.toNat) : UInt8.ofNat ((IntKind.u64.wrap (IntKind.i64.wrap (n : Int))).toNat / 2 ^ (8 * i)) = x := by
  have e : (IntKind.u64.wrap (IntKind.i64.wrap (n : Int))).toNat = n := by
    rw [IntKind.wrap_u64, IntKind.wrap_i64]
    omega
  rw [e]
  apply UInt8.toNat_inj.1
  rw [UInt8.toNat_ofNat']
  exact hx
theorem leN_small (l : List UInt8) (a : Int) : leN l a 8 < 18446744073709551616 := by
  have h := leN_lt l a 8
  rw [show (2 : Nat) ^ (8 * 8) = 18446744073709551616 by decide] at h
  exact h
theorem leN_mem (M : List UInt8) (a : Int) (i : Nat) (hi : i < 8) : leN (loadL M a 8) 0 8 / 2 ^ (8 * i) % 256 = (memAt M (a + i)).toNat := by
  rw [leN_digit (loadL M a 8) 0 i 8 hi, byteZ_load M a 8 (0 + (i : Int)) (by omega) (by omega) (by omega), Int.zero_add]
theorem cell_bytes {M : List UInt8} (a : Int) (i : Nat) (hi : i < 8) : UInt8.ofNat ((IntKind.u64.wrap (getM M a)).toNat / 2 ^ (8 * i)) = memAt M (a + i) :=
  byte_of _ i _ (leN_small _ _) (leN_mem M a i hi)
theorem Apart.restore {M N : List UInt8} {a lo hi : Int} (h : Apart M N a lo hi) (hk : Sk a lo hi) (hN : N.length = 8192) : layL (setM M a (getM N a)) lo (loadL N lo 256) = N := by
  obtain ⟨b1, b2, b3, b4, b5, b6, b7, b8, b9⟩ := topL_bd (M := M) hk
  have h1 : (setM M a (getM N a)).length = 8192 := by rw [setM_len]; exact h.1
  have hl : (loadL N lo 256).length = 256 := by rw [loadL_len]; rfl
  refine mem_ext (by rw [layL_len]; exact h1) hN fun z => ?_
  rw [memAt_layL h1, hl]
  by_cases c1 : lo ≤ z ∧ z < lo + ((256 : Nat) : Int) ∧ 0 ≤ z ∧ z < 8192
  · rw [if_pos c1, loadL_getD N lo 256 (z - lo).toNat (by omega) (by omega)]
    congr 1; omega
  · rw [if_neg c1, memAt_setM h.1]
    by_cases c2 : a ≤ z ∧ z < a + 8 ∧ 0 ≤ z ∧ z < 8192
    · rw [if_pos c2, cell_bytes a (z - a).toNat (by omega)]
      congr 1; omega
    · rw [if_neg c2]
      by_cases c3 : 0 ≤ z ∧ z < 8192
      · exact h.2 z (by omega) (by omega)
      · rw [memAt_out M z c3, memAt_out N z c3]
attribute [local irreducible] pushM popM setM layL loadL
set_option maxRecDepth 100000 in
set_option maxHeartbeats 4000000 in
theorem stackApart_true {w : World} (v : Value) (l : List UInt8) (h : Rb w v l) (v2 : Value) (L : List Int) (hL : Rv w 1 v2 L.length (ic L)) (hLi : ∀ z ∈ L, isI z) :
    Calls Try.prog 4 #[v, v2, .bool true] w fun e w' => e = .returned (.bool true) ∧ Below w.heap.size w w' := by
  have hA := Lib.hid wAwake
  obtain ⟨ad, cap, rfl⟩ := h.form
  obtain ⟨ad2, cap2, rfl⟩ := hL.form
  replace h := Lib.hid h
  replace hL := Lib.hid hL
  replace hLi := Lib.hid hLi
  by_cases h9 : 9000 < l.length
  · have t1 : ((9000 : Int) < (l.length : Int)) = True := by simp; omega
    clear h9
    go_enter Try.func4, Try.ntmps4
    go_wp2_with (go_at_call 7; refine (hA.out _).mono ?_; rintro e w1 ⟨rfl, hb1⟩; replace hb1 := Lib.hid hb1)
    go_ret
    exact ⟨rfl, hb1.out⟩
  have t1 : ((9000 : Int) < (l.length : Int)) = False := by simp; omega
  clear h9
  by_cases h2 : 200 < L.length
  · have t2 : ((200 : Int) < (L.length : Int)) = True := by simp; omega
    clear h2
    go_enter Try.func4, Try.ntmps4
    go_wp2_with (go_at_call 7; refine (hA.out _).mono ?_; rintro e w1 ⟨rfl, hb1⟩; replace hb1 := Lib.hid hb1)
    go_ret
    exact ⟨rfl, hb1.out⟩
  have t2 : ((200 : Int) < (L.length : Int)) = False := by simp; omega
  have hL2 : L.length ≤ 1000 := by omega
  clear h2
  obtain ⟨M, hMd⟩ : ∃ M, M = flatL l := ⟨_, rfl⟩
  have hMl : M.length = 8192 := by rw [hMd]; exact flatL_len l
  have hF1 := Lib.hid (fun (w9 : World) (h9 : Rb w9 (.slice ad l.length cap) l) => wFlatR w9 _ l h9)
  have hF2 := Lib.hid (fun (w9 : World) (h9 : Rb w9 (.slice ad l.length cap) l) => rFlat w9 _ l h9)
  unfold FlatQ at hF1
  rw [← hMd] at hF1 hF2
  replace hMl := Lib.hid hMl
  clear hMd
  go_enter Try.func4, Try.ntmps4
  go_upto_region 8 with (first
    | (go_at_call 7; refine (hA.out _).mono ?_; rintro e w1 ⟨rfl, hb1⟩; have h1 := Lib.hid (h.out.below hb1); replace hb1 := Lib.hid hb1)
    | (go_at_call 8; refine (hF1.out _ h1.out).mono ?_; rintro e w2 ⟨mb, O2, rfl, hP2, hb2⟩; have h2 := Lib.hid (h1.out.below hb2); replace hP2 := Lib.hid hP2; replace hb2 := Lib.hid hb2)
    | (go_at_call 13; refine (hF2.out _ h2.out).mono ?_; rintro e w3 ⟨rb, R, rfl, hR3, hb3⟩; have hT := Two.make hb1.out (Keep.emp _ _) hP2.out hb2.out hR3 hb3; clear hR3 hb3))
  clear h1 h2 hb1 hb2 hP2 hF1 hF2 hA h
  go_wp2
  go_loopw [31] (fun i wr => ∃ (k : Nat) (M' : List UInt8), i = .int .i64 (k : Int) ∧ k ≤ L.length ∧ Apart M' M 40 512 768 ∧ Two w wr mb rb M' M .emp) (fun i _ => (L.length - (intOf i).toNat))
  case atStart => exact ⟨0, M, rfl, by omega, ⟨hMl.out, fun z _ _ => rfl⟩, hT⟩
  case round =>
    obtain ⟨k, M', rfl, hk, hap, hT⟩ := hrel
    by_cases hlt : k < L.length
    · have t5 : ((k : Int) < (L.length : Int)) = True := by simp; omega
      have i1 : (0 : Int) ≤ (k : Int) := by omega
      have i2 : (k : Int) < (L.length : Int) := by omega
      have wk : IntKind.i64.wrap ((k : Int) + 1) = ((k + 1 : Nat) : Int) := by rw [IntKind.wrap_i64]; omega
      obtain ⟨a, hea, s1⟩ : ∃ a, ad2 = some a ∧ wr.cell? (a.add k) = some (.int .i64 L[k]) := by
        rcases (hL.out.below hT.bel).2.2 with ⟨e, e2⟩ | ⟨a, c, e, hc⟩
        · omega
        · cases e
          exact ⟨a, rfl, hc k _ (ic_at L k hlt)⟩
      subst hea
      have hx := hLi.out L[k] (List.getElem_mem hlt)
      generalize L[k] = x at *
      have hP := Lib.hid (hap.push (by unfold Sk; omega) x)
      have hQ := Lib.hid (hap.pop (by unfold Sk; omega))
      replace hlt := Lib.hid hlt
      clear hk hap
      have hrm : x.tmod 3 = 0 ↔ x % 3 = 0 := ⟨fun h => Int.emod_eq_zero_of_dvd (Int.dvd_of_tmod_eq_zero h), fun h => Int.tmod_eq_zero_of_dvd (Int.dvd_of_emod_eq_zero h)⟩
      by_cases h3 : x % 3 = 0
      · have t6 : (x.tmod 3 == 0) = true := by rw [beq_iff_eq]; exact hrm.2 h3
        clear h3 hrm hx
        go_wp2_with (go_at_call 12; refine (hT.mem (fun B O h hb => kRPop h hb)).mono ?_; rintro e w2 ⟨rfl, hT2⟩; clear hT; have hT := hT2; clear hT2)
        go_roundw
        case rel => exact ⟨k + 1, _, rfl, hlt.out, hQ.out, hT⟩
        case measure => have := hlt.out; simp [intOf]; omega
      · have t6 : (x.tmod 3 == 0) = false := by rw [beq_eq_false_iff_ne]; exact fun e => h3 (hrm.1 e)
        clear h3 hrm hx
        go_wp2_with (go_at_call 10; refine (hT.mem (fun B O h hb => kRPush h hb x)).mono ?_; rintro e w2 ⟨rfl, hT2⟩; clear hT; have hT := hT2; clear hT2)
        go_roundw
        case rel => exact ⟨k + 1, _, rfl, hlt.out, hP.out, hT⟩
        case measure => have := hlt.out; simp [intOf]; omega
    · have t5 : ((k : Int) < (L.length : Int)) = False := by simp; omega
      clear hlt hk
      have hre := Lib.hid (hap.restore (by unfold Sk; omega) hMl.out)
      have hl1 : (loadL M 512 256).length = 256 := by rw [loadL_len]; rfl
      have hGet := Lib.hid (fun (w9 : World) (B : Nat) (R : Nat → Prop) (h : RefP w9 B rb M R) => rGet h 40 (by unfold isI; omega))
      have hLoad := Lib.hid (fun (w9 : World) (B : Nat) (R : Nat → Prop) (h : RefP w9 B rb M R) => rLoad h 512 256 (by unfold isI; omega))
      obtain ⟨g, hg⟩ : ∃ g, g = getM M 40 := ⟨_, rfl⟩
      obtain ⟨L0, hL0⟩ : ∃ L0, L0 = loadL M 512 256 := ⟨_, rfl⟩
      rw [← hg] at hGet hre
      rw [← hL0] at hLoad hre hl1
      replace hl1 := Lib.hid hl1
      clear hap hg hL0
      go_upto_region 24 with (first
        | (go_at_call 15; refine (hT.refB (fun B R h => hGet.out _ _ _ h)).mono ?_; rintro e w2 ⟨rfl, hT2⟩; clear hT; have hT := hT2; clear hT2)
        | (go_at_call 14; refine (hT.mem (fun B O h hb => mSet h hb 40 g (by unfold isI; omega))).mono ?_; rintro e w2 ⟨rfl, hT2⟩; clear hT; have hT := hT2; clear hT2)
        | (go_at_call 17; refine (hT.refBs (fun B R h => hLoad.out _ _ _ h)).mono ?_; rintro e w2 ⟨v9, rfl, hT2⟩; obtain ⟨a9, c9, he9, hle9⟩ := hT2.fact.2.len; rw [hl1.out] at he9; subst he9; clear hle9; clear hT; have hT := hT2; clear hT2)
        | (go_at_call 16; refine (hT.memK (fun B O h hb hk => mLay h hb 512 (by unfold isI; omega) hk.right.1 (by have := hl1.out; omega) (fun k hk2 => (hk.right.2 k hk2).2))).mono ?_; rintro e w2 ⟨rfl, hT2⟩; rw [hre.out] at hT2; clear hT; have hT := hT2; clear hT2))
      replace hT := hT.drew
      obtain ⟨s, hS⟩ := hT.val
      obtain ⟨vb, ob, cp, rfl⟩ := hS.form
      clear hT
      have hT := hS
      clear hS hre hGet hLoad hl1
      refine wp_region_noPanic ?_
      refine wp_region_held_drew (S := (fun _ => True)) (by kernel_rfl) ?_ (fun hHeld => ?_)
      · (try dsimp only); (try trivial)
      refine wpAnyH_take (i := 0) (oi := { dst := some 72, op := Go.Op.move (Go.Operand.tmp 7), type := 24, pos := "law.go:188", after := #[], guard := none }) (v := ?v1) rfl (by kernel_rfl) (by kernel_rfl) (by kernel_rfl) (fun _ _ _ h => h) (Or.inl ⟨by rfl, ?hy1⟩) (by assumption) ?rest1
      case hy1 => (intro w hSw; (try dsimp only at hSw); go_simp <;> with_reducible rfl)
      try simp only [Act.put, List.setIfInBounds_toArray, List.set_cons_zero, List.set_cons_succ]
      refine wpAnyH_take (i := 3) (oi := { dst := some 75, op := Go.Op.move (Go.Operand.tmp 8), type := 31, pos := "law.go:188", after := #[], guard := none }) (v := ?v2) rfl (by kernel_rfl) (by kernel_rfl) (by kernel_rfl) (fun _ _ _ h => h) (Or.inl ⟨by rfl, ?hy2⟩) (by assumption) ?rest2
      case hy2 => (intro w hSw; (try dsimp only at hSw); go_simp <;> with_reducible rfl)
      try simp only [Act.put, List.setIfInBounds_toArray, List.set_cons_zero, List.set_cons_succ]
      refine wpAnyH_take (i := 4) (oi := { dst := some 76, op := Go.Op.nilCheck (Go.Operand.tmp 75), type := 0, pos := "law.go:188", after := #[{ on := 3, ground := Go.Ground.data }], guard := none }) (v := ?v3) rfl (by kernel_rfl) (by kernel_rfl) (by kernel_rfl) (fun _ _ _ h => h) (Or.inl ⟨by rfl, ?hy3⟩) (by assumption) ?rest3
      case hy3 => (intro w hSw; (try dsimp only at hSw); go_simp <;> with_reducible rfl)
      try simp only [Act.put, List.setIfInBounds_toArray, List.set_cons_zero, List.set_cons_succ]
      refine wpAnyH_take (i := 5) (oi := { dst := some 77, op := Go.Op.fieldAddr 39 (Go.Operand.tmp 76) 0, type := 0, pos := "law.go:188", after := #[{ on := 4, ground := Go.Ground.data }], guard := none }) (v := ?v4) rfl (by kernel_rfl) (by kernel_rfl) (by kernel_rfl) (fun _ _ _ h => h) (Or.inl ⟨by rfl, ?hy4⟩) (by assumption) ?rest4
      case hy4 => (intro w hSw; (try dsimp only at hSw); go_simp <;> with_reducible rfl)
      try simp only [Act.put, List.setIfInBounds_toArray, List.set_cons_zero, List.set_cons_succ]
      refine wpAnyH_ready (rs := [1, 6]) (by kernel_rfl) (by simp) ?_
      refine AllReadyH.cons (o := { dst := some 73, op := Go.Op.call { callee := Go.Callee.value (Go.Operand.func 18), args := #[Go.Operand.tmp 72], argTypes := #[24] }, type := 30, pos := "law.go:188", after := #[{ on := 0, ground := Go.Ground.data }], guard := none }) rfl (fun K hK => ?_) ?_
      ·
        go_simp
        go_at_call 18; refine (hT.load (fun B O hP hB => mBytes hP hB)).mono ?_; rintro e w5 ⟨v5, rfl, hT2⟩; obtain ⟨a5, c5, rfl, hle5⟩ := hT2.fact.2.len; clear hle5; clear hT; have hT := hT2; clear hT2
        refine hK.out _ _ ?_ (fun hHeld2 => ?_)
        · (try dsimp only); (try trivial)
        clear hK K hHeld
        have hHeld := hHeld2
        clear hHeld2
        try simp only [Act.put, List.setIfInBounds_toArray, List.set_cons_zero, List.set_cons_succ]
        refine wpAnyH_ready (rs := [2, 6]) (by kernel_rfl) (by simp) ?_
        refine AllReadyH.cons (o := { dst := some 74, op := Go.Op.convert 30 9 (Go.Operand.tmp 73), type := 9, pos := "law.go:188", after := #[{ on := 1, ground := Go.Ground.data }], guard := none }) rfl (fun K hK => ?_) ?_
        ·
          have estr := Bs.str (P := Try.prog) hT.fact.2 (src := 30) (dst := 9) Try.underlying30 Try.underlying5 Try.underlying9
          go_simp
          refine hK.out _ _ ?_ (fun hHeld2 => ?_)
          · (try dsimp only); (try trivial)
          clear hK K hHeld
          have hHeld := hHeld2
          clear hHeld2
          try simp only [Act.put, List.setIfInBounds_toArray, List.set_cons_zero, List.set_cons_succ]
          refine wpAnyH_ready (rs := [6]) (by kernel_rfl) (by simp) ?_
          refine AllReadyH.cons (o := { dst := some 78, op := Go.Op.load 30 (Go.Operand.tmp 77), type := 30, pos := "law.go:188", after := #[{ on := 5, ground := Go.Ground.data }], guard := none }) rfl (fun K hK => ?_) AllReadyH.nil
          have rc := hT.cell
          go_simp
          refine hK.out _ _ ?_ (fun hHeld2 => ?_)
          · (try dsimp only); (try trivial)
          clear hK K hHeld
          have hHeld := hHeld2
          clear hHeld2
          try simp only [Act.put, List.setIfInBounds_toArray, List.set_cons_zero, List.set_cons_succ]
          refine wpAnyH_ready (rs := [7]) (by kernel_rfl) (by simp) ?_
          refine AllReadyH.cons (o := { dst := some 79, op := Go.Op.convert 30 9 (Go.Operand.tmp 78), type := 9, pos := "law.go:188", after := #[{ on := 6, ground := Go.Ground.data }], guard := none }) rfl (fun K hK => ?_) AllReadyH.nil
          have rstr := Bs.str (P := Try.prog) hT.bs (src := 30) (dst := 9) Try.underlying30 Try.underlying5 Try.underlying9
          go_simp
          refine hK.out _ _ ?_ (fun hHeld2 => ?_)
          · (try dsimp only); (try trivial)
          clear hK K hHeld
          have hHeld := hHeld2
          clear hHeld2
          try simp only [Act.put, List.setIfInBounds_toArray, List.set_cons_zero, List.set_cons_succ]
          refine wpAnyH_take (i := 8) (oi := { dst := some 80, op := Go.Op.binOp Go.BinOp.eql 9 (Go.Operand.tmp 74) (Go.Operand.tmp 79) 9, type := 4, pos := "law.go:188", after := #[{ on := 2, ground := Go.Ground.data }, { on := 7, ground := Go.Ground.data }], guard := none }) (v := ?v5) rfl (by kernel_rfl) (by kernel_rfl) (by kernel_rfl) (fun _ _ _ h => h) (Or.inl ⟨by rfl, ?hy5⟩) (by assumption) ?rest5
          case hy5 => (intro w hSw; (try dsimp only at hSw); go_simp <;> with_reducible rfl)
          try simp only [Act.put, List.setIfInBounds_toArray, List.set_cons_zero, List.set_cons_succ]
          refine wpAnyH_take (i := 9) (oi := { dst := some 6, op := Go.Op.assign (Go.Operand.tmp 80), type := 4, pos := "law.go:188", after := #[{ on := 8, ground := Go.Ground.data }, { on := 1, ground := Go.Ground.chain }, { on := 0, ground := Go.Ground.phase }, { on := 1, ground := Go.Ground.phase }, { on := 2, ground := Go.Ground.phase }, { on := 3, ground := Go.Ground.phase }, { on := 4, ground := Go.Ground.phase }, { on := 5, ground := Go.Ground.phase }, { on := 6, ground := Go.Ground.phase }, { on := 7, ground := Go.Ground.phase }, { on := 8, ground := Go.Ground.phase }], guard := none }) (v := ?v6) rfl (by kernel_rfl) (by kernel_rfl) (by kernel_rfl) (fun _ _ _ h => h) (Or.inl ⟨by rfl, ?hy6⟩) (by assumption) ?rest6
          case hy6 => (intro w hSw; (try dsimp only at hSw); go_simp <;> with_reducible rfl)
          try simp only [Act.put, List.setIfInBounds_toArray, List.set_cons_zero, List.set_cons_succ]
          refine wpAnyH_done (by kernel_rfl) ?_ _
          refine NoPanic.normal ?_
          go_wp2
          go_ret
          exact ⟨rfl, hT.two.bel⟩
        refine AllReadyH.cons (o := { dst := some 78, op := Go.Op.load 30 (Go.Operand.tmp 77), type := 30, pos := "law.go:188", after := #[{ on := 5, ground := Go.Ground.data }], guard := none }) rfl (fun K hK => ?_) ?_
        ·
          have rc := hT.cell
          go_simp
          refine hK.out _ _ ?_ (fun hHeld2 => ?_)
          · (try dsimp only); (try trivial)
          clear hK K hHeld
          have hHeld := hHeld2
          clear hHeld2
          try simp only [Act.put, List.setIfInBounds_toArray, List.set_cons_zero, List.set_cons_succ]
          refine wpAnyH_ready (rs := [2, 7]) (by kernel_rfl) (by simp) ?_
          refine AllReadyH.cons (o := { dst := some 74, op := Go.Op.convert 30 9 (Go.Operand.tmp 73), type := 9, pos := "law.go:188", after := #[{ on := 1, ground := Go.Ground.data }], guard := none }) rfl (fun K hK => ?_) ?_
          ·
            have estr := Bs.str (P := Try.prog) hT.fact.2 (src := 30) (dst := 9) Try.underlying30 Try.underlying5 Try.underlying9
            go_simp
            refine hK.out _ _ ?_ (fun hHeld2 => ?_)
            · (try dsimp only); (try trivial)
            clear hK K hHeld
            have hHeld := hHeld2
            clear hHeld2
            try simp only [Act.put, List.setIfInBounds_toArray, List.set_cons_zero, List.set_cons_succ]
            refine wpAnyH_ready (rs := [7]) (by kernel_rfl) (by simp) ?_
            refine AllReadyH.cons (o := { dst := some 79, op := Go.Op.convert 30 9 (Go.Operand.tmp 78), type := 9, pos := "law.go:188", after := #[{ on := 6, ground := Go.Ground.data }], guard := none }) rfl (fun K hK => ?_) AllReadyH.nil
            have rstr := Bs.str (P := Try.prog) hT.bs (src := 30) (dst := 9) Try.underlying30 Try.underlying5 Try.underlying9
            go_simp
            refine hK.out _ _ ?_ (fun hHeld2 => ?_)
            · (try dsimp only); (try trivial)
            clear hK K hHeld
            have hHeld := hHeld2
            clear hHeld2
            try simp only [Act.put, List.setIfInBounds_toArray, List.set_cons_zero, List.set_cons_succ]
            refine wpAnyH_take (i := 8) (oi := { dst := some 80, op := Go.Op.binOp Go.BinOp.eql 9 (Go.Operand.tmp 74) (Go.Operand.tmp 79) 9, type := 4, pos := "law.go:188", after := #[{ on := 2, ground := Go.Ground.data }, { on := 7, ground := Go.Ground.data }], guard := none }) (v := ?v7) rfl (by kernel_rfl) (by kernel_rfl) (by kernel_rfl) (fun _ _ _ h => h) (Or.inl ⟨by rfl, ?hy7⟩) (by assumption) ?rest7
            case hy7 => (intro w hSw; (try dsimp only at hSw); go_simp <;> with_reducible rfl)
            try simp only [Act.put, List.setIfInBounds_toArray, List.set_cons_zero, List.set_cons_succ]
            refine wpAnyH_take (i := 9) (oi := { dst := some 6, op := Go.Op.assign (Go.Operand.tmp 80), type := 4, pos := "law.go:188", after := #[{ on := 8, ground := Go.Ground.data }, { on := 1, ground := Go.Ground.chain }, { on := 0, ground := Go.Ground.phase }, { on := 1, ground := Go.Ground.phase }, { on := 2, ground := Go.Ground.phase }, { on := 3, ground := Go.Ground.phase }, { on := 4, ground := Go.Ground.phase }, { on := 5, ground := Go.Ground.phase }, { on := 6, ground := Go.Ground.phase }, { on := 7, ground := Go.Ground.phase }, { on := 8, ground := Go.Ground.phase }], guard := none }) (v := ?v8) rfl (by kernel_rfl) (by kernel_rfl) (by kernel_rfl) (fun _ _ _ h => h) (Or.inl ⟨by rfl, ?hy8⟩) (by assumption) ?rest8
            case hy8 => (intro w hSw; (try dsimp only at hSw); go_simp <;> with_reducible rfl)
            try simp only [Act.put, List.setIfInBounds_toArray, List.set_cons_zero, List.set_cons_succ]
            refine wpAnyH_done (by kernel_rfl) ?_ _
            refine NoPanic.normal ?_
            go_wp2
            go_ret
            exact ⟨rfl, hT.two.bel⟩
          refine AllReadyH.cons (o := { dst := some 79, op := Go.Op.convert 30 9 (Go.Operand.tmp 78), type := 9, pos := "law.go:188", after := #[{ on := 6, ground := Go.Ground.data }], guard := none }) rfl (fun K hK => ?_) ?_
          ·
            have rstr := Bs.str (P := Try.prog) hT.bs (src := 30) (dst := 9) Try.underlying30 Try.underlying5 Try.underlying9
            go_simp
            refine hK.out _ _ ?_ (fun hHeld2 => ?_)
            · (try dsimp only); (try trivial)
            clear hK K hHeld
            have hHeld := hHeld2
            clear hHeld2
            try simp only [Act.put, List.setIfInBounds_toArray, List.set_cons_zero, List.set_cons_succ]
            refine wpAnyH_ready (rs := [2]) (by kernel_rfl) (by simp) ?_
            refine AllReadyH.cons (o := { dst := some 74, op := Go.Op.convert 30 9 (Go.Operand.tmp 73), type := 9, pos := "law.go:188", after := #[{ on := 1, ground := Go.Ground.data }], guard := none }) rfl (fun K hK => ?_) AllReadyH.nil
            have estr := Bs.str (P := Try.prog) hT.fact.2 (src := 30) (dst := 9) Try.underlying30 Try.underlying5 Try.underlying9
            go_simp
            refine hK.out _ _ ?_ (fun hHeld2 => ?_)
            · (try dsimp only); (try trivial)
            clear hK K hHeld
            have hHeld := hHeld2
            clear hHeld2
            try simp only [Act.put, List.setIfInBounds_toArray, List.set_cons_zero, List.set_cons_succ]
            refine wpAnyH_take (i := 8) (oi := { dst := some 80, op := Go.Op.binOp Go.BinOp.eql 9 (Go.Operand.tmp 74) (Go.Operand.tmp 79) 9, type := 4, pos := "law.go:188", after := #[{ on := 2, ground := Go.Ground.data }, { on := 7, ground := Go.Ground.data }], guard := none }) (v := ?v9) rfl (by kernel_rfl) (by kernel_rfl) (by kernel_rfl) (fun _ _ _ h => h) (Or.inl ⟨by rfl, ?hy9⟩) (by assumption) ?rest9
            case hy9 => (intro w hSw; (try dsimp only at hSw); go_simp <;> with_reducible rfl)
            try simp only [Act.put, List.setIfInBounds_toArray, List.set_cons_zero, List.set_cons_succ]
            refine wpAnyH_take (i := 9) (oi := { dst := some 6, op := Go.Op.assign (Go.Operand.tmp 80), type := 4, pos := "law.go:188", after := #[{ on := 8, ground := Go.Ground.data }, { on := 1, ground := Go.Ground.chain }, { on := 0, ground := Go.Ground.phase }, { on := 1, ground := Go.Ground.phase }, { on := 2, ground := Go.Ground.phase }, { on := 3, ground := Go.Ground.phase }, { on := 4, ground := Go.Ground.phase }, { on := 5, ground := Go.Ground.phase }, { on := 6, ground := Go.Ground.phase }, { on := 7, ground := Go.Ground.phase }, { on := 8, ground := Go.Ground.phase }], guard := none }) (v := ?v10) rfl (by kernel_rfl) (by kernel_rfl) (by kernel_rfl) (fun _ _ _ h => h) (Or.inl ⟨by rfl, ?hy10⟩) (by assumption) ?rest10
            case hy10 => (intro w hSw; (try dsimp only at hSw); go_simp <;> with_reducible rfl)
            try simp only [Act.put, List.setIfInBounds_toArray, List.set_cons_zero, List.set_cons_succ]
            refine wpAnyH_done (by kernel_rfl) ?_ _
            refine NoPanic.normal ?_
            go_wp2
            go_ret
            exact ⟨rfl, hT.two.bel⟩
          exact AllReadyH.nil
        exact AllReadyH.nil
      refine AllReadyH.cons (o := { dst := some 78, op := Go.Op.load 30 (Go.Operand.tmp 77), type := 30, pos := "law.go:188", after := #[{ on := 5, ground := Go.Ground.data }], guard := none }) rfl (fun K hK => ?_) ?_
      ·
        have rc := hT.cell
        go_simp
        refine hK.out _ _ ?_ (fun hHeld2 => ?_)
        · (try dsimp only); (try trivial)
        clear hK K hHeld
        have hHeld := hHeld2
        clear hHeld2
        try simp only [Act.put, List.setIfInBounds_toArray, List.set_cons_zero, List.set_cons_succ]
        refine wpAnyH_ready (rs := [1, 7]) (by kernel_rfl) (by simp) ?_
        refine AllReadyH.cons (o := { dst := some 73, op := Go.Op.call { callee := Go.Callee.value (Go.Operand.func 18), args := #[Go.Operand.tmp 72], argTypes := #[24] }, type := 30, pos := "law.go:188", after := #[{ on := 0, ground := Go.Ground.data }], guard := none }) rfl (fun K hK => ?_) ?_
        ·
          go_simp
          go_at_call 18; refine (hT.load (fun B O hP hB => mBytes hP hB)).mono ?_; rintro e w5 ⟨v5, rfl, hT2⟩; obtain ⟨a5, c5, rfl, hle5⟩ := hT2.fact.2.len; clear hle5; clear hT; have hT := hT2; clear hT2
          refine hK.out _ _ ?_ (fun hHeld2 => ?_)
          · (try dsimp only); (try trivial)
          clear hK K hHeld
          have hHeld := hHeld2
          clear hHeld2
          try simp only [Act.put, List.setIfInBounds_toArray, List.set_cons_zero, List.set_cons_succ]
          refine wpAnyH_ready (rs := [2, 7]) (by kernel_rfl) (by simp) ?_
          refine AllReadyH.cons (o := { dst := some 74, op := Go.Op.convert 30 9 (Go.Operand.tmp 73), type := 9, pos := "law.go:188", after := #[{ on := 1, ground := Go.Ground.data }], guard := none }) rfl (fun K hK => ?_) ?_
          ·
            have estr := Bs.str (P := Try.prog) hT.fact.2 (src := 30) (dst := 9) Try.underlying30 Try.underlying5 Try.underlying9
            go_simp
            refine hK.out _ _ ?_ (fun hHeld2 => ?_)
            · (try dsimp only); (try trivial)
            clear hK K hHeld
            have hHeld := hHeld2
            clear hHeld2
            try simp only [Act.put, List.setIfInBounds_toArray, List.set_cons_zero, List.set_cons_succ]
            refine wpAnyH_ready (rs := [7]) (by kernel_rfl) (by simp) ?_
            refine AllReadyH.cons (o := { dst := some 79, op := Go.Op.convert 30 9 (Go.Operand.tmp 78), type := 9, pos := "law.go:188", after := #[{ on := 6, ground := Go.Ground.data }], guard := none }) rfl (fun K hK => ?_) AllReadyH.nil
            have rstr := Bs.str (P := Try.prog) hT.bs (src := 30) (dst := 9) Try.underlying30 Try.underlying5 Try.underlying9
            go_simp
            refine hK.out _ _ ?_ (fun hHeld2 => ?_)
            · (try dsimp only); (try trivial)
            clear hK K hHeld
            have hHeld := hHeld2
            clear hHeld2
            try simp only [Act.put, List.setIfInBounds_toArray, List.set_cons_zero, List.set_cons_succ]
            refine wpAnyH_take (i := 8) (oi := { dst := some 80, op := Go.Op.binOp Go.BinOp.eql 9 (Go.Operand.tmp 74) (Go.Operand.tmp 79) 9, type := 4, pos := "law.go:188", after := #[{ on := 2, ground := Go.Ground.data }, { on := 7, ground := Go.Ground.data }], guard := none }) (v := ?v11) rfl (by kernel_rfl) (by kernel_rfl) (by kernel_rfl) (fun _ _ _ h => h) (Or.inl ⟨by rfl, ?hy11⟩) (by assumption) ?rest11
            case hy11 => (intro w hSw; (try dsimp only at hSw); go_simp <;> with_reducible rfl)
            try simp only [Act.put, List.setIfInBounds_toArray, List.set_cons_zero, List.set_cons_succ]
            refine wpAnyH_take (i := 9) (oi := { dst := some 6, op := Go.Op.assign (Go.Operand.tmp 80), type := 4, pos := "law.go:188", after := #[{ on := 8, ground := Go.Ground.data }, { on := 1, ground := Go.Ground.chain }, { on := 0, ground := Go.Ground.phase }, { on := 1, ground := Go.Ground.phase }, { on := 2, ground := Go.Ground.phase }, { on := 3, ground := Go.Ground.phase }, { on := 4, ground := Go.Ground.phase }, { on := 5, ground := Go.Ground.phase }, { on := 6, ground := Go.Ground.phase }, { on := 7, ground := Go.Ground.phase }, { on := 8, ground := Go.Ground.phase }], guard := none }) (v := ?v12) rfl (by kernel_rfl) (by kernel_rfl) (by kernel_rfl) (fun _ _ _ h => h) (Or.inl ⟨by rfl, ?hy12⟩) (by assumption) ?rest12
            case hy12 => (intro w hSw; (try dsimp only at hSw); go_simp <;> with_reducible rfl)
            try simp only [Act.put, List.setIfInBounds_toArray, List.set_cons_zero, List.set_cons_succ]
            refine wpAnyH_done (by kernel_rfl) ?_ _
            refine NoPanic.normal ?_
            go_wp2
            go_ret
            exact ⟨rfl, hT.two.bel⟩
          refine AllReadyH.cons (o := { dst := some 79, op := Go.Op.convert 30 9 (Go.Operand.tmp 78), type := 9, pos := "law.go:188", after := #[{ on := 6, ground := Go.Ground.data }], guard := none }) rfl (fun K hK => ?_) ?_
          ·
            have rstr := Bs.str (P := Try.prog) hT.bs (src := 30) (dst := 9) Try.underlying30 Try.underlying5 Try.underlying9
            go_simp
            refine hK.out _ _ ?_ (fun hHeld2 => ?_)
            · (try dsimp only); (try trivial)
            clear hK K hHeld
            have hHeld := hHeld2
            clear hHeld2
            try simp only [Act.put, List.setIfInBounds_toArray, List.set_cons_zero, List.set_cons_succ]
            refine wpAnyH_ready (rs := [2]) (by kernel_rfl) (by simp) ?_
            refine AllReadyH.cons (o := { dst := some 74, op := Go.Op.convert 30 9 (Go.Operand.tmp 73), type := 9, pos := "law.go:188", after := #[{ on := 1, ground := Go.Ground.data }], guard := none }) rfl (fun K hK => ?_) AllReadyH.nil
            have estr := Bs.str (P := Try.prog) hT.fact.2 (src := 30) (dst := 9) Try.underlying30 Try.underlying5 Try.underlying9
            go_simp
            refine hK.out _ _ ?_ (fun hHeld2 => ?_)
            · (try dsimp only); (try trivial)
            clear hK K hHeld
            have hHeld := hHeld2
            clear hHeld2
            try simp only [Act.put, List.setIfInBounds_toArray, List.set_cons_zero, List.set_cons_succ]
            refine wpAnyH_take (i := 8) (oi := { dst := some 80, op := Go.Op.binOp Go.BinOp.eql 9 (Go.Operand.tmp 74) (Go.Operand.tmp 79) 9, type := 4, pos := "law.go:188", after := #[{ on := 2, ground := Go.Ground.data }, { on := 7, ground := Go.Ground.data }], guard := none }) (v := ?v13) rfl (by kernel_rfl) (by kernel_rfl) (by kernel_rfl) (fun _ _ _ h => h) (Or.inl ⟨by rfl, ?hy13⟩) (by assumption) ?rest13
            case hy13 => (intro w hSw; (try dsimp only at hSw); go_simp <;> with_reducible rfl)
            try simp only [Act.put, List.setIfInBounds_toArray, List.set_cons_zero, List.set_cons_succ]
            refine wpAnyH_take (i := 9) (oi := { dst := some 6, op := Go.Op.assign (Go.Operand.tmp 80), type := 4, pos := "law.go:188", after := #[{ on := 8, ground := Go.Ground.data }, { on := 1, ground := Go.Ground.chain }, { on := 0, ground := Go.Ground.phase }, { on := 1, ground := Go.Ground.phase }, { on := 2, ground := Go.Ground.phase }, { on := 3, ground := Go.Ground.phase }, { on := 4, ground := Go.Ground.phase }, { on := 5, ground := Go.Ground.phase }, { on := 6, ground := Go.Ground.phase }, { on := 7, ground := Go.Ground.phase }, { on := 8, ground := Go.Ground.phase }], guard := none }) (v := ?v14) rfl (by kernel_rfl) (by kernel_rfl) (by kernel_rfl) (fun _ _ _ h => h) (Or.inl ⟨by rfl, ?hy14⟩) (by assumption) ?rest14
            case hy14 => (intro w hSw; (try dsimp only at hSw); go_simp <;> with_reducible rfl)
            try simp only [Act.put, List.setIfInBounds_toArray, List.set_cons_zero, List.set_cons_succ]
            refine wpAnyH_done (by kernel_rfl) ?_ _
            refine NoPanic.normal ?_
            go_wp2
            go_ret
            exact ⟨rfl, hT.two.bel⟩
          exact AllReadyH.nil
        refine AllReadyH.cons (o := { dst := some 79, op := Go.Op.convert 30 9 (Go.Operand.tmp 78), type := 9, pos := "law.go:188", after := #[{ on := 6, ground := Go.Ground.data }], guard := none }) rfl (fun K hK => ?_) ?_
        ·
          have rstr := Bs.str (P := Try.prog) hT.bs (src := 30) (dst := 9) Try.underlying30 Try.underlying5 Try.underlying9
          go_simp
          refine hK.out _ _ ?_ (fun hHeld2 => ?_)
          · (try dsimp only); (try trivial)
          clear hK K hHeld
          have hHeld := hHeld2
          clear hHeld2
          try simp only [Act.put, List.setIfInBounds_toArray, List.set_cons_zero, List.set_cons_succ]
          refine wpAnyH_ready (rs := [1]) (by kernel_rfl) (by simp) ?_
          refine AllReadyH.cons (o := { dst := some 73, op := Go.Op.call { callee := Go.Callee.value (Go.Operand.func 18), args := #[Go.Operand.tmp 72], argTypes := #[24] }, type := 30, pos := "law.go:188", after := #[{ on := 0, ground := Go.Ground.data }], guard := none }) rfl (fun K hK => ?_) AllReadyH.nil
          go_simp
          go_at_call 18; refine (hT.load (fun B O hP hB => mBytes hP hB)).mono ?_; rintro e w5 ⟨v5, rfl, hT2⟩; obtain ⟨a5, c5, rfl, hle5⟩ := hT2.fact.2.len; clear hle5; clear hT; have hT := hT2; clear hT2
          refine hK.out _ _ ?_ (fun hHeld2 => ?_)
          · (try dsimp only); (try trivial)
          clear hK K hHeld
          have hHeld := hHeld2
          clear hHeld2
          try simp only [Act.put, List.setIfInBounds_toArray, List.set_cons_zero, List.set_cons_succ]
          refine wpAnyH_ready (rs := [2]) (by kernel_rfl) (by simp) ?_
          refine AllReadyH.cons (o := { dst := some 74, op := Go.Op.convert 30 9 (Go.Operand.tmp 73), type := 9, pos := "law.go:188", after := #[{ on := 1, ground := Go.Ground.data }], guard := none }) rfl (fun K hK => ?_) AllReadyH.nil
          have estr := Bs.str (P := Try.prog) hT.fact.2 (src := 30) (dst := 9) Try.underlying30 Try.underlying5 Try.underlying9
          go_simp
          refine hK.out _ _ ?_ (fun hHeld2 => ?_)
          · (try dsimp only); (try trivial)
          clear hK K hHeld
          have hHeld := hHeld2
          clear hHeld2
          try simp only [Act.put, List.setIfInBounds_toArray, List.set_cons_zero, List.set_cons_succ]
          refine wpAnyH_take (i := 8) (oi := { dst := some 80, op := Go.Op.binOp Go.BinOp.eql 9 (Go.Operand.tmp 74) (Go.Operand.tmp 79) 9, type := 4, pos := "law.go:188", after := #[{ on := 2, ground := Go.Ground.data }, { on := 7, ground := Go.Ground.data }], guard := none }) (v := ?v15) rfl (by kernel_rfl) (by kernel_rfl) (by kernel_rfl) (fun _ _ _ h => h) (Or.inl ⟨by rfl, ?hy15⟩) (by assumption) ?rest15
          case hy15 => (intro w hSw; (try dsimp only at hSw); go_simp <;> with_reducible rfl)
          try simp only [Act.put, List.setIfInBounds_toArray, List.set_cons_zero, List.set_cons_succ]
          refine wpAnyH_take (i := 9) (oi := { dst := some 6, op := Go.Op.assign (Go.Operand.tmp 80), type := 4, pos := "law.go:188", after := #[{ on := 8, ground := Go.Ground.data }, { on := 1, ground := Go.Ground.chain }, { on := 0, ground := Go.Ground.phase }, { on := 1, ground := Go.Ground.phase }, { on := 2, ground := Go.Ground.phase }, { on := 3, ground := Go.Ground.phase }, { on := 4, ground := Go.Ground.phase }, { on := 5, ground := Go.Ground.phase }, { on := 6, ground := Go.Ground.phase }, { on := 7, ground := Go.Ground.phase }, { on := 8, ground := Go.Ground.phase }], guard := none }) (v := ?v16) rfl (by kernel_rfl) (by kernel_rfl) (by kernel_rfl) (fun _ _ _ h => h) (Or.inl ⟨by rfl, ?hy16⟩) (by assumption) ?rest16
          case hy16 => (intro w hSw; (try dsimp only at hSw); go_simp <;> with_reducible rfl)
          try simp only [Act.put, List.setIfInBounds_toArray, List.set_cons_zero, List.set_cons_succ]
          refine wpAnyH_done (by kernel_rfl) ?_ _
          refine NoPanic.normal ?_
          go_wp2
          go_ret
          exact ⟨rfl, hT.two.bel⟩
        exact AllReadyH.nil
      exact AllReadyH.nil
set_option maxRecDepth 100000 in
set_option maxHeartbeats 4000000 in
theorem stackApart_false {w : World} (v : Value) (l : List UInt8) (h : Rb w v l) (v2 : Value) (L : List Int) (hL : Rv w 1 v2 L.length (ic L)) (hLi : ∀ z ∈ L, isI z) :
    Calls Try.prog 4 #[v, v2, .bool false] w fun e w' => e = .returned (.bool true) ∧ Below w.heap.size w w' := by
  have hA := Lib.hid wAwake
  obtain ⟨ad, cap, rfl⟩ := h.form
  obtain ⟨ad2, cap2, rfl⟩ := hL.form
  replace h := Lib.hid h
  replace hL := Lib.hid hL
  replace hLi := Lib.hid hLi
  by_cases h9 : 9000 < l.length
  · have t1 : ((9000 : Int) < (l.length : Int)) = True := by simp; omega
    clear h9
    go_enter Try.func4, Try.ntmps4
    go_wp2_with (go_at_call 7; refine (hA.out _).mono ?_; rintro e w1 ⟨rfl, hb1⟩; replace hb1 := Lib.hid hb1)
    go_ret
    exact ⟨rfl, hb1.out⟩
  have t1 : ((9000 : Int) < (l.length : Int)) = False := by simp; omega
  clear h9
  by_cases h2 : 200 < L.length
  · have t2 : ((200 : Int) < (L.length : Int)) = True := by simp; omega
    clear h2
    go_enter Try.func4, Try.ntmps4
    go_wp2_with (go_at_call 7; refine (hA.out _).mono ?_; rintro e w1 ⟨rfl, hb1⟩; replace hb1 := Lib.hid hb1)
    go_ret
    exact ⟨rfl, hb1.out⟩
  have t2 : ((200 : Int) < (L.length : Int)) = False := by simp; omega
  have hL2 : L.length ≤ 1000 := by omega
  clear h2
  obtain ⟨M, hMd⟩ : ∃ M, M = flatL l := ⟨_, rfl⟩
  have hMl : M.length = 8192 := by rw [hMd]; exact flatL_len l
  have hF1 := Lib.hid (fun (w9 : World) (h9 : Rb w9 (.slice ad l.length cap) l) => wFlatR w9 _ l h9)
  have hF2 := Lib.hid (fun (w9 : World) (h9 : Rb w9 (.slice ad l.length cap) l) => rFlat w9 _ l h9)
  unfold FlatQ at hF1
  rw [← hMd] at hF1 hF2
  replace hMl := Lib.hid hMl
  clear hMd
  go_enter Try.func4, Try.ntmps4
  go_upto_region 8 with (first
    | (go_at_call 7; refine (hA.out _).mono ?_; rintro e w1 ⟨rfl, hb1⟩; have h1 := Lib.hid (h.out.below hb1); replace hb1 := Lib.hid hb1)
    | (go_at_call 8; refine (hF1.out _ h1.out).mono ?_; rintro e w2 ⟨mb, O2, rfl, hP2, hb2⟩; have h2 := Lib.hid (h1.out.below hb2); replace hP2 := Lib.hid hP2; replace hb2 := Lib.hid hb2)
    | (go_at_call 13; refine (hF2.out _ h2.out).mono ?_; rintro e w3 ⟨rb, R, rfl, hR3, hb3⟩; have hT := Two.make hb1.out (Keep.emp _ _) hP2.out hb2.out hR3 hb3; clear hR3 hb3))
  clear h1 h2 hb1 hb2 hP2 hF1 hF2 hA h
  go_wp2
  go_loopw [31] (fun i wr => ∃ (k : Nat) (M' : List UInt8), i = .int .i64 (k : Int) ∧ k ≤ L.length ∧ Apart M' M 32 256 512 ∧ Two w wr mb rb M' M .emp) (fun i _ => (L.length - (intOf i).toNat))
  case atStart => exact ⟨0, M, rfl, by omega, ⟨hMl.out, fun z _ _ => rfl⟩, hT⟩
  case round =>
    obtain ⟨k, M', rfl, hk, hap, hT⟩ := hrel
    by_cases hlt : k < L.length
    · have t5 : ((k : Int) < (L.length : Int)) = True := by simp; omega
      have i1 : (0 : Int) ≤ (k : Int) := by omega
      have i2 : (k : Int) < (L.length : Int) := by omega
      have wk : IntKind.i64.wrap ((k : Int) + 1) = ((k + 1 : Nat) : Int) := by rw [IntKind.wrap_i64]; omega
      obtain ⟨a, hea, s1⟩ : ∃ a, ad2 = some a ∧ wr.cell? (a.add k) = some (.int .i64 L[k]) := by
        rcases (hL.out.below hT.bel).2.2 with ⟨e, e2⟩ | ⟨a, c, e, hc⟩
        · omega
        · cases e
          exact ⟨a, rfl, hc k _ (ic_at L k hlt)⟩
      subst hea
      have hx := hLi.out L[k] (List.getElem_mem hlt)
      generalize L[k] = x at *
      have hP := Lib.hid (hap.push (by unfold Sk; omega) x)
      have hQ := Lib.hid (hap.pop (by unfold Sk; omega))
      replace hlt := Lib.hid hlt
      clear hk hap
      have hrm : x.tmod 3 = 0 ↔ x % 3 = 0 := ⟨fun h => Int.emod_eq_zero_of_dvd (Int.dvd_of_tmod_eq_zero h), fun h => Int.tmod_eq_zero_of_dvd (Int.dvd_of_emod_eq_zero h)⟩
      by_cases h3 : x % 3 = 0
      · have t6 : (x.tmod 3 == 0) = true := by rw [beq_iff_eq]; exact hrm.2 h3
        clear h3 hrm hx
        go_wp2_with (go_at_call 11; refine (hT.mem (fun B O h hb => kPop h hb)).mono ?_; rintro e w2 ⟨rfl, hT2⟩; clear hT; have hT := hT2; clear hT2)
        go_roundw
        case rel => exact ⟨k + 1, _, rfl, hlt.out, hQ.out, hT⟩
        case measure => have := hlt.out; simp [intOf]; omega
      · have t6 : (x.tmod 3 == 0) = false := by rw [beq_eq_false_iff_ne]; exact fun e => h3 (hrm.1 e)
        clear h3 hrm hx
        go_wp2_with (go_at_call 9; refine (hT.mem (fun B O h hb => kPush h hb x)).mono ?_; rintro e w2 ⟨rfl, hT2⟩; clear hT; have hT := hT2; clear hT2)
        go_roundw
        case rel => exact ⟨k + 1, _, rfl, hlt.out, hP.out, hT⟩
        case measure => have := hlt.out; simp [intOf]; omega
    · have t5 : ((k : Int) < (L.length : Int)) = False := by simp; omega
      clear hlt hk
      have hre := Lib.hid (hap.restore (by unfold Sk; omega) hMl.out)
      have hl1 : (loadL M 256 256).length = 256 := by rw [loadL_len]; rfl
      have hGet := Lib.hid (fun (w9 : World) (B : Nat) (R : Nat → Prop) (h : RefP w9 B rb M R) => rGet h 32 (by unfold isI; omega))
      have hLoad := Lib.hid (fun (w9 : World) (B : Nat) (R : Nat → Prop) (h : RefP w9 B rb M R) => rLoad h 256 256 (by unfold isI; omega))
      obtain ⟨g, hg⟩ : ∃ g, g = getM M 32 := ⟨_, rfl⟩
      obtain ⟨L0, hL0⟩ : ∃ L0, L0 = loadL M 256 256 := ⟨_, rfl⟩
      rw [← hg] at hGet hre
      rw [← hL0] at hLoad hre hl1
      replace hl1 := Lib.hid hl1
      clear hap hg hL0
      go_upto_region 24 with (first
        | (go_at_call 15; refine (hT.refB (fun B R h => hGet.out _ _ _ h)).mono ?_; rintro e w2 ⟨rfl, hT2⟩; clear hT; have hT := hT2; clear hT2)
        | (go_at_call 14; refine (hT.mem (fun B O h hb => mSet h hb 32 g (by unfold isI; omega))).mono ?_; rintro e w2 ⟨rfl, hT2⟩; clear hT; have hT := hT2; clear hT2)
        | (go_at_call 17; refine (hT.refBs (fun B R h => hLoad.out _ _ _ h)).mono ?_; rintro e w2 ⟨v9, rfl, hT2⟩; obtain ⟨a9, c9, he9, hle9⟩ := hT2.fact.2.len; rw [hl1.out] at he9; subst he9; clear hle9; clear hT; have hT := hT2; clear hT2)
        | (go_at_call 16; refine (hT.memK (fun B O h hb hk => mLay h hb 256 (by unfold isI; omega) hk.right.1 (by have := hl1.out; omega) (fun k hk2 => (hk.right.2 k hk2).2))).mono ?_; rintro e w2 ⟨rfl, hT2⟩; rw [hre.out] at hT2; clear hT; have hT := hT2; clear hT2))
      replace hT := hT.drew
      obtain ⟨s, hS⟩ := hT.val
      obtain ⟨vb, ob, cp, rfl⟩ := hS.form
      clear hT
      have hT := hS
      clear hS hre hGet hLoad hl1
      refine wp_region_noPanic ?_
      refine wp_region_held_drew (S := (fun _ => True)) (by kernel_rfl) ?_ (fun hHeld => ?_)
      · (try dsimp only); (try trivial)
      refine wpAnyH_take (i := 0) (oi := { dst := some 72, op := Go.Op.move (Go.Operand.tmp 7), type := 24, pos := "law.go:188", after := #[], guard := none }) (v := ?v1) rfl (by kernel_rfl) (by kernel_rfl) (by kernel_rfl) (fun _ _ _ h => h) (Or.inl ⟨by rfl, ?hy1⟩) (by assumption) ?rest1
      case hy1 => (intro w hSw; (try dsimp only at hSw); go_simp <;> with_reducible rfl)
      try simp only [Act.put, List.setIfInBounds_toArray, List.set_cons_zero, List.set_cons_succ]
      refine wpAnyH_take (i := 3) (oi := { dst := some 75, op := Go.Op.move (Go.Operand.tmp 8), type := 31, pos := "law.go:188", after := #[], guard := none }) (v := ?v2) rfl (by kernel_rfl) (by kernel_rfl) (by kernel_rfl) (fun _ _ _ h => h) (Or.inl ⟨by rfl, ?hy2⟩) (by assumption) ?rest2
      case hy2 => (intro w hSw; (try dsimp only at hSw); go_simp <;> with_reducible rfl)
      try simp only [Act.put, List.setIfInBounds_toArray, List.set_cons_zero, List.set_cons_succ]
      refine wpAnyH_take (i := 4) (oi := { dst := some 76, op := Go.Op.nilCheck (Go.Operand.tmp 75), type := 0, pos := "law.go:188", after := #[{ on := 3, ground := Go.Ground.data }], guard := none }) (v := ?v3) rfl (by kernel_rfl) (by kernel_rfl) (by kernel_rfl) (fun _ _ _ h => h) (Or.inl ⟨by rfl, ?hy3⟩) (by assumption) ?rest3
      case hy3 => (intro w hSw; (try dsimp only at hSw); go_simp <;> with_reducible rfl)
      try simp only [Act.put, List.setIfInBounds_toArray, List.set_cons_zero, List.set_cons_succ]
      refine wpAnyH_take (i := 5) (oi := { dst := some 77, op := Go.Op.fieldAddr 39 (Go.Operand.tmp 76) 0, type := 0, pos := "law.go:188", after := #[{ on := 4, ground := Go.Ground.data }], guard := none }) (v := ?v4) rfl (by kernel_rfl) (by kernel_rfl) (by kernel_rfl) (fun _ _ _ h => h) (Or.inl ⟨by rfl, ?hy4⟩) (by assumption) ?rest4
      case hy4 => (intro w hSw; (try dsimp only at hSw); go_simp <;> with_reducible rfl)
      try simp only [Act.put, List.setIfInBounds_toArray, List.set_cons_zero, List.set_cons_succ]
      refine wpAnyH_ready (rs := [1, 6]) (by kernel_rfl) (by simp) ?_
      refine AllReadyH.cons (o := { dst := some 73, op := Go.Op.call { callee := Go.Callee.value (Go.Operand.func 18), args := #[Go.Operand.tmp 72], argTypes := #[24] }, type := 30, pos := "law.go:188", after := #[{ on := 0, ground := Go.Ground.data }], guard := none }) rfl (fun K hK => ?_) ?_
      ·
        go_simp
        go_at_call 18; refine (hT.load (fun B O hP hB => mBytes hP hB)).mono ?_; rintro e w5 ⟨v5, rfl, hT2⟩; obtain ⟨a5, c5, rfl, hle5⟩ := hT2.fact.2.len; clear hle5; clear hT; have hT := hT2; clear hT2
        refine hK.out _ _ ?_ (fun hHeld2 => ?_)
        · (try dsimp only); (try trivial)
        clear hK K hHeld
        have hHeld := hHeld2
        clear hHeld2
        try simp only [Act.put, List.setIfInBounds_toArray, List.set_cons_zero, List.set_cons_succ]
        refine wpAnyH_ready (rs := [2, 6]) (by kernel_rfl) (by simp) ?_
        refine AllReadyH.cons (o := { dst := some 74, op := Go.Op.convert 30 9 (Go.Operand.tmp 73), type := 9, pos := "law.go:188", after := #[{ on := 1, ground := Go.Ground.data }], guard := none }) rfl (fun K hK => ?_) ?_
        ·
          have estr := Bs.str (P := Try.prog) hT.fact.2 (src := 30) (dst := 9) Try.underlying30 Try.underlying5 Try.underlying9
          go_simp
          refine hK.out _ _ ?_ (fun hHeld2 => ?_)
          · (try dsimp only); (try trivial)
          clear hK K hHeld
          have hHeld := hHeld2
          clear hHeld2
          try simp only [Act.put, List.setIfInBounds_toArray, List.set_cons_zero, List.set_cons_succ]
          refine wpAnyH_ready (rs := [6]) (by kernel_rfl) (by simp) ?_
          refine AllReadyH.cons (o := { dst := some 78, op := Go.Op.load 30 (Go.Operand.tmp 77), type := 30, pos := "law.go:188", after := #[{ on := 5, ground := Go.Ground.data }], guard := none }) rfl (fun K hK => ?_) AllReadyH.nil
          have rc := hT.cell
          go_simp
          refine hK.out _ _ ?_ (fun hHeld2 => ?_)
          · (try dsimp only); (try trivial)
          clear hK K hHeld
          have hHeld := hHeld2
          clear hHeld2
          try simp only [Act.put, List.setIfInBounds_toArray, List.set_cons_zero, List.set_cons_succ]
          refine wpAnyH_ready (rs := [7]) (by kernel_rfl) (by simp) ?_
          refine AllReadyH.cons (o := { dst := some 79, op := Go.Op.convert 30 9 (Go.Operand.tmp 78), type := 9, pos := "law.go:188", after := #[{ on := 6, ground := Go.Ground.data }], guard := none }) rfl (fun K hK => ?_) AllReadyH.nil
          have rstr := Bs.str (P := Try.prog) hT.bs (src := 30) (dst := 9) Try.underlying30 Try.underlying5 Try.underlying9
          go_simp
          refine hK.out _ _ ?_ (fun hHeld2 => ?_)
          · (try dsimp only); (try trivial)
          clear hK K hHeld
          have hHeld := hHeld2
          clear hHeld2
          try simp only [Act.put, List.setIfInBounds_toArray, List.set_cons_zero, List.set_cons_succ]
          refine wpAnyH_take (i := 8) (oi := { dst := some 80, op := Go.Op.binOp Go.BinOp.eql 9 (Go.Operand.tmp 74) (Go.Operand.tmp 79) 9, type := 4, pos := "law.go:188", after := #[{ on := 2, ground := Go.Ground.data }, { on := 7, ground := Go.Ground.data }], guard := none }) (v := ?v5) rfl (by kernel_rfl) (by kernel_rfl) (by kernel_rfl) (fun _ _ _ h => h) (Or.inl ⟨by rfl, ?hy5⟩) (by assumption) ?rest5
          case hy5 => (intro w hSw; (try dsimp only at hSw); go_simp <;> with_reducible rfl)
          try simp only [Act.put, List.setIfInBounds_toArray, List.set_cons_zero, List.set_cons_succ]
          refine wpAnyH_take (i := 9) (oi := { dst := some 6, op := Go.Op.assign (Go.Operand.tmp 80), type := 4, pos := "law.go:188", after := #[{ on := 8, ground := Go.Ground.data }, { on := 1, ground := Go.Ground.chain }, { on := 0, ground := Go.Ground.phase }, { on := 1, ground := Go.Ground.phase }, { on := 2, ground := Go.Ground.phase }, { on := 3, ground := Go.Ground.phase }, { on := 4, ground := Go.Ground.phase }, { on := 5, ground := Go.Ground.phase }, { on := 6, ground := Go.Ground.phase }, { on := 7, ground := Go.Ground.phase }, { on := 8, ground := Go.Ground.phase }], guard := none }) (v := ?v6) rfl (by kernel_rfl) (by kernel_rfl) (by kernel_rfl) (fun _ _ _ h => h) (Or.inl ⟨by rfl, ?hy6⟩) (by assumption) ?rest6
          case hy6 => (intro w hSw; (try dsimp only at hSw); go_simp <;> with_reducible rfl)
          try simp only [Act.put, List.setIfInBounds_toArray, List.set_cons_zero, List.set_cons_succ]
          refine wpAnyH_done (by kernel_rfl) ?_ _
          refine NoPanic.normal ?_
          go_wp2
          go_ret
          exact ⟨rfl, hT.two.bel⟩
        refine AllReadyH.cons (o := { dst := some 78, op := Go.Op.load 30 (Go.Operand.tmp 77), type := 30, pos := "law.go:188", after := #[{ on := 5, ground := Go.Ground.data }], guard := none }) rfl (fun K hK => ?_) ?_
        ·
          have rc := hT.cell
          go_simp
          refine hK.out _ _ ?_ (fun hHeld2 => ?_)
          · (try dsimp only); (try trivial)
          clear hK K hHeld
          have hHeld := hHeld2
          clear hHeld2
          try simp only [Act.put, List.setIfInBounds_toArray, List.set_cons_zero, List.set_cons_succ]
          refine wpAnyH_ready (rs := [2, 7]) (by kernel_rfl) (by simp) ?_
          refine AllReadyH.cons (o := { dst := some 74, op := Go.Op.convert 30 9 (Go.Operand.tmp 73), type := 9, pos := "law.go:188", after := #[{ on := 1, ground := Go.Ground.data }], guard := none }) rfl (fun K hK => ?_) ?_
          ·
            have estr := Bs.str (P := Try.prog) hT.fact.2 (src := 30) (dst := 9) Try.underlying30 Try.underlying5 Try.underlying9
            go_simp
            refine hK.out _ _ ?_ (fun hHeld2 => ?_)
            · (try dsimp only); (try trivial)
            clear hK K hHeld
            have hHeld := hHeld2
            clear hHeld2
            try simp only [Act.put, List.setIfInBounds_toArray, List.set_cons_zero, List.set_cons_succ]
            refine wpAnyH_ready (rs := [7]) (by kernel_rfl) (by simp) ?_
            refine AllReadyH.cons (o := { dst := some 79, op := Go.Op.convert 30 9 (Go.Operand.tmp 78), type := 9, pos := "law.go:188", after := #[{ on := 6, ground := Go.Ground.data }], guard := none }) rfl (fun K hK => ?_) AllReadyH.nil
            have rstr := Bs.str (P := Try.prog) hT.bs (src := 30) (dst := 9) Try.underlying30 Try.underlying5 Try.underlying9
            go_simp
            refine hK.out _ _ ?_ (fun hHeld2 => ?_)
            · (try dsimp only); (try trivial)
            clear hK K hHeld
            have hHeld := hHeld2
            clear hHeld2
            try simp only [Act.put, List.setIfInBounds_toArray, List.set_cons_zero, List.set_cons_succ]
            refine wpAnyH_take (i := 8) (oi := { dst := some 80, op := Go.Op.binOp Go.BinOp.eql 9 (Go.Operand.tmp 74) (Go.Operand.tmp 79) 9, type := 4, pos := "law.go:188", after := #[{ on := 2, ground := Go.Ground.data }, { on := 7, ground := Go.Ground.data }], guard := none }) (v := ?v7) rfl (by kernel_rfl) (by kernel_rfl) (by kernel_rfl) (fun _ _ _ h => h) (Or.inl ⟨by rfl, ?hy7⟩) (by assumption) ?rest7
            case hy7 => (intro w hSw; (try dsimp only at hSw); go_simp <;> with_reducible rfl)
            try simp only [Act.put, List.setIfInBounds_toArray, List.set_cons_zero, List.set_cons_succ]
            refine wpAnyH_take (i := 9) (oi := { dst := some 6, op := Go.Op.assign (Go.Operand.tmp 80), type := 4, pos := "law.go:188", after := #[{ on := 8, ground := Go.Ground.data }, { on := 1, ground := Go.Ground.chain }, { on := 0, ground := Go.Ground.phase }, { on := 1, ground := Go.Ground.phase }, { on := 2, ground := Go.Ground.phase }, { on := 3, ground := Go.Ground.phase }, { on := 4, ground := Go.Ground.phase }, { on := 5, ground := Go.Ground.phase }, { on := 6, ground := Go.Ground.phase }, { on := 7, ground := Go.Ground.phase }, { on := 8, ground := Go.Ground.phase }], guard := none }) (v := ?v8) rfl (by kernel_rfl) (by kernel_rfl) (by kernel_rfl) (fun _ _ _ h => h) (Or.inl ⟨by rfl, ?hy8⟩) (by assumption) ?rest8
            case hy8 => (intro w hSw; (try dsimp only at hSw); go_simp <;> with_reducible rfl)
            try simp only [Act.put, List.setIfInBounds_toArray, List.set_cons_zero, List.set_cons_succ]
            refine wpAnyH_done (by kernel_rfl) ?_ _
            refine NoPanic.normal ?_
            go_wp2
            go_ret
            exact ⟨rfl, hT.two.bel⟩
          refine AllReadyH.cons (o := { dst := some 79, op := Go.Op.convert 30 9 (Go.Operand.tmp 78), type := 9, pos := "law.go:188", after := #[{ on := 6, ground := Go.Ground.data }], guard := none }) rfl (fun K hK => ?_) ?_
          ·
            have rstr := Bs.str (P := Try.prog) hT.bs (src := 30) (dst := 9) Try.underlying30 Try.underlying5 Try.underlying9
            go_simp
            refine hK.out _ _ ?_ (fun hHeld2 => ?_)
            · (try dsimp only); (try trivial)
            clear hK K hHeld
            have hHeld := hHeld2
            clear hHeld2
            try simp only [Act.put, List.setIfInBounds_toArray, List.set_cons_zero, List.set_cons_succ]
            refine wpAnyH_ready (rs := [2]) (by kernel_rfl) (by simp) ?_
            refine AllReadyH.cons (o := { dst := some 74, op := Go.Op.convert 30 9 (Go.Operand.tmp 73), type := 9, pos := "law.go:188", after := #[{ on := 1, ground := Go.Ground.data }], guard := none }) rfl (fun K hK => ?_) AllReadyH.nil
            have estr := Bs.str (P := Try.prog) hT.fact.2 (src := 30) (dst := 9) Try.underlying30 Try.underlying5 Try.underlying9
            go_simp
            refine hK.out _ _ ?_ (fun hHeld2 => ?_)
            · (try dsimp only); (try trivial)
            clear hK K hHeld
            have hHeld := hHeld2
            clear hHeld2
            try simp only [Act.put, List.setIfInBounds_toArray, List.set_cons_zero, List.set_cons_succ]
            refine wpAnyH_take (i := 8) (oi := { dst := some 80, op := Go.Op.binOp Go.BinOp.eql 9 (Go.Operand.tmp 74) (Go.Operand.tmp 79) 9, type := 4, pos := "law.go:188", after := #[{ on := 2, ground := Go.Ground.data }, { on := 7, ground := Go.Ground.data }], guard := none }) (v := ?v9) rfl (by kernel_rfl) (by kernel_rfl) (by kernel_rfl) (fun _ _ _ h => h) (Or.inl ⟨by rfl, ?hy9⟩) (by assumption) ?rest9
            case hy9 => (intro w hSw; (try dsimp only at hSw); go_simp <;> with_reducible rfl)
            try simp only [Act.put, List.setIfInBounds_toArray, List.set_cons_zero, List.set_cons_succ]
            refine wpAnyH_take (i := 9) (oi := { dst := some 6, op := Go.Op.assign (Go.Operand.tmp 80), type := 4, pos := "law.go:188", after := #[{ on := 8, ground := Go.Ground.data }, { on := 1, ground := Go.Ground.chain }, { on := 0, ground := Go.Ground.phase }, { on := 1, ground := Go.Ground.phase }, { on := 2, ground := Go.Ground.phase }, { on := 3, ground := Go.Ground.phase }, { on := 4, ground := Go.Ground.phase }, { on := 5, ground := Go.Ground.phase }, { on := 6, ground := Go.Ground.phase }, { on := 7, ground := Go.Ground.phase }, { on := 8, ground := Go.Ground.phase }], guard := none }) (v := ?v10) rfl (by kernel_rfl) (by kernel_rfl) (by kernel_rfl) (fun _ _ _ h => h) (Or.inl ⟨by rfl, ?hy10⟩) (by assumption) ?rest10
            case hy10 => (intro w hSw; (try dsimp only at hSw); go_simp <;> with_reducible rfl)
            try simp only [Act.put, List.setIfInBounds_toArray, List.set_cons_zero, List.set_cons_succ]
            refine wpAnyH_done (by kernel_rfl) ?_ _
            refine NoPanic.normal ?_
            go_wp2
            go_ret
            exact ⟨rfl, hT.two.bel⟩
          exact AllReadyH.nil
        exact AllReadyH.nil
      refine AllReadyH.cons (o := { dst := some 78, op := Go.Op.load 30 (Go.Operand.tmp 77), type := 30, pos := "law.go:188", after := #[{ on := 5, ground := Go.Ground.data }], guard := none }) rfl (fun K hK => ?_) ?_
      ·
        have rc := hT.cell
        go_simp
        refine hK.out _ _ ?_ (fun hHeld2 => ?_)
        · (try dsimp only); (try trivial)
        clear hK K hHeld
        have hHeld := hHeld2
        clear hHeld2
        try simp only [Act.put, List.setIfInBounds_toArray, List.set_cons_zero, List.set_cons_succ]
        refine wpAnyH_ready (rs := [1, 7]) (by kernel_rfl) (by simp) ?_
        refine AllReadyH.cons (o := { dst := some 73, op := Go.Op.call { callee := Go.Callee.value (Go.Operand.func 18), args := #[Go.Operand.tmp 72], argTypes := #[24] }, type := 30, pos := "law.go:188", after := #[{ on := 0, ground := Go.Ground.data }], guard := none }) rfl (fun K hK => ?_) ?_
        ·
          go_simp
          go_at_call 18; refine (hT.load (fun B O hP hB => mBytes hP hB)).mono ?_; rintro e w5 ⟨v5, rfl, hT2⟩; obtain ⟨a5, c5, rfl, hle5⟩ := hT2.fact.2.len; clear hle5; clear hT; have hT := hT2; clear hT2
          refine hK.out _ _ ?_ (fun hHeld2 => ?_)
          · (try dsimp only); (try trivial)
          clear hK K hHeld
          have hHeld := hHeld2
          clear hHeld2
          try simp only [Act.put, List.setIfInBounds_toArray, List.set_cons_zero, List.set_cons_succ]
          refine wpAnyH_ready (rs := [2, 7]) (by kernel_rfl) (by simp) ?_
          refine AllReadyH.cons (o := { dst := some 74, op := Go.Op.convert 30 9 (Go.Operand.tmp 73), type := 9, pos := "law.go:188", after := #[{ on := 1, ground := Go.Ground.data }], guard := none }) rfl (fun K hK => ?_) ?_
          ·
            have estr := Bs.str (P := Try.prog) hT.fact.2 (src := 30) (dst := 9) Try.underlying30 Try.underlying5 Try.underlying9
            go_simp
            refine hK.out _ _ ?_ (fun hHeld2 => ?_)
            · (try dsimp only); (try trivial)
            clear hK K hHeld
            have hHeld := hHeld2
            clear hHeld2
            try simp only [Act.put, List.setIfInBounds_toArray, List.set_cons_zero, List.set_cons_succ]
            refine wpAnyH_ready (rs := [7]) (by kernel_rfl) (by simp) ?_
            refine AllReadyH.cons (o := { dst := some 79, op := Go.Op.convert 30 9 (Go.Operand.tmp 78), type := 9, pos := "law.go:188", after := #[{ on := 6, ground := Go.Ground.data }], guard := none }) rfl (fun K hK => ?_) AllReadyH.nil
            have rstr := Bs.str (P := Try.prog) hT.bs (src := 30) (dst := 9) Try.underlying30 Try.underlying5 Try.underlying9
            go_simp
            refine hK.out _ _ ?_ (fun hHeld2 => ?_)
            · (try dsimp only); (try trivial)
            clear hK K hHeld
            have hHeld := hHeld2
            clear hHeld2
            try simp only [Act.put, List.setIfInBounds_toArray, List.set_cons_zero, List.set_cons_succ]
            refine wpAnyH_take (i := 8) (oi := { dst := some 80, op := Go.Op.binOp Go.BinOp.eql 9 (Go.Operand.tmp 74) (Go.Operand.tmp 79) 9, type := 4, pos := "law.go:188", after := #[{ on := 2, ground := Go.Ground.data }, { on := 7, ground := Go.Ground.data }], guard := none }) (v := ?v11) rfl (by kernel_rfl) (by kernel_rfl) (by kernel_rfl) (fun _ _ _ h => h) (Or.inl ⟨by rfl, ?hy11⟩) (by assumption) ?rest11
            case hy11 => (intro w hSw; (try dsimp only at hSw); go_simp <;> with_reducible rfl)
            try simp only [Act.put, List.setIfInBounds_toArray, List.set_cons_zero, List.set_cons_succ]
            refine wpAnyH_take (i := 9) (oi := { dst := some 6, op := Go.Op.assign (Go.Operand.tmp 80), type := 4, pos := "law.go:188", after := #[{ on := 8, ground := Go.Ground.data }, { on := 1, ground := Go.Ground.chain }, { on := 0, ground := Go.Ground.phase }, { on := 1, ground := Go.Ground.phase }, { on := 2, ground := Go.Ground.phase }, { on := 3, ground := Go.Ground.phase }, { on := 4, ground := Go.Ground.phase }, { on := 5, ground := Go.Ground.phase }, { on := 6, ground := Go.Ground.phase }, { on := 7, ground := Go.Ground.phase }, { on := 8, ground := Go.Ground.phase }], guard := none }) (v := ?v12) rfl (by kernel_rfl) (by kernel_rfl) (by kernel_rfl) (fun _ _ _ h => h) (Or.inl ⟨by rfl, ?hy12⟩) (by assumption) ?rest12
            case hy12 => (intro w hSw; (try dsimp only at hSw); go_simp <;> with_reducible rfl)
            try simp only [Act.put, List.setIfInBounds_toArray, List.set_cons_zero, List.set_cons_succ]
            refine wpAnyH_done (by kernel_rfl) ?_ _
            refine NoPanic.normal ?_
            go_wp2
            go_ret
            exact ⟨rfl, hT.two.bel⟩
          refine AllReadyH.cons (o := { dst := some 79, op := Go.Op.convert 30 9 (Go.Operand.tmp 78), type := 9, pos := "law.go:188", after := #[{ on := 6, ground := Go.Ground.data }], guard := none }) rfl (fun K hK => ?_) ?_
          ·
            have rstr := Bs.str (P := Try.prog) hT.bs (src := 30) (dst := 9) Try.underlying30 Try.underlying5 Try.underlying9
            go_simp
            refine hK.out _ _ ?_ (fun hHeld2 => ?_)
            · (try dsimp only); (try trivial)
            clear hK K hHeld
            have hHeld := hHeld2
            clear hHeld2
            try simp only [Act.put, List.setIfInBounds_toArray, List.set_cons_zero, List.set_cons_succ]
            refine wpAnyH_ready (rs := [2]) (by kernel_rfl) (by simp) ?_
            refine AllReadyH.cons (o := { dst := some 74, op := Go.Op.convert 30 9 (Go.Operand.tmp 73), type := 9, pos := "law.go:188", after := #[{ on := 1, ground := Go.Ground.data }], guard := none }) rfl (fun K hK => ?_) AllReadyH.nil
            have estr := Bs.str (P := Try.prog) hT.fact.2 (src := 30) (dst := 9) Try.underlying30 Try.underlying5 Try.underlying9
            go_simp
            refine hK.out _ _ ?_ (fun hHeld2 => ?_)
            · (try dsimp only); (try trivial)
            clear hK K hHeld
            have hHeld := hHeld2
            clear hHeld2
            try simp only [Act.put, List.setIfInBounds_toArray, List.set_cons_zero, List.set_cons_succ]
            refine wpAnyH_take (i := 8) (oi := { dst := some 80, op := Go.Op.binOp Go.BinOp.eql 9 (Go.Operand.tmp 74) (Go.Operand.tmp 79) 9, type := 4, pos := "law.go:188", after := #[{ on := 2, ground := Go.Ground.data }, { on := 7, ground := Go.Ground.data }], guard := none }) (v := ?v13) rfl (by kernel_rfl) (by kernel_rfl) (by kernel_rfl) (fun _ _ _ h => h) (Or.inl ⟨by rfl, ?hy13⟩) (by assumption) ?rest13
            case hy13 => (intro w hSw; (try dsimp only at hSw); go_simp <;> with_reducible rfl)
            try simp only [Act.put, List.setIfInBounds_toArray, List.set_cons_zero, List.set_cons_succ]
            refine wpAnyH_take (i := 9) (oi := { dst := some 6, op := Go.Op.assign (Go.Operand.tmp 80), type := 4, pos := "law.go:188", after := #[{ on := 8, ground := Go.Ground.data }, { on := 1, ground := Go.Ground.chain }, { on := 0, ground := Go.Ground.phase }, { on := 1, ground := Go.Ground.phase }, { on := 2, ground := Go.Ground.phase }, { on := 3, ground := Go.Ground.phase }, { on := 4, ground := Go.Ground.phase }, { on := 5, ground := Go.Ground.phase }, { on := 6, ground := Go.Ground.phase }, { on := 7, ground := Go.Ground.phase }, { on := 8, ground := Go.Ground.phase }], guard := none }) (v := ?v14) rfl (by kernel_rfl) (by kernel_rfl) (by kernel_rfl) (fun _ _ _ h => h) (Or.inl ⟨by rfl, ?hy14⟩) (by assumption) ?rest14
            case hy14 => (intro w hSw; (try dsimp only at hSw); go_simp <;> with_reducible rfl)
            try simp only [Act.put, List.setIfInBounds_toArray, List.set_cons_zero, List.set_cons_succ]
            refine wpAnyH_done (by kernel_rfl) ?_ _
            refine NoPanic.normal ?_
            go_wp2
            go_ret
            exact ⟨rfl, hT.two.bel⟩
          exact AllReadyH.nil
        refine AllReadyH.cons (o := { dst := some 79, op := Go.Op.convert 30 9 (Go.Operand.tmp 78), type := 9, pos := "law.go:188", after := #[{ on := 6, ground := Go.Ground.data }], guard := none }) rfl (fun K hK => ?_) ?_
        ·
          have rstr := Bs.str (P := Try.prog) hT.bs (src := 30) (dst := 9) Try.underlying30 Try.underlying5 Try.underlying9
          go_simp
          refine hK.out _ _ ?_ (fun hHeld2 => ?_)
          · (try dsimp only); (try trivial)
          clear hK K hHeld
          have hHeld := hHeld2
          clear hHeld2
          try simp only [Act.put, List.setIfInBounds_toArray, List.set_cons_zero, List.set_cons_succ]
          refine wpAnyH_ready (rs := [1]) (by kernel_rfl) (by simp) ?_
          refine AllReadyH.cons (o := { dst := some 73, op := Go.Op.call { callee := Go.Callee.value (Go.Operand.func 18), args := #[Go.Operand.tmp 72], argTypes := #[24] }, type := 30, pos := "law.go:188", after := #[{ on := 0, ground := Go.Ground.data }], guard := none }) rfl (fun K hK => ?_) AllReadyH.nil
          go_simp
          go_at_call 18; refine (hT.load (fun B O hP hB => mBytes hP hB)).mono ?_; rintro e w5 ⟨v5, rfl, hT2⟩; obtain ⟨a5, c5, rfl, hle5⟩ := hT2.fact.2.len; clear hle5; clear hT; have hT := hT2; clear hT2
          refine hK.out _ _ ?_ (fun hHeld2 => ?_)
          · (try dsimp only); (try trivial)
          clear hK K hHeld
          have hHeld := hHeld2
          clear hHeld2
          try simp only [Act.put, List.setIfInBounds_toArray, List.set_cons_zero, List.set_cons_succ]
          refine wpAnyH_ready (rs := [2]) (by kernel_rfl) (by simp) ?_
          refine AllReadyH.cons (o := { dst := some 74, op := Go.Op.convert 30 9 (Go.Operand.tmp 73), type := 9, pos := "law.go:188", after := #[{ on := 1, ground := Go.Ground.data }], guard := none }) rfl (fun K hK => ?_) AllReadyH.nil
          have estr := Bs.str (P := Try.prog) hT.fact.2 (src := 30) (dst := 9) Try.underlying30 Try.underlying5 Try.underlying9
          go_simp
          refine hK.out _ _ ?_ (fun hHeld2 => ?_)
          · (try dsimp only); (try trivial)
          clear hK K hHeld
          have hHeld := hHeld2
          clear hHeld2
          try simp only [Act.put, List.setIfInBounds_toArray, List.set_cons_zero, List.set_cons_succ]
          refine wpAnyH_take (i := 8) (oi := { dst := some 80, op := Go.Op.binOp Go.BinOp.eql 9 (Go.Operand.tmp 74) (Go.Operand.tmp 79) 9, type := 4, pos := "law.go:188", after := #[{ on := 2, ground := Go.Ground.data }, { on := 7, ground := Go.Ground.data }], guard := none }) (v := ?v15) rfl (by kernel_rfl) (by kernel_rfl) (by kernel_rfl) (fun _ _ _ h => h) (Or.inl ⟨by rfl, ?hy15⟩) (by assumption) ?rest15
          case hy15 => (intro w hSw; (try dsimp only at hSw); go_simp <;> with_reducible rfl)
          try simp only [Act.put, List.setIfInBounds_toArray, List.set_cons_zero, List.set_cons_succ]
          refine wpAnyH_take (i := 9) (oi := { dst := some 6, op := Go.Op.assign (Go.Operand.tmp 80), type := 4, pos := "law.go:188", after := #[{ on := 8, ground := Go.Ground.data }, { on := 1, ground := Go.Ground.chain }, { on := 0, ground := Go.Ground.phase }, { on := 1, ground := Go.Ground.phase }, { on := 2, ground := Go.Ground.phase }, { on := 3, ground := Go.Ground.phase }, { on := 4, ground := Go.Ground.phase }, { on := 5, ground := Go.Ground.phase }, { on := 6, ground := Go.Ground.phase }, { on := 7, ground := Go.Ground.phase }, { on := 8, ground := Go.Ground.phase }], guard := none }) (v := ?v16) rfl (by kernel_rfl) (by kernel_rfl) (by kernel_rfl) (fun _ _ _ h => h) (Or.inl ⟨by rfl, ?hy16⟩) (by assumption) ?rest16
          case hy16 => (intro w hSw; (try dsimp only at hSw); go_simp <;> with_reducible rfl)
          try simp only [Act.put, List.setIfInBounds_toArray, List.set_cons_zero, List.set_cons_succ]
          refine wpAnyH_done (by kernel_rfl) ?_ _
          refine NoPanic.normal ?_
          go_wp2
          go_ret
          exact ⟨rfl, hT.two.bel⟩
        exact AllReadyH.nil
      exact AllReadyH.nil
theorem stackApart {w : World} (v : Value) (l : List UInt8) (h : Rb w v l) (v2 : Value) (L : List Int) (hL : Rv w 1 v2 L.length (ic L)) (hLi : ∀ z ∈ L, isI z) (b : Bool) (hn : L.length ≤ 9223372036854775807) :
    Calls Try.prog 4 #[v, v2, .bool b] w fun e w' => e = .returned (.bool true) ∧ Below w.heap.size w w' := by
  cases b
  · exact stackApart_false v l h v2 L hL hLi
  · exact stackApart_true v l h v2 L hL hLi
end Go.Proofs.Ytjeelccdbhhfjaa
