/- The law's parts. -/
import Derived.Test.YtjeelccdbhhfjaaSQ
namespace Go.Proofs.Ytjeelccdbhhfjaa
open Go.RowKit
set_option linter.unusedVariables false
set_option linter.unusedSimpArgs false
attribute [local go_sem] cell_set set_set m_undef

theorem Rv.below {w w' : World} {k n : Nat} {v : Value} {cs : List Value} (h : Rv w k v n cs) (hb : Below w.heap.size w w') : Rv w' k v n cs := by
  obtain ⟨h1, h2, h3⟩ := h
  refine ⟨h1, h2, ?_⟩
  rcases h3 with h3 | ⟨a, cap, rfl, e5⟩
  · exact .inl h3
  · exact .inr ⟨a, cap, rfl, fun j u hu => (hb.cell (World.block_lt_of_cell? w _ (e5 j u hu))).trans (e5 j u hu)⟩
set_option maxRecDepth 100000 in
set_option maxHeartbeats 1000000 in
theorem alike_yes {w : World} {v1 v2 : Value} {l : List Int} {n : Nat} (h1 : Rv w 1 v1 n (ic l)) (h2 : Rv w 1 v2 n (ic l)) (hn : l.length ≤ 1000000) :
    Calls Try.prog 28 #[v1, v2] w fun e w' => e = .returned (.bool true) ∧ Below w.heap.size w w' := by
  have hn' : n = l.length := by have := h1.1; rw [ic_len] at this; omega
  subst hn'
  obtain ⟨p1, c1, rfl⟩ := h1.form
  obtain ⟨p2, c2, rfl⟩ := h2.form
  have t0 : ((l.length : Int) != (l.length : Int)) = false := by simp
  replace h1 := Lib.hid h1
  replace h2 := Lib.hid h2
  go_enter Try.func28, Try.ntmps28
  go_wp2
  go_loopw [13] (fun i wr => ∃ (k : Nat), i = .int .i64 (k : Int) ∧ k ≤ l.length ∧ Below w.heap.size w wr) (fun i _ => (l.length - (intOf i).toNat))
  case atStart => exact ⟨0, rfl, by omega, Below.refl _ _⟩
  case round =>
    obtain ⟨k, rfl, hk, hb⟩ := hrel
    by_cases hlt : k < l.length
    · have t2 : ((k : Int) < (l.length : Int)) = True := by simp; omega
      have b1 : (0 : Int) ≤ (k : Int) := by omega
      have b2 : (k : Int) < (l.length : Int) := by omega
      have wk : IntKind.i64.wrap ((k : Int) + 1) = ((k + 1 : Nat) : Int) := by rw [IntKind.wrap_i64]; omega
      obtain ⟨x, hx⟩ : ∃ x, (ic l)[k]? = some (.int .i64 x) := ⟨l[k], ic_at l k hlt⟩
      obtain ⟨a1, he1, s1⟩ : ∃ a1, p1 = some a1 ∧ wr.cell? (a1.add k) = some (.int .i64 x) := by
        rcases (h1.out.below hb).2.2 with ⟨e, e2⟩ | ⟨a, c, e, hc⟩
        · omega
        · cases e
          exact ⟨a, rfl, hc k _ hx⟩
      obtain ⟨a2, he2, s2⟩ : ∃ a2, p2 = some a2 ∧ wr.cell? (a2.add k) = some (.int .i64 x) := by
        rcases (h2.out.below hb).2.2 with ⟨e, e2⟩ | ⟨a, c, e, hc⟩
        · omega
        · cases e
          exact ⟨a, rfl, hc k _ hx⟩
      subst he1 he2
      replace hlt := Lib.hid hlt
      replace hb := Lib.hid hb
      clear hk hx
      go_upto_region 6 with fail
      refine wp_region_noPanic ?_
      refine wp_region_held_drew (S := (fun w' => w'.cell? (a1.add k) = some (.int .i64 x) ∧ w'.cell? (a2.add k) = some (.int .i64 x))) (by kernel_rfl) ?_ (fun hHeld => ?_)
      · (try dsimp only); exact ⟨s1, s2⟩
      refine wpAnyH_take (i := 0) (oi := { dst := some 16, op := Go.Op.move (Go.Operand.tmp 0), type := 22, pos := "law.go:37", after := #[], guard := none }) (v := ?v1) rfl (by kernel_rfl) (by kernel_rfl) (by kernel_rfl) (fun _ _ _ h => h) (Or.inl ⟨by rfl, ?hy1⟩) (by assumption) ?rest1
      case hy1 => (intro w hSw; (try dsimp only at hSw); obtain ⟨s1, s2⟩ := hSw; go_simp <;> with_reducible rfl)
      try simp only [Act.put, List.setIfInBounds_toArray, List.set_cons_zero, List.set_cons_succ]
      refine wpAnyH_take (i := 1) (oi := { dst := some 17, op := Go.Op.move (Go.Operand.tmp 5), type := 3, pos := "law.go:37", after := #[], guard := none }) (v := ?v2) rfl (by kernel_rfl) (by kernel_rfl) (by kernel_rfl) (fun _ _ _ h => h) (Or.inl ⟨by rfl, ?hy2⟩) (by assumption) ?rest2
      case hy2 => (intro w hSw; (try dsimp only at hSw); obtain ⟨s1, s2⟩ := hSw; go_simp <;> with_reducible rfl)
      try simp only [Act.put, List.setIfInBounds_toArray, List.set_cons_zero, List.set_cons_succ]
      refine wpAnyH_take (i := 2) (oi := { dst := some 18, op := Go.Op.indexAddr 22 (Go.Operand.tmp 16) (Go.Operand.tmp 17), type := 0, pos := "law.go:37", after := #[{ on := 0, ground := Go.Ground.data }, { on := 1, ground := Go.Ground.data }], guard := none }) (v := ?v3) rfl (by kernel_rfl) (by kernel_rfl) (by kernel_rfl) (fun _ _ _ h => h) (Or.inl ⟨by rfl, ?hy3⟩) (by assumption) ?rest3
      case hy3 => (intro w hSw; (try dsimp only at hSw); obtain ⟨s1, s2⟩ := hSw; go_simp <;> with_reducible rfl)
      try simp only [Act.put, List.setIfInBounds_toArray, List.set_cons_zero, List.set_cons_succ]
      refine wpAnyH_take (i := 3) (oi := { dst := some 19, op := Go.Op.load 2 (Go.Operand.tmp 18), type := 2, pos := "law.go:37", after := #[{ on := 2, ground := Go.Ground.data }], guard := none }) (v := ?v4) rfl (by kernel_rfl) (by kernel_rfl) (by kernel_rfl) (fun _ _ _ h => h) (Or.inl ⟨by rfl, ?hy4⟩) (by assumption) ?rest4
      case hy4 => (intro w hSw; (try dsimp only at hSw); obtain ⟨s1, s2⟩ := hSw; go_simp <;> with_reducible rfl)
      try simp only [Act.put, List.setIfInBounds_toArray, List.set_cons_zero, List.set_cons_succ]
      refine wpAnyH_take (i := 4) (oi := { dst := some 20, op := Go.Op.move (Go.Operand.tmp 1), type := 22, pos := "law.go:37", after := #[], guard := none }) (v := ?v5) rfl (by kernel_rfl) (by kernel_rfl) (by kernel_rfl) (fun _ _ _ h => h) (Or.inl ⟨by rfl, ?hy5⟩) (by assumption) ?rest5
      case hy5 => (intro w hSw; (try dsimp only at hSw); obtain ⟨s1, s2⟩ := hSw; go_simp <;> with_reducible rfl)
      try simp only [Act.put, List.setIfInBounds_toArray, List.set_cons_zero, List.set_cons_succ]
      refine wpAnyH_take (i := 5) (oi := { dst := some 21, op := Go.Op.move (Go.Operand.tmp 5), type := 3, pos := "law.go:37", after := #[], guard := none }) (v := ?v6) rfl (by kernel_rfl) (by kernel_rfl) (by kernel_rfl) (fun _ _ _ h => h) (Or.inl ⟨by rfl, ?hy6⟩) (by assumption) ?rest6
      case hy6 => (intro w hSw; (try dsimp only at hSw); obtain ⟨s1, s2⟩ := hSw; go_simp <;> with_reducible rfl)
      try simp only [Act.put, List.setIfInBounds_toArray, List.set_cons_zero, List.set_cons_succ]
      refine wpAnyH_take (i := 6) (oi := { dst := some 22, op := Go.Op.indexAddr 22 (Go.Operand.tmp 20) (Go.Operand.tmp 21), type := 0, pos := "law.go:37", after := #[{ on := 4, ground := Go.Ground.data }, { on := 5, ground := Go.Ground.data }], guard := none }) (v := ?v7) rfl (by kernel_rfl) (by kernel_rfl) (by kernel_rfl) (fun _ _ _ h => h) (Or.inl ⟨by rfl, ?hy7⟩) (by assumption) ?rest7
      case hy7 => (intro w hSw; (try dsimp only at hSw); obtain ⟨s1, s2⟩ := hSw; go_simp <;> with_reducible rfl)
      try simp only [Act.put, List.setIfInBounds_toArray, List.set_cons_zero, List.set_cons_succ]
      refine wpAnyH_take (i := 7) (oi := { dst := some 23, op := Go.Op.load 2 (Go.Operand.tmp 22), type := 2, pos := "law.go:37", after := #[{ on := 6, ground := Go.Ground.data }], guard := none }) (v := ?v8) rfl (by kernel_rfl) (by kernel_rfl) (by kernel_rfl) (fun _ _ _ h => h) (Or.inl ⟨by rfl, ?hy8⟩) (by assumption) ?rest8
      case hy8 => (intro w hSw; (try dsimp only at hSw); obtain ⟨s1, s2⟩ := hSw; go_simp <;> with_reducible rfl)
      try simp only [Act.put, List.setIfInBounds_toArray, List.set_cons_zero, List.set_cons_succ]
      refine wpAnyH_take (i := 8) (oi := { dst := some 24, op := Go.Op.binOp Go.BinOp.neq 2 (Go.Operand.tmp 19) (Go.Operand.tmp 23) 2, type := 4, pos := "law.go:37", after := #[{ on := 3, ground := Go.Ground.data }, { on := 7, ground := Go.Ground.data }], guard := none }) (v := ?v9) rfl (by kernel_rfl) (by kernel_rfl) (by kernel_rfl) (fun _ _ _ h => h) (Or.inl ⟨by rfl, ?hy9⟩) (by assumption) ?rest9
      case hy9 => (intro w hSw; (try dsimp only at hSw); obtain ⟨s1, s2⟩ := hSw; go_simp <;> with_reducible rfl)
      try simp only [Act.put, List.setIfInBounds_toArray, List.set_cons_zero, List.set_cons_succ]
      refine wpAnyH_done (by kernel_rfl) ?_ _
      refine NoPanic.normal ?_
      go_wp2
      go_roundw
      case rel => exact ⟨k + 1, rfl, hlt.out, hb.out.drew⟩
      case measure => have := hlt.out; simp [intOf]; omega
    · have hkN : k = l.length := by omega
      subst hkN
      have t2 : ((l.length : Int) < (l.length : Int)) = False := by simp
      clear hlt hk
      go_wp2
      go_ret
      exact ⟨rfl, hb⟩
def placeN (n : Int) : Int := min (max n (-5)) 100
theorem wPlace (n : Int) (hn : isI n) (w : World) : Calls Try.prog 48 #[.int .i64 n] w fun e w' => e = .returned (.int .i64 (placeN n)) ∧ w = w' := by
  unfold placeN
  have h1 : (if n < -5 then (-5 : Int) else n) = max n (-5) := by split <;> omega
  have h2 : (if 100 < max n (-5) then (100 : Int) else max n (-5)) = min (max n (-5)) 100 := by split <;> omega
  have w1 : IntKind.i64.wrap (min (max n (-5)) 100) = min (max n (-5)) 100 := by unfold isI at hn; rw [IntKind.wrap_i64]; omega
  clear hn
  go_enter Try.func48, Try.ntmps48
  go_wp2
  go_ret
  exact ⟨rfl, rfl⟩
set_option maxRecDepth 100000 in
set_option maxHeartbeats 2000000 in
theorem wAwake (w : World) : Calls Try.prog 7 #[] w fun e w' => e = .returned (.bool true) ∧ Below w.heap.size w w' := by
  obtain ⟨M0, hM0⟩ : ∃ M0, M0 = flatL [] := ⟨_, rfl⟩
  have hl0 : M0.length = 8192 := by rw [hM0]; exact flatL_len []
  have hFl := Lib.hid (wFlat w 0 (.slice none 0 0) [] (Bs.nil _ _))
  unfold FlatQ at hFl
  rw [← hM0] at hFl
  obtain ⟨s0, _⟩ := stk_clear hl0
  obtain ⟨M1, hM1⟩ : ∃ M1, M1 = clearM M0 := ⟨_, rfl⟩
  have hc1 := Lib.hid (fun (w9 : World) (B mb : Nat) (O : Nat → Prop) (h : MemP w9 B mb M0 O) (hb : B ≤ w9.heap.size) => kClear h hb)
  rw [← hM1] at s0 hc1
  obtain ⟨s1, p1⟩ := s0.push (by unfold Sk; omega) 1 (by unfold isI; omega) (by simp)
  obtain ⟨M2, hM2⟩ : ∃ M2, M2 = pushM M1 32 256 512 1 := ⟨_, rfl⟩
  have hc2 := Lib.hid (fun (w9 : World) (B mb : Nat) (O : Nat → Prop) (h : MemP w9 B mb M1 O) (hb : B ≤ w9.heap.size) => kPush h hb 1)
  rw [p1, ← hM2] at hc2
  rw [← hM2] at s1
  obtain ⟨s2, p2⟩ := s1.push (by unfold Sk; omega) 2 (by unfold isI; omega) (by simp)
  obtain ⟨M3, hM3⟩ : ∃ M3, M3 = pushM M2 32 256 512 2 := ⟨_, rfl⟩
  have hc3 := Lib.hid (fun (w9 : World) (B mb : Nat) (O : Nat → Prop) (h : MemP w9 B mb M2 O) (hb : B ≤ w9.heap.size) => kPush h hb 2)
  rw [p2, ← hM3] at hc3
  rw [← hM3] at s2
  have g3 := (s2.cell 1 2 rfl).1
  obtain ⟨s3, v3, t3⟩ := s2.pop (by unfold Sk; omega)
  have hc4 := Lib.hid (fun (w9 : World) (B mb : Nat) (O : Nat → Prop) (h : MemP w9 B mb M3 O) (hb : B ≤ w9.heap.size) => kPop h hb)
  have g4 : getM (popM M3 32 256 512) 496 = 2 := by rw [getM_pop s2.len _ (by omega)]; exact g3
  obtain ⟨M4, hM4⟩ : ∃ M4, M4 = popM M3 32 256 512 := ⟨_, rfl⟩
  rw [v3, t3, ← hM4] at hc4
  rw [← hM4] at s3 g4
  have g5 : getM M4 32 = 504 := by
    have := s3.top
    unfold topL at this
    simp at this
    split at this
    · exact this
    · omega
  have d4 := s3.dep
  have n4 : depN M4 = 1 := by unfold depN; rw [d4]; rfl
  have hc5 := Lib.hid (fun (w9 : World) (B mb : Nat) (O : Nat → Prop) (h : MemP w9 B mb M4 O) (hb : B ≤ w9.heap.size) => mGet h hb 32 (by unfold isI; omega))
  rw [g5] at hc5
  have hc6 := Lib.hid (fun (w9 : World) (B mb : Nat) (O : Nat → Prop) (h : MemP w9 B mb M4 O) (hb : B ≤ w9.heap.size) => mGet h hb 496 (by unfold isI; omega))
  rw [g4] at hc6
  have hc7 := Lib.hid (fun (w9 : World) (B mb : Nat) (O : Nat → Prop) (h : MemP w9 B mb M4 O) (hb : B ≤ w9.heap.size) => kDepth h hb)
  rw [d4] at hc7
  have hc8 := Lib.hid (fun (w9 : World) (B mb : Nat) (O : Nat → Prop) (h : MemP w9 B mb M4 O) (hb : B ≤ w9.heap.size) => kCells h hb)
  rw [n4] at hc8
  clear s0 s1 s2 s3 p1 p2 v3 t3 g3 g4 g5 d4 n4 hl0 hM0 hM1 hM2 hM3 hM4
  go_enter Try.func7, Try.ntmps7
  go_upto_region 2 with (go_at_call 8; refine hFl.out.mono ?_; rintro e w1 ⟨mb, O, rfl, hP, hb1⟩; have hS := One.start hP hb1.size; replace hb1 := Lib.hid hb1; have hlow := Lib.hid (fun k (hk : O k) => (hP.lt hk).2); clear hP)
  go_upto_region 5 with (go_at_call 19; refine (hS.mem (fun O h hb => hc1.out _ _ _ _ h hb)).mono ?_; rintro e w2 ⟨rfl, hS2⟩; clear hS; have hS := hS2; clear hS2)
  go_upto_region 6 with (first
    | (go_at_call_of 9 (1 : Int); refine (hS.mem (fun O h hb => hc2.out _ _ _ _ h hb)).mono ?_; rintro e w2 ⟨rfl, hS2⟩; clear hS hc2; have hS := hS2; clear hS2)
    | (go_at_call_of 9 (2 : Int); refine (hS.mem (fun O h hb => hc3.out _ _ _ _ h hb)).mono ?_; rintro e w2 ⟨rfl, hS2⟩; clear hS hc3; have hS := hS2; clear hS2))
  go_upto_region 7 with (go_at_call 11; refine (hS.mem (fun O h hb => hc4.out _ _ _ _ h hb)).mono ?_; rintro e w2 ⟨rfl, hS2⟩; clear hS hc4; have hS := hS2; clear hS2)
  go_wp2_with (first
    | (go_at_call_of 30 (32 : Int); refine (hS.mem (fun O h hb => hc5.out _ _ _ _ h hb)).mono ?_; rintro e w2 ⟨rfl, hS2⟩; clear hS hc5; have hS := hS2; clear hS2)
    | (go_at_call_of 30 (496 : Int); refine (hS.mem (fun O h hb => hc6.out _ _ _ _ h hb)).mono ?_; rintro e w2 ⟨rfl, hS2⟩; clear hS hc6; have hS := hS2; clear hS2)
    | (go_at_call 22; refine (hS.mem (fun O h hb => hc7.out _ _ _ _ h hb)).mono ?_; rintro e w2 ⟨rfl, hS2⟩; clear hS hc7; have hS := hS2; clear hS2)
    | (go_at_call 24; refine (hS.memX (fun O h hb => hc8.out _ _ _ _ h hb)).mono ?_; rintro e w2 ⟨v8, rfl, hS2⟩; obtain ⟨a8, q8, rfl, hcap⟩ := hS2.fact.2.1.form; clear hS hc8 hcap; have hS := hS2; clear hS2))
  go_ret
  obtain ⟨O', q1, q2, q3, q4⟩ := hS
  exact ⟨rfl, hb1.out.trans ((q2.below (fun k hk => hlow.out k hk) q4).mono (Nat.le_refl _))⟩
end Go.Proofs.Ytjeelccdbhhfjaa
