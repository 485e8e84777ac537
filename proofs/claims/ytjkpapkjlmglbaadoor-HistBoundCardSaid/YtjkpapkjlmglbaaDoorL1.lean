/- 'each' of le. -/
import Derived.Test.YtjkpapkjlmglbaaDoorAP
namespace Go.Proofs.YtjkpapkjlmglbaaDoor
open Go.RowKit
set_option linter.unusedVariables false
set_option linter.unusedSimpArgs false
attribute [local go_sem] cell_set set_set m_undef
theorem ret_tup {w : World} {R : Ending → World → Prop} (h : R (.returned (.tuple #[])) w) : R (.returned (.tuple #[])) w := h
set_option maxHeartbeats 1000000 in
/-- 'each' over the closure of function 41. -/
theorem each_num (c0 c1 : Value) (a : Option Addr) (n cap : Nat) (at_ : Int) (hat : isI at_) (hn : n ≤ 1000000000000000) (w : World) (Inv : Nat → World → Prop) (h0 : Inv 0 w)
    (hstep : ∀ k wr, k < 8 → Inv k wr → 0 ≤ at_ + k → at_ + k < n → Calls Tryd.prog 41 #[.int .i64 (at_ + k), .int .i64 (k : Int), c0, c1] wr fun e w' => e = .returned (.tuple #[]) ∧ Inv (k + 1) w')
    (hskip : ∀ k wr, k < 8 → Inv k wr → ¬ (0 ≤ at_ + k ∧ at_ + k < n) → Inv (k + 1) wr) :
    Calls Tryd.prog 38 #[.slice a n cap, .int .i64 at_, .int .i64 8, .func (.func 41) #[] #[c0, c1]] w fun e w' => e = .returned (.tuple #[]) ∧ Inv 8 w' := by
  unfold isI at hat
  replace h0 := Lib.hid h0
  replace hstep := Lib.hid hstep
  replace hskip := Lib.hid hskip
  go_enter Tryd.func38, Tryd.ntmps38
  go_wp2
  go_loopw [13] (fun i wr => ∃ k : Nat, k ≤ 8 ∧ i = .int .i64 (k : Int) ∧ Inv k wr) (fun i _ => (8 - (intOf i).toNat))
  case atStart => exact ⟨0, by omega, rfl, h0.out⟩
  case round =>
    obtain ⟨k, hk, rfl, hI⟩ := hrel
    replace hI := Lib.hid hI
    by_cases hk8 : k < 8
    · have w1 : IntKind.i64.wrap ((k : Int) + 1) = ((k + 1 : Nat) : Int) := by rw [IntKind.wrap_i64]; omega
      have t1 : ((k : Int) < 8) = True := by simp; omega
      obtain ⟨kz, hkz⟩ : ∃ kz : Int, kz = (k : Int) := ⟨_, rfl⟩
      rw [← hkz] at w1 t1
      rw [← hkz]
      by_cases hlt : at_ < (n : Int)
      · have t2 : (at_ < (n : Int)) = True := by simp; exact hlt
        obtain ⟨i, hi⟩ : ∃ i : Int, i = at_ + k := ⟨_, rfl⟩
        have w2 : IntKind.i64.wrap (at_ + kz) = i := by rw [IntKind.wrap_i64]; omega
        by_cases h3 : 0 ≤ i
        · have t3 : ((0 : Int) ≤ i) = True := by simp; exact h3
          by_cases h4 : i < (n : Int)
          · have t4 : (i < (n : Int)) = True := by simp; exact h4
            have hc := Lib.hid (hstep.out k _ hk8 hI.out (by omega) (by omega))
            rw [← hi, ← hkz] at hc
            clear hlt h3 h4 hi
            replace hkz := Lib.hid hkz
            go_wp2_with (go_at_call 41; refine hc.out.mono ?_; rintro e w2 ⟨rfl, hI2⟩; replace hI2 := Lib.hid hI2)
            go_roundw
            case rel => exact ⟨k + 1, by omega, rfl, hI2.out⟩
            case measure => have := hkz.out; simp [intOf]; omega
          · have t4 : (i < (n : Int)) = False := by simp; omega
            have hI2 := Lib.hid (hskip.out k _ hk8 hI.out (by omega))
            clear hlt h3 h4 hi
            replace hkz := Lib.hid hkz
            go_wp2
            go_roundw
            case rel => exact ⟨k + 1, by omega, rfl, hI2.out⟩
            case measure => have := hkz.out; simp [intOf]; omega
        · have t3 : ((0 : Int) ≤ i) = False := by simp; omega
          have hI2 := Lib.hid (hskip.out k _ hk8 hI.out (by omega))
          clear hlt h3 hi
          replace hkz := Lib.hid hkz
          go_wp2
          go_roundw
          case rel => exact ⟨k + 1, by omega, rfl, hI2.out⟩
          case measure => have := hkz.out; simp [intOf]; omega
      · have t2 : (at_ < (n : Int)) = False := by simp; omega
        have hI2 := Lib.hid (hskip.out k _ hk8 hI.out (by omega))
        clear hlt
        obtain ⟨i, hi⟩ : ∃ i : Int, IntKind.i64.wrap (at_ + kz) = i := ⟨_, rfl⟩
        replace hkz := Lib.hid hkz
        go_wp2
        go_roundw
        case rel => exact ⟨k + 1, by omega, rfl, hI2.out⟩
        case measure => have := hkz.out; simp [intOf]; omega
    · have hk0 : k = 8 := by omega
      subst hk0
      go_wp2
      (try go_end0)
      exact ⟨rfl, hI.out⟩
set_option maxHeartbeats 1000000 in
/-- 'each' over the closure of function 39. -/
theorem each_put (c0 c1 : Value) (a : Option Addr) (n cap : Nat) (at_ : Int) (hat : isI at_) (hn : n ≤ 1000000000000000) (w : World) (Inv : Nat → World → Prop) (h0 : Inv 0 w)
    (hstep : ∀ k wr, k < 8 → Inv k wr → 0 ≤ at_ + k → at_ + k < n → Calls Tryd.prog 39 #[.int .i64 (at_ + k), .int .i64 (k : Int), c0, c1] wr fun e w' => e = .returned (.tuple #[]) ∧ Inv (k + 1) w')
    (hskip : ∀ k wr, k < 8 → Inv k wr → ¬ (0 ≤ at_ + k ∧ at_ + k < n) → Inv (k + 1) wr) :
    Calls Tryd.prog 38 #[.slice a n cap, .int .i64 at_, .int .i64 8, .func (.func 39) #[] #[c0, c1]] w fun e w' => e = .returned (.tuple #[]) ∧ Inv 8 w' := by
  unfold isI at hat
  replace h0 := Lib.hid h0
  replace hstep := Lib.hid hstep
  replace hskip := Lib.hid hskip
  go_enter Tryd.func38, Tryd.ntmps38
  go_wp2
  go_loopw [13] (fun i wr => ∃ k : Nat, k ≤ 8 ∧ i = .int .i64 (k : Int) ∧ Inv k wr) (fun i _ => (8 - (intOf i).toNat))
  case atStart => exact ⟨0, by omega, rfl, h0.out⟩
  case round =>
    obtain ⟨k, hk, rfl, hI⟩ := hrel
    replace hI := Lib.hid hI
    by_cases hk8 : k < 8
    · have w1 : IntKind.i64.wrap ((k : Int) + 1) = ((k + 1 : Nat) : Int) := by rw [IntKind.wrap_i64]; omega
      have t1 : ((k : Int) < 8) = True := by simp; omega
      obtain ⟨kz, hkz⟩ : ∃ kz : Int, kz = (k : Int) := ⟨_, rfl⟩
      rw [← hkz] at w1 t1
      rw [← hkz]
      by_cases hlt : at_ < (n : Int)
      · have t2 : (at_ < (n : Int)) = True := by simp; exact hlt
        obtain ⟨i, hi⟩ : ∃ i : Int, i = at_ + k := ⟨_, rfl⟩
        have w2 : IntKind.i64.wrap (at_ + kz) = i := by rw [IntKind.wrap_i64]; omega
        by_cases h3 : 0 ≤ i
        · have t3 : ((0 : Int) ≤ i) = True := by simp; exact h3
          by_cases h4 : i < (n : Int)
          · have t4 : (i < (n : Int)) = True := by simp; exact h4
            have hc := Lib.hid (hstep.out k _ hk8 hI.out (by omega) (by omega))
            rw [← hi, ← hkz] at hc
            clear hlt h3 h4 hi
            replace hkz := Lib.hid hkz
            go_wp2_with (go_at_call 39; refine hc.out.mono ?_; rintro e w2 ⟨rfl, hI2⟩; replace hI2 := Lib.hid hI2)
            go_roundw
            case rel => exact ⟨k + 1, by omega, rfl, hI2.out⟩
            case measure => have := hkz.out; simp [intOf]; omega
          · have t4 : (i < (n : Int)) = False := by simp; omega
            have hI2 := Lib.hid (hskip.out k _ hk8 hI.out (by omega))
            clear hlt h3 h4 hi
            replace hkz := Lib.hid hkz
            go_wp2
            go_roundw
            case rel => exact ⟨k + 1, by omega, rfl, hI2.out⟩
            case measure => have := hkz.out; simp [intOf]; omega
        · have t3 : ((0 : Int) ≤ i) = False := by simp; omega
          have hI2 := Lib.hid (hskip.out k _ hk8 hI.out (by omega))
          clear hlt h3 hi
          replace hkz := Lib.hid hkz
          go_wp2
          go_roundw
          case rel => exact ⟨k + 1, by omega, rfl, hI2.out⟩
          case measure => have := hkz.out; simp [intOf]; omega
      · have t2 : (at_ < (n : Int)) = False := by simp; omega
        have hI2 := Lib.hid (hskip.out k _ hk8 hI.out (by omega))
        clear hlt
        obtain ⟨i, hi⟩ : ∃ i : Int, IntKind.i64.wrap (at_ + kz) = i := ⟨_, rfl⟩
        replace hkz := Lib.hid hkz
        go_wp2
        go_roundw
        case rel => exact ⟨k + 1, by omega, rfl, hI2.out⟩
        case measure => have := hkz.out; simp [intOf]; omega
    · have hk0 : k = 8 := by omega
      subst hk0
      go_wp2
      (try go_end0)
      exact ⟨rfl, hI.out⟩
end Go.Proofs.YtjkpapkjlmglbaaDoor
