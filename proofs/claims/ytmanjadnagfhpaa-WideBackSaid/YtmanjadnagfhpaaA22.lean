/- The plain laws behind WideBack and WideRing: quotient times divisor and rest is what was divided; products part over sums. -/
import Derived.Test.YtmanjadnagfhpaaA19
namespace Go.Proofs.Ytmanjadnagfhpaa
open Go.RowKit
set_option linter.unusedVariables false
set_option linter.unusedSimpArgs false

theorem WV_val (a0 a1 : Int) (ha0 : is64 a0) (ha1 : is64 a1) : WV (val a0 a1) = .agg #[.int .u64 a0, .int .u64 a1] := by
  have e1 : hi (val a0 a1) = a0 := by unfold is64 at *; unfold hi val; omega
  have e2 : lo (val a0 a1) = a1 := by unfold is64 at *; unfold lo val; omega
  rw [WV, e1, e2]
theorem sv_mod (a0 a1 : Int) : sv a0 a1 % 340282366920938463463374607431768211456 = val a0 a1 % 340282366920938463463374607431768211456 := by
  unfold sv; split <;> omega
theorem sum_is (a0 a1 q b r : Int) (ha0 : is64 a0) (ha1 : is64 a1) (h : q * b + r = sv a0 a1) :
    WV (val (hi (q * b)) (lo (q * b)) + val (hi r) (lo r)) = .agg #[.int .u64 a0, .int .u64 a1] := by
  rw [← WV_val a0 a1 ha0 ha1]
  apply WVc
  have := sv_mod a0 a1
  rw [val_hl, val_hl]
  omega
theorem fit_I {D : Int} (h : fitB D = true) : isI D := by unfold fitB at h; rw [decide_eq_true_iff] at h; exact h
theorem fl_back (S b : Int) (hb0 : b ≠ 0) : flD S b * b + flM S b = S := by
  have h := Int.tmod_add_mul_tdiv S b
  rw [Int.mul_comm] at h
  unfold flD flM
  split
  · rw [Int.sub_mul]; omega
  · omega
theorem fl_bounds (S b : Int) (hb0 : b ≠ 0) (hb : isI b) : (0 < b → 0 ≤ flM S b ∧ flM S b < b) ∧ (b < 0 → flM S b ≤ 0 ∧ b < flM S b) := by
  have h := (tmod_bd S b hb0 hb).2
  have ha : adj S b = (S.tmod b != 0 && (decide (S.tmod b < 0) != decide (b < 0))) := rfl
  unfold flM
  by_cases h1 : S.tmod b = 0
  · rw [if_neg (by rw [ha, h1]; simp)]; omega
  · by_cases h2 : S.tmod b < 0 <;> by_cases h3 : b < 0
    · rw [if_neg (by rw [ha]; simp [h2, h3])]; omega
    · rw [if_pos (by rw [ha]; simp [h1, h2, h3])]; omega
    · rw [if_pos (by rw [ha]; simp [h1, h2, h3])]; omega
    · rw [if_neg (by rw [ha]; simp [h2, h3])]; omega
/-- What the first test of WideBack finds. -/
theorem back_fm (a0 a1 b r q t : Int) (ha0 : is64 a0) (ha1 : is64 a1) (hb : isI b) (hr : r = sX b (flD (sv a0 a1) b) (flM (sv a0 a1) b))
    (hq : q = sX b (flD (sv a0 a1) b) (flD (sv a0 a1) b)) (ht : t = sT b (flD (sv a0 a1) b)) :
    (t == 0) = false ∨ (t = 0 ∧ isI r ∧ isI q ∧ WV (val (hi (q * b)) (lo (q * b)) + val (hi r) (lo r)) = .agg #[.int .u64 a0, .int .u64 a1] ∧
      ((0 < b ∧ ¬ r < 0 ∧ ¬ b ≤ r ∧ ¬ b < 0) ∨ (¬ 0 < b ∧ b < 0 ∧ ¬ 0 < r ∧ ¬ r ≤ b))) := by
  by_cases h0 : t = 0
  · right
    have hb0 : b ≠ 0 := by intro h; rw [ht, sT, if_pos h] at h0; omega
    have hf : fitB (flD (sv a0 a1) b) = true := by
      rw [ht, sT, if_neg hb0] at h0
      by_cases hf : fitB (flD (sv a0 a1) b) = true
      · exact hf
      · rw [if_neg hf] at h0; omega
    rw [ht] at h0
    rw [sX, if_pos h0] at hr hq
    have hB := fl_bounds (sv a0 a1) b hb0 hb
    refine ⟨ht.trans h0, hr ▸ (flM_bd _ b hb0 hb).1, hq ▸ fit_I hf, sum_is a0 a1 q b r ha0 ha1 (by rw [hq, hr]; exact fl_back _ b hb0), ?_⟩
    rw [← hr] at hB
    omega
  · left; simpa using h0
theorem top_bit (a0 a1 : Int) (ha0 : is64 a0) (ha1 : is64 a1) : (a0 / 9223372036854775808 == 1) = decide (sv a0 a1 < 0) := by
  by_cases h : sv a0 a1 < 0
  · rw [(size_is a0 a1 ha0 ha1 h).1]; simp [h]
  · rw [size_not a0 a1 ha0 ha1 h]; simp [h]
theorem back_sm (a0 a1 b r q t : Int) (ha0 : is64 a0) (ha1 : is64 a1) (hb : isI b) (hr : r = sX b ((sv a0 a1).tdiv b) ((sv a0 a1).tmod b))
    (hq : q = sX b ((sv a0 a1).tdiv b) ((sv a0 a1).tdiv b)) (ht : t = sT b ((sv a0 a1).tdiv b)) :
    (t == 0) = false ∨ (t = 0 ∧ isI r ∧ isI q ∧ WV (val (hi (q * b)) (lo (q * b)) + val (hi r) (lo r)) = .agg #[.int .u64 a0, .int .u64 a1] ∧
      (r = 0 ∨ ((r != 0) = true ∧ decide (r < 0) = (a0 / 9223372036854775808 == 1)))) := by
  by_cases h0 : t = 0
  · right
    have hb0 : b ≠ 0 := by intro h; rw [ht, sT, if_pos h] at h0; omega
    have hf : fitB ((sv a0 a1).tdiv b) = true := by
      rw [ht, sT, if_neg hb0] at h0
      by_cases hf : fitB ((sv a0 a1).tdiv b) = true
      · exact hf
      · rw [if_neg hf] at h0; omega
    rw [ht] at h0
    rw [sX, if_pos h0] at hr hq
    refine ⟨ht.trans h0, hr ▸ (tmod_bd _ b hb0 hb).1, hq ▸ fit_I hf, sum_is a0 a1 q b r ha0 ha1 (by rw [hq, hr]; have h := Int.tmod_add_mul_tdiv (sv a0 a1) b; rw [Int.mul_comm] at h; omega), ?_⟩
    by_cases hr0 : r = 0
    · exact Or.inl hr0
    · refine Or.inr ⟨by simpa using hr0, ?_⟩
      rw [top_bit a0 a1 ha0 ha1]
      have h2 := (tdm (sv a0 a1) b hb0).2
      have h5 : 0 ≤ sz (sv a0 a1) % sz b := Int.emod_nonneg _ (by unfold sz; split <;> omega)
      rw [← hr] at h2
      rw [decide_eq_decide]
      by_cases h4 : sv a0 a1 < 0
      · rw [if_pos h4] at h2; omega
      · rw [if_neg h4] at h2; omega
  · left; simpa using h0
theorem back_u (a0 a1 B r q t : Int) (ha0 : is64 a0) (ha1 : is64 a1) (hB : is64 B) (hr : r = uR (val a0 a1) B) (hq : q = uQ (val a0 a1) B) (ht : t = uT (val a0 a1) B) :
    (t != 0) = true ∨ (t = 0 ∧ is64 r ∧ is64 q ∧ WV (val (hi (q * B)) (lo (q * B)) + val 0 r) = .agg #[.int .u64 a0, .int .u64 a1] ∧ r < B) := by
  by_cases h0 : t = 0
  · right
    have hb0 : B ≠ 0 := by intro h; rw [ht, uT, if_pos h] at h0; omega
    have hBp : 0 < B := by unfold is64 at hB; omega
    rw [ht] at h0
    rw [uR, if_pos h0] at hr
    rw [uQ, if_pos h0] at hq
    have hf : val a0 a1 / B < 18446744073709551616 := by
      rw [uT, if_neg hb0] at h0
      by_cases hf : val a0 a1 / B < 18446744073709551616
      · exact hf
      · rw [if_neg hf] at h0; omega
    have h1 := Int.emod_nonneg (val a0 a1) hb0
    have h2 := Int.emod_lt_of_pos (val a0 a1) hBp
    have h3 : 0 ≤ val a0 a1 / B := Int.ediv_nonneg (by unfold is64 at *; unfold val; omega) (by omega)
    have h4 := Int.emod_add_mul_ediv (val a0 a1) B
    rw [Int.mul_comm] at h4
    rw [← hr] at h1 h2 h4
    rw [← hq] at h3 h4 hf
    refine ⟨ht.trans h0, by unfold is64 at *; omega, by unfold is64; omega, ?_, h2⟩
    rw [← WV_val a0 a1 ha0 ha1]
    apply WVc
    rw [val_hl, N_val]
    omega
  · left; simpa using h0
/-- What WideRing's sums come to. -/
theorem ring_sum (a b c : Int) : WV (val (hi (a * c)) (lo (a * c)) + val (hi (b * c)) (lo (b * c))) = WV ((a + b) * c) := by
  apply WVc
  rw [val_hl, val_hl, Int.add_mul]; omega
theorem ring_neg (p : Int) : WV (val (hi p) (lo p) + val (hi (- val (hi p) (lo p))) (lo (- val (hi p) (lo p)))) = .agg #[.int .u64 0, .int .u64 0] := by
  rw [show (.agg #[.int .u64 0, .int .u64 0] : Value) = WV 0 from rfl]
  apply WVc
  rw [val_hl, val_hl]; omega
end Go.Proofs.Ytmanjadnagfhpaa
