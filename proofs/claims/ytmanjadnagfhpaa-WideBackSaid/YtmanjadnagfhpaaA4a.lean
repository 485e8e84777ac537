/- Plain facts on the division bit by bit: no program. -/
import Derived.Test.YtmanjadnagfhpaaA3
namespace Go.Proofs.Ytmanjadnagfhpaa
open Go.RowKit
set_option linter.unusedVariables false

/-- What stands in quotient and rest when k bits are still to come. -/
def Q (A b : Int) (k : Nat) : Int := A / 2 ^ k / b
def R (A b : Int) (k : Nat) : Int := A / 2 ^ k % b
theorem R_lt (A b : Int) (k : Nat) (hb : 0 < b) : 0 ≤ R A b k ∧ R A b k < b := ⟨Int.emod_nonneg _ (by omega), Int.emod_lt_of_pos _ hb⟩
theorem QR_is (A b : Int) (k : Nat) : A / 2 ^ k = b * Q A b k + R A b k := (Int.mul_ediv_add_emod _ _).symm
theorem QR_un (x b q r : Int) (hb : 0 < b) (h : x = b * q + r) (h0 : 0 ≤ r) (h1 : r < b) : x / b = q ∧ x % b = r := by
  have := Int.ediv_emod_unique hb (a := x) (r := r) (q := q)
  exact this.2 ⟨by rw [h]; omega, h0, h1⟩
theorem QR_0 (A b : Int) (k : Nat) (hb : 0 < b) (h : 2 * R A b (k + 1) + bit A k < b) : R A b k = 2 * R A b (k + 1) + bit A k ∧ Q A b k = 2 * Q A b (k + 1) := by
  have hl := R_lt A b (k + 1) hb
  have e := half_bit A k
  rw [QR_is A b (k + 1)] at e
  have hbit := bit_01 A k
  have := QR_un (A / 2 ^ k) b (2 * Q A b (k + 1)) (2 * R A b (k + 1) + bit A k) hb (by rw [e, Int.mul_add, Int.mul_left_comm, Int.add_assoc]) (by omega) h
  exact ⟨this.2, this.1⟩
theorem QR_1 (A b : Int) (k : Nat) (hb : 0 < b) (h : ¬ 2 * R A b (k + 1) + bit A k < b) : R A b k = 2 * R A b (k + 1) + bit A k - b ∧ Q A b k = 2 * Q A b (k + 1) + 1 := by
  have hl := R_lt A b (k + 1) hb
  have e := half_bit A k
  rw [QR_is A b (k + 1)] at e
  have hbit := bit_01 A k
  have := QR_un (A / 2 ^ k) b (2 * Q A b (k + 1) + 1) (2 * R A b (k + 1) + bit A k - b) hb (by rw [e, Int.mul_add, Int.mul_left_comm]; grind) (by omega) (by omega)
  exact ⟨this.2, this.1⟩
theorem or_even (n y : Nat) (h : 2 * n < 18446744073709551616) (hy : y < 2) : bits .or .u64 ((2 * n : Nat) : Int) (y : Int) = ((2 * n + y : Nat) : Int) := by
  have := Nat.two_pow_add_eq_or_of_lt (i := 1) (b := y) (by omega) n
  rw [Nat.pow_one] at this
  rw [bits_or_u64_nat _ _ h (by omega), this]
theorem or_lo (x y : Int) (h : x % 2 = 0) (hy : y = 0 ∨ y = 1) : bits .or .u64 (lo x) y = lo (x + y) := by
  have h1 := (lo_64 x)
  obtain ⟨n, hn⟩ : ∃ n : Nat, lo x = ((2 * n : Nat) : Int) := ⟨(lo x / 2).toNat, by unfold lo at *; unfold is64 at h1; omega⟩
  obtain ⟨z, rfl⟩ : ∃ z : Nat, y = z := ⟨y.toNat, by omega⟩
  have h2 := h1.2
  rw [hn, or_even n z (by omega) (by omega)]
  unfold lo at *; unfold is64 at h1; omega
theorem bit_hi (a0 a1 : Int) (j : Nat) (h : 64 ≤ j) (h1 : is64 a1) : bit a0 (j - 64) = bit (val a0 a1) j := by
  unfold bit
  obtain ⟨i, rfl⟩ : ∃ i, j = 64 + i := ⟨j - 64, by omega⟩
  have e : val a0 a1 / 2 ^ (64 + i) = a0 / 2 ^ i := by
    rw [Int.pow_add, ← Int.ediv_ediv_of_nonneg (by omega)]
    congr 1
    unfold is64 at h1; unfold val; omega
  rw [e, show 64 + i - 64 = i by omega]
theorem bit_lo (a0 a1 : Int) (j : Nat) (h : j < 64) (h1 : is64 a1) : bit a1 j = bit (val a0 a1) j := by
  unfold bit
  have hp : (0 : Int) < 2 ^ j := Int.pow_pos (by omega)
  have e : val a0 a1 = a1 + a0 * 2 ^ (63 - j) * 2 * 2 ^ j := by
    have : (18446744073709551616 : Int) = 2 ^ (63 - j) * 2 * 2 ^ j := by
      rw [← Int.pow_succ, ← Int.pow_add, show 63 - j + 1 + j = 64 by omega]; rfl
    rw [val, this]; grind
  rw [e, Int.add_mul_ediv_right _ _ (by omega)]
  omega
theorem T_hi (r bt : Int) (h0 : 0 ≤ r) (h1 : r < 18446744073709551616) (hb : bt = 0 ∨ bt = 1) : hi (val (hi r) (lo r) + val (hi r) (lo r)) = hi (2 * r + bt) := by
  unfold val hi lo; omega
theorem T_lo (r bt : Int) (h0 : 0 ≤ r) (h1 : r < 18446744073709551616) (hb : bt = 0 ∨ bt = 1) : bits .or .u64 (lo (val (hi r) (lo r) + val (hi r) (lo r))) bt = lo (2 * r + bt) := by
  rw [or_lo _ _ (by omega) hb]
  unfold val hi lo; omega
theorem Y_hi (q bt : Int) (hb : bt = 0 ∨ bt = 1) : hi (val (hi q) (lo q) + val (hi q) (lo q)) = hi (2 * q + bt) := by
  unfold val hi lo; omega
theorem Y_lo0 (q : Int) : lo (val (hi q) (lo q) + val (hi q) (lo q)) = lo (2 * q) := by
  unfold val hi lo; omega
theorem Y_lo (q : Int) : bits .or .u64 (lo (val (hi q) (lo q) + val (hi q) (lo q))) 1 = lo (2 * q + 1) := by
  rw [or_lo _ _ (by omega) (.inr rfl)]
  unfold val hi lo; omega
theorem T_val (T : Int) (h0 : 0 ≤ T) (h1 : T < 340282366920938463463374607431768211456) : val (hi T) (lo T) = T := by
  rw [val_hl]; omega
theorem N_val (b : Int) : val 0 b = b := by unfold val; omega
theorem Z_val (T b : Int) (h0 : b ≤ T) (h1 : T < 340282366920938463463374607431768211456) (hb : 0 ≤ b) : WV (val (hi T) (lo T) + val (hi (- val 0 b)) (lo (- val 0 b))) = WV (T - b) := by
  apply WVc
  rw [val_hl, val_hl, N_val]; omega
end Go.Proofs.Ytmanjadnagfhpaa
