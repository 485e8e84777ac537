/- The words of a map: a bit for each free sector. -/
import Derived.Test.YtekfceolignihaaDoorS4
import Derived.Laws.BitsAllLaws
namespace Go.Proofs.YtekfceolignihaaDoor
open Go.RowKit
set_option linter.unusedVariables false
set_option linter.unusedSimpArgs false

/-- The number whose bits are p's, below m. -/
def bitsOf (p : Nat → Bool) : Nat → Nat
  | 0 => 0
  | m + 1 => bitsOf p m + if p m then 2 ^ m else 0
theorem bitsOf_lt (p : Nat → Bool) : ∀ m, bitsOf p m < 2 ^ m
  | 0 => by simp [bitsOf]
  | m + 1 => by
    have := bitsOf_lt p m
    rw [bitsOf, Nat.pow_succ]
    split <;> omega
theorem bitsOf_bit (p : Nat → Bool) : ∀ m j, (bitsOf p m).testBit j = (decide (j < m) && p j)
  | 0, j => by simp [bitsOf]
  | m + 1, j => by
    have ih := bitsOf_bit p m
    have hl := bitsOf_lt p m
    rw [bitsOf]
    by_cases hp : p m = true
    · rw [if_pos hp, Nat.add_comm]
      rcases Nat.lt_trichotomy j m with h | h | h
      · rw [Nat.testBit_two_pow_add_gt h, ih j]
        simp [h, Nat.lt_succ_of_lt h]
      · subst h
        rw [Nat.testBit_two_pow_add_eq, ih j]
        simp [hp]
      · have : 2 ^ m + bitsOf p m < 2 ^ j := by
          have h2 : 2 ^ (m + 1) ≤ 2 ^ j := Nat.pow_le_pow_right (by omega) h
          rw [Nat.pow_succ] at h2
          omega
        rw [Nat.testBit_lt_two_pow this]
        simp [Nat.not_lt.2 (Nat.succ_le_of_lt h)]
    · rw [if_neg hp, Nat.add_zero, ih j]
      rcases Nat.lt_trichotomy j m with h | h | h
      · simp [h, Nat.lt_succ_of_lt h]
      · subst h
        simp at hp
        simp [hp]
      · simp [Nat.not_lt.2 (Nat.le_of_lt h), Nat.not_lt.2 (Nat.succ_le_of_lt h)]
theorem bitsOf_congr {p q : Nat → Bool} : ∀ m, (∀ j, j < m → p j = q j) → bitsOf p m = bitsOf q m
  | 0, _ => rfl
  | m + 1, h => by rw [bitsOf, bitsOf, bitsOf_congr m (fun j hj => h j (by omega)), h m (by omega)]
/-- Whether sector k is free, of the counts C. -/
def isFree (C : List Int) (k : Nat) : Bool := decide (2 ≤ k) && decide (C[k]? = some 0)
def freeW (C : List Int) (i : Nat) : Nat := bitsOf (fun j => isFree C (64 * i + j)) 64
def freeL (C : List Int) : List Int := (List.range (C.length / 64 + 1)).map fun i => (freeW C i : Int)
theorem freeW_lt (C : List Int) (i : Nat) : freeW C i < 18446744073709551616 := bitsOf_lt _ 64
theorem freeW_bit (C : List Int) (i j : Nat) : (freeW C i).testBit j = (decide (j < 64) && isFree C (64 * i + j)) := bitsOf_bit _ 64 j
theorem freeL_len (C : List Int) : (freeL C).length = C.length / 64 + 1 := by simp [freeL]
theorem freeL_at (C : List Int) (i : Nat) (h : i < C.length / 64 + 1) : (freeL C)[i]? = some (freeW C i : Int) := by
  rw [freeL, List.getElem?_map, List.getElem?_range h]; rfl
theorem bitV_nat (n : Nat) : bitV n = ((2 ^ (n % 64) : Nat) : Int) := by
  unfold bitV
  rw [IntKind.wrap_u64]
  have h : (2 : Nat) ^ (n % 64) < 2 ^ 64 := Nat.pow_lt_pow_right (by omega) (Nat.mod_lt _ (by omega))
  rw [show ((2 : Int) ^ (n % 64)) = ((2 ^ (n % 64) : Nat) : Int) by rw [Int.natCast_pow]; rfl]
  generalize 2 ^ (n % 64) = y at *
  have h2 : y < 18446744073709551616 := h
  exact Int.emod_eq_of_lt (Int.natCast_nonneg _) (by omega)
theorem pow_lt (n : Nat) : 2 ^ (n % 64) < 18446744073709551616 := Nat.pow_lt_pow_right (a := 2) (n := 64) (by omega) (Nat.mod_lt _ (by omega))
theorem or_lt (a b : Nat) (ha : a < 18446744073709551616) (hb : b < 18446744073709551616) : a ||| b < 18446744073709551616 := Nat.or_lt_two_pow (n := 64) ha hb
theorem clr_lt (a b : Nat) (ha : a < 18446744073709551616) : a &&& b < 18446744073709551616 := Nat.lt_of_le_of_lt Nat.and_le_left ha
theorem clr_bit (a n j : Nat) (ha : a < 18446744073709551616) : (a &&& (18446744073709551615 - 2 ^ (n % 64))).testBit j = (a.testBit j && !decide (j = n % 64)) := by
  rw [Nat.testBit_and]
  by_cases hj : j < 64
  · have e := Nat.testBit_two_pow_sub_succ (x := 2 ^ (n % 64)) (n := 64) (pow_lt n) j
    rw [show (2 : Nat) ^ 64 - (2 ^ (n % 64) + 1) = 18446744073709551615 - 2 ^ (n % 64) by omega] at e
    rw [e, Nat.testBit_two_pow]
    simp [hj, eq_comm]
  · have : a.testBit j = false := Nat.testBit_lt_two_pow (Nat.lt_of_lt_of_le (show a < 2 ^ 64 from ha) (Nat.pow_le_pow_right (show 0 < 2 by omega) (show 64 ≤ j by omega)))
    rw [this]; simp
theorem newW_nat (a n : Nat) (x : Int) (ha : a < 18446744073709551616) :
    ∃ b : Nat, newW (a : Int) n x = (b : Int) ∧ b < 18446744073709551616 ∧ ∀ j, b.testBit j = if j = n % 64 then decide (x = 0) else a.testBit j := by
  have e1 : bits .andNot .u64 (a : Int) (bitV n) = ((a &&& (18446744073709551615 - 2 ^ (n % 64)) : Nat) : Int) := by
    rw [bitV_nat]; exact u64_andNot_nat a _ ha (pow_lt n)
  unfold newW
  by_cases hx : x = 0
  · rw [if_pos hx, e1, bitV_nat, u64_or_nat _ _ (clr_lt a _ ha) (pow_lt n)]
    refine ⟨_, rfl, or_lt _ _ (clr_lt a _ ha) (pow_lt n), fun j => ?_⟩
    rw [Nat.testBit_or, clr_bit a n j ha, Nat.testBit_two_pow]
    by_cases hj : j = n % 64
    · simp [hj, hx]
    · have : ¬ n % 64 = j := fun h => hj h.symm
      simp [hj, this]
  · rw [if_neg hx, e1]
    refine ⟨_, rfl, clr_lt a _ ha, fun j => ?_⟩
    rw [clr_bit a n j ha]
    by_cases hj : j = n % 64
    · simp [hj, hx]
    · simp [hj]
theorem isFree_set (C : List Int) (n : Nat) (x : Int) (hn : n < C.length) (h2 : 2 ≤ n) (k : Nat) : isFree (C.set n x) k = if k = n then decide (x = 0) else isFree C k := by
  unfold isFree
  by_cases hk : k = n
  · subst hk
    rw [if_pos rfl, List.getElem?_set_self hn]
    simp [h2]
  · rw [if_neg hk, List.getElem?_set_ne (fun e => hk e.symm)]
/-- A count that turns: its word turns alike. -/
theorem freeL_set (C : List Int) (n : Nat) (x : Int) (hn : n < C.length) (h2 : 2 ≤ n) : freeL (C.set n x) = (freeL C).set (n / 64) (newW (freeW C (n / 64)) n x) := by
  obtain ⟨b, hb, hbl, hbit⟩ := newW_nat (freeW C (n / 64)) n x (freeW_lt _ _)
  rw [hb]
  apply List.ext_getElem?
  intro i
  by_cases hi : i < C.length / 64 + 1
  · rw [freeL_at _ _ (by rw [List.length_set]; exact hi)]
    by_cases hin : n / 64 = i
    · subst hin
      rw [List.getElem?_set_self (by rw [freeL_len]; exact hi)]
      congr 2
      apply Nat.eq_of_testBit_eq
      intro j
      rw [freeW_bit, hbit j, freeW_bit, isFree_set C n x hn h2]
      by_cases hj : j = n % 64
      · subst hj
        have : 64 * (n / 64) + n % 64 = n := by omega
        rw [this]
        simp [Nat.mod_lt]
      · by_cases hj2 : j < 64
        · have : ¬ 64 * (n / 64) + j = n := by omega
          simp [hj, this]
        · simp [hj, hj2]
    · rw [List.getElem?_set_ne hin, freeL_at _ _ hi]
      congr 2
      unfold freeW
      exact bitsOf_congr 64 (fun j hj => by
        rw [isFree_set C n x hn h2, if_neg (by omega)])
  · rw [List.getElem?_eq_none (by rw [freeL_len, List.length_set]; omega), List.getElem?_eq_none (by rw [List.length_set, freeL_len]; omega)]
end Go.Proofs.YtekfceolignihaaDoor
