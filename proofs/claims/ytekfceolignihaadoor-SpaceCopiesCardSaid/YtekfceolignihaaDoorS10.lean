/- 'New' and 'Take' over the counts. -/
import Derived.Test.YtekfceolignihaaDoorS9
namespace Go.Proofs.YtekfceolignihaaDoor
open Go.RowKit
set_option linter.unusedVariables false
set_option linter.unusedSimpArgs false

def upTo (k i : Nat) : Nat := bitsOf (fun j => decide (2 ≤ 64 * i + j) && decide (64 * i + j < k)) 64
theorem upTo_lt (k i : Nat) : upTo k i < 18446744073709551616 := bitsOf_lt _ 64
theorem upTo_bit (k i j : Nat) : (upTo k i).testBit j = (decide (j < 64) && (decide (2 ≤ 64 * i + j) && decide (64 * i + j < k))) := bitsOf_bit _ 64 j
attribute [local irreducible] bitsOf upTo freeW
theorem upTo_two (i : Nat) : upTo 2 i = 0 := by
  apply Nat.eq_of_testBit_eq
  intro j
  rw [upTo_bit, Nat.zero_testBit]
  by_cases h : 2 ≤ 64 * i + j
  · have : ¬ 64 * i + j < 2 := by omega
    simp [this]
  · simp [h]
theorem newFk_at (n : Nat) : ∀ k, 2 ≤ k → k ≤ max n 2 → newFk n k = (List.range (n / 64 + 1)).map fun i => (upTo k i : Int) := by
  intro k hk
  induction k with
  | zero => omega
  | succ k ih =>
    intro hm
    by_cases h2 : k + 1 = 2
    · rw [h2, newFk_two]
      apply List.ext_getElem?
      intro i
      rw [List.getElem?_map]
      by_cases hi : i < n / 64 + 1
      · rw [List.getElem?_range hi, List.getElem?_replicate, if_pos hi]
        simp [upTo_two]
      · rw [List.getElem?_eq_none (by rw [List.length_replicate]; omega), List.getElem?_eq_none (by rw [List.length_range]; omega)]
        rfl
    · have hk2 : 2 ≤ k := by omega
      rw [newFk_next n k hk2, ih hk2 (by omega)]
      unfold stepF
      have hkn : k / 64 < n / 64 + 1 := by omega
      have hg : ((List.range (n / 64 + 1)).map fun i => (upTo k i : Int)).getD (k / 64) 0 = (upTo k (k / 64) : Int) := by
        rw [List.getD, List.getElem?_map, List.getElem?_range hkn]; rfl
      rw [hg, bitV_nat, u64_or_nat _ _ (upTo_lt _ _) (pow_lt k)]
      apply List.ext_getElem?
      intro i
      by_cases hi : i < n / 64 + 1
      · rw [List.getElem?_map (l := List.range _), List.getElem?_range hi]
        by_cases hik : k / 64 = i
        · subst hik
          rw [List.getElem?_set_self (by simp; omega)]
          refine congrArg (fun x : Nat => some (x : Int)) (Nat.eq_of_testBit_eq fun j => ?_)
          rw [Nat.testBit_or, upTo_bit, upTo_bit, Nat.testBit_two_pow]
          by_cases hj : j < 64
          · by_cases e : k % 64 = j
            · have h1 : 64 * (k / 64) + j = k := by omega
              rw [h1]
              simp [hj, e, hk2]
            · have h1 : (64 * (k / 64) + j < k + 1) = (64 * (k / 64) + j < k) := by
                apply propext; constructor <;> intro h <;> omega
              simp only [h1, e, decide_false, Bool.or_false]
          · have e : ¬ k % 64 = j := by omega
            simp [hj, e]
        · rw [List.getElem?_set_ne hik, List.getElem?_map, List.getElem?_range hi]
          refine congrArg (fun x : Nat => some (x : Int)) (Nat.eq_of_testBit_eq fun j => ?_)
          rw [upTo_bit, upTo_bit]
          by_cases hj : j < 64
          · have h1 : (64 * i + j < k + 1) = (64 * i + j < k) := by
              apply propext; constructor <;> intro h <;> omega
            simp only [h1]
          · simp [hj]
      · rw [List.getElem?_eq_none (by simp; omega), List.getElem?_eq_none (by simp; omega)]
theorem newF_free (n : Nat) : newFk n (max n 2) = freeL (List.replicate n 0) := by
  rw [newFk_at n _ (by omega) (Nat.le_refl _)]
  unfold freeL
  rw [List.length_replicate]
  apply List.map_congr_left
  intro i hi
  have hi2 := List.mem_range.1 hi
  refine congrArg (fun x : Nat => (x : Int)) (Nat.eq_of_testBit_eq fun j => ?_)
  rw [upTo_bit, freeW_bit]
  congr 1
  unfold isFree
  rw [List.getElem?_replicate]
  by_cases h2 : 2 ≤ 64 * i + j
  · by_cases hn : 64 * i + j < n
    · have : 64 * i + j < max n 2 := by omega
      simp [h2, hn, this]
    · have : ¬ 64 * i + j < max n 2 := by omega
      simp [h2, hn, this]
  · simp [h2]
theorem ctz_bits (f : Nat) (h0 : f ≠ 0) (h : f < 18446744073709551616) : f.testBit (Lib.ctz 64 f) = true ∧ (∀ j, j < Lib.ctz 64 f → f.testBit j = false) ∧ Lib.ctz 64 f < 64 := by
  obtain ⟨m, hm, hk⟩ := Lib.ctzFrom_spec 64 f (by omega) h
  have e : Lib.ctz 64 f = Lib.ctzFrom 64 f := by simp [Lib.ctz, h0]
  rw [e]
  generalize Lib.ctzFrom 64 f = t at *
  refine ⟨?_, fun j hj => ?_, hk⟩
  · rw [Nat.testBit_eq_decide_div_mod_eq, hm, Nat.mul_div_cancel_left _ (Nat.two_pow_pos t)]
    simp
  · rw [Nat.testBit_eq_decide_div_mod_eq, hm]
    obtain ⟨d, hd⟩ : ∃ d, t = j + (d + 1) := ⟨t - j - 1, by omega⟩
    rw [hd, Nat.pow_add, Nat.mul_assoc, Nat.mul_div_cancel_left _ (Nat.two_pow_pos j), Nat.pow_succ]
    rw [show 2 ^ d * 2 * (2 * m + 1) = 2 * (2 ^ d * (2 * m + 1)) by rw [Nat.mul_comm (2 ^ d) 2, Nat.mul_assoc]]
    simp
theorem isFree_lt {C : List Int} {k : Nat} (h : isFree C k = true) : 2 ≤ k ∧ C[k]? = some 0 ∧ k < C.length := by
  unfold isFree at h
  rw [Bool.and_eq_true] at h
  have h1 := of_decide_eq_true h.1
  have h2 := of_decide_eq_true h.2
  exact ⟨h1, h2, (List.getElem?_eq_some_iff.1 h2).1⟩
/-- What the words say of the lowest free sector. -/
theorem take_spec (C : List Int) : (∀ f ∈ freeL C, f = 0) ∧ (∀ k, isFree C k = false) ∨
    ∃ i0 f, freeL C = freeL C ∧ (freeL C)[i0]? = some ((f : Nat) : Int) ∧ f ≠ 0 ∧ f < 18446744073709551616 ∧ (∀ j, j < i0 → (freeL C)[j]? = some 0) ∧ isFree C (64 * i0 + Lib.ctz 64 f) = true ∧ (∀ k, k < 64 * i0 + Lib.ctz 64 f → isFree C k = false) ∧ f = freeW C i0 := by
  by_cases h : ∃ i, i < C.length / 64 + 1 ∧ freeW C i ≠ 0
  · right
    obtain ⟨i0, hi0, hmin⟩ : ∃ i0, (i0 < C.length / 64 + 1 ∧ freeW C i0 ≠ 0) ∧ ∀ j, j < i0 → freeW C j = 0 := by
      obtain ⟨i, hi⟩ := h
      induction i using Nat.strongRecOn with
      | ind i ih =>
        by_cases hj : ∃ j, j < i ∧ freeW C j ≠ 0
        · obtain ⟨j, hj1, hj2⟩ := hj
          exact ih j hj1 ⟨by omega, hj2⟩
        · exact ⟨i, hi, fun j hj1 => Classical.byContradiction fun hne => hj ⟨j, hj1, hne⟩⟩
    obtain ⟨b1, b2, b3⟩ := ctz_bits _ hi0.2 (freeW_lt C i0)
    refine ⟨i0, freeW C i0, rfl, freeL_at C i0 hi0.1, hi0.2, freeW_lt _ _, fun j hj => ?_, ?_, fun k hk => ?_, rfl⟩
    · rw [freeL_at C j (by omega), hmin j hj]; rfl
    · rw [freeW_bit] at b1
      simpa [b3] using b1
    · by_cases hki : k / 64 = i0
      · have h2 := b2 (k % 64) (by omega)
        rw [freeW_bit] at h2
        have e : 64 * i0 + k % 64 = k := by omega
        rw [e] at h2
        simpa [Nat.mod_lt] using h2
      · have hkl : k / 64 < i0 := by omega
        have h0 := hmin (k / 64) hkl
        have h2 := freeW_bit C (k / 64) (k % 64)
        rw [h0, Nat.zero_testBit] at h2
        have e : 64 * (k / 64) + k % 64 = k := by omega
        rw [e] at h2
        simpa [Nat.mod_lt] using h2.symm
  · left
    have hz : ∀ i, i < C.length / 64 + 1 → freeW C i = 0 := fun i hi => Classical.byContradiction fun hne => h ⟨i, hi, hne⟩
    refine ⟨fun f hf => ?_, fun k => ?_⟩
    · obtain ⟨i, hi, rfl⟩ := List.mem_map.1 hf
      rw [hz i (List.mem_range.1 hi)]; rfl
    · cases hk : isFree C k with
      | false => rfl
      | true =>
        obtain ⟨h1, h2, h3⟩ := isFree_lt hk
        have h4 := freeW_bit C (k / 64) (k % 64)
        rw [hz (k / 64) (by omega), Nat.zero_testBit, show 64 * (k / 64) + k % 64 = k by omega, hk] at h4
        simp [Nat.mod_lt] at h4
end Go.Proofs.YtekfceolignihaaDoor
