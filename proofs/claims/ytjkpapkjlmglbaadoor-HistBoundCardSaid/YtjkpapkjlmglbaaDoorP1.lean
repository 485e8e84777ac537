/- The memory's bytes, in plain terms. -/
import Derived.Test.YtjkpapkjlmglbaaDoorM7
namespace Go.Proofs.YtjkpapkjlmglbaaDoor
open Go.RowKit
set_option linter.unusedVariables false
set_option linter.unusedSimpArgs false

theorem memAt_set {M : List UInt8} (hM : M.length = 8192) (k : Nat) (hk : k < 8192) (x : UInt8) (z : Int) : memAt (M.set k x) z = if z = (k : Int) then x else memAt M z := by
  unfold memAt
  by_cases hz : 0 ≤ z ∧ z < 8192
  · rw [if_pos hz, if_pos hz, List.getD_eq_getElem?_getD, List.getD_eq_getElem?_getD, List.getElem?_set]
    by_cases e : z = (k : Int)
    · rw [if_pos e, if_pos (by omega), if_pos (by omega)]; rfl
    · rw [if_neg e, if_neg (by omega)]
  · rw [if_neg hz, if_neg hz, if_neg (by omega)]
theorem memAt_out (M : List UInt8) (z : Int) (h : ¬ (0 ≤ z ∧ z < 8192)) : memAt M z = 0 := if_neg h
theorem memAt_layN {M : List UInt8} (hM : M.length = 8192) (a : Int) (bs : List UInt8) (z : Int) : ∀ j : Nat, memAt (layN M a bs j) z = if a ≤ z ∧ z < a + j ∧ 0 ≤ z ∧ z < 8192 then bs.getD (z - a).toNat 0 else memAt M z := by
  intro j
  induction j with
  | zero => rw [if_neg (by omega)]; rfl
  | succ j ih =>
    rw [layN]
    by_cases h : 0 ≤ a + j ∧ a + j < 8192
    · rw [if_pos h, memAt_set (by rw [layN_len]; exact hM) _ (by omega), ih]
      by_cases e : z = a + j
      · rw [if_pos (by omega), if_pos (by omega), e]
        congr 1
        omega
      · rw [if_neg (by omega)]
        by_cases h2 : a ≤ z ∧ z < a + j ∧ 0 ≤ z ∧ z < 8192
        · rw [if_pos h2, if_pos (by omega)]
        · rw [if_neg h2, if_neg (by omega)]
    · rw [if_neg h, ih]
      by_cases h2 : a ≤ z ∧ z < a + j ∧ 0 ≤ z ∧ z < 8192
      · rw [if_pos h2, if_pos (by omega)]
      · rw [if_neg h2, if_neg (by omega)]
theorem memAt_layL {M : List UInt8} (hM : M.length = 8192) (a : Int) (bs : List UInt8) (z : Int) : memAt (layL M a bs) z = if a ≤ z ∧ z < a + bs.length ∧ 0 ≤ z ∧ z < 8192 then bs.getD (z - a).toNat 0 else memAt M z := memAt_layN hM a bs z _
theorem layL_len (M : List UInt8) (a : Int) (bs : List UInt8) : (layL M a bs).length = M.length := layN_len M a bs _
theorem setM_len (M : List UInt8) (a n : Int) : (setM M a n).length = M.length := layL_len M a _
/-- Two memories that agree at each place are one. -/
theorem mem_ext {M N : List UInt8} (hM : M.length = 8192) (hN : N.length = 8192) (h : ∀ z, memAt M z = memAt N z) : M = N := by
  apply List.ext_getElem (by omega)
  intro i h1 h2
  have h3 := h (i : Int)
  unfold memAt at h3
  rw [if_pos (by omega), if_pos (by omega), Int.toNat_natCast, List.getD_eq_getElem?_getD, List.getD_eq_getElem?_getD, List.getElem?_eq_getElem h1, List.getElem?_eq_getElem h2] at h3
  exact h3
theorem loadL_congr {M N : List UInt8} {a b n : Int} (h : ∀ i : Nat, (i : Int) < n → memAt M (a + i) = memAt N (b + i)) : loadL M a n = loadL N b n := by
  unfold loadL
  apply List.map_congr_left
  intro i hi
  rw [List.mem_range] at hi
  exact h i (by omega)
theorem getM_congr {M N : List UInt8} {a b : Int} (h : ∀ i : Nat, i < 8 → memAt M (a + i) = memAt N (b + i)) : getM M a = getM N b := by
  unfold getM
  rw [loadL_congr (fun i hi => h i (by omega))]
theorem leN_congr {l m : List UInt8} {a b : Int} : ∀ k : Nat, (∀ i : Nat, i < k → byteZ l (a + i) = byteZ m (b + i)) → leN l a k = leN m b k := by
  intro k
  induction k with
  | zero => intro _; rfl
  | succ k ih => intro h; rw [leN, leN, ih (fun i hi => h i (by omega)), h k (by omega)]
theorem byteZ_mem {M : List UInt8} (hM : M.length = 8192) (z : Int) : byteZ M z = (memAt M z).toNat := by
  unfold byteZ memAt
  rw [hM]
  split
  · rw [if_pos (by assumption)]
  · rw [if_neg (by assumption)]; rfl
theorem loadL_getD (M : List UInt8) (a n : Int) (i : Nat) (h : (i : Int) < n) (h2 : n ≤ 8192) : (loadL M a n).getD i 0 = memAt M (a + i) := by
  have hl : i < (loadL M a n).length := by rw [loadL_len]; omega
  rw [List.getD_eq_getElem?_getD, List.getElem?_eq_getElem hl]
  simp only [Option.getD_some]
  rw [loadL_get]
theorem byteZ_load (M : List UInt8) (a n : Int) (z : Int) (h0 : 0 ≤ z) (h1 : z < n) (h2 : n ≤ 8192) : byteZ (loadL M a n) z = (memAt M (a + z)).toNat := by
  have hl := loadL_len M a n
  unfold byteZ
  rw [if_pos (by omega), List.getD_eq_getElem?_getD, List.getElem?_eq_getElem (by omega)]
  simp only [Option.getD_some]
  rw [loadL_get, show ((z.toNat : Nat) : Int) = z by omega]
/-- The reference's cell is the memory's. -/
theorem cellL_mem {M : List UInt8} (hM : M.length = 8192) (a : Int) : cellL M a = getM M a := by
  unfold getM cellL
  rw [leN_congr (l := M) (a := a) (m := loadL M a 8) (b := 0) 8]
  intro i hi
  rw [byteZ_mem hM, byteZ_load _ _ _ _ (by omega) (by omega) (by omega), Int.zero_add]
theorem getD_set8 (l : List UInt8) (k j : Nat) (x : UInt8) (hk : k < l.length) : (l.set k x).getD j 0 = if j = k then x else l.getD j 0 := by
  rw [List.getD_eq_getElem?_getD, List.getD_eq_getElem?_getD, List.getElem?_set]
  by_cases e : j = k
  · rw [if_pos e.symm, if_pos hk, if_pos e]; rfl
  · rw [if_neg (fun h => e h.symm), if_neg e]
theorem putL_getD (l : List UInt8) (a : Int) (v : Nat) (j : Nat) : ∀ k : Nat, (putL l a v k).getD j 0 = if a ≤ j ∧ (j : Int) < a + k ∧ j < l.length then UInt8.ofNat (v / 2 ^ (8 * ((j : Int) - a).toNat)) else l.getD j 0 := by
  intro k
  induction k with
  | zero => rw [if_neg (by omega)]; rfl
  | succ k ih =>
    rw [putL]
    by_cases h : 0 ≤ a + k ∧ a + k < l.length
    · rw [if_pos h, getD_set8 _ _ _ _ (by rw [putL_len]; omega), ih]
      by_cases e : j = (a + k).toNat
      · rw [if_pos e, if_pos (by omega), show ((j : Int) - a).toNat = k by omega]
      · rw [if_neg e]
        by_cases h2 : a ≤ j ∧ (j : Int) < a + k ∧ j < l.length
        · rw [if_pos h2, if_pos (by omega)]
        · rw [if_neg h2, if_neg (by omega)]
    · rw [if_neg h, ih]
      by_cases h2 : a ≤ j ∧ (j : Int) < a + k ∧ j < l.length
      · rw [if_pos h2, if_pos (by omega)]
      · rw [if_neg h2, if_neg (by omega)]
theorem memAt_putCell {M : List UInt8} (hM : M.length = 8192) (a n : Int) (z : Int) : memAt (putCellL M a n) z = if a ≤ z ∧ z < a + 8 ∧ 0 ≤ z ∧ z < 8192 then UInt8.ofNat ((IntKind.u64.wrap n).toNat / 2 ^ (8 * (z - a).toNat)) else memAt M z := by
  unfold memAt putCellL
  by_cases hz : 0 ≤ z ∧ z < 8192
  · rw [if_pos hz, putL_getD, if_pos hz, hM]
    by_cases h2 : a ≤ z ∧ z < a + 8 ∧ 0 ≤ z ∧ z < 8192
    · rw [if_pos h2, if_pos (by omega), show (((z.toNat : Nat) : Int) - a).toNat = (z - a).toNat by omega]
    · rw [if_neg h2, if_neg (by omega)]
  · rw [if_neg hz, if_neg (by omega), if_neg hz]
theorem cellBytes_getD (n : Int) (j : Nat) (hj : j < 8) : (putCellL (List.replicate 8 0) 0 n).getD j 0 = UInt8.ofNat ((IntKind.u64.wrap n).toNat / 2 ^ (8 * j)) := by
  unfold putCellL
  rw [putL_getD, if_pos ⟨by omega, by omega, by rw [List.length_replicate]; exact hj⟩, show ((j : Int) - 0).toNat = j by omega]
theorem cellBytes_len (n : Int) : (putCellL (List.replicate 8 0) 0 n).length = 8 := by unfold putCellL; rw [putL_len]; simp
/-- The reference's 'Set' is the memory's. -/
theorem putCell_mem {M : List UInt8} (hM : M.length = 8192) (a n : Int) : putCellL M a n = setM M a n := by
  apply mem_ext (by unfold putCellL; rw [putL_len]; exact hM) (by rw [setM_len]; exact hM)
  intro z
  unfold setM
  rw [memAt_putCell hM, memAt_layL hM, cellBytes_len]
  by_cases h2 : a ≤ z ∧ z < a + 8 ∧ 0 ≤ z ∧ z < 8192
  · rw [if_pos h2, if_pos (by omega), cellBytes_getD _ _ (by omega)]
  · rw [if_neg h2, if_neg (by omega)]
theorem memAt_setM {M : List UInt8} (hM : M.length = 8192) (a n : Int) (z : Int) : memAt (setM M a n) z = if a ≤ z ∧ z < a + 8 ∧ 0 ≤ z ∧ z < 8192 then UInt8.ofNat ((IntKind.u64.wrap n).toNat / 2 ^ (8 * (z - a).toNat)) else memAt M z := by
  rw [← putCell_mem hM, memAt_putCell hM]
theorem leN_val (l : List UInt8) (a : Int) (v : Nat) : ∀ k : Nat, (∀ i : Nat, i < k → byteZ l (a + i) = v / 2 ^ (8 * i) % 256) → leN l a k = v % 2 ^ (8 * k) := by
  intro k
  induction k with
  | zero => intro _; simp [leN, Nat.mod_one]
  | succ k ih =>
    intro h
    rw [leN, ih (fun i hi => h i (by omega)), h k (by omega), show 8 * (k + 1) = 8 * k + 8 by omega, Nat.pow_add, Nat.mod_mul]
    generalize 2 ^ (8 * k) = p
    rw [Nat.mul_comm p]
/-- A cell that is laid is the number. -/
theorem cellL_val (l : List UInt8) (a n : Int) (hn : isI n) (h : ∀ i : Nat, i < 8 → byteZ l (a + i) = (IntKind.u64.wrap n).toNat / 2 ^ (8 * i) % 256) : cellL l a = n := by
  unfold cellL
  rw [leN_val l a _ 8 h]
  unfold isI at hn
  have h1 := IntKind.wrap_u64 n
  have h2 := IntKind.wrap_i64 (((IntKind.u64.wrap n).toNat % 2 ^ (8 * 8) : Nat) : Int)
  omega
theorem getM_setM {M : List UInt8} (hM : M.length = 8192) (a n : Int) (hn : isI n) (ha : 0 ≤ a ∧ a ≤ 8184) : getM (setM M a n) a = n := by
  rw [← cellL_mem (by rw [setM_len]; exact hM)]
  apply cellL_val _ _ _ hn
  intro i hi
  rw [byteZ_mem (by rw [setM_len]; exact hM), memAt_setM hM, if_pos (by omega), UInt8.toNat_ofNat', show (a + (i : Int) - a).toNat = i by omega]
theorem getM_other {M : List UInt8} (hM : M.length = 8192) (a b n : Int) (h : b + 8 ≤ a ∨ a + 8 ≤ b) : getM (setM M a n) b = getM M b := by
  apply getM_congr
  intro i hi
  rw [memAt_setM hM, if_neg (by omega)]
theorem loadL_other {M : List UInt8} (hM : M.length = 8192) (a b n k : Int) (h : b + k ≤ a ∨ a + 8 ≤ b) : loadL (setM M a n) b k = loadL M b k := by
  apply loadL_congr
  intro i hi
  rw [memAt_setM hM, if_neg (by omega)]
theorem getM_lay {M : List UInt8} (hM : M.length = 8192) (a b : Int) (bs : List UInt8) (h : b + 8 ≤ a ∨ a + bs.length ≤ b) : getM (layL M a bs) b = getM M b := by
  apply getM_congr
  intro i hi
  rw [memAt_layL hM, if_neg (by omega)]
end Go.Proofs.YtjkpapkjlmglbaaDoor
