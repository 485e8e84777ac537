/- Plain laws: cells that are laid one behind the other. -/
import Derived.Test.YtjihhojlakapnaaDoorC2
import Derived.Test.YtjihhojlakapnaaDoorP1
namespace Go.Proofs.YtjihhojlakapnaaDoor
open Go.RowKit
set_option linter.unusedVariables false
set_option linter.unusedSimpArgs false

theorem u8_congr {a b : Nat} (h : a % 256 = b % 256) : UInt8.ofNat a = UInt8.ofNat b := by
  apply UInt8.toNat_inj.1
  rw [UInt8.toNat_ofNat', UInt8.toNat_ofNat']
  exact h
theorem byteK_is (n : Int) (j : Nat) (hj : j < 8) : byteK n j = UInt8.ofNat ((IntKind.u64.wrap n).toNat / 2 ^ (8 * j)) := by
  unfold byteK restK
  apply u8_congr
  rw [IntKind.wrap_u64]
  have h : j = 0 ∨ j = 1 ∨ j = 2 ∨ j = 3 ∨ j = 4 ∨ j = 5 ∨ j = 6 ∨ j = 7 := by omega
  rcases h with rfl | rfl | rfl | rfl | rfl | rfl | rfl | rfl <;> simp only [Nat.mul_zero, Nat.mul_one, Nat.reduceMul, Nat.reducePow, Int.reducePow, Int.pow_succ, Int.pow_zero, Int.one_mul, Int.reduceMul] <;> omega
theorem bytesB_getD (n : Int) (j : Nat) (hj : j < 8) : (bytesB n 8).getD j 0 = byteK n j := by
  unfold bytesB
  rw [List.getD_eq_getElem?_getD, List.getElem?_map, List.getElem?_range hj]
  rfl
theorem bytesB_cell (n : Int) : bytesB n 8 = putCellL (List.replicate 8 0) 0 n := by
  apply List.ext_getElem?
  intro j
  by_cases hj : j < 8
  · have h1 := bytesB_getD n j hj
    have h2 := cellBytes_getD n j hj
    rw [byteK_is n j hj, ← h2] at h1
    rw [List.getD_eq_getElem?_getD, List.getD_eq_getElem?_getD, List.getElem?_eq_getElem (by rw [bytesB_len]; exact hj), List.getElem?_eq_getElem (by rw [cellBytes_len]; exact hj)] at h1
    rw [List.getElem?_eq_getElem (by rw [bytesB_len]; exact hj), List.getElem?_eq_getElem (by rw [cellBytes_len]; exact hj)]
    exact congrArg some h1
  · rw [List.getElem?_eq_none (by rw [bytesB_len]; omega), List.getElem?_eq_none (by rw [cellBytes_len]; omega)]
theorem lay_append {M : List UInt8} (hM : M.length = 8192) (a : Int) (x y : List UInt8) : layL M a (x ++ y) = layL (layL M a x) (a + x.length) y := by
  refine mem_ext (by rw [layL_len]; exact hM) (by rw [layL_len, layL_len]; exact hM) fun z => ?_
  rw [memAt_layL hM, memAt_layL (by rw [layL_len]; exact hM), memAt_layL hM, List.length_append]
  by_cases h1 : a + x.length ≤ z ∧ z < a + x.length + y.length ∧ 0 ≤ z ∧ z < 8192
  · rw [if_pos h1, if_pos (by omega), List.getD_eq_getElem?_getD, List.getElem?_append_right (by omega), List.getD_eq_getElem?_getD]
    congr 2
    omega
  · rw [if_neg h1]
    by_cases h2 : a ≤ z ∧ z < a + x.length ∧ 0 ≤ z ∧ z < 8192
    · rw [if_pos h2, if_pos (by omega), List.getD_eq_getElem?_getD, List.getElem?_append_left (by omega), List.getD_eq_getElem?_getD]
    · rw [if_neg h2, if_neg (by omega)]
theorem lay_nil (M : List UInt8) (a : Int) : layL M a [] = M := rfl
theorem lay_cells {M : List UInt8} (hM : M.length = 8192) (a x : Int) (l : List Int) : layL M a (cellsB (x :: l)) = layL (setM M a x) (a + 8) (cellsB l) := by
  have : cellsB (x :: l) = bytesB x 8 ++ cellsB l := rfl
  rw [this, lay_append hM, bytesB_cell, cellBytes_len]
  rfl
theorem lay_cell1 {M : List UInt8} (hM : M.length = 8192) (a x : Int) : layL M a (cellsB [x]) = setM M a x := lay_cells hM a x []
theorem lay_cell2 {M : List UInt8} (hM : M.length = 8192) (a x y : Int) : layL M a (cellsB [x, y]) = setM (setM M a x) (a + 8) y := by
  rw [lay_cells hM, lay_cell1 (by rw [setM_len]; exact hM)]
theorem cz_get (a : Int) : getM (flatL []) a = 0 := by
  have hz : flatL [] = List.replicate 8192 0 := by unfold flatL; rw [List.take_nil, List.nil_append, List.length_nil, Nat.zero_min, List.drop_zero]
  have hl : ∀ z, memAt (flatL []) z = 0 := fun z => by
    rw [hz]; unfold memAt
    split
    · rw [List.getD_eq_getElem?_getD, List.getElem?_replicate]; split <;> rfl
    · rfl
  have hb : ∀ z, byteZ (loadL (flatL []) a 8) z = 0 := fun z => by
    unfold byteZ
    split
    · rename_i h
      rw [loadL_len] at h
      have e := loadL_getD (flatL []) a 8 z.toNat (by omega) (by omega)
      rw [e, hl]; rfl
    · rfl
  have hn : ∀ k, leN (loadL (flatL []) a 8) 0 k = 0 := fun k => by
    induction k with
    | zero => rfl
    | succ k ih => show leN _ _ k + byteZ _ _ * _ = 0; rw [ih, hb]; simp
  unfold getM cellL
  rw [hn]; decide
theorem cz_here : hereL (flatL []) = 1536 := by
  have h := cz_get 0
  unfold hereL
  generalize flatL [] = M at *
  rw [h]
  exact if_neg (by decide)
theorem here_at {M : List UInt8} {h : Int} (hg : getM M 0 = h) (h1 : 1536 ≤ h) (h2 : h ≤ 5632) : hereL M = h := by
  unfold hereL
  rw [hg, if_pos ⟨h1, h2⟩]
/-- The first k numbers of l stand as literals, from the dictionary's foot on. -/
structure Lits (M : List UInt8) (l : List Int) (k : Nat) : Prop where
  len : M.length = 8192
  here : hereL M = 1536 + 16 * (k : Int)
  at0 : ∀ j : Nat, j < k → getM M (1536 + 16 * (j : Int)) = 16
  at1 : ∀ (j : Nat) (x : Int), j < k → l[j]? = some x → getM M (1536 + 16 * (j : Int) + 8) = x
theorem Lits.zero (l : List Int) : Lits (flatL []) l 0 := ⟨flatL_len [], by
  rw [cz_here]; rfl, fun j h => by omega, fun j x h => by omega⟩
theorem Lits.step {M : List UInt8} {l : List Int} {k : Nat} {x : Int} (h : Lits M l k) (hk : k < 100) (hx : l[k]? = some x) (hi : isI x) : lyV M (cellsB [16, x]) = 0 ∧ Lits (lyM M (cellsB [16, x])) l (k + 1) := by
  have hM := h.len
  have hh := h.here
  have hv : lyV M (cellsB [16, x]) = 0 := by
    unfold lyV
    rw [cellsB_len, hh, if_neg (by omega), if_neg (by simp; omega)]
  refine ⟨hv, ?_⟩
  unfold lyM
  rw [if_pos hv, cellsB_len, hh, lay_cell2 hM]
  have g16 : isI 16 := by unfold isI; omega
  obtain ⟨A, hA⟩ : ∃ A, A = setM M (1536 + 16 * (k : Int)) 16 := ⟨_, rfl⟩
  have lA : A.length = 8192 := by rw [hA, setM_len]; exact hM
  obtain ⟨B, hB⟩ : ∃ B, B = setM A (1536 + 16 * (k : Int) + 8) x := ⟨_, rfl⟩
  have lB : B.length = 8192 := by rw [hB, setM_len]; exact lA
  rw [← hA, ← hB]
  obtain ⟨n, hn⟩ : ∃ n, n = 1536 + 16 * (k : Int) + ((8 * ([16, x] : List Int).length : Nat) : Int) := ⟨_, rfl⟩
  have hn2 : n = 1536 + 16 * ((k + 1 : Nat) : Int) := by rw [hn]; simp; omega
  rw [← hn]
  have gA : ∀ b : Int, b + 8 ≤ 1536 + 16 * (k : Int) → getM A b = getM M b := fun b hb => by rw [hA]; exact getM_other hM _ _ _ (by omega)
  have gB : ∀ b : Int, b + 8 ≤ 1536 + 16 * (k : Int) + 8 → getM B b = getM A b := fun b hb => by rw [hB]; exact getM_other lA _ _ _ (by omega)
  have gC : ∀ b : Int, 8 ≤ b → getM (setM B 0 n) b = getM B b := fun b hb => getM_other lB _ _ _ (by omega)
  refine ⟨by rw [setM_len]; exact lB, ?_, fun j hj => ?_, fun j y hj hy => ?_⟩
  · rw [here_at (h := n) (getM_setM lB 0 n (by unfold isI; omega) (by omega)) (by omega) (by omega), hn2]
  · rw [gC _ (by omega), gB _ (by omega)]
    by_cases e : j = k
    · subst e
      rw [hA]
      exact getM_setM hM _ _ g16 (by omega)
    · rw [gA _ (by omega)]
      exact h.at0 j (by omega)
  · rw [gC _ (by omega)]
    by_cases e : j = k
    · subst e
      rw [hx] at hy
      cases hy
      rw [hB]
      exact getM_setM lA _ _ hi (by omega)
    · rw [gB _ (by omega), gA _ (by omega)]
      exact h.at1 j y (by omega) hy
end Go.Proofs.YtjihhojlakapnaaDoor
