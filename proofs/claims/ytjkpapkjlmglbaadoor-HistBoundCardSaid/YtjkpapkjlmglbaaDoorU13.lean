/- What stands in the log behind Add: plain laws. -/
import Derived.Test.YtjkpapkjlmglbaaDoorU12
import Derived.Test.YtjkpapkjlmglbaaDoorP1
namespace Go.Proofs.YtjkpapkjlmglbaaDoor
open Go.RowKit
set_option linter.unusedVariables false
set_option linter.unusedSimpArgs false

theorem list_getD_ext {a b : List UInt8} (h : a.length = b.length) (h2 : ∀ i, i < a.length → a.getD i 0 = b.getD i 0) : a = b := by
  apply List.ext_getElem h
  intro i h3 h4
  have := h2 i h3
  simpa [List.getD, List.getElem?_eq_getElem h3, List.getElem?_eq_getElem h4] using this
theorem put2 (n : Nat) : putL (List.replicate 2 0) 0 n 2 = [UInt8.ofNat n, UInt8.ofNat (n / 256)] := by
  unfold putL
  unfold putL
  unfold putL
  simp [List.replicate]
theorem le2 (x y : UInt8) : leN [x, y] 0 2 = x.toNat + y.toNat * 256 := by
  unfold leN
  unfold leN
  unfold leN
  simp [byteZ]
theorem le_put2 (n : Nat) (h : n < 65536) : leN (putL (List.replicate 2 0) 0 n 2) 0 2 = n := by
  rw [put2, le2, UInt8.toNat_ofNat', UInt8.toNat_ofNat']
  omega
theorem addN_len (M s : List UInt8) : (addN M s).length = M.length := by unfold addN; rw [layL_len, layL_len]
theorem addM_len (M l : List UInt8) : (addM M l).length = M.length := addN_len _ _
theorem memAt_addN {M : List UInt8} (hM : M.length = 8192) (s : List UInt8) (hs : s.length ≤ 510) (z : Int) : memAt (addN M s) z = if 5634 ≤ z ∧ z < 5634 + s.length then s.getD (z - 5634).toNat 0 else if 5632 ≤ z ∧ z < 5634 then (putL (List.replicate 2 0) 0 s.length 2).getD (z - 5632).toNat 0 else memAt M z := by
  unfold addN
  rw [memAt_layL (by rw [layL_len]; exact hM), memAt_layL hM, putL_len]
  by_cases c : 5634 ≤ z ∧ z < 5634 + (s.length : Int)
  · rw [if_pos (by omega), if_pos c]
  · rw [if_neg (by omega), if_neg c]
    by_cases d : 5632 ≤ z ∧ z < 5634
    · rw [if_pos (by simp; omega), if_pos d]
    · rw [if_neg (by simp; omega), if_neg d]
theorem logN_add {M : List UInt8} (hM : M.length = 8192) (s : List UInt8) (hs : s.length ≤ 510) : logN (addN M s) = s.length := by
  unfold logN
  have e : loadL (addN M s) 5632 2 = putL (List.replicate 2 0) 0 s.length 2 := by
    apply list_getD_ext
    · rw [loadL_len, putL_len]; rfl
    · intro i hi
      rw [loadL_len] at hi
      have hi2 : i < 2 := by omega
      rw [loadL_getD _ _ _ _ (by omega) (by omega), memAt_addN hM s hs, if_neg (by omega), if_pos (by omega)]
      congr 1
      omega
  rw [e, le_put2 _ (by omega)]
theorem text_add {M : List UInt8} (hM : M.length = 8192) (s : List UInt8) (hs : s.length ≤ 510) (he : ∃ a, s = a ++ [10]) : textV (addN M s) = s := by
  have e : loadL (addN M s) 5634 (s.length : Int) = s := by
    apply list_getD_ext
    · rw [loadL_len]; omega
    · intro i hi
      rw [loadL_len] at hi
      rw [loadL_getD _ _ _ _ (by omega) (by omega), memAt_addN hM s hs, if_pos (by omega)]
      congr 1
      omega
  unfold textV
  rw [logN_add hM s hs, if_neg (by omega), e, if_pos ((suffix_iff s).2 he)]
theorem text_addM {M : List UInt8} (hM : M.length = 8192) (l : List UInt8) : textV (addM M l) = addL (textV M) l :=
  text_add hM _ (addL_len _ _) (addL_end (textV_ended M) l)
/-- Nothing outside the log changes. -/
theorem memAt_addM {M : List UInt8} (hM : M.length = 8192) (l : List UInt8) (z : Int) (hz : ¬ (5632 ≤ z ∧ z < 6144)) : memAt (addM M l) z = memAt M z := by
  have h := addL_len (textV M) l
  unfold addM
  rw [memAt_addN hM _ h, if_neg (by omega), if_neg (by omega)]
/-- Lines behind a line more. -/
theorem lines_addM {M : List UInt8} (hM : M.length = 8192) (l : List UInt8) : ∃ j, j ≤ (linesL (textV M)).length ∧ linesL (textV (addM M l)) = (linesL (textV M)).drop j ++ [ownL l] := by
  obtain ⟨j, h1, _, h3⟩ := addL_lines (textV_ended M) l
  exact ⟨j, h1, by rw [text_addM hM]; exact h3⟩
theorem size_addM {M : List UInt8} (hM : M.length = 8192) (l : List UInt8) : sizeL (linesL (textV (addM M l))) ≤ 510 ∧ 1 ≤ sizeL (linesL (textV (addM M l))) := by
  unfold sizeL
  rw [join_lines (textV_ended _), text_addM hM]
  obtain ⟨a, ha⟩ := addL_end (textV_ended M) l
  have h := addL_len (textV M) l
  refine ⟨h, ?_⟩
  rw [ha]; simp
/-- The log laid back. -/
theorem lay_back {M N : List UInt8} (hM : M.length = 8192) (hN : N.length = 8192) (h : ∀ z : Int, ¬ (5632 ≤ z ∧ z < 6144) → memAt M z = memAt N z) : layL M 5632 (loadL N 5632 512) = N := by
  refine mem_ext (by rw [layL_len]; exact hM) hN fun z => ?_
  have hl : (loadL N 5632 512).length = 512 := by rw [loadL_len]; rfl
  rw [memAt_layL hM, hl]
  by_cases hz : 5632 ≤ z ∧ z < 6144
  · rw [if_pos (by omega), loadL_getD N 5632 512 _ (by omega) (by omega)]
    exact congrArg (memAt N) (by omega)
  · rw [if_neg (by omega)]
    exact h z hz
theorem text_zero : textV (flatL []) = [] := by
  have hz : ∀ z, memAt (flatL []) z = 0 := fun z => by
    unfold memAt
    split
    · show (List.replicate 8192 (0 : UInt8)).getD z.toNat 0 = 0
      rw [List.getD_eq_getElem?_getD, List.getElem?_replicate]
      split <;> rfl
    · rfl
  have e : loadL (flatL []) 5632 2 = [0, 0] := by
    apply list_getD_ext
    · rw [loadL_len]; rfl
    · intro i hi
      rw [loadL_len] at hi
      have hi2 : i < 2 := by omega
      rw [loadL_getD _ _ _ _ (by omega) (by omega), hz]
      have : i = 0 ∨ i = 1 := by omega
      rcases this with rfl | rfl <;> rfl
  have hn : logN (flatL []) = 0 := by unfold logN; rw [e]; exact le2 0 0
  unfold textV
  rw [hn]
  have hl : loadL (flatL []) 5634 ((0 : Nat) : Int) = [] := by apply List.eq_nil_of_length_eq_zero; rw [loadL_len]; rfl
  rw [hl]
  rfl
theorem awake_hist : linesL (textV (addM (addM (flatL []) [97]) [98])) = [[97], [98]] ∧ showL [[97], [98]] = [49, 58, 32, 97, 10, 50, 58, 32, 98, 10] := by
  constructor
  · rw [text_addM (by rw [addM_len]; exact flatL_len []), text_addM (flatL_len []), text_zero]
    have e1 : addL [] [97] = [97, 10] := fitL_done _ (by decide)
    have e2 : addL [97, 10] [98] = [97, 10, 98, 10] := fitL_done _ (by decide)
    rw [e1, e2]
    rfl
  · have i1 : Lib.itoa 1 = [49] := by have := Lib.itoa_nonneg 1; rw [Lib.decDigits_one (by omega)] at this; exact this
    have i2 : Lib.itoa 2 = [50] := by have := Lib.itoa_nonneg 2; rw [Lib.decDigits_one (by omega)] at this; exact this
    show itemL 0 [97] ++ (itemL 1 [98] ++ []) = _
    unfold itemL
    rw [show (((0 : Nat) : Int) + 1) = 1 from rfl, show (((1 : Nat) : Int) + 1) = 2 from rfl, i1, i2]
    rfl
end Go.Proofs.YtjkpapkjlmglbaaDoor
