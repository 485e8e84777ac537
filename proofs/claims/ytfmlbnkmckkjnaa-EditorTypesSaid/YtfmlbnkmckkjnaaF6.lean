/- Both packages' keys are alike. -/
import Derived.Test.YtfmlbnkmckkjnaaF4
import Derived.Test.YtfmlbnkmckkjnaaF5
namespace Go.Proofs.Ytfmlbnkmckkjnaa
open Go.RowKit
set_option linter.unusedVariables false
set_option linter.unusedSimpArgs false

theorem swp_at (P : List UInt8) (x y : UInt8) (R : List UInt8) : swp (P ++ [x]) (y :: R) = (P ++ [y, x], R) := by
  unfold swp
  have e : (P ++ [x]).length - 1 = P.length := by simp
  rw [e]
  simp [List.set_append, List.getD_eq_getElem?_getD]
theorem set_at (P : List UInt8) (x y : UInt8) (R : List UInt8) : ((P ++ x :: y :: R).set P.length y).set (P.length + 1) x = P ++ y :: x :: R := by
  simp [List.set_append]
/-- A list, parted around two neighbours. -/
theorem part2 (t : List UInt8) (p : Nat) (h : p + 1 < t.length) : ∃ P x y R, t = P ++ x :: y :: R ∧ P.length = p :=
  ⟨t.take p, t[p], t[p + 1], t.drop (p + 2), by
    rw [← List.drop_eq_getElem_cons (by omega), ← List.drop_eq_getElem_cons (by omega), List.take_append_drop], by simp; omega⟩

set_option maxHeartbeats 1000000 in
theorem rKey_swap (w : World) (t : List UInt8) (a : Int) (k : Nat) (hk : k = clampN t a) (ht : t.length ≤ 4000) :
    Calls Try.prog 10 #[vw t a false, .int .u8 20] w fun e w' => e = .returned (vw ((swapL (t.take k) (t.drop k)).1 ++ (swapL (t.take k) (t.drop k)).2) (swapL (t.take k) (t.drop k)).1.length false) ∧ Below w.heap.size w w' := by
  have hkt : k ≤ t.length := by rw [hk]; exact clampN_le t a
  have hA : (t.take k).length = k := by simp; omega
  have hZ : (t.drop k).length = t.length - k := by simp
  by_cases h0 : k = 0
  · have e : swapL (t.take k) (t.drop k) = (t.take k, t.drop k) := by unfold swapL; rw [if_pos (Or.inl (by rw [hA, h0]))]
    rw [e]
    simp only [hA, List.take_append_drop]
    by_cases h1 : 0 < t.length
    · exact rKey_20a w t a k hk ht h0 h1
    · exact rKey_20b w t a k hk ht h0 (by omega)
  · by_cases h1 : k = t.length
    · by_cases h2 : k = 1
      · have e : swapL (t.take k) (t.drop k) = (t.take k, t.drop k) := by unfold swapL; rw [if_pos (Or.inr ⟨by rw [hZ]; omega, by rw [hA, h2]⟩)]
        rw [e]
        simp only [hA, List.take_append_drop]
        exact rKey_20c w t a k hk ht h2 (by omega)
      · obtain ⟨P, x, y, R, hPt, hP⟩ := part2 t (k - 2) (by omega)
        have hR : R = [] := by
          have := congrArg List.length hPt
          simp at this
          exact List.length_eq_zero_iff.1 (by omega)
        subst hR
        have e1 : t.take k = P ++ [x] ++ [y] := by rw [List.take_of_length_le (by omega), hPt]; simp
        have e2 : t.drop k = [] := List.drop_eq_nil_of_le (by omega)
        have e : swapL (t.take k) (t.drop k) = (P ++ [y, x], []) := by
          unfold swapL
          rw [if_neg (by rw [hA, hZ]; omega), if_pos (by rw [hZ]; omega), hA, e1]
          rw [List.take_append_of_le_length (by simp; omega), List.drop_append_of_le_length (by simp; omega), List.take_of_length_le (by simp; omega), List.drop_eq_nil_of_le (by simp; omega), List.nil_append]
          exact swp_at P x y []
        rw [e]
        have hx : t[k - 2]? = some x := by rw [hPt, ← hP]; simp
        have hy : t[k - 2 + 1]? = some y := by rw [hPt, ← hP]; simp
        have hT : (t.set (k - 2) y).set (k - 2 + 1) x = P ++ [y, x] ++ [] := by
          rw [hPt, ← hP, set_at]; simp
        have h := rKey_20e w t a k hk ht (k - 2) (k - 2 + 1) rfl (by omega) h1 x y hx hy _ hT
        have hl : (P ++ [y, x]).length = k := by simp; omega
        simp only [hl]
        exact h
    · obtain ⟨P, x, y, R, hPt, hP⟩ := part2 t (k - 1) (by omega)
      have e1 : t.take k = P ++ [x] := by
        have hk2 : k = (P ++ [x]).length := by simp; omega
        rw [hPt, show P ++ x :: y :: R = (P ++ [x]) ++ (y :: R) by simp, hk2, List.take_left]
      have e2 : t.drop k = y :: R := by
        have hk2 : k = (P ++ [x]).length := by simp; omega
        rw [hPt, show P ++ x :: y :: R = (P ++ [x]) ++ (y :: R) by simp, hk2, List.drop_left]
      have e : swapL (t.take k) (t.drop k) = (P ++ [y, x], R) := by
        unfold swapL
        rw [if_neg (by rw [hA, hZ]; omega), if_neg (by rw [hZ]; omega), e1, e2]
        exact swp_at P x y R
      rw [e]
      have hx : t[k - 1]? = some x := by rw [hPt, ← hP]; simp
      have hy : t[k - 1 + 1]? = some y := by rw [hPt, ← hP]; simp
      have hT : (t.set (k - 1) y).set (k - 1 + 1) x = P ++ [y, x] ++ R := by
        rw [hPt, ← hP, set_at]; simp
      have h := rKey_20 w t a k hk ht (k - 1) (k - 1 + 1) rfl (by omega) (by omega) x y hx hy _ hT (k + 1) rfl
      have hl : (P ++ [y, x]).length = k + 1 := by simp; omega
      simp only [hl]
      exact h

set_option maxHeartbeats 1000000 in
theorem rKey_not (w : World) (t : List UInt8) (a : Int) (k : Nat) (hk : k = clampN t a) (ht : t.length ≤ 4000) (x : Nat) (hno : ¬ (32 ≤ x ∧ x ≤ 126)) (n10 : ¬ x = 10) (n13 : ¬ x = 13) :
    Calls Try.prog 10 #[vw t a false, .int .u8 (x : Int)] w fun e w' => e = .returned (vw ((keyL (x : Int) (t.take k) (t.drop k)).1 ++ (keyL (x : Int) (t.take k) (t.drop k)).2) (keyL (x : Int) (t.take k) (t.drop k)).1.length false) ∧ Below w.heap.size w w' := by
  have hkt : k ≤ t.length := by rw [hk]; exact clampN_le t a
  have hA : (t.take k).length = k := by simp; omega
  have hZ : (t.drop k).length = t.length - k := by simp
  have del : ∀ e, e = (List.take ((t.take k).length - 1) (t.take k), t.drop k) → e.1 ++ e.2 = t.take (k - 1) ++ t.drop k ∧ e.1.length = k - 1 := by
    rintro e rfl
    refine ⟨?_, ?_⟩
    · show List.take ((t.take k).length - 1) (t.take k) ++ t.drop k = _
      rw [hA, List.take_take, Nat.min_eq_left (by omega)]
    · show (List.take ((t.take k).length - 1) (t.take k)).length = _
      rw [hA, List.length_take, hA]; omega
  by_cases n8 : x = 8
  · subst n8
    obtain ⟨h1, h2⟩ := del (keyL ((8 : Nat) : Int) (t.take k) (t.drop k)) rfl
    rw [h1, h2]
    by_cases h0 : 0 < k
    · exact rKey_8 w t a k hk ht h0 _ _ rfl rfl
    · have h := rKey_8n w t a k hk ht h0
      have e0 : k = 0 := by omega
      rw [e0] at h ⊢
      exact h
  by_cases n127 : x = 127
  · subst n127
    obtain ⟨h1, h2⟩ := del (keyL ((127 : Nat) : Int) (t.take k) (t.drop k)) rfl
    rw [h1, h2]
    by_cases h0 : 0 < k
    · exact rKey_127 w t a k hk ht h0 _ _ rfl rfl
    · have h := rKey_127n w t a k hk ht h0
      have e0 : k = 0 := by omega
      rw [e0] at h ⊢
      exact h
  by_cases n4 : x = 4
  · subst n4
    have e : keyL ((4 : Nat) : Int) (t.take k) (t.drop k) = (t.take k, (t.drop k).drop 1) := rfl
    rw [e]
    simp only [hA, List.drop_drop]
    by_cases h0 : k < t.length
    · exact rKey_4 w t a k hk ht h0 _ rfl
    · have h := rKey_4n w t a k hk ht h0
      have e0 : t.take k ++ t.drop (k + 1) = t := by rw [List.take_of_length_le (by omega), List.drop_eq_nil_of_le (by omega), List.append_nil]
      rw [e0]
      exact h
  by_cases n2 : x = 2
  · subst n2
    have e : keyL ((2 : Nat) : Int) (t.take k) (t.drop k) = ((t.take k).take ((t.take k).length - 1), (t.take k).drop ((t.take k).length - 1) ++ t.drop k) := rfl
    rw [e]
    have e2 : ((t.take k).take ((t.take k).length - 1)).length = k - 1 := by rw [List.length_take, hA]; omega
    have e3 : (t.take k).take ((t.take k).length - 1) ++ ((t.take k).drop ((t.take k).length - 1) ++ t.drop k) = t := by rw [← List.append_assoc, List.take_append_drop, List.take_append_drop]
    simp only [e2, e3]
    exact rKey_2 w t a k hk ht _ rfl
  by_cases n6 : x = 6
  · subst n6
    have e : keyL ((6 : Nat) : Int) (t.take k) (t.drop k) = (t.take k ++ (t.drop k).take 1, (t.drop k).drop 1) := rfl
    rw [e]
    have e2 : (t.take k ++ (t.drop k).take 1).length = min (k + 1) t.length := by rw [List.length_append, hA, List.length_take, hZ]; omega
    have e3 : t.take k ++ (t.drop k).take 1 ++ (t.drop k).drop 1 = t := by rw [List.append_assoc, List.take_append_drop, List.take_append_drop]
    simp only [e2, e3]
    exact rKey_6 w t a k hk ht _ rfl
  by_cases n1 : x = 1
  · subst n1
    have e : keyL ((1 : Nat) : Int) (t.take k) (t.drop k) = ([], t.take k ++ t.drop k) := rfl
    rw [e]
    simp only [List.take_append_drop, List.nil_append]
    exact rKey_1 w t a k hk ht
  by_cases n5 : x = 5
  · subst n5
    have e : keyL ((5 : Nat) : Int) (t.take k) (t.drop k) = (t.take k ++ t.drop k, []) := rfl
    rw [e]
    simp only [List.take_append_drop, List.append_nil]
    exact rKey_5 w t a k hk ht
  by_cases n11 : x = 11
  · subst n11
    have e : keyL ((11 : Nat) : Int) (t.take k) (t.drop k) = (t.take k, []) := rfl
    rw [e]
    simp only [List.append_nil, hA]
    exact rKey_11 w t a k hk ht _ rfl
  by_cases n21 : x = 21
  · subst n21
    have e : keyL ((21 : Nat) : Int) (t.take k) (t.drop k) = ([], t.drop k) := rfl
    rw [e]
    simp only [List.nil_append]
    exact rKey_21 w t a k hk ht _ rfl
  by_cases n23 : x = 23
  · subst n23
    have e : keyL ((23 : Nat) : Int) (t.take k) (t.drop k) = ((t.take k).take ((t.take k).length - wordN (t.take k)), t.drop k) := rfl
    rw [e]
    have e2 : ((t.take k).take ((t.take k).length - wordN (t.take k))).length = k - wordN (t.take k) := by rw [List.length_take, hA]; omega
    have e3 : (t.take k).take ((t.take k).length - wordN (t.take k)) = t.take (k - wordN (t.take k)) := by rw [hA, List.take_take, Nat.min_eq_left (by omega)]
    rw [e3] at e2
    simp only [e3, e2]
    exact rKey_23 w t a k hk ht _ _ rfl rfl
  by_cases n20 : x = 20
  · subst n20
    exact rKey_swap w t a k hk ht
  have e : keyL (x : Int) (t.take k) (t.drop k) = (t.take k, t.drop k) := by
    unfold keyL
    rw [if_neg (by omega), if_neg (by omega), if_neg (by omega), if_neg (by omega), if_neg (by omega), if_neg (by omega), if_neg (by omega), if_neg (by omega), if_neg (by omega), if_neg (by omega)]
  rw [e]
  simp only [hA, List.take_append_drop]
  by_cases h32 : x < 32
  · exact rKey_lo w t a k hk ht x h32 n8 n127 n4 n2 n6 n1 n5 n11 n21 n23 n20 n10 n13
  · exact rKey_hi w t a k hk ht x (by omega) n8 n127 n4 n2 n6 n1 n5 n11 n21 n23 n20 n10 n13

theorem rKeyF (w : World) (t : List UInt8) (a : Int) (d : Bool) (x : UInt8) (ht : t.length ≤ 4000) :
    Calls Try.prog 10 #[vw t a d, .int .u8 (x.toNat : Int)] w fun e w' => e = .returned (keyV t a d x) ∧ Below w.heap.size w w' := by
  unfold keyV
  cases d with
  | true => exact rKey_done w t a _ rfl ht x
  | false =>
    by_cases h10 : x.toNat = 10
    · rw [h10]; simpa using rKey_10 w t a _ rfl ht
    · by_cases h13 : x.toNat = 13
      · rw [h13]; simpa using rKey_13 w t a _ rfl ht
      · rw [if_neg (by simp), if_neg (by omega)]
        have hk := clampN_le t a
        unfold keyT
        by_cases hc : 32 ≤ x.toNat ∧ x.toNat ≤ 126
        · rw [if_pos hc]
          by_cases hl : t.length < 200
          · rw [if_pos hl]
            have e1 : (t.take (clampN t a) ++ [x]).length = clampN t a + 1 := by simp; omega
            simp only [e1]
            exact rKey_type w t a _ rfl ht x hc.1 hc.2 hl _ _ rfl rfl
          · rw [if_neg hl]
            have e1 : (t.take (clampN t a)).length = clampN t a := by simp; omega
            simp only [e1, List.take_append_drop]
            exact rKey_full w t a _ rfl ht x.toNat hc.1 hc.2 (by omega)
        · rw [if_neg hc]
          exact rKey_not w t a _ rfl ht x.toNat hc h10 h13
end Go.Proofs.Ytfmlbnkmckkjnaa
