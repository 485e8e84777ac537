/- The stacks: what is laid is taken again: plain. -/
import Derived.Test.YtjeelccdbhhfjaaT10
namespace Go.Proofs.Ytjeelccdbhhfjaa
open Go.RowKit
set_option linter.unusedVariables false
set_option linter.unusedSimpArgs false

/-- The stack holds these cells, the bottom first. -/
structure StkIs (M : List UInt8) (a lo hi : Int) (L : List Int) : Prop where
  len : M.length = 8192
  top : topL M a lo hi = hi - 8 * (L.length : Int)
  small : L.length ≤ 32
  cell : ∀ (j : Nat) (x : Int), L[j]? = some x → getM M (hi - 8 * ((j : Int) + 1)) = x ∧ isI x
theorem topL_set {M : List UInt8} (hM : M.length = 8192) {a lo hi : Int} (h : Sk a lo hi) (x : Int) (h1 : lo ≤ x) (h2 : x ≤ hi) (h3 : x % 8 = 0) : topL (setM M a x) a lo hi = x := by
  have hb := topL_bd (M := M) h
  have e : getM (setM M a x) a = x := getM_setM hM a x (by unfold isI; omega) (by omega)
  unfold topL
  rw [e, if_pos ⟨h3, h1, h2⟩]
theorem topL_congr {M N : List UInt8} {a lo hi : Int} (h : getM M a = getM N a) : topL M a lo hi = topL N a lo hi := by
  unfold topL; rw [h]
theorem StkIs.push {M : List UInt8} {a lo hi : Int} {L : List Int} (h : StkIs M a lo hi L) (hk : Sk a lo hi) (n : Int) (hn : isI n) (hl : L.length < 32) : StkIs (pushM M a lo hi n) a lo hi (L ++ [n]) ∧ ∀ ov, pushT M a lo hi ov = 0 := by
  obtain ⟨b1, b2, b3, b4, b5, b6, b7, b8, b9⟩ := topL_bd (M := M) hk
  have ht := h.top
  have hc := h.cell
  have hM := h.len
  unfold pushM pushT
  generalize topL M a lo hi = t at *
  rw [if_neg (by omega)]
  refine ⟨⟨by rw [setM_len, setM_len]; exact hM, ?_, by simp; omega, fun j x hj => ?_⟩, fun ov => by rw [if_neg (by omega)]⟩
  · rw [topL_set (by rw [setM_len]; exact hM) hk _ (by omega) (by omega) (by omega)]
    simp; omega
  · by_cases hjl : j < L.length
    · rw [List.getElem?_append_left hjl] at hj
      obtain ⟨e1, e2⟩ := hc j x hj
      refine ⟨?_, e2⟩
      rw [getM_other (by rw [setM_len]; exact hM) _ _ _ (by omega), getM_other hM _ _ _ (by omega)]
      exact e1
    · rw [List.getElem?_append_right (by omega)] at hj
      have hjj : j - L.length = 0 := by
        have := (List.getElem?_eq_some_iff.1 hj).1
        simp at this; omega
      rw [hjj] at hj
      simp at hj
      subst hj
      refine ⟨?_, hn⟩
      have e : hi - 8 * ((j : Int) + 1) = t - 8 := by omega
      rw [e, getM_other (by rw [setM_len]; exact hM) _ _ _ (by omega), getM_setM hM _ _ hn (by omega)]
theorem StkIs.full {M : List UInt8} {a lo hi : Int} {L : List Int} (h : StkIs M a lo hi L) (hk : Sk a lo hi) (n : Int) (hl : L.length = 32) : pushM M a lo hi n = M ∧ ∀ ov, pushT M a lo hi ov = ov := by
  obtain ⟨b1, b2, b3, b4, b5, b6, b7, b8, b9⟩ := topL_bd (M := M) hk
  have ht := h.top
  unfold pushM pushT
  generalize topL M a lo hi = t at *
  exact ⟨by rw [if_pos (by omega)], fun ov => by rw [if_pos (by omega)]⟩
theorem StkIs.dep {M : List UInt8} {a lo hi : Int} {L : List Int} (h : StkIs M a lo hi L) : depL M a lo hi = (L.length : Int) := by
  unfold depL; rw [h.top]; omega
theorem StkIs.pop {M : List UInt8} {a lo hi : Int} {L : List Int} {n : Int} (h : StkIs M a lo hi (L ++ [n])) (hk : Sk a lo hi) : StkIs (popM M a lo hi) a lo hi L ∧ peekV M a lo hi 0 = n ∧ ∀ un, peekT M a lo hi un 0 = 0 := by
  obtain ⟨b1, b2, b3, b4, b5, b6, b7, b8, b9⟩ := topL_bd (M := M) hk
  have hd := h.dep
  have ht := h.top
  have hc := h.cell
  have hM := h.len
  have hs := h.small
  simp only [List.length_append, List.length_cons, List.length_nil] at hd ht hs
  unfold popM peekV peekT
  rw [hd, if_pos (by omega), if_pos (by omega)]
  generalize topL M a lo hi = t at *
  refine ⟨⟨by rw [setM_len]; exact hM, ?_, by omega, fun j x hj => ?_⟩, ?_, fun un => by rw [if_pos (by omega)]⟩
  · rw [topL_set hM hk _ (by omega) (by omega) (by omega)]; omega
  · have hjl := (List.getElem?_eq_some_iff.1 hj).1
    obtain ⟨e1, e2⟩ := hc j x (by rw [List.getElem?_append_left hjl]; exact hj)
    exact ⟨by rw [getM_other hM _ _ _ (by omega)]; exact e1, e2⟩
  · obtain ⟨e1, _⟩ := hc L.length n (by simp)
    have e : t + 8 * 0 = hi - 8 * ((L.length : Int) + 1) := by omega
    rw [e]; exact e1
theorem StkIs.none {M : List UInt8} {a lo hi : Int} (h : StkIs M a lo hi []) : popM M a lo hi = M ∧ peekV M a lo hi 0 = 0 ∧ ∀ un, peekT M a lo hi un 0 = un := by
  have hd := h.dep
  simp at hd
  unfold popM peekV peekT
  rw [hd]
  exact ⟨if_neg (by omega), if_neg (by omega), fun un => if_neg (by omega)⟩
/-- The other stack's places are apart. -/
theorem StkIs.other {M N : List UInt8} {a lo hi : Int} {L : List Int} (h : StkIs M a lo hi L) (hk : Sk a lo hi) (hN : N.length = 8192) (h1 : getM N a = getM M a) (h2 : ∀ b, lo ≤ b → b + 8 ≤ hi → getM N b = getM M b) : StkIs N a lo hi L := by
  obtain ⟨b1, b2, b3, b4, b5, b6, b7, b8, b9⟩ := topL_bd (M := M) hk
  refine ⟨hN, by rw [topL_congr h1]; exact h.top, h.small, fun j x hj => ?_⟩
  have hjl := (List.getElem?_eq_some_iff.1 hj).1
  have hs := h.small
  rw [h2 _ (by omega) (by omega)]
  exact h.cell j x hj
theorem getM_push {M : List UInt8} (hM : M.length = 8192) {a lo hi : Int} (hk : Sk a lo hi) (n b : Int) (h1 : b + 8 ≤ a ∨ a + 8 ≤ b) (h2 : b + 8 ≤ lo ∨ hi ≤ b) : getM (pushM M a lo hi n) b = getM M b := by
  obtain ⟨b1, b2, b3, b4, b5, b6, b7, b8, b9⟩ := topL_bd (M := M) hk
  unfold pushM
  generalize topL M a lo hi = t at *
  split
  · rfl
  · rw [getM_other (by rw [setM_len]; exact hM) _ _ _ (by omega), getM_other hM _ _ _ (by omega)]
theorem getM_pop {M : List UInt8} (hM : M.length = 8192) {a lo hi : Int} (b : Int) (h1 : b + 8 ≤ a ∨ a + 8 ≤ b) : getM (popM M a lo hi) b = getM M b := by
  unfold popM
  split
  · rw [getM_other hM _ _ _ (by omega)]
  · rfl
theorem StkIs.pushBack {M : List UInt8} {L : List Int} (h : StkIs M 32 256 512 L) (n : Int) : StkIs (pushM M 40 512 768 n) 32 256 512 L :=
  h.other (by unfold Sk; omega) (pushM_len _ _ _ _ _ h.len) (getM_push h.len (by unfold Sk; omega) n 32 (by omega) (by omega)) (fun b h1 h2 => getM_push h.len (by unfold Sk; omega) n b (by omega) (by omega))
theorem StkIs.pushData {M : List UInt8} {L : List Int} (h : StkIs M 40 512 768 L) (n : Int) : StkIs (pushM M 32 256 512 n) 40 512 768 L :=
  h.other (by unfold Sk; omega) (pushM_len _ _ _ _ _ h.len) (getM_push h.len (by unfold Sk; omega) n 40 (by omega) (by omega)) (fun b h1 h2 => getM_push h.len (by unfold Sk; omega) n b (by omega) (by omega))
theorem StkIs.popData {M : List UInt8} {L : List Int} (h : StkIs M 40 512 768 L) : StkIs (popM M 32 256 512) 40 512 768 L :=
  h.other (by unfold Sk; omega) (popM_len _ _ _ _ h.len) (getM_pop h.len 40 (by omega)) (fun b h1 h2 => getM_pop h.len b (by omega))
theorem StkIs.popBack {M : List UInt8} {L : List Int} (h : StkIs M 32 256 512 L) : StkIs (popM M 40 512 768) 32 256 512 L :=
  h.other (by unfold Sk; omega) (popM_len _ _ _ _ h.len) (getM_pop h.len 32 (by omega)) (fun b h1 h2 => getM_pop h.len b (by omega))
theorem stk_clear {M : List UInt8} (hM : M.length = 8192) : StkIs (clearM M) 32 256 512 [] ∧ StkIs (clearM M) 40 512 768 [] := by
  have hl : (clearM M).length = 8192 := by unfold clearM; rw [setM_len, setM_len]; exact hM
  have h1 : (setM M 32 512).length = 8192 := by rw [setM_len]; exact hM
  refine ⟨⟨hl, ?_, by simp, fun j x hj => by simp at hj⟩, ⟨hl, ?_, by simp, fun j x hj => by simp at hj⟩⟩
  · unfold clearM
    rw [topL_congr (getM_other h1 40 32 768 (by omega)), topL_set hM (by unfold Sk; omega) _ (by omega) (by omega) (by omega)]; simp
  · unfold clearM
    rw [topL_set h1 (by unfold Sk; omega) _ (by omega) (by omega) (by omega)]; simp
theorem zero_get (a : Int) : getM (flatL []) a = 0 := by
  have hz : flatL [] = List.replicate 8192 0 := by unfold flatL; rw [List.take_nil, List.nil_append, List.length_nil, Nat.zero_min, List.drop_zero]
  have hl : ∀ z, memAt (flatL []) z = 0 := fun z => by
    rw [hz]; unfold memAt
    split
    · rw [List.getD_eq_getElem?_getD, List.getElem?_replicate]; split <;> rfl
    · rfl
  have hb : ∀ z, byteZ (loadL (flatL []) a 8) z = 0 := fun z => by
    unfold byteZ
    split
    · rename_i h
      rw [loadL_len] at h
      have e := loadL_getD (flatL []) a 8 z.toNat (by omega) (by omega)
      rw [e, hl]; rfl
    · rfl
  have hn : ∀ k, leN (loadL (flatL []) a 8) 0 k = 0 := fun k => by
    induction k with
    | zero => rfl
    | succ k ih => show leN _ _ k + byteZ _ _ * _ = 0; rw [ih, hb]; simp
  unfold getM cellL
  rw [hn]; decide
theorem stk_zero : StkIs (flatL []) 32 256 512 [] ∧ StkIs (flatL []) 40 512 768 [] := by
  have hl := flatL_len []
  refine ⟨⟨hl, ?_, by simp, fun j x hj => by simp at hj⟩, ⟨hl, ?_, by simp, fun j x hj => by simp at hj⟩⟩
  · unfold topL; rw [zero_get]; rfl
  · unfold topL; rw [zero_get]; rfl
end Go.Proofs.Ytjeelccdbhhfjaa
