/- What a dictionary holds behind a header that is laid, and behind its mark. -/
import Derived.Test.YtcfblcgdjhpdaaaD6
namespace Go.Proofs.Ytcfblcgdjhpdaaa
open Go.RowKit
set_option linter.unusedVariables false
set_option linter.unusedSimpArgs false

theorem rdOk_iff {M : List UInt8} {a : Int} : rdOk M a = true ↔ (a % 8 = 0 ∧ 1536 ≤ a ∧ a < hereL M ∧ rdN M a ≠ 0 ∧ rdXt M a + 8 ≤ hereL M) := decide_eq_true_iff
theorem rdXt_ge {M : List UInt8} {a : Int} (h1 : 1536 ≤ a) (h2 : a ≤ 5632) : a + 9 + (rdN M a : Int) ≤ rdXt M a := by
  have hnn : rdN M a < 32 := Nat.mod_lt _ (by omega)
  unfold rdXt
  have := alignZ_small (a + 9 + (rdN M a : Int)) (by omega)
  omega
theorem rdB_congr {M N : List UInt8} {a : Int} (h : memAt N (a + 8) = memAt M (a + 8)) : rdB N a = rdB M a := by rw [rdB_at, rdB_at, h]
theorem link_congr {M N : List UInt8} {a : Int} (h : ∀ i : Nat, i < 8 → memAt N (a + i) = memAt M (a + i)) : linkL N a = linkL M a := by
  unfold linkL cellL
  have e : leN (loadL N a 40) 0 8 = leN (loadL M a 40) 0 8 := leN_congr 8 (fun i hi => by
    have e1 := byteZ_load N a 40 (0 + (i : Int)) (by omega) (by omega) (by omega)
    have e2 := byteZ_load M a 40 (0 + (i : Int)) (by omega) (by omega) (by omega)
    rw [e1, e2, Int.zero_add, h i hi])
  rw [e]
theorem name_congr {M N : List UInt8} {a : Int} (hn : rdN N a = rdN M a) (h : ∀ i : Nat, i < rdN M a → memAt N (a + 9 + i) = memAt M (a + 9 + i)) : nameL N a = nameL M a := by
  have e1 : (loadL M a 40).length = 40 := by rw [loadL_len]; rfl
  have e2 : (loadL N a 40).length = 40 := by rw [loadL_len]; rfl
  unfold nameL
  rw [hn]
  apply List.ext_getElem
  · rw [List.length_take, List.length_take, List.length_drop, List.length_drop, e1, e2]
  · intro i h1 h2
    rw [List.length_take, List.length_drop, e1] at h2
    rw [List.getElem_take, List.getElem_drop, List.getElem_take, List.getElem_drop, loadL_get, loadL_get]
    have := h i (by omega)
    rw [show a + ((9 + i : Nat) : Int) = a + 9 + (i : Int) by omega]
    exact this
/-- A header reads alike in N, where its bytes are as they were and the dictionary is no shorter. -/
theorem read_congr {M N : List UInt8} {a : Int} (hok : rdOk M a = true) (hh : hereL M ≤ hereL N) (hb : ∀ z, a ≤ z → z < rdXt M a → memAt N z = memAt M z) :
    rdOk N a = true ∧ linkL N a = linkL M a ∧ nameL N a = nameL M a ∧ immL N a = immL M a ∧ hidL N a = hidL M a ∧ rdXt N a = rdXt M a := by
  obtain ⟨h1, h2, h3, h4, h5⟩ := rdOk_iff.1 hok
  have hl := hereL_le M
  have hx := rdXt_ge (M := M) h2 (by omega)
  have hB : rdB N a = rdB M a := rdB_congr (hb _ (by omega) (by omega))
  have hN : rdN N a = rdN M a := by unfold rdN; rw [hB]
  have hX : rdXt N a = rdXt M a := by unfold rdXt; rw [hN]
  refine ⟨rdOk_iff.2 ⟨h1, h2, by omega, by rw [hN]; exact h4, by rw [hX]; omega⟩, link_congr (fun i hi => hb _ (by omega) (by omega)), name_congr hN (fun i hi => hb _ (by omega) (by omega)), by unfold immL; rw [hB], by unfold hidL; rw [hB], hX⟩
/-- N holds M's dictionary, and goes on behind it. -/
def Agree (M N : List UInt8) : Prop := hereL M ≤ hereL N ∧ ∀ z, 16 ≤ z → z < hereL M → memAt N z = memAt M z
theorem Agree.read {M N : List UInt8} (h : Agree M N) {a : Int} (hok : rdOk M a = true) : rdOk N a = true ∧ linkL N a = linkL M a ∧ nameL N a = nameL M a ∧ immL N a = immL M a ∧ hidL N a = hidL M a ∧ rdXt N a = rdXt M a := by
  obtain ⟨h1, h2, h3, h4, h5⟩ := rdOk_iff.1 hok
  exact read_congr hok h.1 (fun z hz1 hz2 => h.2 z (by omega) (by omega))
/-- Where the chain of links ends. -/
def endL (M : List UInt8) (last at_ : Int) : Int := if h : rdOk M at_ = true ∧ at_ < last then endL M at_ (linkL M at_) else at_
termination_by last.toNat
decreasing_by have := rdOk_lo h.1; omega
theorem endL_yes {M : List UInt8} {last at_ : Int} (h : rdOk M at_ = true ∧ at_ < last) : endL M last at_ = endL M at_ (linkL M at_) := by rw [endL]; exact dif_pos h
theorem endL_no {M : List UInt8} {last at_ : Int} (h : ¬ (rdOk M at_ = true ∧ at_ < last)) : endL M last at_ = at_ := by rw [endL]; exact dif_neg h
theorem rdOk_zero (M : List UInt8) : rdOk M 0 = false := by
  cases h : rdOk M 0 with
  | false => rfl
  | true => have := rdOk_lo h; omega
theorem Agree.words {M N : List UInt8} (h : Agree M N) : ∀ (n : Nat) (last at_ : Int), last.toNat ≤ n → endL M last at_ = 0 → wordsW N last at_ = wordsW M last at_ := by
  intro n
  induction n with
  | zero =>
    intro last at_ hn _
    rw [wordsW_no (fun h => by have := rdOk_lo h.1; omega), wordsW_no (fun h => by have := rdOk_lo h.1; omega)]
  | succ n ih =>
    intro last at_ hn he
    by_cases hc : rdOk M at_ = true ∧ at_ < last
    · obtain ⟨r1, r2, _⟩ := h.read hc.1
      rw [endL_yes hc] at he
      rw [wordsW_yes hc.1 hc.2, wordsW_yes r1 hc.2, r2, ih _ _ (by have := rdOk_lo hc.1; omega) he]
    · rw [endL_no hc] at he
      subst he
      rw [wordsW_no hc, wordsW_no (fun h2 => by rw [rdOk_zero] at h2; exact absurd h2.1 (by decide))]
theorem words_last {M : List UInt8} {l1 l2 at_ : Int} (h : rdOk M at_ = true → at_ < l1 ∧ at_ < l2) : wordsW M l1 at_ = wordsW M l2 at_ := by
  by_cases hc : rdOk M at_ = true
  · rw [wordsW_yes hc (h hc).1, wordsW_yes hc (h hc).2]
  · rw [wordsW_no (fun h2 => hc h2.1), wordsW_no (fun h2 => hc h2.1)]
theorem end_last {M : List UInt8} {l1 l2 at_ : Int} (h : rdOk M at_ = true → at_ < l1 ∧ at_ < l2) : endL M l1 at_ = endL M l2 at_ := by
  by_cases hc : rdOk M at_ = true
  · rw [endL_yes ⟨hc, (h hc).1⟩, endL_yes ⟨hc, (h hc).2⟩]
  · rw [endL_no (fun h2 => hc h2.1), endL_no (fun h2 => hc h2.1)]
theorem latest_lt (M : List UInt8) : latestL M < hereL M := by
  have hl : 1536 ≤ hereL M ∧ hereL M ≤ 5632 := by unfold hereL; split <;> omega
  unfold latestL
  split
  · rename_i h
    exact (rdOk_iff.1 h).2.2.1
  · omega
theorem latest_of {M : List UInt8} (h : rdOk M (getM M 8) = true) : latestL M = getM M 8 := if_pos h
/-- A new header ahead of N's dictionary. -/
theorem words_cons {M N : List UInt8} (hA : Agree M N) (he : endL M 8192 (latestL M) = 0) {a : Int} (ha : hereL M ≤ a) (hg : getM N 8 = a) (hok : rdOk N a = true) (hlk : linkL N a = latestL M) :
    wordsL N = a :: wordsL M := by
  have hl := hereL_le M
  have hl2 := latest_lt M
  have hlo := rdOk_lo hok
  have hlt : latestL N = a := by rw [← hg]; exact latest_of (by rw [hg]; exact hok)
  unfold wordsL
  rw [hlt, wordsW_yes hok (by omega), hlk]
  have hll : rdOk M (latestL M) = true → latestL M < a ∧ latestL M < 8192 := fun _ => by omega
  rw [hA.words _ a (latestL M) (Nat.le_refl _) (by rw [end_last hll]; exact he), words_last hll]
theorem find_congr {α : Type} {p q : α → Bool} : ∀ {l : List α}, (∀ x ∈ l, p x = q x) → l.find? p = l.find? q
  | [], _ => rfl
  | x :: l, h => by rw [List.find?_cons, List.find?_cons, h x (by simp), find_congr (fun y hy => h y (by simp [hy]))]
theorem words_mem {M : List UInt8} {x : Int} (h : x ∈ wordsL M) : rdOk M x = true := wordsW_ok _ _ _ (Nat.le_refl _) x h
end Go.Proofs.Ytcfblcgdjhpdaaa
