/- A header that 'Create' laid. -/
import Derived.Test.YtcfblcgdjhpdaaaD7
namespace Go.Proofs.Ytcfblcgdjhpdaaa
open Go.RowKit
set_option linter.unusedVariables false
set_option linter.unusedSimpArgs false

/-- The memory behind 'Create', its code cell taken in. -/
def madeM (M nm : List UInt8) : List UInt8 := setM (crM M nm) 0 (crXt M nm + 8)
theorem crOk_iff {M nm : List UInt8} : crOk M nm = true ↔ (nm ≠ [] ∧ nm.length ≤ 31 ∧ crXt M nm + 8 ≤ 5632) := decide_eq_true_iff
theorem crM_len {M : List UInt8} (hM : M.length = 8192) (nm : List UInt8) : (crM M nm).length = 8192 := by
  unfold crM
  split
  · rw [setM_len, setM_len, layL_len]; exact hM
  · exact hM
theorem hd_parts {M : List UInt8} {a link xt : Int} {nm : List UInt8} {im hd : Bool} (h : rdOk M a = true) (hv : rdV M a = hdV a link nm im hd xt) : linkL M a = link ∧ nameL M a = nm ∧ immL M a = im ∧ hidL M a = hd ∧ rdXt M a = xt := by
  rw [rdV_ok h] at hv
  generalize linkL M a = b1 at *
  generalize nameL M a = b2 at *
  generalize immL M a = b3 at *
  generalize hidL M a = b4 at *
  generalize rdXt M a = b5 at *
  unfold hdV at hv
  injection hv with hv
  simp only [Array.mk.injEq, List.cons.injEq, Value.int.injEq, Value.string.injEq, Value.bool.injEq, true_and, and_true, ByteArray.mk.injEq] at hv
  exact ⟨hv.1, hv.2.1, hv.2.2.1, hv.2.2.2.1, hv.2.2.2.2⟩
theorem made {M nm : List UInt8} (hM : M.length = 8192) (hok : crOk M nm = true) :
    (madeM M nm).length = 8192 ∧ Agree M (madeM M nm) ∧ getM (madeM M nm) 8 = crAt M ∧ hereL M ≤ crAt M ∧ hereL (madeM M nm) = crXt M nm + 8 ∧
    rdOk (madeM M nm) (crAt M) = true ∧ linkL (madeM M nm) (crAt M) = latestL M ∧ nameL (madeM M nm) (crAt M) = nm ∧ immL (madeM M nm) (crAt M) = false ∧ hidL (madeM M nm) (crAt M) = false ∧ rdXt (madeM M nm) (crAt M) = crXt M nm := by
  obtain ⟨h1, h2, h3⟩ := crOk_iff.1 hok
  obtain ⟨a1, a2, a3⟩ := crAt_in M
  have hl : 1536 ≤ hereL M ∧ hereL M ≤ 5632 := by unfold hereL; split <;> omega
  have hal : hereL M ≤ crAt M := by
    unfold crAt
    generalize hereL M = here at *
    have := alignZ_small here (by omega)
    omega
  have hxt : crXt M nm = crAt M + ((bytesL (latestL M) nm false false).length : Int) := rfl
  obtain ⟨r1, r2, r3⟩ := read_laid hM (crAt M) (crXt M nm + 8) (latestL M) nm false false (latestL_isI M) h1 h2 a1 a3 (by omega) h3
  have e1 := (crV_yes hok).2
  have hm : madeM M nm = setM (setM (setM (layL M (crAt M) (bytesL (latestL M) nm false false)) 0 (crXt M nm)) 8 (crAt M)) 0 (crXt M nm + 8) := by unfold madeM; rw [e1]
  generalize latestL M = lt at *
  generalize crAt M = at_ at *
  generalize crXt M nm = xt at *
  generalize bytesL lt nm false false = bs at *
  generalize madeM M nm = N at *
  have hhb : 1536 ≤ xt + 8 ∧ xt + 8 ≤ 5632 := by clear r1 r2 r3 hm; omega
  have hxi : isI (xt + 8) := by clear r1 r2 r3 hm; unfold isI; omega
  have hai : isI at_ := by clear r1 r2 r3 hm; unfold isI; omega
  have hend : at_ + (bs.length : Int) ≤ 5632 := by clear r1 r2 r3 hm; omega
  have hge : hereL M ≤ xt + 8 := by clear r1 r2 r3 hm; omega
  replace r1 := Lib.hid r1
  replace r2 := Lib.hid r2
  replace r3 := Lib.hid r3
  replace hm := Lib.hid hm
  replace hl := Lib.hid hl
  have q1 : (layL M at_ bs).length = 8192 := by rw [layL_len]; exact hM
  have q2 : (setM (layL M at_ bs) 0 xt).length = 8192 := by rw [setM_len]; exact q1
  have q3 : (setM (setM (layL M at_ bs) 0 xt) 8 at_).length = 8192 := by rw [setM_len]; exact q2
  have hz : ∀ z, 16 ≤ z → memAt N z = memAt (layL M at_ bs) z := fun z hz => by
    rw [hm.out, memAt_setM q3, if_neg (by omega), memAt_setM q2, if_neg (by omega), memAt_setM q1, if_neg (by omega)]
  have hz2 : ∀ z, 16 ≤ z → memAt (setM (layL M at_ bs) 0 (xt + 8)) z = memAt (layL M at_ bs) z := fun z hz => by
    rw [memAt_setM q1, if_neg (by omega)]
  have g0 : getM N 0 = xt + 8 := by rw [hm.out]; exact getM_setM q3 0 _ hxi (by decide)
  have hN : hereL N = xt + 8 := by unfold hereL; rw [g0, if_pos hhb]
  have g8 : getM N 8 = at_ := by rw [hm.out, getM_other q3 0 8 _ (by decide)]; exact getM_setM q2 8 _ hai (by decide)
  obtain ⟨M2, hM2⟩ : ∃ M2, M2 = setM (layL M at_ bs) 0 (xt + 8) := ⟨_, rfl⟩
  rw [← hM2] at r1 r2 r3 hz2
  have r4 := hd_parts r2.out r3.out
  have hc := read_congr (N := N) r2.out (by rw [r1.out, hN]; exact Int.le_refl _) (fun z hz1 hz2' => by rw [hz z (by omega), hz2 z (by omega)])
  have hlen : N.length = 8192 := by rw [hm.out, setM_len]; exact q3
  have hAg : Agree M N := by
    refine ⟨by rw [hN]; exact hge, fun z hz1 hz2' => ?_⟩
    have hn : ¬ (at_ ≤ z ∧ z < at_ + (bs.length : Int) ∧ 0 ≤ z ∧ z < 8192) := fun h => Int.not_lt.2 h.1 (Int.lt_of_lt_of_le hz2' hal)
    rw [hz z hz1, memAt_layL hM, if_neg hn]
  exact ⟨hlen, hAg, g8, hal, hN, hc.1, hc.2.1.trans r4.1, hc.2.2.1.trans r4.2.1, hc.2.2.2.1.trans r4.2.2.1, hc.2.2.2.2.1.trans r4.2.2.2.1, hc.2.2.2.2.2.trans (r4.2.2.2.2.trans hxt.symm)⟩
theorem made_words {M nm : List UInt8} (hM : M.length = 8192) (hok : crOk M nm = true) (he : endL M 8192 (latestL M) = 0) : wordsL (madeM M nm) = crAt M :: wordsL M := by
  obtain ⟨_, hA, g8, hal, _, r1, r2, _⟩ := made hM hok
  exact words_cons hA he hal g8 r1 r2
theorem made_find {M nm : List UInt8} (hM : M.length = 8192) (hok : crOk M nm = true) (he : endL M 8192 (latestL M) = 0) {s : ByteArray} (hs : ((large ⟨nm.toArray⟩).toList == (large s).toList) = true) :
    findA (madeM M nm) s = (crXt M nm, false, false, true) := by
  have hw := made_words hM hok he
  obtain ⟨_, hA, g8, hal, _, r1, r2, r3, r4, r5, r6⟩ := made hM hok
  have := find_at (M := madeM M nm) (nm := s) (k := 0) (x := crAt M) (by rw [hw]; rfl) (fun y hy => by simp at hy) (by unfold hitL; rw [r3, r5, hs]; rfl)
  rw [this, r4, r6]
end Go.Proofs.Ytcfblcgdjhpdaaa
