/- A header that is laid is read as it was. -/
import Derived.Test.YtjihhojlakapnaaDoorP1
import Derived.Test.YtjihhojlakapnaaDoorH3
namespace Go.Proofs.YtjihhojlakapnaaDoor
open Go.RowKit
set_option linter.unusedVariables false
set_option linter.unusedSimpArgs false

theorem bytesL_len (link : Int) (nm : List UInt8) (im hd : Bool) : (bytesL link nm im hd).length = 9 + nm.length + (8 - (9 + nm.length) % 8) % 8 := by
  unfold bytesL
  rw [List.length_append, List.length_append, List.length_append, cellBytes_len, List.length_replicate]
  simp only [List.length_cons, List.length_nil]
theorem bytesL_low (link : Int) (nm : List UInt8) (im hd : Bool) (j : Nat) (hj : j < 8) : (bytesL link nm im hd).getD j 0 = UInt8.ofNat ((IntKind.u64.wrap link).toNat / 2 ^ (8 * j)) := by
  have h8 := cellBytes_len link
  rw [← cellBytes_getD link j hj]
  unfold bytesL
  rw [List.getD_eq_getElem?_getD, List.getD_eq_getElem?_getD, List.append_assoc, List.append_assoc, List.getElem?_append_left (by omega)]
theorem bytesL_mark (link : Int) (nm : List UInt8) (im hd : Bool) : (bytesL link nm im hd).getD 8 0 = UInt8.ofNat (markN nm.length im hd) := by
  have h8 := cellBytes_len link
  unfold bytesL
  rw [List.getD_eq_getElem?_getD, List.append_assoc, List.append_assoc, List.getElem?_append_right (by omega), h8]
  rfl
theorem bytesL_name (link : Int) (nm : List UInt8) (im hd : Bool) (j : Nat) (hj : j < nm.length) : (bytesL link nm im hd).getD (9 + j) 0 = nm[j] := by
  have h8 := cellBytes_len link
  unfold bytesL
  rw [List.getD_eq_getElem?_getD, List.append_assoc, List.append_assoc, List.getElem?_append_right (by omega), h8, show 9 + j - 8 = j + 1 by omega, List.singleton_append, List.getElem?_cons_succ,
    List.getElem?_append_left hj, List.getElem?_eq_getElem hj]
  rfl
theorem markN_lt (n : Nat) (im hd : Bool) (h : n < 32) : markN n im hd < 256 ∧ markN n im hd % 32 = n ∧ (128 ≤ markN n im hd ↔ im = true) ∧ (markN n im hd / 64 % 2 = 1 ↔ hd = true) := by
  unfold markN
  cases im <;> cases hd <;> simp <;> omega
theorem alignZ_up (p : Int) (h : 0 ≤ p ∧ p ≤ 1000000) : alignZ p = p + (8 - p % 8) % 8 := by
  have := alignZ_small p h
  omega
/-- A header that is laid is read as it was. -/
theorem read_laid {M : List UInt8} (hM : M.length = 8192) (a here link : Int) (nm : List UInt8) (im hd : Bool) (hlink : isI link) (h0 : nm ≠ []) (hl : nm.length ≤ 31) (ha : 1536 ≤ a) (ha8 : a % 8 = 0) (hh : a + (bytesL link nm im hd).length + 8 ≤ here) (hh2 : here ≤ 5632) :
    hereL (setM (layL M a (bytesL link nm im hd)) 0 here) = here ∧ rdOk (setM (layL M a (bytesL link nm im hd)) 0 here) a = true ∧
    rdV (setM (layL M a (bytesL link nm im hd)) 0 here) a = hdV a link nm im hd (a + (bytesL link nm im hd).length) := by
  have hbl := bytesL_len link nm im hd
  obtain ⟨bl, hb⟩ : ∃ bl, bl = bytesL link nm im hd := ⟨_, rfl⟩
  have b1 := bytesL_low link nm im hd
  have b2 := bytesL_mark link nm im hd
  have b3 := bytesL_name link nm im hd
  have hK := Lib.hid (markN_lt nm.length im hd (by omega))
  rw [← hb] at hh hbl b1 b2 b3 ⊢
  have hhb : 1536 ≤ here ∧ here ≤ 5632 := by omega
  have hM1 : (layL M a bl).length = 8192 := by rw [layL_len]; exact hM
  obtain ⟨M2, hM2⟩ : ∃ M2, M2 = setM (layL M a bl) 0 here := ⟨_, rfl⟩
  rw [← hM2]
  have hg := Lib.hid (show getM M2 0 = here by rw [hM2]; exact getM_setM hM1 0 here (by unfold isI; omega) (by omega))
  have hhere := Lib.hid (show hereL M2 = here by unfold hereL; rw [hg.out, if_pos hhb])
  have hat : ∀ i : Nat, i < bl.length → memAt M2 (a + i) = bl.getD i 0 := fun i hi => by
    have c1 : ¬ (0 ≤ a + (i : Int) ∧ a + (i : Int) < 0 + 8 ∧ 0 ≤ a + (i : Int) ∧ a + (i : Int) < 8192) := by omega
    have c2 : a ≤ a + (i : Int) ∧ a + (i : Int) < a + bl.length ∧ 0 ≤ a + (i : Int) ∧ a + (i : Int) < 8192 := by omega
    have c3 : (a + (i : Int) - a).toNat = i := by omega
    rw [hM2, memAt_setM hM1, if_neg c1, memAt_layL hM, if_pos c2, c3]
  have l40 : ∀ i : Nat, i < bl.length → (i : Int) < 40 := fun i hi => by omega
  have hgd : ∀ i : Nat, i < bl.length → (loadL M2 a 40).getD i 0 = bl.getD i 0 := fun i hi => by
    rw [loadL_getD _ _ _ _ (l40 i hi) (by decide), hat i hi]
  have f8 : 8 < bl.length := by omega
  have fa : 0 ≤ a + 9 + (nm.length : Int) ∧ a + 9 + (nm.length : Int) ≤ 1000000 := by omega
  have fb : a + 9 + (nm.length : Int) + (8 - (a + 9 + (nm.length : Int)) % 8) % 8 = a + bl.length := by omega
  have hnl : nm.length ≠ 0 := fun e => h0 (List.length_eq_zero_iff.1 e)
  have fc : a % 8 = 0 ∧ 1536 ≤ a ∧ a < here ∧ nm.length ≠ 0 ∧ a + bl.length + 8 ≤ here := by omega
  have fd : ∀ i, i < 8 → i < bl.length := fun i hi => by omega
  have fe : ∀ i, i < nm.length → 9 + i < bl.length := fun i hi => by omega
  have hB := Lib.hid (show rdB M2 a = markN nm.length im hd by
    unfold rdB
    rw [hgd 8 f8, b2, UInt8.toNat_ofNat']
    exact Nat.mod_eq_of_lt hK.out.1)
  have hN := Lib.hid (show rdN M2 a = nm.length by unfold rdN; rw [hB.out]; exact hK.out.2.1)
  have hX := Lib.hid (show rdXt M2 a = a + bl.length by
    unfold rdXt
    rw [hN.out, alignZ_up _ fa]
    exact fb)
  have hok := Lib.hid (show rdOk M2 a = true by
    unfold rdOk
    rw [hN.out, hX.out, hhere.out, decide_eq_true_iff]
    exact fc)
  refine ⟨hhere.out, hok.out, ?_⟩
  unfold rdV
  rw [hok.out, hN.out, hX.out, hB.out]
  have hc : cellL (loadL M2 a 40) 0 = link := by
    apply cellL_val _ _ _ hlink
    intro i hi
    have c1 : (0 : Int) ≤ 0 + (i : Int) ∧ 0 + (i : Int) < 40 := by omega
    rw [byteZ_load _ _ _ _ c1.1 c1.2 (by decide), Int.zero_add, hat i (fd i hi), b1 i hi, UInt8.toNat_ofNat']
  have hnm : ((loadL M2 a 40).drop 9).take nm.length = nm := by
    have e40 : (loadL M2 a 40).length = 40 := by rw [loadL_len]; rfl
    have e31 : min nm.length (40 - 9) = nm.length := by omega
    apply List.ext_getElem
    · rw [List.length_take, List.length_drop, e40]; exact e31
    · intro i h1 h2
      rw [List.getElem_take, List.getElem_drop]
      have h3 := hgd (9 + i) (fe i h2)
      rw [b3 i h2, List.getD_eq_getElem?_getD, List.getElem?_eq_getElem (by rw [List.length_take, List.length_drop] at h1; exact Nat.add_comm i 9 ▸ Nat.lt_of_lt_of_le (Nat.add_lt_of_lt_sub (Nat.lt_of_lt_of_le h1 (Nat.min_le_right _ _))) (Nat.le_refl _))] at h3
      exact h3
  rw [hc, hnm]
  obtain ⟨_, _, k3, k4⟩ := hK.out
  generalize markN nm.length im hd = q at *
  have e1 : decide (128 ≤ q) = im := by cases im <;> simp_all
  have e2 : decide (q / 64 % 2 = 1) = hd := by cases hd <;> simp_all
  rw [e1, e2]
  rfl
end Go.Proofs.YtjihhojlakapnaaDoor
