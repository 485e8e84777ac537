/- 'awake'. -/
import Derived.Test.YtcfblcgdjhpdaaaD8
namespace Go.Proofs.Ytcfblcgdjhpdaaa
open Go.RowKit
set_option linter.unusedVariables false
set_option linter.unusedSimpArgs false
attribute [local go_sem] cell_set set_set m_undef

theorem zero_get (a : Int) : getM (flatL []) a = 0 := by
  have hz : flatL [] = List.replicate 8192 0 := by unfold flatL; rw [List.take_nil, List.nil_append, List.length_nil, Nat.zero_min, List.drop_zero]
  have hl : ∀ z, memAt (flatL []) z = 0 := fun z => by
    rw [hz]; unfold memAt
    split
    · rw [List.getD_eq_getElem?_getD, List.getElem?_replicate]; split <;> rfl
    · rfl
  have hb : ∀ z, byteZ (loadL (flatL []) a 8) z = 0 := fun z => by
    unfold byteZ
    split
    · rename_i h
      rw [loadL_len] at h
      have e := loadL_getD (flatL []) a 8 z.toNat (by omega) (by omega)
      rw [e, hl]; rfl
    · rfl
  have hn : ∀ k, leN (loadL (flatL []) a 8) 0 k = 0 := fun k => by
    induction k with
    | zero => rfl
    | succ k ih => show leN _ _ k + byteZ _ _ * _ = 0; rw [ih, hb]; simp
  unfold getM cellL
  rw [hn]; decide
theorem zero_latest : latestL (flatL []) = 0 := by
  have h := zero_get 8
  unfold latestL
  generalize flatL [] = M at *
  rw [h, rdOk_zero]
  exact if_neg (by decide)
theorem zero_here : hereL (flatL []) = 1536 := by
  have h := zero_get 0
  unfold hereL
  generalize flatL [] = M at *
  rw [h]
  exact if_neg (by decide)
theorem words_of_zero {M : List UInt8} (h : latestL M = 0) : wordsL M = [] ∧ endL M 8192 (latestL M) = 0 := by
  unfold wordsL
  rw [h]
  have hn : ¬ (rdOk M 0 = true ∧ (0 : Int) < 8192) := fun h2 => by rw [rdOk_zero] at h2; exact absurd h2.1 (by decide)
  exact ⟨wordsW_no hn, endL_no hn⟩
def dupB : ByteArray := ⟨#[100, 117, 112]⟩
theorem num_dup : numOf (large dupB).data.toList = 13 := by kernel_rfl
theorem large_dup : ((large ⟨[68, 85, 80].toArray⟩).toList == (large dupB).toList) = true := by kernel_rfl
theorem awake_law {M0 : List UInt8} (hM : M0.length = 8192) (hl : latestL M0 = 0) (hh : hereL M0 = 1536) : ∃ i c : Bool, findA M0 dupB = (104, i, c, true) ∧ crOk M0 [68, 85, 80] = true ∧ crXt M0 [68, 85, 80] = 1552 ∧ findA (madeM M0 [68, 85, 80]) dupB = (1552, false, false, true) := by
  obtain ⟨h1, h2⟩ := words_of_zero hl
  have ha : crAt M0 = 1536 := by unfold crAt; rw [hh]; decide
  have hb : (bytesL (latestL M0) [68, 85, 80] false false).length = 16 := by rw [bytesL_len]; rfl
  have hx : crXt M0 [68, 85, 80] = 1552 := by unfold crXt; rw [ha, hb]; rfl
  have hok : crOk M0 [68, 85, 80] = true := crOk_iff.2 ⟨by simp, by simp, by rw [hx]; omega⟩
  have hf := made_find hM hok h2 large_dup
  rw [hx] at hf
  have hp : findA M0 dupB = primA 13 := by
    rw [← num_dup]
    exact find_no (fun y hy => by rw [h1] at hy; cases hy)
  have h13 : primA 13 = (13 * 8, (rowL.getD (13 : Int).toNat default).2.2.2.1, (rowL.getD (13 : Int).toNat default).2.2.2.2, true) := if_pos (by omega)
  exact ⟨_, _, hp.trans h13, hok, hx, hf⟩
attribute [local irreducible] findA madeM crM crXt crOk
set_option maxRecDepth 100000 in
set_option maxHeartbeats 1000000 in
theorem wAwake (w : World) : Calls Try.prog 9 #[] w fun e w' => e = .returned (.bool true) ∧ Below w.heap.size w w' := by
  obtain ⟨i0, c0, f0, ok, hx, f1⟩ := awake_law (flatL_len []) zero_latest zero_here
  have hml : (madeM (flatL []) [68, 85, 80]) = setM (crM (flatL []) [68, 85, 80]) 0 1560 := by unfold madeM; rw [hx]; rfl
  have hF1 := fun (w9 : World) => wFlat w9 0 (.slice none 0 0) [] (Bs.nil _ _)
  unfold FlatQ at hF1
  generalize flatL [] = M0 at *
  replace hF1 := Lib.hid hF1
  obtain ⟨e1, -⟩ := crV_yes ok
  rw [hx] at e1
  have hD1 := fun (w9 : World) (mb B : Nat) (O : Nat → Prop) (h : MemP w9 B mb M0 O) (hb : B ≤ w9.heap.size) => kFind h hb dupB (by decide)
  have hC := fun (w9 : World) (mb B : Nat) (O : Nat → Prop) (h : MemP w9 B mb M0 O) (hb : B ≤ w9.heap.size) => kCreate h hb [68, 85, 80]
  rw [f0] at hD1
  rw [e1] at hC
  have hSt := fun (w9 : World) (mb B : Nat) (O : Nat → Prop) (h : MemP w9 B mb (crM M0 [68, 85, 80]) O) (hb : B ≤ w9.heap.size) => mSet h hb 0 1560 (by unfold isI; omega)
  generalize crM M0 [68, 85, 80] = M1 at *
  rw [hml] at f1
  generalize setM M1 0 1560 = M2 at *
  have hD2 := fun (w9 : World) (mb B : Nat) (O : Nat → Prop) (h : MemP w9 B mb M2 O) (hb : B ≤ w9.heap.size) => kFind h hb dupB (by decide)
  rw [f1] at hD2
  unfold findR dupB at hD1 hD2
  dsimp only at hD1 hD2
  replace hD1 := Lib.hid hD1
  replace hD2 := Lib.hid hD2
  replace hC := Lib.hid hC
  replace hSt := Lib.hid hSt
  clear f0 f1 hml e1 ok hx
  go_enter Try.func9, Try.ntmps9
  go_upto_region 5 with (first
    | (go_at_call 10; refine (hF1.out _).mono ?_; rintro e w2 ⟨mb, O2, rfl, hP2, hb2⟩; have hT := Uno.make (Below.refl _ _) (Keep.emp _ _) hP2 hb2; clear hP2 hb2)
    | (go_at_call 14; refine (hT.mem (fun B O h hb => hD1.out _ _ _ _ h hb)).mono ?_; rintro e w3 ⟨rfl, hT2⟩; clear hT; have hT := hT2; clear hT2))
  have hT2 := hT.new #[.int .i64 104, .bool i0, .bool c0] 37
  obtain ⟨b1, hb1⟩ : ∃ b1, b1 = w3.heap.size := ⟨_, rfl⟩
  obtain ⟨w4, hw4⟩ : ∃ w4, w4 = w3.alloc (.cells #[.int .i64 104, .bool i0, .bool c0] 37) := ⟨_, rfl⟩
  rw [← hw4, ← hb1] at hT2 ⊢
  clear hw4 hb1
  clear hT
  have hT := hT2
  clear hT2
  go_upto_region 8 with (first
    | (go_at_call 16; refine (hT.mem (fun B O h hb => hC.out _ _ _ _ h hb)).mono ?_; rintro e w5 ⟨rfl, hT2⟩; clear hT; have hT := hT2; clear hT2)
    | (go_at_call 19; refine (hT.mem (fun B O h hb => hSt.out _ _ _ _ h hb)).mono ?_; rintro e w6 ⟨rfl, hT2⟩; clear hT; have hT := hT2; clear hT2)
    | (go_at_call 14; refine (hT.mem (fun B O h hb => hD2.out _ _ _ _ h hb)).mono ?_; rintro e w7 ⟨rfl, hT2⟩; clear hT; have hT := hT2; clear hT2))
  have hT2 := hT.new #[.int .i64 1552, .bool false, .bool false] 37
  obtain ⟨b2, hb2⟩ : ∃ b2, b2 = w7.heap.size := ⟨_, rfl⟩
  obtain ⟨w8, hw8⟩ : ∃ w8, w8 = w7.alloc (.cells #[.int .i64 1552, .bool false, .bool false] 37) := ⟨_, rfl⟩
  rw [← hw8, ← hb2] at hT2 ⊢
  clear hw8 hb2
  clear hT
  have hT := hT2
  clear hT2
  have y1 : w8.cell? ⟨b1, 0, none⟩ = some (.int .i64 104) := Blk.cell hT.fact.1.2 0
  have y2 : w8.cell? ⟨b2, 0, none⟩ = some (.int .i64 1552) := Blk.cell hT.fact.2 0
  go_wp2
  go_ret
  exact ⟨rfl, hT.bel⟩
end Go.Proofs.Ytcfblcgdjhpdaaa
