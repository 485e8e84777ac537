/- 'awake'. -/
import Derived.Test.YtenhpfncpmfkoaaH4
namespace Go.Proofs.Ytenhpfncpmfkoaa
open Go.RowKit
set_option linter.unusedVariables false
set_option linter.unusedSimpArgs false
attribute [local go_sem] cell_set set_set m_undef

theorem mRead {w : World} {base mb : Nat} {M : List UInt8} {O : Nat → Prop} (h : MemP w base mb M O) (hbase : base ≤ w.heap.size) (at_ : Int) (hat : isI at_) :
    Calls Try.prog 15 #[.pointer (some ⟨mb, 0, none⟩), .int .i64 at_] w fun e w' => MemQ w w' base mb M O (.tuple #[rdV M at_, .bool (rdOk M at_)]) e := by
  by_cases hc : at_ % 8 = 0 ∧ 1536 ≤ at_ ∧ at_ < hereL M
  · exact read_in h hbase at_ hat hc.1 hc.2.1 hc.2.2
  · have hok : rdOk M at_ = false := by
      unfold rdOk
      rw [decide_eq_false_iff_not]
      exact fun h2 => hc ⟨h2.1, h2.2.1, h2.2.2.1⟩
    have hV : rdV M at_ = hdV 0 0 [] false false 0 := by unfold rdV; rw [hok]; rfl
    rw [hok, hV]
    exact read_low h hbase at_ hat hc
set_option maxRecDepth 100000 in
set_option maxHeartbeats 2000000 in
theorem wAwake (w : World) : Calls Try.prog 8 #[] w fun e w' => e = .returned (.bool true) ∧ Below w.heap.size w w' := by
  obtain ⟨bl, hbl⟩ : ∃ bl, bl = bytesL 0 [97] false false := ⟨_, rfl⟩
  have hlen : bl.length = 16 := by rw [hbl, bytesL_len]; rfl
  have hBy := Lib.hid (bytes_good w 0 0 0 [97] false false (by simp) (by simp))
  obtain ⟨M0, hM0⟩ : ∃ M0, M0 = flatL [] := ⟨_, rfl⟩
  have hM0l : M0.length = 8192 := by rw [hM0]; exact flatL_len []
  obtain ⟨l1, l2, l3⟩ := read_laid hM0l 1536 1560 0 [97] false false (by unfold isI; omega) (by simp) (by simp) (by omega) (by omega) (by rw [← hbl, hlen]; omega) (by omega)
  rw [← hbl] at l1 l2 l3 hBy
  rw [hlen] at l3
  obtain ⟨M1, hM1⟩ : ∃ M1, M1 = layL M0 1536 bl := ⟨_, rfl⟩
  rw [← hM1] at l1 l2 l3
  obtain ⟨M2, hM2⟩ : ∃ M2, M2 = setM M1 0 1560 := ⟨_, rfl⟩
  rw [← hM2] at l1 l2 l3
  have hA9 : alignZ 9 = 16 := by decide
  have hAl := Lib.hid (fun w => wAlign w 9 (by unfold isI; omega))
  rw [hA9] at hAl
  have hd : hdV 1536 0 [97] false false (1536 + ((16 : Nat) : Int)) = .agg #[.int .i64 1536, .int .i64 0, .string ⟨#[97]⟩, .bool false, .bool false, .int .i64 1552] := rfl
  have hd0 : hdV 0 0 [97] false false 0 = .agg #[.int .i64 0, .int .i64 0, .string ⟨#[97]⟩, .bool false, .bool false, .int .i64 0] := rfl
  rw [hd] at l3
  rw [hd0] at hBy
  clear hd hd0 hA9 hbl
  replace hlen := Lib.hid hlen
  replace l1 := Lib.hid l1
  replace l2 := Lib.hid l2
  replace l3 := Lib.hid l3
  replace hM0 := Lib.hid hM0
  replace hM1 := Lib.hid hM1
  replace hM2 := Lib.hid hM2
  clear hM0l
  go_enter Try.func8, Try.ntmps8
  go_upto_region 2 with (go_at_call 9; refine hBy.out.mono ?_; rintro e w1 ⟨⟨v, rfl, hv⟩, hb1⟩; have hFl := Lib.hid (wFlat w1 0 (.slice none 0 0) [] (Bs.nil _ _)); obtain ⟨ad, cap, he, hcap⟩ := hv.len; rw [hlen.out] at he; subst he; replace hv := Lib.hid hv; clear hcap; replace hb1 := Lib.hid hb1)
  go_upto_region 5 with (go_at_call 12; refine hFl.out.mono ?_; rintro e w2 ⟨mb, O2, rfl, hP2, hb2⟩; rw [← hM0.out] at hP2; have hs2 := hb2.size; have hLay := Lib.hid (mLay hP2 hs2 1536 (by unfold isI; omega) (hv.out.below hb2) (by rw [hlen.out]; omega) (fun k hk hO => by
    have h1 := (hP2.lt hO).2
    rcases hv.out.lt with e | ⟨x, e, hx1, hx2⟩
    · rw [hk] at e; cases e
    · rw [hk] at e; cases e; omega)); rw [← hM1.out] at hLay; have hO2 := Lib.hid (fun k (hk : O2 k) => (hP2.lt hk).2); replace hb2 := Lib.hid hb2; clear hP2; replace hs2 := Lib.hid hs2)
  go_upto_region 8 with (first
    | (go_at_call 13; refine hLay.out.mono ?_; rintro e w3 ⟨rfl, O3, hP3, hT3⟩; have hs3 := hT3.size; have hSet := Lib.hid (mSet hP3 (Nat.le_trans hs2.out hs3) 0 1560 (by unfold isI; omega)); rw [← hM2.out] at hSet; clear hP3; replace hT3 := Lib.hid hT3; replace hs3 := Lib.hid hs3)
    | (go_at_call 14; refine hSet.out.mono ?_; rintro e w4 ⟨rfl, O4, hP4, hT4⟩; have hs4 := hT4.size; have hRd := Lib.hid (mRead hP4 (Nat.le_trans hs2.out (Nat.le_trans hs3.out hs4)) 1536 (by unfold isI; omega)); rw [l2.out, l3.out] at hRd; clear hP4; replace hT4 := Lib.hid hT4; replace hs4 := Lib.hid hs4)
    | (go_at_call 15; refine hRd.out.mono ?_; rintro e w5 ⟨rfl, O5, hP5, hT5⟩; have hs5 := hT5.size; replace hT5 := Lib.hid hT5; replace hP5 := Lib.hid hP5; replace hs5 := Lib.hid hs5))
  obtain ⟨w6, hw6⟩ : ∃ w6, w6 = w5.alloc (.cells #[.int .i64 1536, .int .i64 0, .string ⟨#[97]⟩, .bool false, .bool false, .int .i64 1552] 23) := ⟨_, rfl⟩
  rw [← hw6]
  have hB6 : Blk w6 w5.heap.size #[.int .i64 1536, .int .i64 0, .string ⟨#[97]⟩, .bool false, .bool false, .int .i64 1552] 23 := by subst hw6; exact Blk.new _ _ _
  have hb6 : Below w5.heap.size w5 w6 := by subst hw6; exact bel_alloc (Below.refl _ _) _
  clear hw6
  have hHe := Lib.hid (mHere (hP5.out.below hb6) (Nat.le_trans hs2.out (Nat.le_trans hs3.out (Nat.le_trans hs4.out (Nat.le_trans hs5.out hb6.size)))))
  rw [l1.out] at hHe
  have hT6 := Lib.hid (Turn.of_below hb6 O5)
  obtain ⟨y1, y2, y3, y4, y5, y6⟩ := hB6.six
  clear hb6 hB6
  go_wp2_with (first
    | (go_at_call 20; refine hHe.out.mono ?_; rintro e w7 ⟨rfl, O7, hP7, hT7⟩; replace hP7 := Lib.hid hP7; replace hT7 := Lib.hid hT7)
    | (go_at_call 16; refine (hAl.out _).mono ?_; rintro e _ ⟨rfl, rfl⟩))
  go_ret
  exact ⟨rfl, (hb1.out.trans (hb2.out.mono hb1.out.size)).trans ((((((hT3.out.trans hT4.out).trans hT5.out).trans hT6.out).trans hT7.out).below hO2.out hs2.out).mono hb1.out.size)⟩
set_option maxHeartbeats 1000000 in
theorem headerAligns (n : Int) (hn : isI n) (w : World) : Calls Try.prog 5 #[.int .i64 n] w fun e w' => e = .returned (.bool true) ∧ Below w.heap.size w w' := by
  have hA := Lib.hid (wAwake w)
  have hAl := Lib.hid (fun w => wAlign w n hn)
  have hAr := Lib.hid (fun w => rAlign w n hn)
  generalize alignZ n = m at *
  clear hn
  go_enter Try.func5, Try.ntmps5
  go_wp2_with (first
    | (go_at_call 8; refine hA.out.mono ?_; rintro e w1 ⟨rfl, hb1⟩)
    | (go_at_call 16; refine (hAl.out _).mono ?_; rintro e _ ⟨rfl, rfl⟩)
    | (go_at_call 17; refine (hAr.out _).mono ?_; rintro e _ ⟨rfl, rfl⟩))
  go_ret
  exact ⟨rfl, hb1⟩
end Go.Proofs.Ytenhpfncpmfkoaa
