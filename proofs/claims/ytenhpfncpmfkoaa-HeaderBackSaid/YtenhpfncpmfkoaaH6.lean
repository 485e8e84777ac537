/- 'HeaderBack'. -/
import Derived.Test.YtenhpfncpmfkoaaH5
namespace Go.Proofs.Ytenhpfncpmfkoaa
open Go.RowKit
set_option linter.unusedVariables false
set_option linter.unusedSimpArgs false
attribute [local go_sem] cell_set set_set m_undef

set_option maxRecDepth 100000 in
set_option maxHeartbeats 2000000 in
theorem headerBack' (a0 link x0 : Int) (nm : List UInt8) (im hd : Bool) (hlink : isI link) (at_ : Int) (hat : isI at_) (w : World) :
    Calls Try.prog 4 #[hdV a0 link nm im hd x0, .int .i64 at_] w fun e w' => e = .returned (.bool true) ∧ Below w.heap.size w w' := by
  have hA := Lib.hid wAwake
  have hBy0 := Lib.hid (fun w => bytes_good w a0 link x0 nm im hd)
  unfold hdV at hBy0 ⊢
  obtain ⟨w0, hw0⟩ : ∃ w0, w0 = w.alloc (.cells #[.int .i64 a0, .int .i64 link, .string ⟨nm.toArray⟩, .bool im, .bool hd, .int .i64 x0] 23) := ⟨_, rfl⟩
  have hB0 : Blk w0 w.heap.size #[.int .i64 a0, .int .i64 link, .string ⟨nm.toArray⟩, .bool im, .bool hd, .int .i64 x0] 23 := by subst hw0; exact Blk.new _ _ _
  have hbl0 := Lib.hid (show Below w.heap.size w w0 by subst hw0; exact bel_alloc (Below.refl _ _) _)
  go_enter Try.func4, Try.ntmps4
  go_upto_region 1 with fail
  rw [← hw0]
  clear hw0
  by_cases g1 : nm.length < 1
  · have t1 : ((nm.length : Int) < 1) = True := by simp; omega
    clear g1
    go_wp2_with (go_at_call 8; refine (hA.out _).mono ?_; rintro e w1 ⟨rfl, hb1⟩; have hB1 := hB0.below hb1; obtain ⟨y1, y2, y3, y4, y5, y6⟩ := hB1.six; replace hb1 := Lib.hid hb1; clear hB1)
    go_ret
    exact ⟨rfl, bel_trans hbl0.out hb1.out⟩
  by_cases g2 : 31 < nm.length
  · have t1 : ((nm.length : Int) < 1) = False := by simp; omega
    have t2 : ((31 : Int) < (nm.length : Int)) = True := by simp; omega
    clear g1 g2
    go_wp2_with (go_at_call 8; refine (hA.out _).mono ?_; rintro e w1 ⟨rfl, hb1⟩; have hB1 := hB0.below hb1; obtain ⟨y1, y2, y3, y4, y5, y6⟩ := hB1.six; replace hb1 := Lib.hid hb1; clear hB1)
    go_ret
    exact ⟨rfl, bel_trans hbl0.out hb1.out⟩
  by_cases g3 : at_ < 1536
  · have t1 : ((nm.length : Int) < 1) = False := by simp; omega
    have t2 : ((31 : Int) < (nm.length : Int)) = False := by simp; omega
    have t3 : (at_ < 1536) = True := by simp; omega
    clear g1 g2 g3
    go_wp2_with (go_at_call 8; refine (hA.out _).mono ?_; rintro e w1 ⟨rfl, hb1⟩; have hB1 := hB0.below hb1; obtain ⟨y1, y2, y3, y4, y5, y6⟩ := hB1.six; replace hb1 := Lib.hid hb1; clear hB1)
    go_ret
    exact ⟨rfl, bel_trans hbl0.out hb1.out⟩
  by_cases g4 : 5568 < at_
  · have t1 : ((nm.length : Int) < 1) = False := by simp; omega
    have t2 : ((31 : Int) < (nm.length : Int)) = False := by simp; omega
    have t3 : (at_ < 1536) = False := by simp; omega
    have t4 : (5568 < at_) = True := by simp; omega
    clear g1 g2 g3 g4
    go_wp2_with (go_at_call 8; refine (hA.out _).mono ?_; rintro e w1 ⟨rfl, hb1⟩; have hB1 := hB0.below hb1; obtain ⟨y1, y2, y3, y4, y5, y6⟩ := hB1.six; replace hb1 := Lib.hid hb1; clear hB1)
    go_ret
    exact ⟨rfl, bel_trans hbl0.out hb1.out⟩
  have hrm : at_.tmod 8 = at_ % 8 := Int.tmod_eq_emod_of_nonneg (by omega)
  by_cases g5 : at_ % 8 = 0
  case neg =>
    have t1 : ((nm.length : Int) < 1) = False := by simp; omega
    have t2 : ((31 : Int) < (nm.length : Int)) = False := by simp; omega
    have t3 : (at_ < 1536) = False := by simp; omega
    have t4 : (5568 < at_) = False := by simp; omega
    have t5 : (at_.tmod 8 != 0) = true := by rw [hrm]; simp; exact g5
    clear g1 g2 g3 g4 g5 hrm
    go_wp2_with (go_at_call 8; refine (hA.out _).mono ?_; rintro e w1 ⟨rfl, hb1⟩; have hB1 := hB0.below hb1; obtain ⟨y1, y2, y3, y4, y5, y6⟩ := hB1.six; replace hb1 := Lib.hid hb1; clear hB1)
    go_ret
    exact ⟨rfl, bel_trans hbl0.out hb1.out⟩
  have t1 : ((nm.length : Int) < 1) = False := by simp; omega
  have t2 : ((31 : Int) < (nm.length : Int)) = False := by simp; omega
  have t3 : (at_ < 1536) = False := by simp; omega
  have t4 : (5568 < at_) = False := by simp; omega
  have t5 : (at_.tmod 8 != 0) = false := by rw [hrm]; simp; exact g5
  have h0 : nm ≠ [] := fun e => g1 (by rw [e]; simp)
  have hl : nm.length ≤ 31 := by omega
  have hBy := Lib.hid (fun w => hBy0.out w h0 hl)
  clear hBy0
  obtain ⟨bl, hbl⟩ : ∃ bl, bl = bytesL link nm im hd := ⟨_, rfl⟩
  have hlen : bl.length = 9 + nm.length + (8 - (9 + nm.length) % 8) % 8 := by rw [hbl, bytesL_len]
  obtain ⟨M0, hM0⟩ : ∃ M0, M0 = flatL [] := ⟨_, rfl⟩
  have hM0l : M0.length = 8192 := by rw [hM0]; exact flatL_len []
  obtain ⟨l1, l2, l3⟩ := read_laid hM0l at_ 5632 link nm im hd hlink h0 hl (by omega) g5 (by rw [← hbl, hlen]; omega) (by omega)
  rw [← hbl] at l1 l2 l3 hBy
  obtain ⟨M1, hM1⟩ : ∃ M1, M1 = layL M0 at_ bl := ⟨_, rfl⟩
  rw [← hM1] at l1 l2 l3
  obtain ⟨M2, hM2⟩ : ∃ M2, M2 = setM M1 0 5632 := ⟨_, rfl⟩
  rw [← hM2] at l1 l2 l3
  have hlm : bl.length ≤ 1000000 := by omega
  obtain ⟨xt, hxt⟩ : ∃ xt, xt = at_ + (bl.length : Int) := ⟨_, rfl⟩
  have wx : IntKind.i64.wrap (at_ + (bl.length : Int)) = xt := by rw [hxt, IntKind.wrap_i64]; omega
  rw [← hxt] at l3
  unfold hdV at l3
  have hat' := Lib.hid hat
  clear hbl g1 g2 g3 g4 g5 hrm h0 hl hM0l hlen hlink l1 hat hxt
  obtain ⟨N, hN⟩ : ∃ N, N = bl.length := ⟨_, rfl⟩
  rw [← hN] at wx hlm
  replace hN := Lib.hid hN
  replace hlm := Lib.hid hlm
  replace l2 := Lib.hid l2
  replace l3 := Lib.hid l3
  replace hM0 := Lib.hid hM0
  replace hM1 := Lib.hid hM1
  replace hM2 := Lib.hid hM2
  go_upto_region 9 with (first
    | (go_at_call 8; refine (hA.out _).mono ?_; rintro e w1 ⟨rfl, hb1⟩; have hB1 := hB0.below hb1; obtain ⟨y1, y2, y3, y4, y5, y6⟩ := hB1.six; have hB1l := Lib.hid hB1.lt; have hFl := Lib.hid (wFlat w1 0 (.slice none 0 0) [] (Bs.nil _ _)); replace hb1 := Lib.hid (bel_trans hbl0.out hb1))
    | (go_at_call 12; refine hFl.out.mono ?_; rintro e w2 ⟨mb, O2, rfl, hP2, hb2⟩; rw [← hM0.out] at hP2; have hB2 := hB1.below hb2; clear y1 y2 y3 y4 y5 y6 hB1; obtain ⟨y1, y2, y3, y4, y5, y6⟩ := hB2.six; have hs2 := hb2.size; have hO2 := Lib.hid (fun k (hk : O2 k) => (hP2.lt hk).2); have hnO2 := Lib.hid (show ¬ O2 w.heap.size from fun hO => by have h8 := hO2.out _ hO; have h9 := hB1l.out; omega); replace hb2 := Lib.hid hb2; replace hP2 := Lib.hid hP2; replace hs2 := Lib.hid hs2)
    | (go_at_call 9; refine (hBy.out _).mono ?_; rintro e w3 ⟨⟨v, rfl, hv⟩, hb3⟩; have hLay := Lib.hid (mLay (hP2.out.below hb3) (Nat.le_trans hs2.out hb3.size) at_ hat'.out hv (by rw [← hN.out]; exact hlm.out) (hP2.out.apart hv)); rw [← hM1.out] at hLay; obtain ⟨ad, cap, he, hcap⟩ := hv.len; rw [← hN.out] at he; subst he; have hB3 := hB2.below hb3; clear hcap y1 y2 y3 y4 y5 y6 hB2; have hs3 := hb3.size; replace hb3 := Lib.hid hb3; replace hs3 := Lib.hid hs3; clear hv))
  go_upto_region 12 with (first
    | (go_at_call 13; refine hLay.out.mono ?_; rintro e w4 ⟨rfl, O4, hP4, hT4⟩; have hnO4 := Lib.hid (hT4.notO hnO2.out hB3.lt); have hB4 := hB3.turn hT4 hnO2.out; clear hB3; have hs4 := hT4.size; have hSet := Lib.hid (mSet hP4 (Nat.le_trans hs2.out (Nat.le_trans hs3.out hs4)) 0 5632 (by unfold isI; omega)); rw [← hM2.out] at hSet; clear hP4; replace hT4 := Lib.hid hT4; replace hs4 := Lib.hid hs4)
    | (go_at_call 14; refine hSet.out.mono ?_; rintro e w5 ⟨rfl, O5, hP5, hT5⟩; have hnO5 := Lib.hid (hT5.notO hnO4.out hB4.lt); have hB5 := hB4.turn hT5 hnO4.out; clear hB4; have hs5 := hT5.size; have hRd := Lib.hid (mRead hP5 (Nat.le_trans hs2.out (Nat.le_trans hs3.out (Nat.le_trans hs4.out hs5))) at_ hat'.out); rw [l2.out, l3.out] at hRd; clear hP5; replace hT5 := Lib.hid hT5; replace hs5 := Lib.hid hs5)
    | (go_at_call 15; refine hRd.out.mono ?_; rintro e w6 ⟨rfl, O6, hP6, hT6⟩; have hB6 := hB5.turn hT6 hnO5.out; clear hB5; have hB6l := Lib.hid hB6.lt; have hs6 := hT6.size; replace hT6 := Lib.hid hT6; clear hP6; replace hs6 := Lib.hid hs6))
  obtain ⟨w7, hw7⟩ : ∃ w7, w7 = w6.alloc (.cells #[.int .i64 at_, .int .i64 link, .string ⟨nm.toArray⟩, .bool im, .bool hd, .int .i64 xt] 23) := ⟨_, rfl⟩
  rw [← hw7]
  have hB7 : Blk w7 w6.heap.size #[.int .i64 at_, .int .i64 link, .string ⟨nm.toArray⟩, .bool im, .bool hd, .int .i64 xt] 23 := by subst hw7; exact Blk.new _ _ _
  have hb7 := Lib.hid (show Below w6.heap.size w6 w7 by subst hw7; exact bel_alloc (Below.refl _ _) _)
  have hC7 := hB6.below hb7.out
  clear hw7 hB6
  have hb8 : Below w6.heap.size w6 w7 := hb7.out
  obtain ⟨y1, y2, y3, y4, y5, y6⟩ := hC7.six
  go_upto_region 13 with fail
  obtain ⟨w8, hw8⟩ : ∃ w8, w8 = (w7.setCell ⟨w.heap.size, 0, none⟩ (.int .i64 at_)).setCell ⟨w.heap.size, 5, none⟩ (.int .i64 xt) := ⟨_, rfl⟩
  rw [← hw8]
  have hne : w6.heap.size ≠ w.heap.size := by have := hB6l.out; omega
  have hC8 : Blk w8 w.heap.size #[.int .i64 at_, .int .i64 link, .string ⟨nm.toArray⟩, .bool im, .bool hd, .int .i64 xt] 23 := by
    subst hw8
    exact (hC7.set 0 _).set 5 _
  have hB8 : Blk w8 w6.heap.size #[.int .i64 at_, .int .i64 link, .string ⟨nm.toArray⟩, .bool im, .bool hd, .int .i64 xt] 23 := by
    subst hw8
    exact (hB7.set_other hne _ _).set_other hne _ _
  have hbel8 : Below w.heap.size w w8 := by
    subst hw8
    exact bel_set (bel_set (((hb1.out.trans (hb2.out.mono hb1.out.size)).trans ((((((Turn.of_below hb3.out O2).trans hT4.out).trans hT5.out).trans hT6.out).trans (Turn.of_below hb8 _)).below hO2.out hs2.out |>.mono hb1.out.size))) (Nat.le_refl _) _) (Nat.le_refl _) _
  clear hw8 y1 y2 y3 y4 y5 y6 hC7 hB7
  replace hbel8 := Lib.hid hbel8
  obtain ⟨y1, y2, y3, y4, y5, y6⟩ := hC8.six
  obtain ⟨z1, z2, z3, z4, z5, z6⟩ := hB8.six
  go_wp2
  go_ret
  exact ⟨rfl, hbel8.out⟩
end Go.Proofs.Ytenhpfncpmfkoaa
