/- The reference's 'Here', 'Inside', 'Read', 'Latest'. -/
import Derived.Test.YtjihhojlakapnaaDoorN3
import Derived.Test.YtjihhojlakapnaaDoorH5
namespace Go.Proofs.YtjihhojlakapnaaDoor
open Go.RowKit
set_option linter.unusedVariables false
set_option linter.unusedSimpArgs false
attribute [local go_sem] cell_set set_set m_undef

theorem getM_isI (M : List UInt8) (a : Int) : isI (getM M a) := by
  unfold getM cellL isI
  have := IntKind.wrap_i64 (leN (loadL M a 8) 0 8 : Int)
  omega
set_option maxHeartbeats 1000000 in
theorem rHere {w : World} {base rb : Nat} {M : List UInt8} {R : Nat → Prop} (h : RefP w base rb M R) :
    Calls Tryd.prog 33 #[.pointer (some ⟨rb, 0, none⟩)] w fun e w' => e = .returned (.int .i64 (hereL M)) ∧ Below w.heap.size w w' := by
  have hG := Lib.hid (rGet h 0 (by unfold isI; omega))
  unfold hereL
  generalize getM M 0 = n at *
  clear h
  go_enter Tryd.func33, Tryd.ntmps33
  by_cases h1 : 1536 ≤ n
  · have t1 : (n < 1536) = False := by simp; omega
    by_cases h2 : n ≤ 5632
    · have t2 : ((5632 : Int) < n) = False := by simp; omega
      rw [if_pos ⟨h1, h2⟩]
      clear h1 h2
      go_wp2_with (go_at_call 29; refine hG.out.mono ?_; rintro e w1 ⟨rfl, hb1⟩; replace hb1 := Lib.hid hb1)
      go_ret
      exact ⟨rfl, hb1.out⟩
    · have t2 : ((5632 : Int) < n) = True := by simp; omega
      rw [if_neg (fun h => h2 h.2)]
      clear h1 h2
      go_wp2_with (go_at_call 29; refine hG.out.mono ?_; rintro e w1 ⟨rfl, hb1⟩; replace hb1 := Lib.hid hb1)
      go_ret
      exact ⟨rfl, hb1.out⟩
  · have t1 : (n < 1536) = True := by simp; omega
    rw [if_neg (fun h => h1 h.1)]
    clear h1
    go_wp2_with (go_at_call 29; refine hG.out.mono ?_; rintro e w1 ⟨rfl, hb1⟩; replace hb1 := Lib.hid hb1)
    go_ret
    exact ⟨rfl, hb1.out⟩
/-- Whether a whole cell stands there. -/
def insL (M : List UInt8) (a : Int) : Bool := decide (a % 8 = 0 ∧ 1536 ≤ a ∧ a + 8 ≤ hereL M)
set_option maxHeartbeats 1000000 in
theorem rInside {w : World} {base rb : Nat} {M : List UInt8} {R : Nat → Prop} (h : RefP w base rb M R) (a : Int) (ha : isI a) :
    Calls Tryd.prog 28 #[.pointer (some ⟨rb, 0, none⟩), .int .i64 a] w fun e w' => e = .returned (.bool (insL M a)) ∧ Below w.heap.size w w' := by
  have hH := Lib.hid (rHere h)
  have hl : 1536 ≤ hereL M ∧ hereL M ≤ 5632 := by unfold hereL; split <;> omega
  unfold insL
  generalize hereL M = here at *
  unfold isI at ha
  have wh : IntKind.i64.wrap (here - 8) = here - 8 := by rw [IntKind.wrap_i64]; omega
  obtain ⟨r, hr⟩ : ∃ r, r = a.tmod 8 := ⟨_, rfl⟩
  have hr0 : r = 0 ↔ a % 8 = 0 := by rw [hr, Int.tmod_eq_emod]; split <;> omega
  have rm : a.tmod 8 = r := hr.symm
  clear hr h
  obtain ⟨h8, hh8⟩ : ∃ h8, h8 = here - 8 := ⟨_, rfl⟩
  rw [← hh8] at wh
  rw [hh8] at wh
  have wh2 : wrap64 (here - 8) = h8 := by rw [hh8]; unfold wrap64; omega
  rw [← hh8] at wh
  by_cases g1 : r = 0
  · have t1 : (r == 0) = true := by simp; exact g1
    by_cases g2 : 1536 ≤ a
    · have t2 : ((1536 : Int) ≤ a) = True := by simp; exact g2
      by_cases g3 : a ≤ h8
      · have t3 : (a ≤ h8) = True := by simp; exact g3
        have e : decide (a % 8 = 0 ∧ 1536 ≤ a ∧ a + 8 ≤ here) = true := by rw [decide_eq_true_iff]; exact ⟨hr0.1 g1, g2, by omega⟩
        rw [e]
        clear g1 g2 g3 e hh8 hl ha hr0
        go_enter Tryd.func28, Tryd.ntmps28
        go_wp2_with (go_at_call 33; refine hH.out.mono ?_; rintro e w1 ⟨rfl, hb1⟩; replace hb1 := Lib.hid hb1)
        go_ret
        exact ⟨rfl, hb1.out⟩
      · have t3 : (a ≤ h8) = False := by simp; omega
        have e : decide (a % 8 = 0 ∧ 1536 ≤ a ∧ a + 8 ≤ here) = false := by rw [decide_eq_false_iff_not]; omega
        rw [e]
        clear g1 g2 g3 e hh8 hl ha hr0
        go_enter Tryd.func28, Tryd.ntmps28
        go_wp2_with (go_at_call 33; refine hH.out.mono ?_; rintro e w1 ⟨rfl, hb1⟩; replace hb1 := Lib.hid hb1)
        go_ret
        exact ⟨rfl, hb1.out⟩
    · have t2 : ((1536 : Int) ≤ a) = False := by simp; omega
      have e : decide (a % 8 = 0 ∧ 1536 ≤ a ∧ a + 8 ≤ here) = false := by rw [decide_eq_false_iff_not]; omega
      rw [e]
      clear g1 g2 e hh8 hl ha hr0
      go_enter Tryd.func28, Tryd.ntmps28
      go_wp2
      go_ret
      exact ⟨rfl, Below.refl _ _⟩
  · have t1 : (r == 0) = false := by simp; exact g1
    have e : decide (a % 8 = 0 ∧ 1536 ≤ a ∧ a + 8 ≤ here) = false := by rw [decide_eq_false_iff_not]; exact fun h => g1 (hr0.2 h.1)
    rw [e]
    clear g1 e hh8 hl ha hr0
    go_enter Tryd.func28, Tryd.ntmps28
    go_wp2
    go_ret
    exact ⟨rfl, Below.refl _ _⟩
theorem rread_low {w : World} {base rb : Nat} {M : List UInt8} {R : Nat → Prop} (h : RefP w base rb M R) (at_ : Int) (hat : isI at_) (hno : ¬ (at_ % 8 = 0 ∧ 1536 ≤ at_ ∧ at_ < hereL M)) :
    Calls Tryd.prog 48 #[.pointer (some ⟨rb, 0, none⟩), .int .i64 at_] w fun e w' => e = .returned (.tuple #[hdV 0 0 [] false false 0, .bool false]) ∧ Below w.heap.size w w' := by
  unfold isI at hat
  obtain ⟨w0, hw0⟩ : ∃ w0, w0 = w.alloc (.cells #[.int .i64 0, .int .i64 0, .string ⟨#[]⟩, .bool false, .bool false, .int .i64 0] 65) := ⟨_, rfl⟩
  have hB0 : Blk w0 w.heap.size #[.int .i64 0, .int .i64 0, .string ⟨#[]⟩, .bool false, .bool false, .int .i64 0] 65 := by subst hw0; exact Blk.new _ _ _
  have hbl0 : Below w.heap.size w w0 := by subst hw0; exact bel_alloc (Below.refl _ _) _
  have hM0 := h.below hbl0
  obtain ⟨here, hhere⟩ : ∃ here, here = hereL M := ⟨_, rfl⟩
  have hH := Lib.hid (rHere hM0)
  rw [← hhere] at hH
  obtain ⟨r, hr⟩ : ∃ r, r = at_.tmod 8 := ⟨_, rfl⟩
  have hr0 : r = 0 ↔ at_ % 8 = 0 := by rw [hr, Int.tmod_eq_emod]; split <;> omega
  replace hM0 := Lib.hid hM0
  replace hhere := Lib.hid hhere
  replace h := Lib.hid h
  replace hr0 := Lib.hid hr0
  have rm : at_.tmod 8 = r := hr.symm
  clear hr
  have hB0l := hB0.lt
  obtain ⟨y1, y2, y3, y4, y5, y6⟩ := hB0.six
  have hbl0' := Lib.hid hbl0
  clear hbl0
  go_enter Tryd.func48, Tryd.ntmps48
  go_upto_region 1 with fail
  rw [← hw0]
  clear hw0
  by_cases h1 : r = 0
  · have t1 : (r != 0) = false := by simp; exact h1
    by_cases h2 : at_ < 1536
    · have t2 : (at_ < 1536) = True := by simp; exact h2
      clear h1 h2 hat
      go_wp2
      refine ret_blk (v := .tuple #[hdV 0 0 [] false false 0, .bool false]) w.heap.size #[.int .i64 0, .int .i64 0, .string ⟨#[]⟩, .bool false, .bool false, .int .i64 0] 65 (Blk.put6 hB0) (fun w' h => by obtain ⟨e1, e2, e3, e4, e5, e6⟩ := h.six; simp [results, Tryd.results48, go_sem, hdV, e1, e2, e3, e4, e5, e6]) rfl ?_
      refine ⟨rfl, ?_⟩
      (repeat (refine bel_set ?_ (Nat.le_refl _) _)); exact hbl0'.out
    · have t2 : (at_ < 1536) = False := by simp; omega
      have t3 : (here ≤ at_) = True := by simp; have e2 := hhere.out; have e1 := hr0.out.1 h1; rw [← e2] at hno; omega
      clear h1 h2 hat
      go_wp2_with (go_at_call 33; refine hH.out.mono ?_; rintro e w1 ⟨rfl, hb1⟩; have hB1 := hB0.below hb1; clear y1 y2 y3 y4 y5 y6; obtain ⟨y1, y2, y3, y4, y5, y6⟩ := hB1.six; have hbl1 := Lib.hid (bel_trans hbl0'.out hb1); have hM1 := Lib.hid (hM0.out.below hb1); clear hb1)
      refine ret_blk (v := .tuple #[hdV 0 0 [] false false 0, .bool false]) w.heap.size #[.int .i64 0, .int .i64 0, .string ⟨#[]⟩, .bool false, .bool false, .int .i64 0] 65 (Blk.put6 hB1) (fun w' h => by obtain ⟨e1, e2, e3, e4, e5, e6⟩ := h.six; simp [results, Tryd.results48, go_sem, hdV, e1, e2, e3, e4, e5, e6]) rfl ?_
      refine ⟨rfl, ?_⟩
      (repeat (refine bel_set ?_ (Nat.le_refl _) _)); exact hbl1.out
  · have t1 : (r != 0) = true := by simp; exact h1
    clear h1 hat
    go_wp2
    refine ret_blk (v := .tuple #[hdV 0 0 [] false false 0, .bool false]) w.heap.size #[.int .i64 0, .int .i64 0, .string ⟨#[]⟩, .bool false, .bool false, .int .i64 0] 65 (Blk.put6 hB0) (fun w' h => by obtain ⟨e1, e2, e3, e4, e5, e6⟩ := h.six; simp [results, Tryd.results48, go_sem, hdV, e1, e2, e3, e4, e5, e6]) rfl ?_
    refine ⟨rfl, ?_⟩
    (repeat (refine bel_set ?_ (Nat.le_refl _) _)); exact hbl0'.out

theorem ne64 (x : Nat) (h : x < 256) : (bits .and .u8 (x : Int) 64 != 0) = decide (x / 64 % 2 = 1) := by
  have h2 : bits .and .u8 (x : Int) 64 = ((x &&& 64 : Nat) : Int) := u8_and_nat x 64 h (by omega)
  rw [h2, nat64 x h]
  split <;> simp_all
set_option maxRecDepth 100000 in
set_option maxHeartbeats 2000000 in
theorem rread_in {w : World} {base rb : Nat} {M : List UInt8} {R : Nat → Prop} (h : RefP w base rb M R) (at_ : Int) (hat : isI at_) (h8 : at_ % 8 = 0) (hlo : 1536 ≤ at_) (hhi : at_ < hereL M) :
    Calls Tryd.prog 48 #[.pointer (some ⟨rb, 0, none⟩), .int .i64 at_] w fun e w' => e = .returned (.tuple #[rdV M at_, .bool (rdOk M at_)]) ∧ Below w.heap.size w w' := by
  have hhl := hereL_le M
  unfold isI at hat
  obtain ⟨w0, hw0⟩ : ∃ w0, w0 = w.alloc (.cells #[.int .i64 0, .int .i64 0, .string ⟨#[]⟩, .bool false, .bool false, .int .i64 0] 65) := ⟨_, rfl⟩
  have hB0 : Blk w0 w.heap.size #[.int .i64 0, .int .i64 0, .string ⟨#[]⟩, .bool false, .bool false, .int .i64 0] 65 := by subst hw0; exact Blk.new _ _ _
  have hbl0 : Below w.heap.size w w0 := by subst hw0; exact bel_alloc (Below.refl _ _) _
  have hM0 := h.below hbl0
  obtain ⟨here, hhere⟩ : ∃ here, here = hereL M := ⟨_, rfl⟩
  have hH := Lib.hid (rHere hM0)
  rw [← hhere] at hH
  obtain ⟨r, hr⟩ : ∃ r, r = at_.tmod 8 := ⟨_, rfl⟩
  have hr0 : r = 0 ↔ at_ % 8 = 0 := by rw [hr, Int.tmod_eq_emod]; split <;> omega
  replace hM0 := Lib.hid hM0
  replace hhere := Lib.hid hhere
  replace h := Lib.hid h
  replace hr0 := Lib.hid hr0
  have rm : at_.tmod 8 = r := hr.symm
  clear hr
  have hB0l := hB0.lt
  obtain ⟨y1, y2, y3, y4, y5, y6⟩ := hB0.six
  have hbl0' := Lib.hid hbl0
  clear hbl0
  go_enter Tryd.func48, Tryd.ntmps48
  go_upto_region 1 with fail
  rw [← hw0]
  clear hw0
  have t1 : (r != 0) = false := by simp; exact hr0.out.2 h8
  have t2 : (at_ < 1536) = False := by simp; omega
  have t3 : (here ≤ at_) = False := by simp; rw [hhere.out]; exact hhi
  obtain ⟨x, hx⟩ : ∃ x, x = rdB M at_ := ⟨_, rfl⟩
  have hm8 : rdB M at_ = (memAt M (at_ + 8)).toNat := by
    unfold rdB
    rw [loadL_getD M at_ 40 8 (by omega) (by omega)]
    rfl
  rw [← hx] at hm8
  have hx256 : x < 256 := by rw [hm8]; exact UInt8.toNat_lt _
  have hn : rdN M at_ = x % 32 := by rw [rdN, hx]
  obtain ⟨n, hnn⟩ : ∃ n, n = x % 32 := ⟨_, rfl⟩
  rw [← hnn] at hn
  have rm2 : (x : Int).tmod 32 = (n : Int) := by rw [Int.tmod_eq_emod_of_nonneg (by omega)]; omega
  obtain ⟨xt, hxt⟩ : ∃ xt, xt = rdXt M at_ := ⟨_, rfl⟩
  have hxt2 : xt = alignZ (at_ + 9 + (n : Int)) := by rw [hxt, rdXt, hn]
  have wn : IntKind.i64.wrap (n : Int) = (n : Int) := by rw [IntKind.wrap_i64]; omega
  obtain ⟨p8, hp8⟩ : ∃ p8, p8 = at_ + 8 := ⟨_, rfl⟩
  obtain ⟨p9, hp9⟩ : ∃ p9, p9 = at_ + 9 := ⟨_, rfl⟩
  obtain ⟨p, hp⟩ : ∃ p, p = at_ + 9 + (n : Int) := ⟨_, rfl⟩
  have wa : IntKind.i64.wrap (at_ + 8) = p8 := by rw [IntKind.wrap_i64]; omega
  have wb : IntKind.i64.wrap (at_ + 9) = p9 := by rw [IntKind.wrap_i64]; omega
  have wc : IntKind.i64.wrap (p9 + (n : Int)) = p := by rw [IntKind.wrap_i64]; omega
  have hal := alignZ_small p (by omega)
  rw [← hp] at hxt2
  rw [← hxt2] at hal
  have hAl := Lib.hid (fun w => rAlign w p (by unfold isI; omega))
  rw [← hxt2] at hAl
  have hok : rdOk M at_ = decide (n ≠ 0 ∧ xt + 8 ≤ here) := by
    unfold rdOk
    rw [hn, ← hxt, hhere.out]
    simp [h8, hlo, hhi]
  have hin : insL M xt = decide (xt + 8 ≤ here) := by
    unfold insL
    rw [← hhere.out]
    have e1 : xt % 8 = 0 := hal.2.2
    have e2 : 1536 ≤ xt := by omega
    simp [e1, e2]
  have hL1 := Lib.hid (fun (w9 : World) (h9 : RefP w9 base rb M R) => rLoad h9 p8 1 (by unfold isI; omega))
  have hLn := Lib.hid (fun (w9 : World) (h9 : RefP w9 base rb M R) => rLoad h9 p9 (n : Int) (by unfold isI; omega))
  have hGt := Lib.hid (fun (w9 : World) (h9 : RefP w9 base rb M R) => rGet h9 at_ hat)
  have hIn := Lib.hid (fun (w9 : World) (h9 : RefP w9 base rb M R) => rInside h9 xt (by unfold isI; omega))
  rw [hin] at hIn
  have hlen1 : (loadL M p8 1).length = 1 := by rw [loadL_len]; rfl
  have hm9 : ((loadL M p8 1)[0]'(by rw [hlen1]; omega)).toNat = x := by rw [hm8, loadL_get, hp8]; simp
  have hnx : n < 32 := by omega
  have hnm : loadL M p9 (n : Int) = ((loadL M at_ 40).drop 9).take n := by
    have e40 : (loadL M at_ 40).length = 40 := by rw [loadL_len]; rfl
    have en : (loadL M p9 (n : Int)).length = n := by rw [loadL_len]; omega
    apply List.ext_getElem
    · rw [en, List.length_take, List.length_drop, e40]; omega
    · intro i i1 i2
      rw [loadL_get, List.getElem_take, List.getElem_drop, loadL_get, hp9, Int.add_assoc]
      rfl
  have hlk : getM M at_ = cellL (loadL M at_ 40) 0 := by
    unfold getM cellL
    rw [leN_congr (l := loadL M at_ 8) (a := 0) (m := loadL M at_ 40) (b := 0) 8]
    intro i hi
    rw [byteZ_load _ _ _ _ (by omega) (by omega) (by omega), byteZ_load _ _ _ _ (by omega) (by omega) (by omega)]
  obtain ⟨nm, hnm2⟩ : ∃ nm, nm = loadL M p9 (n : Int) := ⟨_, rfl⟩
  rw [← hnm2] at hnm hLn
  obtain ⟨ct, hct⟩ : ∃ ct, ct = getM M at_ := ⟨_, rfl⟩
  rw [← hct] at hlk hGt
  have hbad : (n = 0 ∨ here < xt + 8) → (Ending.returned (.tuple #[hdV 0 0 [] false false 0, .bool false])) = .returned (.tuple #[rdV M at_, .bool (rdOk M at_)]) := fun hh => by
    have hok2 : rdOk M at_ = false := by rw [hok, decide_eq_false_iff_not]; omega
    unfold rdV
    rw [hok2]
    rfl
  have hgood : n ≠ 0 → xt + 8 ≤ here → (Ending.returned (.tuple #[hdV at_ ct nm (decide (128 ≤ x)) (decide (x / 64 % 2 = 1)) xt, .bool true])) = .returned (.tuple #[rdV M at_, .bool (rdOk M at_)]) := fun hh1 hh2 => by
    have hok2 : rdOk M at_ = true := by rw [hok, decide_eq_true_iff]; exact ⟨hh1, hh2⟩
    unfold rdV
    rw [hok2, hn, ← hxt, ← hx, ← hnm, ← hlk]
    rfl
  replace hbad := Lib.hid hbad
  replace hgood := Lib.hid hgood
  replace hlen1 := Lib.hid hlen1
  replace hm9 := Lib.hid hm9
  have g1 : decide ((128 : Int) ≤ (x : Int)) = decide (128 ≤ x) := by by_cases h9 : 128 ≤ x <;> simp [h9] <;> omega
  have g2 := ne64 x hx256
  clear hp hp9 hp8 hxt2 hal hnm hlk hct hnm2 hok hin hn hxt hx hm8 hx256 hnn hat h8 hlo hhi hhl hnx
  go_upto_region 4 with (first
    | (go_at_call 33; refine hH.out.mono ?_; rintro e w1 ⟨rfl, hb1⟩; have hB1 := hB0.below hb1; clear y1 y2 y3 y4 y5 y6; obtain ⟨y1, y2, y3, y4, y5, y6⟩ := hB1.six; have hbl1 := Lib.hid (bel_trans hbl0'.out hb1); have hM1 := Lib.hid (hM0.out.below hb1); clear hb1)
    | (go_at_call 34; refine (hL1.out _ hM1.out).mono ?_; rintro e w2 ⟨v2, rfl, hv2, hb2⟩; have hB2 := hB1.below hb2; clear y1 y2 y3 y4 y5 y6; obtain ⟨y1, y2, y3, y4, y5, y6⟩ := hB2.six; have hbl2 := Lib.hid (bel_trans hbl1.out hb2); have hM2 := Lib.hid (hM1.out.below hb2); obtain ⟨bb, oo, cap, he⟩ := hv2.some_of (by intro e; have h9 := hlen1.out; rw [e] at h9; simp at h9); rw [hlen1.out] at he; subst he; obtain ⟨s2, s2f⟩ := hv2.at 0 (by rw [hlen1.out]; omega); rw [hm9.out, Nat.add_zero] at s2; clear s2f hv2 hb2))
  clear hL1 hlen1 hm9
  go_upto_region 6 with (go_at_call 16; refine (hAl.out _).mono ?_; rintro e _ ⟨rfl, rfl⟩)
  by_cases hn0 : n = 0
  · have q1 : ((n : Int) == 0) = true := by simp; exact hn0
    have hb := Lib.hid (hbad.out (.inl hn0))
    clear hn0
    go_wp2
    refine ret_blk (v := .tuple #[hdV 0 0 [] false false 0, .bool false]) w.heap.size #[.int .i64 0, .int .i64 0, .string ⟨#[]⟩, .bool false, .bool false, .int .i64 0] 65 (Blk.put6 hB2) (fun w' h => by obtain ⟨e1, e2, e3, e4, e5, e6⟩ := h.six; simp [results, Tryd.results48, go_sem, hdV, e1, e2, e3, e4, e5, e6]) rfl ?_
    refine ⟨hb.out, ?_⟩
    (repeat (refine bel_set ?_ (Nat.le_refl _) _)); exact hbl2.out
  · have q1 : ((n : Int) == 0) = false := by simp; exact hn0
    have IN : True := trivial
    by_cases hx8 : xt + 8 ≤ here
    · have hb := Lib.hid (hgood.out hn0 hx8)
      have q2 : decide (xt + 8 ≤ here) = true := by simp; exact hx8
      rw [q2] at hIn
      clear hx8 hn0 q2 hbad hgood
      go_upto_region 8 with (go_at_call 28; refine (hIn.out _ hM2.out).mono ?_; rintro e w3 ⟨rfl, hb3⟩; have hB3 := hB2.below hb3; clear y1 y2 y3 y4 y5 y6; obtain ⟨y1, y2, y3, y4, y5, y6⟩ := hB3.six; have hbl3 := Lib.hid (bel_trans hbl2.out hb3); have hM3 := Lib.hid (hM2.out.below hb3); clear hb3 s2)
      go_wp2_with (first
        | (go_at_call 29; refine (hGt.out _ hM3.out).mono ?_; rintro e w4 ⟨rfl, hb4⟩; have hB4 := hB3.below hb4; clear y1 y2 y3 y4 y5 y6; obtain ⟨y1, y2, y3, y4, y5, y6⟩ := hB4.six; have hbl4 := Lib.hid (bel_trans hbl3.out hb4); have hM4 := Lib.hid (hM3.out.below hb4); clear hb4)
        | (go_at_call 34; refine (hLn.out _ hM4.out).mono ?_; rintro e w5 ⟨v5, rfl, hv5, hb5⟩; have hB5 := hB4.below hb5; clear y1 y2 y3 y4 y5 y6; obtain ⟨y1, y2, y3, y4, y5, y6⟩ := hB5.six; have hbl5 := Lib.hid (bel_trans hbl4.out hb5); have estr := hv5.str (P := Tryd.prog) (src := 22) (dst := 9) Tryd.underlying22 Tryd.underlying5 Tryd.underlying9; obtain ⟨a5, c5, he, h9⟩ := hv5.len; subst he; clear hv5 hb5 h9))
      refine ret_blk (v := .tuple #[hdV at_ ct nm (decide (128 ≤ x)) (decide (x / 64 % 2 = 1)) xt, .bool true]) w.heap.size #[.int .i64 at_, .int .i64 ct, .string ⟨nm.toArray⟩, .bool (decide (128 ≤ x)), .bool (decide (x / 64 % 2 = 1)), .int .i64 xt] 65 (Blk.put6 hB5) (fun w' h => by obtain ⟨e1, e2, e3, e4, e5, e6⟩ := h.six; simp [results, Tryd.results48, go_sem, hdV, e1, e2, e3, e4, e5, e6]) rfl ?_
      refine ⟨hb.out, ?_⟩
      (repeat (refine bel_set ?_ (Nat.le_refl _) _)); exact hbl5.out
    · have hb := Lib.hid (hbad.out (.inr (by omega)))
      have q2 : decide (xt + 8 ≤ here) = false := by simp; omega
      rw [q2] at hIn
      clear hx8 hn0 q2 hbad hgood
      go_wp2_with (go_at_call 28; refine (hIn.out _ hM2.out).mono ?_; rintro e w3 ⟨rfl, hb3⟩; have hB3 := hB2.below hb3; clear y1 y2 y3 y4 y5 y6; obtain ⟨y1, y2, y3, y4, y5, y6⟩ := hB3.six; have hbl3 := Lib.hid (bel_trans hbl2.out hb3); clear hb3 s2)
      refine ret_blk (v := .tuple #[hdV 0 0 [] false false 0, .bool false]) w.heap.size #[.int .i64 0, .int .i64 0, .string ⟨#[]⟩, .bool false, .bool false, .int .i64 0] 65 (Blk.put6 hB3) (fun w' h => by obtain ⟨e1, e2, e3, e4, e5, e6⟩ := h.six; simp [results, Tryd.results48, go_sem, hdV, e1, e2, e3, e4, e5, e6]) rfl ?_
      refine ⟨hb.out, ?_⟩
      (repeat (refine bel_set ?_ (Nat.le_refl _) _)); exact hbl3.out

theorem rRead {w : World} {base rb : Nat} {M : List UInt8} {R : Nat → Prop} (h : RefP w base rb M R) (at_ : Int) (hat : isI at_) :
    Calls Tryd.prog 48 #[.pointer (some ⟨rb, 0, none⟩), .int .i64 at_] w fun e w' => e = .returned (.tuple #[rdV M at_, .bool (rdOk M at_)]) ∧ Below w.heap.size w w' := by
  by_cases hc : at_ % 8 = 0 ∧ 1536 ≤ at_ ∧ at_ < hereL M
  · exact rread_in h at_ hat hc.1 hc.2.1 hc.2.2
  · have hok : rdOk M at_ = false := by
      unfold rdOk
      rw [decide_eq_false_iff_not]
      exact fun h2 => hc ⟨h2.1, h2.2.1, h2.2.2.1⟩
    have hV : rdV M at_ = hdV 0 0 [] false false 0 := by unfold rdV; rw [hok]; rfl
    rw [hok, hV]
    exact rread_low h at_ hat hc
end Go.Proofs.YtjihhojlakapnaaDoor
