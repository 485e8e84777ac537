/- The reference's 'Mark'; what stands behind it. -/
import Derived.Test.YtcfblcgdjhpdaaaH9
namespace Go.Proofs.Ytcfblcgdjhpdaaa
open Go.RowKit
set_option linter.unusedVariables false
set_option linter.unusedSimpArgs false
attribute [local go_sem] cell_set set_set m_undef

set_option maxRecDepth 100000 in
set_option maxHeartbeats 1000000 in
theorem rMark {w : World} {base rb : Nat} {M : List UInt8} {R : Nat → Prop} (h : RefP w base rb M R) (at_ : Int) (hat : isI at_) (now hides : Bool) :
    Calls Try.prog 23 #[.pointer (some ⟨rb, 0, none⟩), .int .i64 at_, .bool now, .bool hides] w fun e w' => RefQ w w' base rb (markM M at_ now hides) R (.bool (rdOk M at_)) e := by
  have hRd := Lib.hid (rRead h at_ hat)
  obtain ⟨ok, hok⟩ : ∃ ok, ok = rdOk M at_ := ⟨_, rfl⟩
  unfold markM
  cases ok with
  | false =>
    obtain ⟨A, K, S, I, H, X, hV, _⟩ := rdV_form M at_
    rw [← hok, hV] at hRd
    rw [← hok]
    clear hok hV
    simp only [Bool.false_eq_true, if_false]
    replace h := Lib.hid h
    go_enter Try.func23, Try.ntmps23
    go_upto_region 2 with (go_at_call 31; refine hRd.out.mono ?_; rintro e w1 ⟨rfl, hb1⟩; replace hb1 := Lib.hid hb1)
    obtain ⟨w3, hw3⟩ : ∃ w3, w3 = w1.alloc (.cells #[.int .i64 A, .int .i64 K, .string S, .bool I, .bool H, .int .i64 X] 34) := ⟨_, rfl⟩
    rw [← hw3]
    have hb3 := Lib.hid (show Below w.heap.size w w3 by subst hw3; exact bel_alloc hb1.out _)
    clear hw3
    go_wp2
    go_ret
    exact ⟨rfl, R, h.out.below hb3.out, Turn.of_below hb3.out R⟩
  | true =>
    obtain ⟨K, S, I, H, X, hV, hS, ha1, ha2⟩ := rdV_good M at_ hok.symm
    rw [← hok, hV] at hRd
    rw [← hok]
    simp only [if_true]
    obtain ⟨nb, hnb⟩ : ∃ nb, nb = newB M at_ now hides := ⟨_, rfl⟩
    have hnl : nb < 256 := by rw [hnb]; exact newB_lt _ _ _ _
    rw [← hnb]
    have hnn : rdN M at_ < 32 := Nat.mod_lt _ (by omega)
    have hrb : rdB M at_ < 256 := UInt8.toNat_lt _
    have hmk := (markN_lt (rdN M at_) now hides hnn).1
    have hand : bits .and .u8 (rdB M at_ : Int) 32 = ((rdB M at_ &&& 32 : Nat) : Int) := u8_and_nat (rdB M at_) 32 hrb (by omega)
    have hal : rdB M at_ &&& 32 < 256 := Nat.lt_of_le_of_lt Nat.and_le_right (by omega)
    have hor := or32 (markN (rdN M at_) now hides) (rdB M at_ &&& 32) hmk hal
    have hnb2 : markN (rdN M at_) now hides ||| (rdB M at_ &&& 32) = nb := by rw [Nat.or_comm]; exact hnb.symm
    rw [hnb2] at hor
    have hB := rdB_at M at_
    have hby := Lib.hid (fun w => rmark w S.size now hides (by rw [hS]; exact hnn))
    rw [hS] at hby
    obtain ⟨p8, hp8⟩ : ∃ p8, p8 = at_ + 8 := ⟨_, rfl⟩
    have wa : IntKind.i64.wrap (at_ + 8) = p8 := by clear hor hand hnb2; rw [IntKind.wrap_i64]; omega
    have hp8i : isI p8 := by clear hor hand hnb2; unfold isI; omega
    have hLo := Lib.hid (fun (w9 : World) (h9 : RefP w9 base rb M R) => rLoad h9 p8 1 hp8i)
    have hl1 : loadL M p8 1 = [memAt M p8] := by rw [hp8]; exact load1 M at_
    rw [← hp8] at hB ⊢
    rw [hl1] at hLo
    obtain ⟨c8, hc8⟩ : ∃ c8, c8 = memAt M p8 := ⟨_, rfl⟩
    rw [← hc8] at hLo hB
    rw [hB] at hand hor
    obtain ⟨mk, hmk2⟩ : ∃ mk, mk = markN (rdN M at_) now hides := ⟨_, rfl⟩
    rw [← hmk2] at hor hby
    obtain ⟨old, hold⟩ : ∃ old, old = c8.toNat &&& 32 := ⟨_, rfl⟩
    rw [← hold] at hand hor
    obtain ⟨cN, hcN⟩ : ∃ cN, cN = c8.toNat := ⟨_, rfl⟩
    rw [← hcN] at hand
    obtain ⟨nbb, hnbb⟩ : ∃ nbb, nbb = UInt8.ofNat nb := ⟨_, rfl⟩
    have hnbn : (nb : Int) = (nbb.toNat : Int) := by rw [hnbb, UInt8.toNat_ofNat']; omega
    rw [hnbn] at hor
    rw [← hnbb]
    have hLay := Lib.hid (fun (w9 : World) (h9 : RefP w9 base rb M R) (B9 : Nat) (v9 : Value) (bs9 : List UInt8) (hv9 : Bs w9 B9 v9 bs9) (hl9 : bs9.length ≤ 1000000) (hk9 : ∀ k, v9.ownBlock = some k → ¬ R k) => rLay h9 p8 hp8i hv9 hl9 hk9)
    have hSz : ((S.size : Nat) : Int) = ((rdN M at_ : Nat) : Int) := by rw [hS]
    generalize rdN M at_ = n at *
    replace hcN := Lib.hid hcN
    replace h := Lib.hid h
    clear hV hS ha1 ha2 hnb hnb2 hnl hnn hrb hmk hal hB hp8 hp8i hl1 hc8 hmk2 hold hnbb hnbn hok hat
    go_enter Try.func23, Try.ntmps23
    go_upto_region 2 with (go_at_call 31; refine hRd.out.mono ?_; rintro e w1 ⟨rfl, hb1⟩; replace hb1 := Lib.hid hb1)
    obtain ⟨w3, hw3⟩ : ∃ w3, w3 = w1.alloc (.cells #[.int .i64 at_, .int .i64 K, .string S, .bool I, .bool H, .int .i64 X] 34) := ⟨_, rfl⟩
    rw [← hw3]
    have hb3 := Lib.hid (show Below w.heap.size w w3 by subst hw3; exact bel_alloc hb1.out _)
    have hB3 : Blk w3 w1.heap.size #[.int .i64 at_, .int .i64 K, .string S, .bool I, .bool H, .int .i64 X] 34 := by subst hw3; exact Blk.new _ _ _
    clear hw3
    go_upto_region 5 with (go_at_call 51; refine (hLo.out _ (h.out.below hb3.out)).mono ?_; rintro e w4 ⟨v4, rfl, hv4, hb4⟩; have hB4 := hB3.below hb4; have hbl4 := Lib.hid (bel_trans hb3.out hb4); have hR4 := Lib.hid (h.out.below hbl4.out); obtain ⟨bb, oo, cap, he⟩ := hv4.some_of (by simp); subst he; obtain ⟨s2, s2f⟩ := hv4.at 0 (by simp); rw [Nat.add_zero, List.getElem_cons_zero, ← hcN.out] at s2; clear s2f hv4 hb4; obtain ⟨y1, y2, y3, y4, y5, y6⟩ := hB4.six)
    have hA5 : Bs (w4.alloc (.cells #[.int .u8 (nbb.toNat : Int)] 5)) w4.heap.size (.slice (some ⟨w4.heap.size, 0, none⟩) 1 1) [nbb] := Bs.lit1 w4 nbb
    have hb5 : Below w4.heap.size w4 (w4.alloc (.cells #[.int .u8 (nbb.toNat : Int)] 5)) := bel_alloc (Below.refl _ _) _
    have hL5 := hLay.out _ (hR4.out.below hb5) _ _ _ hA5 (by simp) (fun k hk hO => by have := (hR4.out.lt hO).1; have e' : w4.heap.size = k := Option.some.inj hk; omega)
    replace hL5 := Lib.hid hL5
    replace hb5 := Lib.hid hb5
    clear hA5
    go_wp2_with (first
      | (go_at_call 52; refine (hby.out _).mono ?_; rintro e _ ⟨rfl, rfl⟩)
      | (go_at_call 46; refine hL5.out.mono ?_; rintro e w6 ⟨rfl, R6, hM6, hT6⟩; replace hM6 := Lib.hid hM6; replace hT6 := Lib.hid hT6))
    go_ret
    exact ⟨rfl, R6, hM6.out, ((Turn.of_below hbl4.out R).trans (Turn.of_below hb5.out _)).trans hT6.out⟩
/-- A cell's byte with its spare bit. -/
theorem mark_bits : ∀ o : Nat, o = 0 ∨ o = 32 → ∀ n : Fin 32, ∀ im hd : Bool, (o ||| markN n.1 im hd) % 32 = n.1 ∧ decide (128 ≤ (o ||| markN n.1 im hd)) = im ∧ decide ((o ||| markN n.1 im hd) / 64 % 2 = 1) = hd := by
  rintro o (rfl | rfl) <;> decide
set_option maxRecDepth 100000 in
theorem and32 : ∀ b : Fin 256, b.1 &&& 32 = 0 ∨ b.1 &&& 32 = 32 := by decide
/-- Behind 'Mark' the header has the marks. -/
theorem mark_reads {M : List UInt8} (hM : M.length = 8192) (a : Int) (im hd : Bool) (h : rdOk M a = true) :
    ∃ K S X, rdV (markM M a im hd) a = .agg #[.int .i64 a, .int .i64 K, .string S, .bool im, .bool hd, .int .i64 X] ∧ rdOk (markM M a im hd) a = true := by
  have h2 : a % 8 = 0 ∧ 1536 ≤ a ∧ a < hereL M ∧ rdN M a ≠ 0 ∧ rdXt M a + 8 ≤ hereL M := of_decide_eq_true h
  have hhl := hereL_le M
  have ha : 1536 ≤ a := h2.2.1
  have ha2 : a ≤ 5632 := by have := h2.2.2.1; clear h2; generalize hereL M = e at *; omega
  have hnn : rdN M a < 32 := Nat.mod_lt _ (by omega)
  have hrb : rdB M a < 256 := UInt8.toNat_lt _
  have hnl := newB_lt M a im hd
  obtain ⟨m1, m2, m3⟩ := mark_bits (rdB M a &&& 32) (and32 ⟨rdB M a, hrb⟩) ⟨rdN M a, hnn⟩ im hd
  have e0 : newB M a im hd = (rdB M a &&& 32) ||| markN (rdN M a) im hd := rfl
  rw [← e0] at m1 m2 m3
  unfold markM
  rw [if_pos h]
  obtain ⟨M2, hM2⟩ : ∃ M2, M2 = layL M (a + 8) [UInt8.ofNat (newB M a im hd)] := ⟨_, rfl⟩
  rw [← hM2]
  obtain ⟨nb, hnb⟩ : ∃ nb, nb = newB M a im hd := ⟨_, rfl⟩
  rw [← hnb] at m1 m2 m3 hM2 hnl
  have c8 : ∀ i : Nat, i < 8 → ¬ (a + 8 ≤ 0 + (i : Int) ∧ 0 + (i : Int) < a + 8 + (([UInt8.ofNat nb] : List UInt8).length : Int) ∧ 0 ≤ 0 + (i : Int) ∧ 0 + (i : Int) < 8192) := fun i hi => by omega
  have hg : getM M2 0 = getM M 0 := by
    apply getM_congr
    intro i hi
    rw [hM2, memAt_layL hM, if_neg (c8 i hi)]
  have hhere : hereL M2 = hereL M := by unfold hereL; rw [hg]
  have c9 : a + 8 ≤ a + 8 ∧ a + 8 < a + 8 + (([UInt8.ofNat nb] : List UInt8).length : Int) ∧ 0 ≤ a + 8 ∧ a + 8 < 8192 := by
    refine ⟨by omega, ?_, by omega, by omega⟩
    simp only [List.length_cons, List.length_nil]; omega
  have hB : rdB M2 a = nb := by
    rw [rdB_at, hM2, memAt_layL hM, if_pos c9, show (a + 8 - (a + 8)).toNat = 0 by omega]
    show (UInt8.ofNat nb).toNat = nb
    rw [UInt8.toNat_ofNat']
    exact Nat.mod_eq_of_lt hnl
  have hN : rdN M2 a = rdN M a := by
    show rdB M2 a % 32 = rdN M a
    rw [hB]; exact m1
  have hX : rdXt M2 a = rdXt M a := by unfold rdXt; rw [hN]
  have hok : rdOk M2 a = true := by
    unfold rdOk
    rw [hN, hX, hhere, decide_eq_true_iff]
    exact h2
  have hV : rdV M2 a = hdV a (cellL (loadL M2 a 40) 0) (((loadL M2 a 40).drop 9).take (rdN M2 a)) im hd (rdXt M2 a) := by
    unfold rdV
    rw [if_pos hok, hB, m2, m3]
  exact ⟨_, _, _, hV, hok⟩
end Go.Proofs.Ytcfblcgdjhpdaaa
