/- 'Mark'. -/
import Derived.Test.YtenhpfncpmfkoaaH8
namespace Go.Proofs.Ytenhpfncpmfkoaa
open Go.RowKit
set_option linter.unusedVariables false
set_option linter.unusedSimpArgs false
attribute [local go_sem] cell_set set_set m_undef

theorem rmark (w : World) (n : Nat) (now hides : Bool) (hn : n < 32) : Calls Try.prog 30 #[.int .i64 (n : Int), .bool now, .bool hides] w fun e w' => e = .returned (.int .u8 (markN n now hides : Int)) ∧ w = w' := by
  have w1 : IntKind.u8.wrap (n : Int) = (n : Int) := by rw [IntKind.wrap_u8]; omega
  have w2 : IntKind.u8.wrap ((n : Int) + 128) = ((n + 128 : Nat) : Int) := by rw [IntKind.wrap_u8]; omega
  have w3 : IntKind.u8.wrap ((n : Int) + 64) = ((n + 64 : Nat) : Int) := by rw [IntKind.wrap_u8]; omega
  have w4 : IntKind.u8.wrap (((n + 128 : Nat) : Int) + 64) = ((n + 128 + 64 : Nat) : Int) := by rw [IntKind.wrap_u8]; omega
  obtain ⟨a1, ha1⟩ : ∃ a1 : Int, a1 = ((n + 128 : Nat) : Int) := ⟨_, rfl⟩
  obtain ⟨a2, ha2⟩ : ∃ a2 : Int, a2 = ((n + 64 : Nat) : Int) := ⟨_, rfl⟩
  obtain ⟨a3, ha3⟩ : ∃ a3 : Int, a3 = ((n + 128 + 64 : Nat) : Int) := ⟨_, rfl⟩
  rw [← ha1] at w2 w4
  rw [← ha2] at w3
  rw [← ha3] at w4
  obtain ⟨a0, ha0⟩ : ∃ a0 : Int, a0 = (n : Int) := ⟨_, rfl⟩
  rw [← ha0] at w1 w2 w3 ⊢
  have ha := Lib.hid (And.intro ha0 (And.intro ha1 (And.intro ha2 ha3)))
  clear ha0 ha1 ha2 ha3
  go_enter Try.func30, Try.ntmps30
  cases now <;> cases hides
  all_goals
    go_wp2
    go_ret
    have ha' := ha.out
    refine ⟨?_, rfl⟩
    unfold markN
    simp
    omega
theorem or32 (x y : Nat) (hx : x < 256) (hy : y < 256) : bits .or .u8 (x : Int) (y : Int) = ((x ||| y : Nat) : Int) := u8_or_nat x y hx hy
/-- The new length byte. -/
def newB (M : List UInt8) (a : Int) (now hides : Bool) : Nat := (rdB M a &&& 32) ||| markN (rdN M a) now hides
theorem newB_lt (M : List UInt8) (a : Int) (now hides : Bool) : newB M a now hides < 256 := by
  unfold newB
  have h1 : rdB M a < 256 := UInt8.toNat_lt _
  have h2 : rdN M a < 32 := Nat.mod_lt _ (by omega)
  have h3 := (markN_lt (rdN M a) now hides h2).1
  have h4 : rdB M a &&& 32 ≤ 32 := Nat.and_le_right
  exact Nat.or_lt_two_pow (n := 8) (by omega) h3
/-- What 'Mark' makes of the memory. -/
def markM (M : List UInt8) (a : Int) (now hides : Bool) : List UInt8 := if rdOk M a then layL M (a + 8) [UInt8.ofNat (newB M a now hides)] else M
theorem rdV_good (M : List UInt8) (a : Int) (h : rdOk M a = true) : ∃ K S I H X, rdV M a = .agg #[.int .i64 a, .int .i64 K, .string S, .bool I, .bool H, .int .i64 X] ∧ S.size = rdN M a ∧ 1536 ≤ a ∧ a ≤ 5632 := by
  unfold rdV
  rw [h]
  have h2 : a % 8 = 0 ∧ 1536 ≤ a ∧ a < hereL M ∧ rdN M a ≠ 0 ∧ rdXt M a + 8 ≤ hereL M := of_decide_eq_true h
  have h3 := hereL_le M
  have h4 : rdN M a < 32 := Nat.mod_lt _ (by omega)
  obtain ⟨n, hn⟩ : ∃ n, n = rdN M a := ⟨_, rfl⟩
  obtain ⟨e, he⟩ : ∃ e, e = hereL M := ⟨_, rfl⟩
  rw [← hn] at h4 ⊢
  rw [← he] at h3
  have h5 : a < e := by rw [he]; exact h2.2.2.1
  refine ⟨_, _, _, _, _, rfl, ?_, h2.2.1, by clear h2; omega⟩
  have e40 : (loadL M a 40).length = 40 := by rw [loadL_len]; rfl
  show ((((loadL M a 40).drop 9).take n).toArray).size = n
  rw [List.size_toArray, List.length_take, List.length_drop, e40]
  clear h2; omega
theorem load1 (M : List UInt8) (a : Int) : loadL M (a + 8) 1 = [memAt M (a + 8)] := by
  have h1 : (loadL M (a + 8) 1).length = 1 := by rw [loadL_len]; rfl
  apply List.ext_getElem
  · rw [h1]; rfl
  · intro i i1 i2
    rw [h1] at i1
    have e : i = 0 := by omega
    subst e
    rw [loadL_get]
    simp
theorem rdB_at (M : List UInt8) (a : Int) : rdB M a = (memAt M (a + 8)).toNat := by
  unfold rdB
  rw [loadL_getD M a 40 8 (by omega) (by omega)]
  rfl
set_option maxRecDepth 100000 in
set_option maxHeartbeats 1000000 in
theorem mMark {w : World} {base mb : Nat} {M : List UInt8} {O : Nat → Prop} (h : MemP w base mb M O) (hbase : base ≤ w.heap.size) (at_ : Int) (hat : isI at_) (now hides : Bool) :
    Calls Try.prog 24 #[.pointer (some ⟨mb, 0, none⟩), .int .i64 at_, .bool now, .bool hides] w fun e w' => MemQ w w' base mb (markM M at_ now hides) O (.bool (rdOk M at_)) e := by
  have hRd := Lib.hid (mRead h hbase at_ hat)
  obtain ⟨ok, hok⟩ : ∃ ok, ok = rdOk M at_ := ⟨_, rfl⟩
  unfold markM
  cases ok with
  | false =>
    obtain ⟨A, K, S, I, H, X, hV, _⟩ := rdV_form M at_
    rw [← hok, hV] at hRd
    rw [← hok]
    clear hok hV
    simp only [Bool.false_eq_true, if_false]
    go_enter Try.func24, Try.ntmps24
    go_upto_region 2 with (go_at_call 15; refine hRd.out.mono ?_; rintro e w1 ⟨rfl, O1, hM1, hT1⟩; replace hM1 := Lib.hid hM1; replace hT1 := Lib.hid hT1)
    obtain ⟨w3, hw3⟩ : ∃ w3, w3 = w1.alloc (.cells #[.int .i64 A, .int .i64 K, .string S, .bool I, .bool H, .int .i64 X] 23) := ⟨_, rfl⟩
    rw [← hw3]
    have hb3 := Lib.hid (show Below w1.heap.size w1 w3 by subst hw3; exact bel_alloc (Below.refl _ _) _)
    clear hw3
    go_wp2
    go_ret
    exact ⟨rfl, O1, hM1.out.below hb3.out, hT1.out.trans (Turn.of_below hb3.out O1)⟩
  | true =>
    obtain ⟨K, S, I, H, X, hV, hS, ha1, ha2⟩ := rdV_good M at_ hok.symm
    rw [← hok, hV] at hRd
    rw [← hok]
    simp only [if_true]
    obtain ⟨nb, hnb⟩ : ∃ nb, nb = newB M at_ now hides := ⟨_, rfl⟩
    have hnl : nb < 256 := by rw [hnb]; exact newB_lt _ _ _ _
    rw [← hnb]
    have hnn : rdN M at_ < 32 := Nat.mod_lt _ (by omega)
    have hrb : rdB M at_ < 256 := UInt8.toNat_lt _
    have hmk := (markN_lt (rdN M at_) now hides hnn).1
    have hand : bits .and .u8 (rdB M at_ : Int) 32 = ((rdB M at_ &&& 32 : Nat) : Int) := u8_and_nat (rdB M at_) 32 hrb (by omega)
    have hal : rdB M at_ &&& 32 < 256 := Nat.lt_of_le_of_lt Nat.and_le_right (by omega)
    have hor := or32 (rdB M at_ &&& 32) (markN (rdN M at_) now hides) hal hmk
    have hnb2 : (rdB M at_ &&& 32) ||| markN (rdN M at_) now hides = nb := hnb.symm
    rw [hnb2] at hor
    have hB := rdB_at M at_
    have hby := Lib.hid (fun w => wByteOf w S.size now hides (by rw [hS]; exact hnn))
    rw [hS] at hby
    obtain ⟨p8, hp8⟩ : ∃ p8, p8 = at_ + 8 := ⟨_, rfl⟩
    have wa : IntKind.i64.wrap (at_ + 8) = p8 := by clear hor hand hnb2; rw [IntKind.wrap_i64]; omega
    have hp8i : isI p8 := by clear hor hand hnb2; unfold isI; omega
    have hLo := Lib.hid (fun (w9 : World) (O9 : Nat → Prop) (h9 : MemP w9 base mb M O9) (hb9 : base ≤ w9.heap.size) => mLoad h9 hb9 p8 1 hp8i)
    have hl1 : loadL M p8 1 = [memAt M p8] := by rw [hp8]; exact load1 M at_
    rw [← hp8] at hB ⊢
    rw [hl1] at hLo
    obtain ⟨c8, hc8⟩ : ∃ c8, c8 = memAt M p8 := ⟨_, rfl⟩
    rw [← hc8] at hLo hB
    rw [hB] at hand hor
    obtain ⟨mk, hmk2⟩ : ∃ mk, mk = markN (rdN M at_) now hides := ⟨_, rfl⟩
    rw [← hmk2] at hor hby
    obtain ⟨old, hold⟩ : ∃ old, old = c8.toNat &&& 32 := ⟨_, rfl⟩
    rw [← hold] at hand hor
    obtain ⟨cN, hcN⟩ : ∃ cN, cN = c8.toNat := ⟨_, rfl⟩
    rw [← hcN] at hand
    obtain ⟨nbb, hnbb⟩ : ∃ nbb, nbb = UInt8.ofNat nb := ⟨_, rfl⟩
    have hnbn : (nb : Int) = (nbb.toNat : Int) := by rw [hnbb, UInt8.toNat_ofNat']; omega
    rw [hnbn] at hor
    rw [← hnbb]
    have hLay := Lib.hid (fun (w9 : World) (O9 : Nat → Prop) (h9 : MemP w9 base mb M O9) (hb9 : base ≤ w9.heap.size) (B9 : Nat) (v9 : Value) (bs9 : List UInt8) (hv9 : Bs w9 B9 v9 bs9) (hl9 : bs9.length ≤ 1000000) (hk9 : ∀ k, v9.ownBlock = some k → ¬ O9 k) => mLay h9 hb9 p8 hp8i hv9 hl9 hk9)
    have hSz : ((S.size : Nat) : Int) = ((rdN M at_ : Nat) : Int) := by rw [hS]
    generalize rdN M at_ = n at *
    replace hcN := Lib.hid hcN
    replace h := Lib.hid h
    replace hbase := Lib.hid hbase
    clear hV hS ha1 ha2 hnb hnb2 hnl hnn hrb hmk hal hB hp8 hp8i hl1 hc8 hmk2 hold hnbb hnbn hok hat
    go_enter Try.func24, Try.ntmps24
    go_upto_region 2 with (go_at_call 15; refine hRd.out.mono ?_; rintro e w1 ⟨rfl, O1, hM1, hT1⟩; have hs1 := Lib.hid hT1.size; replace hM1 := Lib.hid hM1; replace hT1 := Lib.hid hT1)
    obtain ⟨w3, hw3⟩ : ∃ w3, w3 = w1.alloc (.cells #[.int .i64 at_, .int .i64 K, .string S, .bool I, .bool H, .int .i64 X] 23) := ⟨_, rfl⟩
    rw [← hw3]
    have hb3 := Lib.hid (show Below w1.heap.size w1 w3 by subst hw3; exact bel_alloc (Below.refl _ _) _)
    have hB3 : Blk w3 w1.heap.size #[.int .i64 at_, .int .i64 K, .string S, .bool I, .bool H, .int .i64 X] 23 := by subst hw3; exact Blk.new _ _ _
    have hM3 := Lib.hid (hM1.out.below hb3.out)
    have hn3 := Lib.hid (show ¬ O1 w1.heap.size from fun hO => by have := (hM1.out.lt hO).1; omega)
    have hs3 := Lib.hid hb3.out.size
    clear hw3
    go_upto_region 4 with (go_at_call 33; refine (hLo.out _ _ hM3.out (Nat.le_trans hbase.out (Nat.le_trans hs1.out hs3.out))).mono ?_; rintro e w4 ⟨v4, O4, rfl, hv4, hM4, hT4, _⟩; have hs4 := Lib.hid hT4.size; have hB4 := hB3.turn hT4 hn3.out; obtain ⟨bb, oo, cap, he⟩ := hv4.some_of (by simp); subst he; obtain ⟨s2, s2f⟩ := hv4.at 0 (by simp); rw [Nat.add_zero, List.getElem_cons_zero, ← hcN.out] at s2; clear s2f hv4; replace hM4 := Lib.hid hM4; replace hT4 := Lib.hid hT4; obtain ⟨y1, y2, y3, y4, y5, y6⟩ := hB4.six)
    have hA5 : Bs (w4.alloc (.cells #[.int .u8 (nbb.toNat : Int)] 5)) w4.heap.size (.slice (some ⟨w4.heap.size, 0, none⟩) 1 1) [nbb] := Bs.lit1 w4 nbb
    have hP5 := hM4.out.below (bel_alloc (Below.refl _ _) (.cells #[.int .u8 (nbb.toNat : Int)] 5))
    have hb5 : Below w4.heap.size w4 (w4.alloc (.cells #[.int .u8 (nbb.toNat : Int)] 5)) := bel_alloc (Below.refl _ _) _
    have hL5 := hLay.out _ _ hP5 (Nat.le_trans hbase.out (Nat.le_trans hs1.out (Nat.le_trans hs3.out (Nat.le_trans hs4.out hb5.size)))) _ _ _ hA5 (by simp) (fun k hk hO => by have := (hM4.out.lt hO).1; have e' : w4.heap.size = k := Option.some.inj hk; omega)
    replace hL5 := Lib.hid hL5
    replace hb5 := Lib.hid hb5
    clear hA5 hP5
    go_wp2_with (first
      | (go_at_call 28; refine (hby.out _).mono ?_; rintro e _ ⟨rfl, rfl⟩)
      | (go_at_call 13; refine hL5.out.mono ?_; rintro e w6 ⟨rfl, O6, hM6, hT6⟩; replace hM6 := Lib.hid hM6; replace hT6 := Lib.hid hT6))
    go_ret
    exact ⟨rfl, O6, hM6.out, (((hT1.out.trans (Turn.of_below hb3.out _)).trans hT4.out).trans (Turn.of_below hb5.out _)).trans hT6.out⟩
end Go.Proofs.Ytenhpfncpmfkoaa
