/- The small functions of both packages on wide numbers: sums, negatives, numbers made wide. -/
import Derived.Test.YtmanjadnagfhpaaK0
namespace Go.Proofs.Ytmanjadnagfhpaa
open Go.RowKit
set_option linter.unusedVariables false

theorem add_fin (a0 a1 b0 b1 : Int) : (.agg #[.int .u64 (lo (a0 + b0 + cy (a1 + b1))), .int .u64 (lo (a1 + b1))] : Value) = WV (val a0 a1 + val b0 b1) := by
  have e1 : lo (a0 + b0 + cy (a1 + b1)) = hi (val a0 a1 + val b0 b1) := by unfold lo hi val cy; omega
  have e2 : lo (a1 + b1) = lo (val a0 a1 + val b0 b1) := by unfold lo val; omega
  rw [WV, ← e1, ← e2]
theorem neg_fin (a0 a1 : Int) (ha1 : is64 a1) : (.agg #[.int .u64 (lo (0 - a0 - bw (0 - a1))), .int .u64 (lo (0 - a1))] : Value) = WV (- val a0 a1) := by
  have e1 : lo (0 - a0 - bw (0 - a1)) = hi (- val a0 a1) := by unfold is64 at ha1; unfold lo hi val bw; split <;> omega
  have e2 : lo (0 - a1) = lo (- val a0 a1) := by unfold lo val; omega
  rw [WV, ← e1, ← e2]

set_option maxHeartbeats 400000 in
theorem wAdd (a0 a1 b0 b1 : Int) (ha0 : is64 a0) (ha1 : is64 a1) (hb0 : is64 b0) (hb1 : is64 b1) (w : World) :
    Calls Try.prog 11 #[.agg #[.int .u64 a0, .int .u64 a1], .agg #[.int .u64 b0, .int .u64 b1]] w fun e w' => e = .returned (WV (val a0 a1 + val b0 b1)) ∧ Below w.heap.size w w' := by
  have h1 := add64_0 a1 b1 ha1 hb1
  have hc := cy_01 ha1 hb1
  have h2 := add64 a0 b0 (cy (a1 + b1)) ha0 hb0 hc.1 hc.2
  clear hc
  go_enter Try.func11, Try.ntmps11
  go_wp2
  refine bodyPost_ret (v := .agg #[.int .u64 (lo (a0 + b0 + cy (a1 + b1))), .int .u64 (lo (a1 + b1))]) (by simp [results, Try.results11, go_sem]) rfl ⟨by rw [add_fin], ?_⟩
  repeat (first | (with_reducible exact Below.refl _ _) | (with_reducible assumption) | (with_reducible apply bel_alloc) | (with_reducible apply bel_drew) | (with_reducible refine bel_set ?_ (by first | exact Nat.le_refl _ | (simp; done) | omega | (simp; omega)) _) | (with_reducible refine bel_trans ?_ (by with_reducible assumption)))

set_option maxHeartbeats 400000 in
theorem wNeg (a0 a1 : Int) (ha0 : is64 a0) (ha1 : is64 a1) (w : World) :
    Calls Try.prog 13 #[.agg #[.int .u64 a0, .int .u64 a1]] w fun e w' => e = .returned (WV (- val a0 a1)) ∧ Below w.heap.size w w' := by
  have h1 := sub64_0 0 a1 is64_0 ha1
  have hc := bw_01 (0 - a1)
  have h2 := sub64 0 a0 (bw (0 - a1)) is64_0 ha0 hc.1 hc.2
  have HF := Lib.hid (neg_fin a0 a1 ha1)
  obtain ⟨l, hl⟩ : ∃ l, l = lo (0 - a1) := ⟨_, rfl⟩
  obtain ⟨b, hb⟩ : ∃ b, b = bw (0 - a1) := ⟨_, rfl⟩
  obtain ⟨h, hh⟩ : ∃ h, h = lo (0 - a0 - bw (0 - a1)) := ⟨_, rfl⟩
  obtain ⟨c, hc3⟩ : ∃ c, c = bw (0 - a0 - bw (0 - a1)) := ⟨_, rfl⟩
  rw [← hl, ← hb] at h1
  rw [← hh, ← hc3, ← hb] at h2
  rw [← hh, ← hl] at HF
  clear hl hb hh hc3 hc
  go_enter Try.func13, Try.ntmps13
  go_wp2
  refine bodyPost_ret (v := .agg #[.int .u64 h, .int .u64 l]) (by simp [results, Try.results13, go_sem]) rfl ⟨by rw [HF.out], ?_⟩
  repeat (first | (with_reducible exact Below.refl _ _) | (with_reducible assumption) | (with_reducible apply bel_alloc) | (with_reducible apply bel_drew) | (with_reducible refine bel_set ?_ (by first | exact Nat.le_refl _ | (simp; done) | omega | (simp; omega)) _) | (with_reducible refine bel_trans ?_ (by with_reducible assumption)))

theorem radd_fin (a0 a1 b0 b1 : Int) (ha0 : is64 a0) (ha1 : is64 a1) (hb0 : is64 b0) (hb1 : is64 b1) (h : lo (a1 + b1) < a1) : (.agg #[.int .u64 (lo (lo (a0 + b0) + 1)), .int .u64 (lo (a1 + b1))] : Value) = WV (val a0 a1 + val b0 b1) := by
  have e1 : lo (lo (a0 + b0) + 1) = hi (val a0 a1 + val b0 b1) := by unfold is64 at *; unfold lo hi val at *; omega
  have e2 : lo (a1 + b1) = lo (val a0 a1 + val b0 b1) := by unfold lo val; omega
  rw [WV, ← e1, ← e2]
theorem radd_fin2 (a0 a1 b0 b1 : Int) (ha0 : is64 a0) (ha1 : is64 a1) (hb0 : is64 b0) (hb1 : is64 b1) (h : ¬ lo (a1 + b1) < a1) : (.agg #[.int .u64 (lo (a0 + b0)), .int .u64 (lo (a1 + b1))] : Value) = WV (val a0 a1 + val b0 b1) := by
  have e1 : lo (a0 + b0) = hi (val a0 a1 + val b0 b1) := by unfold is64 at *; unfold lo hi val at *; omega
  have e2 : lo (a1 + b1) = lo (val a0 a1 + val b0 b1) := by unfold lo val; omega
  rw [WV, ← e1, ← e2]

set_option maxHeartbeats 400000 in
theorem rAdd (a0 a1 b0 b1 : Int) (ha0 : is64 a0) (ha1 : is64 a1) (hb0 : is64 b0) (hb1 : is64 b1) (w : World) :
    Calls Try.prog 12 #[.agg #[.int .u64 a0, .int .u64 a1], .agg #[.int .u64 b0, .int .u64 b1]] w fun e w' => e = .returned (WV (val a0 a1 + val b0 b1)) ∧ Below w.heap.size w w' := by
  by_cases h : lo (a1 + b1) < a1
  · have HF := Lib.hid (radd_fin a0 a1 b0 b1 ha0 ha1 hb0 hb1 h)
    have hw := wrap_lo
    go_enter Try.func12, Try.ntmps12
    go_wp2
    refine bodyPost_ret (v := .agg #[.int .u64 (lo (lo (a0 + b0) + 1)), .int .u64 (lo (a1 + b1))]) (by simp [results, Try.results12, go_sem]) rfl ⟨by rw [HF.out], ?_⟩
    repeat (first | (with_reducible exact Below.refl _ _) | (with_reducible assumption) | (with_reducible apply bel_alloc) | (with_reducible apply bel_drew) | (with_reducible refine bel_set ?_ (by first | exact Nat.le_refl _ | (simp; done) | omega | (simp; omega)) _) | (with_reducible refine bel_trans ?_ (by with_reducible assumption)))
  · have HF := Lib.hid (radd_fin2 a0 a1 b0 b1 ha0 ha1 hb0 hb1 h)
    have hw := wrap_lo
    go_enter Try.func12, Try.ntmps12
    go_wp2
    refine bodyPost_ret (v := .agg #[.int .u64 (lo (a0 + b0)), .int .u64 (lo (a1 + b1))]) (by simp [results, Try.results12, go_sem]) rfl ⟨by rw [HF.out], ?_⟩
    repeat (first | (with_reducible exact Below.refl _ _) | (with_reducible assumption) | (with_reducible apply bel_alloc) | (with_reducible apply bel_drew) | (with_reducible refine bel_set ?_ (by first | exact Nat.le_refl _ | (simp; done) | omega | (simp; omega)) _) | (with_reducible refine bel_trans ?_ (by with_reducible assumption)))

theorem of_neg (n : Int) (h : n < 0) (h2 : -9223372036854775808 ≤ n) : (.agg #[.int .u64 18446744073709551615, .int .u64 (lo n)] : Value) = WV n := by
  have e1 : hi n = 18446744073709551615 := by unfold hi; omega
  rw [WV, e1]
theorem of_pos (n : Int) (h : 0 ≤ n) (h2 : n < 9223372036854775808) : (.agg #[.int .u64 0, .int .u64 (lo n)] : Value) = WV n := by
  have e1 : hi n = 0 := by unfold hi; omega
  rw [WV, e1]
def isI (n : Int) : Prop := -9223372036854775808 ≤ n ∧ n < 9223372036854775808

theorem of_shr (n : Int) (hn : isI n) : (.agg #[.int .u64 (lo (n / 9223372036854775808)), .int .u64 (lo n)] : Value) = WV n := by
  have e1 : lo (n / 9223372036854775808) = hi n := by unfold isI at hn; unfold lo hi; omega
  rw [WV, e1]
set_option maxHeartbeats 400000 in
theorem wOf (n : Int) (hn : isI n) (w : World) :
    Calls Try.prog 15 #[.int .i64 n] w fun e w' => e = .returned (WV n) ∧ Below w.heap.size w w' := by
  have HF := Lib.hid (of_shr n hn)
  have hw := wrap_lo
  go_enter Try.func15, Try.ntmps15
  go_wp2
  refine bodyPost_ret (v := .agg #[.int .u64 (lo (n / 9223372036854775808)), .int .u64 (lo n)]) (by simp [results, Try.results15, go_sem]) rfl ⟨by rw [HF.out], ?_⟩
  repeat (first | (with_reducible exact Below.refl _ _) | (with_reducible assumption) | (with_reducible apply bel_alloc) | (with_reducible apply bel_drew) | (with_reducible refine bel_set ?_ (by first | exact Nat.le_refl _ | (simp; done) | omega | (simp; omega)) _) | (with_reducible refine bel_trans ?_ (by with_reducible assumption)))
set_option maxHeartbeats 400000 in
theorem rOf (n : Int) (hn : isI n) (w : World) :
    Calls Try.prog 16 #[.int .i64 n] w fun e w' => e = .returned (WV n) ∧ Below w.heap.size w w' := by
  by_cases h : n < 0
  · have HF := Lib.hid (of_neg n h hn.1)
    have hw := wrap_lo
    go_enter Try.func16, Try.ntmps16
    go_wp2
    refine bodyPost_ret (v := .agg #[.int .u64 18446744073709551615, .int .u64 (lo n)]) (by simp [results, Try.results16, go_sem]) rfl ⟨by rw [HF.out], ?_⟩
    repeat (first | (with_reducible exact Below.refl _ _) | (with_reducible assumption) | (with_reducible apply bel_alloc) | (with_reducible apply bel_drew) | (with_reducible refine bel_set ?_ (by first | exact Nat.le_refl _ | (simp; done) | omega | (simp; omega)) _) | (with_reducible refine bel_trans ?_ (by with_reducible assumption)))
  · have HF := Lib.hid (of_pos n (by omega) hn.2)
    have hw := wrap_lo
    go_enter Try.func16, Try.ntmps16
    go_wp2
    refine bodyPost_ret (v := .agg #[.int .u64 0, .int .u64 (lo n)]) (by simp [results, Try.results16, go_sem]) rfl ⟨by rw [HF.out], ?_⟩
    repeat (first | (with_reducible exact Below.refl _ _) | (with_reducible assumption) | (with_reducible apply bel_alloc) | (with_reducible apply bel_drew) | (with_reducible refine bel_set ?_ (by first | exact Nat.le_refl _ | (simp; done) | omega | (simp; omega)) _) | (with_reducible refine bel_trans ?_ (by with_reducible assumption)))
set_option maxHeartbeats 400000 in
theorem rTwice (a0 a1 : Int) (ha0 : is64 a0) (ha1 : is64 a1) (w : World) :
    Calls Try.prog 48 #[.agg #[.int .u64 a0, .int .u64 a1]] w fun e w' => e = .returned (WV (val a0 a1 + val a0 a1)) ∧ Below w.heap.size w w' := by
  go_enter Try.func48, Try.ntmps48
  go_wp2_with (go_at_call 12; refine (rAdd _ _ _ _ ha0 ha1 ha0 ha1 _).mono ?_; rintro e w1 ⟨rfl, hb1⟩; obtain ⟨hc1, hf1⟩ := bcell hb1; have hz1 := hb1.size; simp at hz1 hc1 hf1)
  refine bodyPost_ret (v := WV (val a0 a1 + val a0 a1)) (by simp [results, Try.results48, go_sem, bcell hb1]) rfl ⟨rfl, ?_⟩
  repeat (first | (with_reducible exact Below.refl _ _) | (with_reducible assumption) | (with_reducible apply bel_alloc) | (with_reducible apply bel_drew) | (with_reducible refine bel_set ?_ (by first | exact Nat.le_refl _ | (simp; done) | omega | (simp; omega)) _) | (with_reducible refine bel_trans ?_ (by with_reducible assumption)))

theorem xor_nat (a : Nat) (h : a < 18446744073709551616) : 18446744073709551615 ^^^ a = 18446744073709551615 - a := by
  have e : 18446744073709551615 - a = 2 ^ 64 - (a + 1) := by omega
  have h' : a < 2 ^ 64 := by omega
  rw [e]
  apply Nat.eq_of_testBit_eq
  intro i
  rw [Nat.testBit_two_pow_sub_succ h', Nat.testBit_xor, show (18446744073709551615 : Nat) = 2 ^ 64 - 1 from rfl, Nat.testBit_two_pow_sub_one]
  by_cases hi : i < 64
  · simp [hi]
  · have : a.testBit i = false := Nat.testBit_lt_two_pow (Nat.lt_of_lt_of_le h' (Nat.pow_le_pow_right (by omega) (by omega)))
    simp [hi, this]
theorem xor_max (a : Int) (h : is64 a) : bits .xor .u64 IntKind.u64.max a = 18446744073709551615 - a := by
  obtain ⟨h1, h2⟩ := h
  rw [show IntKind.u64.max = 18446744073709551615 by rfl, u64_xor _ _ (by omega) (by omega) h1 h2, show (18446744073709551615 : Int).toNat = 18446744073709551615 by rfl, xor_nat _ (by omega)]
  omega
theorem rneg_fin (a0 a1 : Int) : val (18446744073709551615 - a0) (18446744073709551615 - a1) + val 0 1 = 340282366920938463463374607431768211456 + (- val a0 a1) := by
  unfold val; omega
theorem WV_add (x : Int) : WV (340282366920938463463374607431768211456 + x) = WV x := by
  rw [WV, WV, hi_cong (x := 340282366920938463463374607431768211456 + x) (y := x) (by omega), lo_cong (x := 340282366920938463463374607431768211456 + x) (y := x) (by omega)]
def c64 (a : Int) : Int := 18446744073709551615 - a
theorem c64_64 {a : Int} (h : is64 a) : is64 (c64 a) := by unfold is64 at *; unfold c64; omega
theorem rneg_WV (a0 a1 : Int) : WV (val (c64 a0) (c64 a1) + val 0 1) = WV (- val a0 a1) := by
  rw [c64, c64, rneg_fin, WV_add]

set_option maxHeartbeats 400000 in
theorem rNeg (a0 a1 : Int) (ha0 : is64 a0) (ha1 : is64 a1) (w : World) :
    Calls Try.prog 14 #[.agg #[.int .u64 a0, .int .u64 a1]] w fun e w' => e = .returned (WV (- val a0 a1)) ∧ Below w.heap.size w w' := by
  have h0 : bits .xor .u64 IntKind.u64.max a0 = c64 a0 := xor_max a0 ha0
  have h1 : bits .xor .u64 IntKind.u64.max a1 = c64 a1 := xor_max a1 ha1
  have e0 := c64_64 ha0
  have e1 := c64_64 ha1
  have hu : IntKind.u64.signed = false := rfl
  go_enter Try.func14, Try.ntmps14
  go_wp2_with (go_at_call 12; refine (rAdd _ _ _ _ e0 e1 is64_0 is64_1 _).mono ?_; rintro e w1 ⟨rfl, hb1⟩; obtain ⟨hc1, hf1⟩ := bcell hb1; have hz1 := hb1.size; simp at hz1 hc1 hf1)
  refine bodyPost_ret (v := WV (val (c64 a0) (c64 a1) + val 0 1)) (by simp [results, Try.results14, go_sem, bcell hb1]) rfl ⟨by rw [rneg_WV], ?_⟩
  repeat (first | (with_reducible exact Below.refl _ _) | (with_reducible assumption) | (with_reducible apply bel_alloc) | (with_reducible apply bel_drew) | (with_reducible refine bel_set ?_ (by first | exact Nat.le_refl _ | (simp; done) | omega | (simp; omega)) _) | (with_reducible refine bel_trans ?_ (by with_reducible assumption)))

def sz (n : Int) : Int := if n < 0 then - n else n
theorem sz_64 {n : Int} (h : isI n) : is64 (sz n) := by unfold isI at h; unfold is64 sz; split <;> omega
theorem ret_u64 {a b : Int} (h : a = b) : Ending.returned (.int .u64 a) = .returned (.int .u64 b) := by rw [h]
theorem rSize (n : Int) (hn : isI n) (w : World) :
    Calls Try.prog 46 #[.int .i64 n] w fun e w' => e = .returned (.int .u64 (sz n)) ∧ w = w' := by
  have hw := wrap_lo
  have h1 : n < 0 → lo (- lo n) = sz n := fun h => by unfold isI at hn; unfold lo sz; rw [if_pos h]; omega
  have h2 : 0 ≤ n → lo n = sz n := fun h => by unfold isI at hn; unfold lo sz; rw [if_neg (by omega)]; omega
  have H1 := Lib.hid h1
  have H2 := Lib.hid h2
  clear h1 h2
  go_enter Try.func46, Try.ntmps46
  go_wp2
  · have h : n < 0 := by assumption
    go_ret
    exact ⟨ret_u64 (H1.out h), rfl⟩
  · have h : 0 ≤ n := by assumption
    go_ret
    exact ⟨ret_u64 (H2.out h), rfl⟩
theorem ret_bool {a b : Bool} (h : a = b) : Ending.returned (.bool a) = .returned (.bool b) := by rw [h]
theorem below_fin (a0 a1 b0 b1 : Int) (ha1 : is64 a1) (hb1 : is64 b1) : (a0 = b0 → decide (a1 < b1) = decide (val a0 a1 < val b0 b1)) ∧ (¬ a0 = b0 → decide (a0 < b0) = decide (val a0 a1 < val b0 b1)) := by
  unfold is64 at ha1 hb1; unfold val
  constructor <;> intro h <;> congr 1 <;> apply propext <;> omega
theorem rBelow (a0 a1 b0 b1 : Int) (ha1 : is64 a1) (hb1 : is64 b1) (w : World) :
    Calls Try.prog 51 #[.agg #[.int .u64 a0, .int .u64 a1], .agg #[.int .u64 b0, .int .u64 b1]] w fun e w' => e = .returned (.bool (decide (val a0 a1 < val b0 b1))) ∧ Below w.heap.size w w' := by
  have HF := Lib.hid (below_fin a0 a1 b0 b1 ha1 hb1)
  by_cases h : a0 = b0
  · subst h
    have HG := Lib.hid (HF.out.1 rfl)
    clear HF
    go_enter Try.func51, Try.ntmps51
    go_wp2
    all_goals
      go_ret
      refine ⟨ret_bool HG.out, ?_⟩
      repeat (first | (with_reducible exact Below.refl _ _) | (with_reducible assumption) | (with_reducible apply bel_alloc) | (with_reducible apply bel_drew) | (with_reducible refine bel_set ?_ (by first | exact Nat.le_refl _ | (simp; done) | omega | (simp; omega)) _) | (with_reducible refine bel_trans ?_ (by with_reducible assumption)))
  · have HG := Lib.hid (HF.out.2 h)
    clear HF
    go_enter Try.func51, Try.ntmps51
    go_wp2
    · go_ret
      refine ⟨ret_bool HG.out, ?_⟩
      repeat (first | (with_reducible exact Below.refl _ _) | (with_reducible assumption) | (with_reducible apply bel_alloc) | (with_reducible apply bel_drew) | (with_reducible refine bel_set ?_ (by first | exact Nat.le_refl _ | (simp; done) | omega | (simp; omega)) _) | (with_reducible refine bel_trans ?_ (by with_reducible assumption)))
    · have h' : a0 < b0 := by assumption
      go_ret
      refine ⟨ret_bool (by rw [← HG.out]; simp [h']), ?_⟩
      repeat (first | (with_reducible exact Below.refl _ _) | (with_reducible assumption) | (with_reducible apply bel_alloc) | (with_reducible apply bel_drew) | (with_reducible refine bel_set ?_ (by first | exact Nat.le_refl _ | (simp; done) | omega | (simp; omega)) _) | (with_reducible refine bel_trans ?_ (by with_reducible assumption)))
end Go.Proofs.Ytmanjadnagfhpaa
