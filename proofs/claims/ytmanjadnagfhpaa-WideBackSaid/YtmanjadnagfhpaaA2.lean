/- Products: both packages' UMul and Mul. -/
import Derived.Test.YtmanjadnagfhpaaA1
import Derived.Test.YtmanjadnagfhpaaShelf
namespace Go.Proofs.Ytmanjadnagfhpaa
open Go.RowKit
set_option linter.unusedVariables false
set_option linter.unusedSimpArgs false

theorem WVc {x y : Int} (h : x % 340282366920938463463374607431768211456 = y % 340282366920938463463374607431768211456) : WV x = WV y := by
  rw [WV, WV, hi_cong h, lo_cong h]

theorem wMul64 (a b : Int) (ha : is64 a) (hb : is64 b) (w : World) :
    Calls Try.prog 47 #[.int .u64 a, .int .u64 b] w fun e w' => e = .returned (.tuple #[.int .u64 (hi (a * b)), .int .u64 (lo (a * b))]) ∧ w = w' := by
  obtain ⟨x, rfl⟩ := Int.eq_ofNat_of_zero_le ha.1
  obtain ⟨y, rfl⟩ := Int.eq_ofNat_of_zero_le hb.1
  have hx := ha.2
  have hy := hb.2
  have hlt : x * y < 18446744073709551616 * 18446744073709551616 := Nat.mul_lt_mul'' (by omega) (by omega)
  refine (Try.bits_Mul64 x y (by omega) (by omega) w).mono ?_
  rintro e w' ⟨rfl, rfl⟩
  refine ⟨?_, rfl⟩
  have e1 : ((x * y / 18446744073709551616 : Nat) : Int) = hi ((x : Int) * y) := by rw [← Int.natCast_mul]; unfold hi; omega
  have e2 : ((x * y % 18446744073709551616 : Nat) : Int) = lo ((x : Int) * y) := by rw [← Int.natCast_mul]; unfold lo; omega
  rw [e1, e2]

set_option maxHeartbeats 400000 in
theorem wUMul (a b : Int) (ha : is64 a) (hb : is64 b) (w : World) :
    Calls Try.prog 27 #[.int .u64 a, .int .u64 b] w fun e w' => e = .returned (WV (a * b)) ∧ Below w.heap.size w w' := by
  go_enter Try.func27, Try.ntmps27
  go_wp2_with (go_at_call 47; refine (wMul64 _ _ ha hb _).mono ?_; rintro e w1 ⟨rfl, rfl⟩)
  refine bodyPost_ret (v := WV (a * b)) (by simp [results, Try.results27, go_sem]) rfl ⟨rfl, ?_⟩
  repeat (first | (with_reducible exact Below.refl _ _) | (with_reducible assumption) | (with_reducible apply bel_alloc) | (with_reducible apply bel_drew) | (with_reducible refine bel_set ?_ (by first | exact Nat.le_refl _ | (simp; done) | omega | (simp; omega)) _) | (with_reducible refine bel_trans ?_ (by with_reducible assumption)))

def mk (a b : Int) : Int := if a < 0 then lo b else 0
theorem mk_is (a b : Int) (ha : isI a) : bits .and .u64 (lo (a / 9223372036854775808)) (lo b) = mk a b := by
  have hb := lo_64 b
  unfold isI at ha
  unfold mk
  obtain ⟨y, hy⟩ := Int.eq_ofNat_of_zero_le hb.1
  have hy2 := hb.2
  by_cases h : a < 0
  · rw [if_pos h, hy, show lo (a / 9223372036854775808) = ((18446744073709551615 : Nat) : Int) by unfold lo; omega, bits_and_u64_nat _ _ (by omega) (by omega)]
    congr 1
    rw [Nat.and_comm]
    have := Nat.and_two_pow_sub_one_eq_mod y 64
    rw [show (2 : Nat) ^ 64 - 1 = 18446744073709551615 from rfl] at this
    rw [this]
    omega
  · rw [if_neg h, hy, show lo (a / 9223372036854775808) = ((0 : Nat) : Int) by unfold lo; omega, bits_and_u64_nat _ _ (by omega) (by omega)]
    simp
theorem mul_fin (a b : Int) (ha : isI a) (hb : isI b) : (.agg #[.int .u64 (lo (hi (lo a * lo b) - lo (mk a b + mk b a))), .int .u64 (lo (lo a * lo b))] : Value) = WV (a * b) := by
  have ea : lo a = if a < 0 then a + 18446744073709551616 else a := by unfold isI at ha; unfold lo; split <;> omega
  have eb : lo b = if b < 0 then b + 18446744073709551616 else b := by unfold isI at hb; unfold lo; split <;> omega
  have e : lo (hi (lo a * lo b) - lo (mk a b + mk b a)) = hi (a * b) ∧ lo (lo a * lo b) = lo (a * b) := by
    unfold mk
    rw [ea, eb]
    unfold isI at ha hb
    by_cases h1 : a < 0 <;> by_cases h2 : b < 0
    · simp only [if_pos h1, if_pos h2]
      have : (a + 18446744073709551616) * (b + 18446744073709551616) = a * b + 18446744073709551616 * a + 18446744073709551616 * b + 340282366920938463463374607431768211456 := by grind
      rw [this]
      generalize a * b = p
      unfold hi lo
      refine ⟨?_, ?_⟩ <;> first | trivial | omega
    · simp only [if_pos h1, if_neg h2]
      have : (a + 18446744073709551616) * b = a * b + 18446744073709551616 * b := by grind
      rw [this]
      generalize a * b = p
      unfold hi lo
      refine ⟨?_, ?_⟩ <;> first | trivial | omega
    · simp only [if_neg h1, if_pos h2]
      have : a * (b + 18446744073709551616) = a * b + 18446744073709551616 * a := by grind
      rw [this]
      generalize a * b = p
      unfold hi lo
      refine ⟨?_, ?_⟩ <;> first | trivial | omega
    · clear ea eb
      simp only [if_neg h1, if_neg h2]
      generalize a * b = p
      unfold hi lo
      refine ⟨?_, ?_⟩ <;> first | trivial | omega
  rw [WV, e.1, e.2]

set_option maxHeartbeats 400000 in
theorem wMul (a b : Int) (ha : isI a) (hb : isI b) (w : World) :
    Calls Try.prog 25 #[.int .i64 a, .int .i64 b] w fun e w' => e = .returned (WV (a * b)) ∧ Below w.heap.size w w' := by
  have hw := wrap_lo
  have h1 := mk_is a b ha
  have h2 := mk_is b a hb
  have HF := Lib.hid (mul_fin a b ha hb)
  have la := lo_64 a
  have lb := lo_64 b
  go_enter Try.func25, Try.ntmps25
  go_wp2_with (go_at_call 27; refine (wUMul _ _ la lb _).mono ?_; rintro e w1 ⟨rfl, hb_w1⟩; obtain ⟨hc_w1, hf_w1⟩ := bcell hb_w1; have hz_w1 := hb_w1.size; (try simp only [World.size_alloc, World.size_setCell] at hz_w1 hc_w1 hf_w1); have qw10 : w.heap.size < w1.heap.size := (by omega); clear hz_w1)
  refine ret_blk (v := .agg #[.int .u64 (lo (hi (lo a * lo b) - lo (mk a b + mk b a))), .int .u64 (lo (lo a * lo b))]) w.heap.size #[.int .u64 (lo (hi (lo a * lo b) - lo (mk a b + mk b a))), .int .u64 (lo (lo a * lo b))] 24 ?_ (fun w' h => by obtain ⟨c1, c2, _⟩ := h.two; simp [results, Try.results25, go_sem, c1, c2]) rfl ⟨by rw [HF.out], ?_⟩
  · repeat (first | (with_reducible assumption) | (with_reducible refine Blk.new' ?_; first | rfl | (simp; done) | (simp; omega)) | (with_reducible apply Blk.set01) | (with_reducible apply Blk.set0) | (with_reducible apply Blk.set1) | (with_reducible apply Blk.setOne) | (with_reducible refine Blk.set_other ?_ (by omega) _ _) | (with_reducible apply Blk.alloc) | (with_reducible apply Blk.drew) | (with_reducible refine Blk.below ?_ (by with_reducible assumption)))
  · repeat (first | (with_reducible exact Below.refl _ _) | (with_reducible assumption) | (with_reducible apply bel_alloc) | (with_reducible apply bel_drew) | (with_reducible refine bel_set ?_ (by first | exact Nat.le_refl _ | (simp; done) | omega | (simp; omega)) _) | (with_reducible refine bel_trans ?_ (by with_reducible assumption)))

def bit (a : Int) (k : Nat) : Int := a / 2 ^ k % 2
theorem bit_01 (a : Int) (k : Nat) : bit a k = 0 ∨ bit a k = 1 := by unfold bit; omega
theorem half_bit (a : Int) (k : Nat) : a / 2 ^ k = 2 * (a / 2 ^ (k + 1)) + bit a k := by
  have : a / 2 ^ (k + 1) = a / 2 ^ k / 2 := by rw [Int.pow_succ, Int.ediv_ediv_of_nonneg (Int.pow_nonneg (by omega))]
  unfold bit; omega
theorem half_0 (a : Int) (b : Int) (k : Nat) (h : bit a k = 0) : WV (val (hi (a / 2 ^ (k + 1) * b)) (lo (a / 2 ^ (k + 1) * b)) + val (hi (a / 2 ^ (k + 1) * b)) (lo (a / 2 ^ (k + 1) * b))) = WV (a / 2 ^ k * b) := by
  apply WVc
  have e : a / 2 ^ k * b = 2 * (a / 2 ^ (k + 1) * b) := by rw [half_bit a k, h, Int.add_zero, Int.mul_assoc]
  rw [val_hl, e]
  generalize a / 2 ^ (k + 1) * b = p
  omega
theorem half_1 (a : Int) (b : Int) (k : Nat) (h : bit a k = 1) (v : Int) (hv : v = val (hi (a / 2 ^ (k + 1) * b)) (lo (a / 2 ^ (k + 1) * b)) + val (hi (a / 2 ^ (k + 1) * b)) (lo (a / 2 ^ (k + 1) * b))) : WV (val (hi v) (lo v) + val 0 b) = WV (a / 2 ^ k * b) := by
  apply WVc
  have e : a / 2 ^ k * b = 2 * (a / 2 ^ (k + 1) * b) + b := by rw [half_bit a k, h, Int.add_mul, Int.one_mul, Int.mul_assoc]
  rw [val_hl, hv, val_hl, e]
  generalize a / 2 ^ (k + 1) * b = p
  unfold val
  omega
theorem WV_inj {x y : Int} (h : WV x = WV y) : hi x = hi y ∧ lo x = lo y := by
  simpa [WV] using h
theorem Blk.wv {w : World} {b : Nat} {x y : Int} {t : TypeId} (h : Blk w b #[.int .u64 (hi x), .int .u64 (lo x)] t) (e : WV x = WV y) : Blk w b #[.int .u64 (hi y), .int .u64 (lo y)] t := by
  obtain ⟨e1, e2⟩ := WV_inj e
  rw [← e1, ← e2]; exact h
theorem top_0 (a b : Int) (ha : is64 a) : WV 0 = WV (a / 2 ^ 64 * b) := by
  obtain ⟨h1, h2⟩ := ha
  rw [show a / 2 ^ 64 = 0 by omega, Int.zero_mul]

theorem and1 (x : Int) (h0 : 0 ≤ x) (h1 : x < 18446744073709551616) : bits .and .u64 x 1 = x % 2 := by
  obtain ⟨n, rfl⟩ := Int.eq_ofNat_of_zero_le h0
  have h := bits_and_u64_nat n 1 (by omega) (by omega)
  rw [Nat.and_one_is_mod] at h
  rw [show (1 : Int) = ((1 : Nat) : Int) from rfl, h]; omega
theorem and1_bit (a : Int) (k : Nat) (ha : is64 a) : bits .and .u64 (a / 2 ^ k) 1 = bit a k := by
  obtain ⟨h1, h2⟩ := ha
  have hp : (0 : Int) < 2 ^ k := Int.pow_pos (by omega)
  have h3 : 0 ≤ a / 2 ^ k := Int.ediv_nonneg h1 (Int.le_of_lt hp)
  have h4 : a / 2 ^ k ≤ a := Int.ediv_le_self _ h1
  rw [and1 _ h3 (by omega)]; rfl
set_option maxHeartbeats 400000 in
theorem rUMul (a b : Int) (ha : is64 a) (hb : is64 b) (w : World) :
    Calls Try.prog 28 #[.int .u64 a, .int .u64 b] w fun e w' => e = .returned (WV (a * b)) ∧ Below w.heap.size w w' := by
  go_enter Try.func28, Try.ntmps28
  go_wp2
  go_loopw [6] (fun i wr => ∃ k : Nat, k ≤ 64 ∧ i = .int .i64 ((k : Int) - 1) ∧ Blk wr w.heap.size #[.int .u64 0, .int .u64 0] 24 ∧ Blk wr (w.heap.size + 1) #[.int .u64 (hi (a / 2 ^ k * b)), .int .u64 (lo (a / 2 ^ k * b))] 24 ∧ Below w.heap.size w wr) (fun i _ => (intOf i + 1).toNat)
  case atStart => 
    refine ⟨64, by omega, rfl, (Blk.new _ _ _).alloc _, ?_, by repeat (first | (with_reducible exact Below.refl _ _) | (with_reducible assumption) | (with_reducible apply bel_alloc) | (with_reducible apply bel_drew) | (with_reducible refine bel_set ?_ (by first | exact Nat.le_refl _ | (simp; done) | omega | (simp; omega)) _) | (with_reducible refine bel_trans ?_ (by with_reducible assumption)))⟩
    refine Blk.wv (x := 0) ?_ (top_0 a b ha)
    have h := Blk.new (w.alloc (.cells #[.int .u64 0, .int .u64 0] 24)) #[.int .u64 0, .int .u64 0] 24
    simp only [World.size_alloc] at h
    exact h
  case round =>
    obtain ⟨k, hk, rfl, h0, h1, hbl⟩ := hrel
    obtain ⟨c1, c2, f1, f2, l1⟩ := h1.two
    obtain ⟨d1, d2, g1, g2, l2⟩ := h0.two
    have hh := hi_64 (a / 2 ^ k * b)
    have hl := lo_64 (a / 2 ^ k * b)
    by_cases hk0 : 1 ≤ k
    · obtain ⟨j, rfl⟩ : ∃ j, k = j + 1 := ⟨k - 1, by omega⟩
      obtain ⟨v, hv⟩ : ∃ v, v = val (hi (a / 2 ^ (j + 1) * b)) (lo (a / 2 ^ (j + 1) * b)) + val (hi (a / 2 ^ (j + 1) * b)) (lo (a / 2 ^ (j + 1) * b)) := ⟨_, rfl⟩
      have HV := Lib.hid hv
      have hvh := hi_64 v
      have hvl := lo_64 v
      have HT : ∀ w, Calls Try.prog 48 #[.agg #[.int .u64 (hi (a / 2 ^ (j + 1) * b)), .int .u64 (lo (a / 2 ^ (j + 1) * b))]] w fun e w' => e = .returned (WV v) ∧ Below w.heap.size w w' := fun w => by rw [hv]; exact rTwice _ _ hh hl w
      have HT := Lib.hid HT
      clear hv
      have hab := and1_bit a j ha
      rcases bit_01 a j with hbit | hbit
      · have HV2 : WV v = WV (a / 2 ^ j * b) := by rw [HV.out]; exact half_0 a b j hbit
        have HV3 := Lib.hid HV2
        clear HV2
        rw [hbit] at hab
        clear hbit
        go_wp2_with (go_at_call 48; refine (HT.out _).mono ?_; rintro e w1 ⟨rfl, hb1⟩; obtain ⟨hc1, hf1⟩ := bcell hb1; have hz1 := hb1.size; have q0 : w.heap.size < w1.heap.size := (by omega); have q1 : w.heap.size + 1 < w1.heap.size := (by omega))
        go_roundw
        case rel =>
          refine ⟨j, by omega, rfl, ?_, ?_, ?_⟩
          · repeat (first | (with_reducible assumption) | (with_reducible refine Blk.new' ?_; first | rfl | (simp; done) | (simp; omega)) | (with_reducible apply Blk.set01) | (with_reducible apply Blk.set0) | (with_reducible apply Blk.set1) | (with_reducible apply Blk.setOne) | (with_reducible refine Blk.set_other ?_ (by omega) _ _) | (with_reducible apply Blk.alloc) | (with_reducible apply Blk.drew) | (with_reducible refine Blk.below ?_ (by with_reducible assumption)))
          · refine Blk.wv (x := v) ?_ HV3.out
            repeat (first | (with_reducible assumption) | (with_reducible refine Blk.new' ?_; first | rfl | (simp; done) | (simp; omega)) | (with_reducible apply Blk.set01) | (with_reducible apply Blk.set0) | (with_reducible apply Blk.set1) | (with_reducible apply Blk.setOne) | (with_reducible refine Blk.set_other ?_ (by omega) _ _) | (with_reducible apply Blk.alloc) | (with_reducible apply Blk.drew) | (with_reducible refine Blk.below ?_ (by with_reducible assumption)))
          · repeat (first | (with_reducible exact Below.refl _ _) | (with_reducible assumption) | (with_reducible apply bel_alloc) | (with_reducible apply bel_drew) | (with_reducible refine bel_set ?_ (by first | exact Nat.le_refl _ | (simp; done) | omega | (simp; omega)) _) | (with_reducible refine bel_trans ?_ (by with_reducible assumption)))
        case measure => simp [intOf]
      · have HV2 : WV (val (hi v) (lo v) + val 0 b) = WV (a / 2 ^ j * b) := half_1 a b j hbit v HV.out
        have HV3 := Lib.hid HV2
        clear HV2
        rw [hbit] at hab
        clear hbit
        go_wp2_with (first | (go_at_call 48; refine (HT.out _).mono ?_; rintro e w1 ⟨rfl, hb1⟩; obtain ⟨hc1, hf1⟩ := bcell hb1; have hz1 := hb1.size; have q0 : w.heap.size < w1.heap.size := (by omega); have q1 : w.heap.size + 1 < w1.heap.size := (by omega)) | (go_at_call 12; refine (rAdd _ _ _ _ hvh hvl is64_0 hb _).mono ?_; rintro e w2 ⟨rfl, hb2⟩; obtain ⟨hc2, hf2⟩ := bcell hb2; have hz2 := hb2.size; simp only [World.size_setCell] at hz2 hc2 hf2; have q2 : w.heap.size < w2.heap.size := (by omega); have q3 : w.heap.size + 1 < w2.heap.size := (by omega)))
        go_roundw
        case rel =>
          refine ⟨j, by omega, rfl, ?_, ?_, ?_⟩
          · repeat (first | (with_reducible assumption) | (with_reducible refine Blk.new' ?_; first | rfl | (simp; done) | (simp; omega)) | (with_reducible apply Blk.set01) | (with_reducible apply Blk.set0) | (with_reducible apply Blk.set1) | (with_reducible apply Blk.setOne) | (with_reducible refine Blk.set_other ?_ (by omega) _ _) | (with_reducible apply Blk.alloc) | (with_reducible apply Blk.drew) | (with_reducible refine Blk.below ?_ (by with_reducible assumption)))
          · refine Blk.wv (x := val (hi v) (lo v) + val 0 b) ?_ HV3.out
            repeat (first | (with_reducible assumption) | (with_reducible refine Blk.new' ?_; first | rfl | (simp; done) | (simp; omega)) | (with_reducible apply Blk.set01) | (with_reducible apply Blk.set0) | (with_reducible apply Blk.set1) | (with_reducible apply Blk.setOne) | (with_reducible refine Blk.set_other ?_ (by omega) _ _) | (with_reducible apply Blk.alloc) | (with_reducible apply Blk.drew) | (with_reducible refine Blk.below ?_ (by with_reducible assumption)))
          · repeat (first | (with_reducible exact Below.refl _ _) | (with_reducible assumption) | (with_reducible apply bel_alloc) | (with_reducible apply bel_drew) | (with_reducible refine bel_set ?_ (by first | exact Nat.le_refl _ | (simp; done) | omega | (simp; omega)) _) | (with_reducible refine bel_trans ?_ (by with_reducible assumption)))
        case measure => simp [intOf]
    · obtain rfl : k = 0 := by omega
      go_wp2
      refine ret_blk (v := WV (a * b)) w.heap.size #[.int .u64 (hi (a * b)), .int .u64 (lo (a * b))] 24 ?_ (fun w' h => by obtain ⟨c1, c2, _⟩ := h.two; simp [results, Try.results28, go_sem, c1, c2]) rfl ⟨rfl, ?_⟩
      · repeat (first | (with_reducible assumption) | (with_reducible refine Blk.new' ?_; first | rfl | (simp; done) | (simp; omega)) | (with_reducible apply Blk.set01) | (with_reducible apply Blk.set0) | (with_reducible apply Blk.set1) | (with_reducible apply Blk.setOne) | (with_reducible refine Blk.set_other ?_ (by omega) _ _) | (with_reducible apply Blk.alloc) | (with_reducible apply Blk.drew) | (with_reducible refine Blk.below ?_ (by with_reducible assumption)))
      · repeat (first | (with_reducible exact Below.refl _ _) | (with_reducible assumption) | (with_reducible apply bel_alloc) | (with_reducible apply bel_drew) | (with_reducible refine bel_set ?_ (by first | exact Nat.le_refl _ | (simp; done) | omega | (simp; omega)) _) | (with_reducible refine bel_trans ?_ (by with_reducible assumption)))
end Go.Proofs.Ytmanjadnagfhpaa
