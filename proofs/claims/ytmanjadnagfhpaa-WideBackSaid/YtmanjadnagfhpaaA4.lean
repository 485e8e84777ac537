/- The reference's division, bit by bit: the walk. -/
import Derived.Test.YtmanjadnagfhpaaA4a
namespace Go.Proofs.Ytmanjadnagfhpaa
open Go.RowKit
set_option linter.unusedVariables false
set_option linter.unusedSimpArgs false
attribute [local go_sem ↓] Go.wp_at_zero Go.wp_at_succ
attribute [local go_sem] cell_set set_set

/-- What holds at the head of each round, k bits being still to come. -/
def DivAt (a0 a1 A b : Int) (w wr : World) (k : Nat) : Prop :=
  Blk wr w.heap.size #[.int .u64 a0, .int .u64 a1] 24 ∧ Blk wr (w.heap.size + 1) #[.int .u64 0, .int .u64 0] 24 ∧ Blk wr (w.heap.size + 1 + 1) #[.int .u64 (hi (Q A b k)), .int .u64 (lo (Q A b k))] 24 ∧ Blk wr (w.heap.size + 1 + 1 + 1) #[.int .u64 (hi (R A b k)), .int .u64 (lo (R A b k))] 24 ∧ Below w.heap.size w wr

theorem rBel (T b : Int) (hT : is64 (hi T)) (hb : is64 b) (w : World) (t : Bool) (h : decide (val (hi T) (lo T) < val 0 b) = t) :
    Calls Try.prog 51 #[.agg #[.int .u64 (hi T), .int .u64 (lo T)], .agg #[.int .u64 0, .int .u64 b]] w fun e w' => e = .returned (.bool t) ∧ Below w.heap.size w w' := by
  rw [← h]; exact rBelow _ _ _ _ (lo_64 T) hb w


set_option maxHeartbeats 3200000 in
theorem rDivide (a0 a1 b : Int) (ha0 : is64 a0) (ha1 : is64 a1) (hb : is64 b) (hb0 : 0 < b) (w : World) :
    Calls Try.prog 35 #[.agg #[.int .u64 a0, .int .u64 a1], .int .u64 b] w fun e w' => e = .returned (.tuple #[WV (val a0 a1 / b), .int .u64 (val a0 a1 % b)]) ∧ Below w.heap.size w w' := by
  obtain ⟨A, hA⟩ : ∃ A, A = val a0 a1 := ⟨_, rfl⟩
  rw [← hA]
  have HA := Lib.hid hA
  clear hA
  go_enter Try.func35, Try.ntmps35
  go_wp2
  go_loopw [8] (fun i wr => ∃ k : Nat, k ≤ 128 ∧ i = .int .i64 ((k : Int) - 1) ∧ DivAt a0 a1 A b w wr k) (fun i _ => (intOf i + 1).toNat)
  case atStart =>
    have hQ : hi (Q A b 128) = 0 ∧ lo (Q A b 128) = 0 ∧ hi (R A b 128) = 0 ∧ lo (R A b 128) = 0 := by
      have e : A / 2 ^ 128 = 0 := by rw [HA.out]; have := ha0; have := ha1; unfold is64 at *; unfold val; omega
      unfold Q R hi lo
      rw [e]; simp
    refine ⟨128, by omega, rfl, ?_, ?_, ?_, ?_, ?_⟩
    · repeat (first | (with_reducible assumption) | (with_reducible refine Blk.new' ?_; first | rfl | (simp; done) | (simp; omega)) | (with_reducible apply Blk.set01) | (with_reducible apply Blk.set0) | (with_reducible apply Blk.set1) | (with_reducible apply Blk.setOne) | (with_reducible refine Blk.set_other ?_ (by omega) _ _) | (with_reducible apply Blk.alloc) | (with_reducible apply Blk.drew) | (with_reducible refine Blk.below ?_ (by with_reducible assumption)))
    · repeat (first | (with_reducible assumption) | (with_reducible refine Blk.new' ?_; first | rfl | (simp; done) | (simp; omega)) | (with_reducible apply Blk.set01) | (with_reducible apply Blk.set0) | (with_reducible apply Blk.set1) | (with_reducible apply Blk.setOne) | (with_reducible refine Blk.set_other ?_ (by omega) _ _) | (with_reducible apply Blk.alloc) | (with_reducible apply Blk.drew) | (with_reducible refine Blk.below ?_ (by with_reducible assumption)))
    · rw [hQ.1, hQ.2.1]
      repeat (first | (with_reducible assumption) | (with_reducible refine Blk.new' ?_; first | rfl | (simp; done) | (simp; omega)) | (with_reducible apply Blk.set01) | (with_reducible apply Blk.set0) | (with_reducible apply Blk.set1) | (with_reducible apply Blk.setOne) | (with_reducible refine Blk.set_other ?_ (by omega) _ _) | (with_reducible apply Blk.alloc) | (with_reducible apply Blk.drew) | (with_reducible refine Blk.below ?_ (by with_reducible assumption)))
    · rw [hQ.2.2.1, hQ.2.2.2]
      repeat (first | (with_reducible assumption) | (with_reducible refine Blk.new' ?_; first | rfl | (simp; done) | (simp; omega)) | (with_reducible apply Blk.set01) | (with_reducible apply Blk.set0) | (with_reducible apply Blk.set1) | (with_reducible apply Blk.setOne) | (with_reducible refine Blk.set_other ?_ (by omega) _ _) | (with_reducible apply Blk.alloc) | (with_reducible apply Blk.drew) | (with_reducible refine Blk.below ?_ (by with_reducible assumption)))
    · repeat (first | (with_reducible exact Below.refl _ _) | (with_reducible assumption) | (with_reducible apply bel_alloc) | (with_reducible apply bel_drew) | (with_reducible refine bel_set ?_ (by first | exact Nat.le_refl _ | (simp; done) | omega | (simp; omega)) _) | (with_reducible refine bel_trans ?_ (by with_reducible assumption)))
  case round =>
    obtain ⟨k, hk, rfl, h0, h1, h2, h3, hbl⟩ := hrel
    by_cases hk0 : 1 ≤ k
    · obtain ⟨j, rfl⟩ : ∃ j, k = j + 1 := ⟨k - 1, by omega⟩
      obtain ⟨q, hq⟩ : ∃ q, q = Q A b (j + 1) := ⟨_, rfl⟩
      obtain ⟨r, hr⟩ : ∃ r, r = R A b (j + 1) := ⟨_, rfl⟩
      rw [← hq] at h2
      rw [← hr] at h3
      have hrl := R_lt A b (j + 1) hb0
      rw [← hr] at hrl
      have hbit := bit_01 A j
      obtain ⟨T, hT⟩ : ∃ T, T = 2 * r + bit A j := ⟨_, rfl⟩
      have hT1 := T_hi r (bit A j) hrl.1 (by have := hb.2; omega) hbit
      have hT2 := T_lo r (bit A j) hrl.1 (by have := hb.2; omega) hbit
      rw [← hT] at hT1 hT2
      have hTv := T_val T (by omega) (by have := hb.2; omega)
      obtain ⟨c1, c2, f1, f2, l1⟩ := h0.two
      obtain ⟨d1, d2, g1, g2, l2⟩ := h1.two
      obtain ⟨m1, m2, n1, n2, l3⟩ := h2.two
      obtain ⟨p1, p2, r1, r2, l4⟩ := h3.two
      have hRh := hi_64 r
      have hRl := lo_64 r
      have hQh := hi_64 q
      have hQl := lo_64 q
      have hTh := hi_64 T
      have hTl := lo_64 T
      by_cases hlt : T < b
      · have hn := QR_0 A b j hb0 (by rw [← hr, ← hT]; exact hlt)
        rw [← hr, ← hT, ← hq] at hn
        have hY1 := Y_hi q 0 (.inl rfl)
        have hY2 := Y_lo0 q
        rw [Int.add_zero] at hY1
        rw [← hn.2] at hY1 hY2
        have Hn := Lib.hid hn
        have hB : decide (val (hi T) (lo T) < val 0 b) = true := by rw [hTv, N_val]; simp [hlt]
        have HB := fun w => rBel T b hTh hb w true hB
        have HB' := Lib.hid HB
        have Hq := Lib.hid hq
        have Hr := Lib.hid hr
        have HT := Lib.hid hT
        clear hn hB HB hTv hlt hq hr hT hbit
        by_cases h64 : 64 ≤ j
        · have hbt := and1_bit a0 (j - 64) ha0
          rw [bit_hi a0 a1 j h64 ha1, ← HA.out] at hbt
          go_wp2_with (first | (go_at_call 48; refine (rTwice _ _ (by assumption) (by assumption) _).mono ?_; rintro e w1 ⟨rfl, hb_w1⟩; obtain ⟨hc_w1, hf_w1⟩ := bcell hb_w1; have hz_w1 := hb_w1.size; (try simp only [World.size_alloc, World.size_setCell] at hz_w1 hc_w1 hf_w1); have qw10 : w.heap.size < w1.heap.size := (by omega); have qw11 : w.heap.size + 1 < w1.heap.size := (by omega); have qw12 : w.heap.size + 1 + 1 < w1.heap.size := (by omega); have qw13 : w.heap.size + 1 + 1 + 1 < w1.heap.size := (by omega); clear hz_w1) | (go_at_call 51; refine (HB'.out _).mono ?_; rintro e w1 ⟨rfl, hb_w1⟩; obtain ⟨hc_w1, hf_w1⟩ := bcell hb_w1; have hz_w1 := hb_w1.size; (try simp only [World.size_alloc, World.size_setCell] at hz_w1 hc_w1 hf_w1); have qw10 : w.heap.size < w1.heap.size := (by omega); have qw11 : w.heap.size + 1 < w1.heap.size := (by omega); have qw12 : w.heap.size + 1 + 1 < w1.heap.size := (by omega); have qw13 : w.heap.size + 1 + 1 + 1 < w1.heap.size := (by omega); clear hz_w1))
          go_roundw
          case rel =>
            refine ⟨j, by omega, rfl, ?_, ?_, ?_, ?_, ?_⟩
            · repeat (first | (with_reducible assumption) | (with_reducible refine Blk.new' ?_; first | rfl | (simp; done) | (simp; omega)) | (with_reducible apply Blk.set01) | (with_reducible apply Blk.set0) | (with_reducible apply Blk.set1) | (with_reducible apply Blk.setOne) | (with_reducible refine Blk.set_other ?_ (by omega) _ _) | (with_reducible apply Blk.alloc) | (with_reducible apply Blk.drew) | (with_reducible refine Blk.below ?_ (by with_reducible assumption)))
            · repeat (first | (with_reducible assumption) | (with_reducible refine Blk.new' ?_; first | rfl | (simp; done) | (simp; omega)) | (with_reducible apply Blk.set01) | (with_reducible apply Blk.set0) | (with_reducible apply Blk.set1) | (with_reducible apply Blk.setOne) | (with_reducible refine Blk.set_other ?_ (by omega) _ _) | (with_reducible apply Blk.alloc) | (with_reducible apply Blk.drew) | (with_reducible refine Blk.below ?_ (by with_reducible assumption)))
            · repeat (first | (with_reducible assumption) | (with_reducible refine Blk.new' ?_; first | rfl | (simp; done) | (simp; omega)) | (with_reducible apply Blk.set01) | (with_reducible apply Blk.set0) | (with_reducible apply Blk.set1) | (with_reducible apply Blk.setOne) | (with_reducible refine Blk.set_other ?_ (by omega) _ _) | (with_reducible apply Blk.alloc) | (with_reducible apply Blk.drew) | (with_reducible refine Blk.below ?_ (by with_reducible assumption)))
            · rw [Hn.out.1]
              repeat (first | (with_reducible assumption) | (with_reducible refine Blk.new' ?_; first | rfl | (simp; done) | (simp; omega)) | (with_reducible apply Blk.set01) | (with_reducible apply Blk.set0) | (with_reducible apply Blk.set1) | (with_reducible apply Blk.setOne) | (with_reducible refine Blk.set_other ?_ (by omega) _ _) | (with_reducible apply Blk.alloc) | (with_reducible apply Blk.drew) | (with_reducible refine Blk.below ?_ (by with_reducible assumption)))
            · repeat (first | (with_reducible exact Below.refl _ _) | (with_reducible assumption) | (with_reducible apply bel_alloc) | (with_reducible apply bel_drew) | (with_reducible refine bel_set ?_ (by first | exact Nat.le_refl _ | (simp; done) | omega | (simp; omega)) _) | (with_reducible refine bel_trans ?_ (by with_reducible assumption)))
          case measure => simp [intOf]
        · have hbt := and1_bit a1 j ha1
          rw [bit_lo a0 a1 j (by omega) ha1, ← HA.out] at hbt
          have hj : j % 64 = j := by omega
          have hj' : (j : Int) % 64 = (j : Int) := by omega
          go_wp2_with (first | (go_at_call 48; refine (rTwice _ _ (by assumption) (by assumption) _).mono ?_; rintro e w1 ⟨rfl, hb_w1⟩; obtain ⟨hc_w1, hf_w1⟩ := bcell hb_w1; have hz_w1 := hb_w1.size; (try simp only [World.size_alloc, World.size_setCell] at hz_w1 hc_w1 hf_w1); have qw10 : w.heap.size < w1.heap.size := (by omega); have qw11 : w.heap.size + 1 < w1.heap.size := (by omega); have qw12 : w.heap.size + 1 + 1 < w1.heap.size := (by omega); have qw13 : w.heap.size + 1 + 1 + 1 < w1.heap.size := (by omega); clear hz_w1) | (go_at_call 51; refine (HB'.out _).mono ?_; rintro e w1 ⟨rfl, hb_w1⟩; obtain ⟨hc_w1, hf_w1⟩ := bcell hb_w1; have hz_w1 := hb_w1.size; (try simp only [World.size_alloc, World.size_setCell] at hz_w1 hc_w1 hf_w1); have qw10 : w.heap.size < w1.heap.size := (by omega); have qw11 : w.heap.size + 1 < w1.heap.size := (by omega); have qw12 : w.heap.size + 1 + 1 < w1.heap.size := (by omega); have qw13 : w.heap.size + 1 + 1 + 1 < w1.heap.size := (by omega); clear hz_w1))
          go_roundw
          case rel =>
            refine ⟨j, by omega, rfl, ?_, ?_, ?_, ?_, ?_⟩
            · repeat (first | (with_reducible assumption) | (with_reducible refine Blk.new' ?_; first | rfl | (simp; done) | (simp; omega)) | (with_reducible apply Blk.set01) | (with_reducible apply Blk.set0) | (with_reducible apply Blk.set1) | (with_reducible apply Blk.setOne) | (with_reducible refine Blk.set_other ?_ (by omega) _ _) | (with_reducible apply Blk.alloc) | (with_reducible apply Blk.drew) | (with_reducible refine Blk.below ?_ (by with_reducible assumption)))
            · repeat (first | (with_reducible assumption) | (with_reducible refine Blk.new' ?_; first | rfl | (simp; done) | (simp; omega)) | (with_reducible apply Blk.set01) | (with_reducible apply Blk.set0) | (with_reducible apply Blk.set1) | (with_reducible apply Blk.setOne) | (with_reducible refine Blk.set_other ?_ (by omega) _ _) | (with_reducible apply Blk.alloc) | (with_reducible apply Blk.drew) | (with_reducible refine Blk.below ?_ (by with_reducible assumption)))
            · repeat (first | (with_reducible assumption) | (with_reducible refine Blk.new' ?_; first | rfl | (simp; done) | (simp; omega)) | (with_reducible apply Blk.set01) | (with_reducible apply Blk.set0) | (with_reducible apply Blk.set1) | (with_reducible apply Blk.setOne) | (with_reducible refine Blk.set_other ?_ (by omega) _ _) | (with_reducible apply Blk.alloc) | (with_reducible apply Blk.drew) | (with_reducible refine Blk.below ?_ (by with_reducible assumption)))
            · rw [Hn.out.1]
              repeat (first | (with_reducible assumption) | (with_reducible refine Blk.new' ?_; first | rfl | (simp; done) | (simp; omega)) | (with_reducible apply Blk.set01) | (with_reducible apply Blk.set0) | (with_reducible apply Blk.set1) | (with_reducible apply Blk.setOne) | (with_reducible refine Blk.set_other ?_ (by omega) _ _) | (with_reducible apply Blk.alloc) | (with_reducible apply Blk.drew) | (with_reducible refine Blk.below ?_ (by with_reducible assumption)))
            · repeat (first | (with_reducible exact Below.refl _ _) | (with_reducible assumption) | (with_reducible apply bel_alloc) | (with_reducible apply bel_drew) | (with_reducible refine bel_set ?_ (by first | exact Nat.le_refl _ | (simp; done) | omega | (simp; omega)) _) | (with_reducible refine bel_trans ?_ (by with_reducible assumption)))
          case measure => simp [intOf]
      · have hn := QR_1 A b j hb0 (by rw [← hr, ← hT]; exact hlt)
        rw [← hr, ← hT, ← hq] at hn
        have hY1 := Y_hi q 1 (.inr rfl)
        have hY2 := Y_lo q
        rw [← hn.2] at hY1 hY2
        have HZ := Z_val T b (by omega) (by have := hb.2; omega) (by omega)
        rw [← hn.1] at HZ
        have HZ' := Lib.hid HZ
        have Hn := Lib.hid hn
        have hB : decide (val (hi T) (lo T) < val 0 b) = false := by rw [hTv, N_val]; simp; omega
        have HB := fun w => rBel T b hTh hb w false hB
        have HB' := Lib.hid HB
        have HN : ∀ w, Calls Try.prog 14 #[.agg #[.int .u64 0, .int .u64 b]] w fun e w' => e = .returned (WV (- val 0 b)) ∧ Below w.heap.size w w' := fun w => rNeg 0 b is64_0 hb w
        have HN' := Lib.hid HN
        have HA2 : ∀ w, Calls Try.prog 12 #[.agg #[.int .u64 (hi T), .int .u64 (lo T)], WV (- val 0 b)] w fun e w' => e = .returned (WV (R A b j)) ∧ Below w.heap.size w w' := fun w => by rw [← HZ]; exact rAdd _ _ _ _ hTh hTl (hi_64 _) (lo_64 _) w
        have HA2' := Lib.hid HA2
        have Hq := Lib.hid hq
        have Hr := Lib.hid hr
        have HT := Lib.hid hT
        clear hn hB HB hTv hlt hq hr hT hbit HZ HN HA2
        by_cases h64 : 64 ≤ j
        · have hbt := and1_bit a0 (j - 64) ha0
          rw [bit_hi a0 a1 j h64 ha1, ← HA.out] at hbt
          go_wp2_with (first | (go_at_call 48; refine (rTwice _ _ (by assumption) (by assumption) _).mono ?_; rintro e w1 ⟨rfl, hb_w1⟩; obtain ⟨hc_w1, hf_w1⟩ := bcell hb_w1; have hz_w1 := hb_w1.size; (try simp only [World.size_alloc, World.size_setCell] at hz_w1 hc_w1 hf_w1); have qw10 : w.heap.size < w1.heap.size := (by omega); have qw11 : w.heap.size + 1 < w1.heap.size := (by omega); have qw12 : w.heap.size + 1 + 1 < w1.heap.size := (by omega); have qw13 : w.heap.size + 1 + 1 + 1 < w1.heap.size := (by omega); clear hz_w1) | (go_at_call 51; refine (HB'.out _).mono ?_; rintro e wb ⟨rfl, hb_wb⟩; obtain ⟨kbq1, kbq2, kbq3, kbq4, kbq5⟩ := (show Blk wb (w.heap.size + 1 + 1) #[.int .u64 (hi (Q A b j)), .int .u64 (lo (val (hi q) (lo q) + val (hi q) (lo q)))] 24 from (by repeat (first | (with_reducible assumption) | (with_reducible refine Blk.new' ?_; first | rfl | (simp; done) | (simp; omega)) | (with_reducible apply Blk.set01) | (with_reducible apply Blk.set0) | (with_reducible apply Blk.set1) | (with_reducible apply Blk.setOne) | (with_reducible refine Blk.set_other ?_ (by omega) _ _) | (with_reducible apply Blk.alloc) | (with_reducible apply Blk.drew) | (with_reducible refine Blk.below ?_ (by with_reducible assumption))))).two; obtain ⟨kbt1, kbt2, kbt3, kbt4, kbt5⟩ := (show Blk wb (w.heap.size + 1 + 1 + 1) #[.int .u64 (hi T), .int .u64 (lo T)] 24 from (by repeat (first | (with_reducible assumption) | (with_reducible refine Blk.new' ?_; first | rfl | (simp; done) | (simp; omega)) | (with_reducible apply Blk.set01) | (with_reducible apply Blk.set0) | (with_reducible apply Blk.set1) | (with_reducible apply Blk.setOne) | (with_reducible refine Blk.set_other ?_ (by omega) _ _) | (with_reducible apply Blk.alloc) | (with_reducible apply Blk.drew) | (with_reducible refine Blk.below ?_ (by with_reducible assumption))))).two))
          go_region_with (first | (go_at_call 14; refine (HN'.out _).mono ?_; rintro e w2 ⟨rfl, hb_w2⟩; obtain ⟨k2q1, k2q2, k2q3, k2q4, k2q5⟩ := (show Blk w2 (w.heap.size + 1 + 1) #[.int .u64 (hi (Q A b j)), .int .u64 (lo (val (hi q) (lo q) + val (hi q) (lo q)))] 24 from (by repeat (first | (with_reducible assumption) | (with_reducible refine Blk.new' ?_; first | rfl | (simp; done) | (simp; omega)) | (with_reducible apply Blk.set01) | (with_reducible apply Blk.set0) | (with_reducible apply Blk.set1) | (with_reducible apply Blk.setOne) | (with_reducible refine Blk.set_other ?_ (by omega) _ _) | (with_reducible apply Blk.alloc) | (with_reducible apply Blk.drew) | (with_reducible refine Blk.below ?_ (by with_reducible assumption))))).two; obtain ⟨k2t1, k2t2, k2t3, k2t4, k2t5⟩ := (show Blk w2 (w.heap.size + 1 + 1 + 1) #[.int .u64 (hi T), .int .u64 (lo T)] 24 from (by repeat (first | (with_reducible assumption) | (with_reducible refine Blk.new' ?_; first | rfl | (simp; done) | (simp; omega)) | (with_reducible apply Blk.set01) | (with_reducible apply Blk.set0) | (with_reducible apply Blk.set1) | (with_reducible apply Blk.setOne) | (with_reducible refine Blk.set_other ?_ (by omega) _ _) | (with_reducible apply Blk.alloc) | (with_reducible apply Blk.drew) | (with_reducible refine Blk.below ?_ (by with_reducible assumption))))).two) | (go_at_call 12; refine (HA2'.out _).mono ?_; rintro e w3 ⟨rfl, hb_w3⟩; obtain ⟨k3q1, k3q2, k3q3, k3q4, k3q5⟩ := (show Blk w3 (w.heap.size + 1 + 1) #[.int .u64 (hi (Q A b j)), .int .u64 (lo (val (hi q) (lo q) + val (hi q) (lo q)))] 24 from (by repeat (first | (with_reducible assumption) | (with_reducible refine Blk.new' ?_; first | rfl | (simp; done) | (simp; omega)) | (with_reducible apply Blk.set01) | (with_reducible apply Blk.set0) | (with_reducible apply Blk.set1) | (with_reducible apply Blk.setOne) | (with_reducible refine Blk.set_other ?_ (by omega) _ _) | (with_reducible apply Blk.alloc) | (with_reducible apply Blk.drew) | (with_reducible refine Blk.below ?_ (by with_reducible assumption))))).two; obtain ⟨k3t1, k3t2, k3t3, k3t4, k3t5⟩ := (show Blk w3 (w.heap.size + 1 + 1 + 1) #[.int .u64 (hi T), .int .u64 (lo T)] 24 from (by repeat (first | (with_reducible assumption) | (with_reducible refine Blk.new' ?_; first | rfl | (simp; done) | (simp; omega)) | (with_reducible apply Blk.set01) | (with_reducible apply Blk.set0) | (with_reducible apply Blk.set1) | (with_reducible apply Blk.setOne) | (with_reducible refine Blk.set_other ?_ (by omega) _ _) | (with_reducible apply Blk.alloc) | (with_reducible apply Blk.drew) | (with_reducible refine Blk.below ?_ (by with_reducible assumption))))).two))
          go_wp2
          all_goals
            go_roundw
            case rel =>
              refine ⟨j, by omega, rfl, ?_, ?_, ?_, ?_, ?_⟩
              · repeat (first | (with_reducible assumption) | (with_reducible refine Blk.new' ?_; first | rfl | (simp; done) | (simp; omega)) | (with_reducible apply Blk.set01) | (with_reducible apply Blk.set0) | (with_reducible apply Blk.set1) | (with_reducible apply Blk.setOne) | (with_reducible refine Blk.set_other ?_ (by omega) _ _) | (with_reducible apply Blk.alloc) | (with_reducible apply Blk.drew) | (with_reducible refine Blk.below ?_ (by with_reducible assumption)))
              · repeat (first | (with_reducible assumption) | (with_reducible refine Blk.new' ?_; first | rfl | (simp; done) | (simp; omega)) | (with_reducible apply Blk.set01) | (with_reducible apply Blk.set0) | (with_reducible apply Blk.set1) | (with_reducible apply Blk.setOne) | (with_reducible refine Blk.set_other ?_ (by omega) _ _) | (with_reducible apply Blk.alloc) | (with_reducible apply Blk.drew) | (with_reducible refine Blk.below ?_ (by with_reducible assumption)))
              · repeat (first | (with_reducible assumption) | (with_reducible refine Blk.new' ?_; first | rfl | (simp; done) | (simp; omega)) | (with_reducible apply Blk.set01) | (with_reducible apply Blk.set0) | (with_reducible apply Blk.set1) | (with_reducible apply Blk.setOne) | (with_reducible refine Blk.set_other ?_ (by omega) _ _) | (with_reducible apply Blk.alloc) | (with_reducible apply Blk.drew) | (with_reducible refine Blk.below ?_ (by with_reducible assumption)))
              · repeat (first | (with_reducible assumption) | (with_reducible refine Blk.new' ?_; first | rfl | (simp; done) | (simp; omega)) | (with_reducible apply Blk.set01) | (with_reducible apply Blk.set0) | (with_reducible apply Blk.set1) | (with_reducible apply Blk.setOne) | (with_reducible refine Blk.set_other ?_ (by omega) _ _) | (with_reducible apply Blk.alloc) | (with_reducible apply Blk.drew) | (with_reducible refine Blk.below ?_ (by with_reducible assumption)))
              · repeat (first | (with_reducible exact Below.refl _ _) | (with_reducible assumption) | (with_reducible apply bel_alloc) | (with_reducible apply bel_drew) | (with_reducible refine bel_set ?_ (by first | exact Nat.le_refl _ | (simp; done) | omega | (simp; omega)) _) | (with_reducible refine bel_trans ?_ (by with_reducible assumption)))
            case measure => simp [intOf]
        · have hbt := and1_bit a1 j ha1
          rw [bit_lo a0 a1 j (by omega) ha1, ← HA.out] at hbt
          have hj : j % 64 = j := by omega
          have hj' : (j : Int) % 64 = (j : Int) := by omega
          go_wp2_with (first | (go_at_call 48; refine (rTwice _ _ (by assumption) (by assumption) _).mono ?_; rintro e w1 ⟨rfl, hb_w1⟩; obtain ⟨hc_w1, hf_w1⟩ := bcell hb_w1; have hz_w1 := hb_w1.size; (try simp only [World.size_alloc, World.size_setCell] at hz_w1 hc_w1 hf_w1); have qw10 : w.heap.size < w1.heap.size := (by omega); have qw11 : w.heap.size + 1 < w1.heap.size := (by omega); have qw12 : w.heap.size + 1 + 1 < w1.heap.size := (by omega); have qw13 : w.heap.size + 1 + 1 + 1 < w1.heap.size := (by omega); clear hz_w1) | (go_at_call 51; refine (HB'.out _).mono ?_; rintro e wb ⟨rfl, hb_wb⟩; obtain ⟨kbq1, kbq2, kbq3, kbq4, kbq5⟩ := (show Blk wb (w.heap.size + 1 + 1) #[.int .u64 (hi (Q A b j)), .int .u64 (lo (val (hi q) (lo q) + val (hi q) (lo q)))] 24 from (by repeat (first | (with_reducible assumption) | (with_reducible refine Blk.new' ?_; first | rfl | (simp; done) | (simp; omega)) | (with_reducible apply Blk.set01) | (with_reducible apply Blk.set0) | (with_reducible apply Blk.set1) | (with_reducible apply Blk.setOne) | (with_reducible refine Blk.set_other ?_ (by omega) _ _) | (with_reducible apply Blk.alloc) | (with_reducible apply Blk.drew) | (with_reducible refine Blk.below ?_ (by with_reducible assumption))))).two; obtain ⟨kbt1, kbt2, kbt3, kbt4, kbt5⟩ := (show Blk wb (w.heap.size + 1 + 1 + 1) #[.int .u64 (hi T), .int .u64 (lo T)] 24 from (by repeat (first | (with_reducible assumption) | (with_reducible refine Blk.new' ?_; first | rfl | (simp; done) | (simp; omega)) | (with_reducible apply Blk.set01) | (with_reducible apply Blk.set0) | (with_reducible apply Blk.set1) | (with_reducible apply Blk.setOne) | (with_reducible refine Blk.set_other ?_ (by omega) _ _) | (with_reducible apply Blk.alloc) | (with_reducible apply Blk.drew) | (with_reducible refine Blk.below ?_ (by with_reducible assumption))))).two))
          go_region_with (first | (go_at_call 14; refine (HN'.out _).mono ?_; rintro e w2 ⟨rfl, hb_w2⟩; obtain ⟨k2q1, k2q2, k2q3, k2q4, k2q5⟩ := (show Blk w2 (w.heap.size + 1 + 1) #[.int .u64 (hi (Q A b j)), .int .u64 (lo (val (hi q) (lo q) + val (hi q) (lo q)))] 24 from (by repeat (first | (with_reducible assumption) | (with_reducible refine Blk.new' ?_; first | rfl | (simp; done) | (simp; omega)) | (with_reducible apply Blk.set01) | (with_reducible apply Blk.set0) | (with_reducible apply Blk.set1) | (with_reducible apply Blk.setOne) | (with_reducible refine Blk.set_other ?_ (by omega) _ _) | (with_reducible apply Blk.alloc) | (with_reducible apply Blk.drew) | (with_reducible refine Blk.below ?_ (by with_reducible assumption))))).two; obtain ⟨k2t1, k2t2, k2t3, k2t4, k2t5⟩ := (show Blk w2 (w.heap.size + 1 + 1 + 1) #[.int .u64 (hi T), .int .u64 (lo T)] 24 from (by repeat (first | (with_reducible assumption) | (with_reducible refine Blk.new' ?_; first | rfl | (simp; done) | (simp; omega)) | (with_reducible apply Blk.set01) | (with_reducible apply Blk.set0) | (with_reducible apply Blk.set1) | (with_reducible apply Blk.setOne) | (with_reducible refine Blk.set_other ?_ (by omega) _ _) | (with_reducible apply Blk.alloc) | (with_reducible apply Blk.drew) | (with_reducible refine Blk.below ?_ (by with_reducible assumption))))).two) | (go_at_call 12; refine (HA2'.out _).mono ?_; rintro e w3 ⟨rfl, hb_w3⟩; obtain ⟨k3q1, k3q2, k3q3, k3q4, k3q5⟩ := (show Blk w3 (w.heap.size + 1 + 1) #[.int .u64 (hi (Q A b j)), .int .u64 (lo (val (hi q) (lo q) + val (hi q) (lo q)))] 24 from (by repeat (first | (with_reducible assumption) | (with_reducible refine Blk.new' ?_; first | rfl | (simp; done) | (simp; omega)) | (with_reducible apply Blk.set01) | (with_reducible apply Blk.set0) | (with_reducible apply Blk.set1) | (with_reducible apply Blk.setOne) | (with_reducible refine Blk.set_other ?_ (by omega) _ _) | (with_reducible apply Blk.alloc) | (with_reducible apply Blk.drew) | (with_reducible refine Blk.below ?_ (by with_reducible assumption))))).two; obtain ⟨k3t1, k3t2, k3t3, k3t4, k3t5⟩ := (show Blk w3 (w.heap.size + 1 + 1 + 1) #[.int .u64 (hi T), .int .u64 (lo T)] 24 from (by repeat (first | (with_reducible assumption) | (with_reducible refine Blk.new' ?_; first | rfl | (simp; done) | (simp; omega)) | (with_reducible apply Blk.set01) | (with_reducible apply Blk.set0) | (with_reducible apply Blk.set1) | (with_reducible apply Blk.setOne) | (with_reducible refine Blk.set_other ?_ (by omega) _ _) | (with_reducible apply Blk.alloc) | (with_reducible apply Blk.drew) | (with_reducible refine Blk.below ?_ (by with_reducible assumption))))).two))
          go_wp2
          all_goals
            go_roundw
            case rel =>
              refine ⟨j, by omega, rfl, ?_, ?_, ?_, ?_, ?_⟩
              · repeat (first | (with_reducible assumption) | (with_reducible refine Blk.new' ?_; first | rfl | (simp; done) | (simp; omega)) | (with_reducible apply Blk.set01) | (with_reducible apply Blk.set0) | (with_reducible apply Blk.set1) | (with_reducible apply Blk.setOne) | (with_reducible refine Blk.set_other ?_ (by omega) _ _) | (with_reducible apply Blk.alloc) | (with_reducible apply Blk.drew) | (with_reducible refine Blk.below ?_ (by with_reducible assumption)))
              · repeat (first | (with_reducible assumption) | (with_reducible refine Blk.new' ?_; first | rfl | (simp; done) | (simp; omega)) | (with_reducible apply Blk.set01) | (with_reducible apply Blk.set0) | (with_reducible apply Blk.set1) | (with_reducible apply Blk.setOne) | (with_reducible refine Blk.set_other ?_ (by omega) _ _) | (with_reducible apply Blk.alloc) | (with_reducible apply Blk.drew) | (with_reducible refine Blk.below ?_ (by with_reducible assumption)))
              · repeat (first | (with_reducible assumption) | (with_reducible refine Blk.new' ?_; first | rfl | (simp; done) | (simp; omega)) | (with_reducible apply Blk.set01) | (with_reducible apply Blk.set0) | (with_reducible apply Blk.set1) | (with_reducible apply Blk.setOne) | (with_reducible refine Blk.set_other ?_ (by omega) _ _) | (with_reducible apply Blk.alloc) | (with_reducible apply Blk.drew) | (with_reducible refine Blk.below ?_ (by with_reducible assumption)))
              · repeat (first | (with_reducible assumption) | (with_reducible refine Blk.new' ?_; first | rfl | (simp; done) | (simp; omega)) | (with_reducible apply Blk.set01) | (with_reducible apply Blk.set0) | (with_reducible apply Blk.set1) | (with_reducible apply Blk.setOne) | (with_reducible refine Blk.set_other ?_ (by omega) _ _) | (with_reducible apply Blk.alloc) | (with_reducible apply Blk.drew) | (with_reducible refine Blk.below ?_ (by with_reducible assumption)))
              · repeat (first | (with_reducible exact Below.refl _ _) | (with_reducible assumption) | (with_reducible apply bel_alloc) | (with_reducible apply bel_drew) | (with_reducible refine bel_set ?_ (by first | exact Nat.le_refl _ | (simp; done) | omega | (simp; omega)) _) | (with_reducible refine bel_trans ?_ (by with_reducible assumption)))
            case measure => simp [intOf]
    · obtain rfl : k = 0 := by omega
      have hrl := R_lt A b 0 hb0
      have hR0 : lo (R A b 0) = A % b := by
        have e : R A b 0 = A % b := by unfold R; rw [Int.pow_zero, Int.ediv_one]
        rw [← e]; have := hb.2; unfold lo; omega
      have hQ0 : Q A b 0 = A / b := by unfold Q; rw [Int.pow_zero, Int.ediv_one]
      rw [hQ0] at h2
      rw [hR0] at h3
      obtain ⟨c1, c2, f1, f2, l1⟩ := h0.two
      obtain ⟨d1, d2, g1, g2, l2⟩ := h1.two
      obtain ⟨m1, m2, n1, n2, l3⟩ := h2.two
      obtain ⟨p1, p2, r1, r2, l4⟩ := h3.two
      clear hR0 hQ0
      go_wp2
      go_region
      all_goals
        go_wp2
        refine ret_blk (v := .tuple #[WV (A / b), .int .u64 (A % b)]) (w.heap.size + 1) #[.int .u64 (hi (A / b)), .int .u64 (lo (A / b))] 24 (by repeat (first | (with_reducible assumption) | (with_reducible refine Blk.new' ?_; first | rfl | (simp; done) | (simp; omega)) | (with_reducible apply Blk.set01) | (with_reducible apply Blk.set0) | (with_reducible apply Blk.set1) | (with_reducible apply Blk.setOne) | (with_reducible refine Blk.set_other ?_ (by omega) _ _) | (with_reducible apply Blk.alloc) | (with_reducible apply Blk.drew) | (with_reducible refine Blk.below ?_ (by with_reducible assumption)))) (fun w' h => by obtain ⟨c1, c2, _⟩ := h.two; simp [results, Try.results35, go_sem, c1, c2]) rfl ⟨rfl, by repeat (first | (with_reducible exact Below.refl _ _) | (with_reducible assumption) | (with_reducible apply bel_alloc) | (with_reducible apply bel_drew) | (with_reducible refine bel_set ?_ (by first | exact Nat.le_refl _ | (simp; done) | omega | (simp; omega)) _) | (with_reducible refine bel_trans ?_ (by with_reducible assumption)))⟩
end Go.Proofs.Ytmanjadnagfhpaa
