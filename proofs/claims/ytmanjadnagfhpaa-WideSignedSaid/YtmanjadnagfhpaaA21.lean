/- Bodies of the statements on quotients and products. -/
import Derived.Test.YtmanjadnagfhpaaA19
namespace Go.Proofs.Ytmanjadnagfhpaa
open Go.RowKit
set_option linter.unusedVariables false
set_option linter.unusedSimpArgs false
attribute [local go_sem ↓] Go.wp_at_zero Go.wp_at_succ
attribute [local go_sem] cell_set set_set
attribute [local go_sem high] eql24 neq24 grd24
attribute [local irreducible] hi lo val

set_option maxHeartbeats 1600000 in
theorem law_udiv (a0 a1 b : Int) (ha0 : is64 a0) (ha1 : is64 a1) (hb : is64 b) (w : World) :
    Calls Try.prog 4 #[.agg #[.int .u64 a0, .int .u64 a1], .int .u64 b] w fun e w' => e = .returned (.bool true) ∧ Below w.heap.size w w' := by
  have H1 := Lib.hid (fun w => wUDiv a0 a1 b ha0 ha1 hb w)
  have H2 := Lib.hid (fun w => rUDiv a0 a1 b ha0 ha1 hb w)
  obtain ⟨r, hr⟩ : ∃ r, r = uR (val a0 a1) b := ⟨_, rfl⟩
  obtain ⟨q, hq⟩ : ∃ q, q = uQ (val a0 a1) b := ⟨_, rfl⟩
  obtain ⟨t, ht⟩ : ∃ t, t = uT (val a0 a1) b := ⟨_, rfl⟩
  rw [← hr, ← hq, ← ht] at H1 H2
  clear hr hq ht ha0 ha1 hb
  go_enter Try.func4, Try.ntmps4
  go_wp2_with (first
    | (go_at_call 10; refine (awake _).mono ?_; rintro e w1 ⟨rfl, hb_w1⟩; obtain ⟨k1, k2, k3, k4, k5⟩ := (show Blk w1 (w.heap.size) #[.int .u64 a0, .int .u64 a1] 24 from (by repeat (first | (with_reducible assumption) | (with_reducible refine Blk.new' ?_; first | rfl | (simp; done) | (simp; omega)) | (with_reducible apply Blk.set01) | (with_reducible apply Blk.set0) | (with_reducible apply Blk.set1) | (with_reducible apply Blk.setOne) | (with_reducible refine Blk.set_other ?_ (by omega) _ _) | (with_reducible apply Blk.alloc) | (with_reducible apply Blk.drew) | (with_reducible refine Blk.below ?_ (by with_reducible assumption))))).two)
    | (go_at_call 17; refine (H1.out _).mono ?_; rintro e w2 ⟨rfl, hb_w2⟩; obtain ⟨l1, l2, l3, l4, l5⟩ := (show Blk w2 (w.heap.size) #[.int .u64 a0, .int .u64 a1] 24 from (by repeat (first | (with_reducible assumption) | (with_reducible refine Blk.new' ?_; first | rfl | (simp; done) | (simp; omega)) | (with_reducible apply Blk.set01) | (with_reducible apply Blk.set0) | (with_reducible apply Blk.set1) | (with_reducible apply Blk.setOne) | (with_reducible refine Blk.set_other ?_ (by omega) _ _) | (with_reducible apply Blk.alloc) | (with_reducible apply Blk.drew) | (with_reducible refine Blk.below ?_ (by with_reducible assumption))))).two)
    | (go_at_call 18; refine (H2.out _).mono ?_; rintro e w3 ⟨rfl, hb_w3⟩))
  go_ret
  exact ⟨rfl, by repeat (first | (with_reducible exact Below.refl _ _) | (with_reducible assumption) | (with_reducible apply bel_alloc) | (with_reducible apply bel_drew) | (with_reducible refine bel_set ?_ (by first | exact Nat.le_refl _ | (simp; done) | omega | (simp; omega)) _) | (with_reducible refine bel_trans ?_ (by with_reducible assumption)))⟩

set_option maxHeartbeats 1600000 in
theorem law_signed (a0 a1 b : Int) (ha0 : is64 a0) (ha1 : is64 a1) (hb : isI b) (w : World) :
    Calls Try.prog 5 #[.agg #[.int .u64 a0, .int .u64 a1], .int .i64 b] w fun e w' => e = .returned (.bool true) ∧ Below w.heap.size w w' := by
  have H1 := fun w => wSmRem a0 a1 b ha0 ha1 hb w
  have H2 := fun w => rSmRem a0 a1 b ha0 ha1 hb w
  have H3 := fun w => wFmMod a0 a1 b ha0 ha1 hb w
  have H4 := fun w => rFmMod a0 a1 b ha0 ha1 hb w
  obtain ⟨r, hr⟩ : ∃ r, r = sX b ((sv a0 a1).tdiv b) ((sv a0 a1).tmod b) := ⟨_, rfl⟩
  obtain ⟨q, hq⟩ : ∃ q, q = sX b ((sv a0 a1).tdiv b) ((sv a0 a1).tdiv b) := ⟨_, rfl⟩
  obtain ⟨t, ht⟩ : ∃ t, t = sT b ((sv a0 a1).tdiv b) := ⟨_, rfl⟩
  obtain ⟨r2, hr2⟩ : ∃ r, r = sX b (flD (sv a0 a1) b) (flM (sv a0 a1) b) := ⟨_, rfl⟩
  obtain ⟨q2, hq2⟩ : ∃ q, q = sX b (flD (sv a0 a1) b) (flD (sv a0 a1) b) := ⟨_, rfl⟩
  obtain ⟨t2, ht2⟩ : ∃ t, t = sT b (flD (sv a0 a1) b) := ⟨_, rfl⟩
  rw [← hr, ← hq, ← ht] at H1 H2
  rw [← hr2, ← hq2, ← ht2] at H3 H4
  have G1 := Lib.hid H1
  have G2 := Lib.hid H2
  have G3 := Lib.hid H3
  have G4 := Lib.hid H4
  clear hr hq ht hr2 hq2 ht2 ha0 ha1 hb H1 H2 H3 H4
  go_enter Try.func5, Try.ntmps5
  go_wp2_with (first
    | (go_at_call 10; refine (awake _).mono ?_; rintro e w1 ⟨rfl, hb_w1⟩; obtain ⟨k1, k2, k3, k4, k5⟩ := (show Blk w1 (w.heap.size) #[.int .u64 a0, .int .u64 a1] 24 from (by repeat (first | (with_reducible assumption) | (with_reducible refine Blk.new' ?_; first | rfl | (simp; done) | (simp; omega)) | (with_reducible apply Blk.set01) | (with_reducible apply Blk.set0) | (with_reducible apply Blk.set1) | (with_reducible apply Blk.setOne) | (with_reducible refine Blk.set_other ?_ (by omega) _ _) | (with_reducible apply Blk.alloc) | (with_reducible apply Blk.drew) | (with_reducible refine Blk.below ?_ (by with_reducible assumption))))).two)
    | (go_at_call 19; refine (G1.out _).mono ?_; rintro e w2 ⟨rfl, hb_w2⟩; obtain ⟨l1, l2, l3, l4, l5⟩ := (show Blk w2 (w.heap.size) #[.int .u64 a0, .int .u64 a1] 24 from (by repeat (first | (with_reducible assumption) | (with_reducible refine Blk.new' ?_; first | rfl | (simp; done) | (simp; omega)) | (with_reducible apply Blk.set01) | (with_reducible apply Blk.set0) | (with_reducible apply Blk.set1) | (with_reducible apply Blk.setOne) | (with_reducible refine Blk.set_other ?_ (by omega) _ _) | (with_reducible apply Blk.alloc) | (with_reducible apply Blk.drew) | (with_reducible refine Blk.below ?_ (by with_reducible assumption))))).two)
    | (go_at_call 20; refine (G2.out _).mono ?_; rintro e w3 ⟨rfl, hb_w3⟩; obtain ⟨m1, m2, m3, m4, m5⟩ := (show Blk w3 (w.heap.size) #[.int .u64 a0, .int .u64 a1] 24 from (by repeat (first | (with_reducible assumption) | (with_reducible refine Blk.new' ?_; first | rfl | (simp; done) | (simp; omega)) | (with_reducible apply Blk.set01) | (with_reducible apply Blk.set0) | (with_reducible apply Blk.set1) | (with_reducible apply Blk.setOne) | (with_reducible refine Blk.set_other ?_ (by omega) _ _) | (with_reducible apply Blk.alloc) | (with_reducible apply Blk.drew) | (with_reducible refine Blk.below ?_ (by with_reducible assumption))))).two)
    | (go_at_call 21; refine (G3.out _).mono ?_; rintro e w4 ⟨rfl, hb_w4⟩; obtain ⟨n1, n2, n3, n4, n5⟩ := (show Blk w4 (w.heap.size) #[.int .u64 a0, .int .u64 a1] 24 from (by repeat (first | (with_reducible assumption) | (with_reducible refine Blk.new' ?_; first | rfl | (simp; done) | (simp; omega)) | (with_reducible apply Blk.set01) | (with_reducible apply Blk.set0) | (with_reducible apply Blk.set1) | (with_reducible apply Blk.setOne) | (with_reducible refine Blk.set_other ?_ (by omega) _ _) | (with_reducible apply Blk.alloc) | (with_reducible apply Blk.drew) | (with_reducible refine Blk.below ?_ (by with_reducible assumption))))).two)
    | (go_at_call 22; refine (G4.out _).mono ?_; rintro e w5 ⟨rfl, hb_w5⟩))
  go_ret
  exact ⟨rfl, by repeat (first | (with_reducible exact Below.refl _ _) | (with_reducible assumption) | (with_reducible apply bel_alloc) | (with_reducible apply bel_drew) | (with_reducible refine bel_set ?_ (by first | exact Nat.le_refl _ | (simp; done) | omega | (simp; omega)) _) | (with_reducible refine bel_trans ?_ (by with_reducible assumption)))⟩

set_option maxHeartbeats 1600000 in
theorem law_div (a b : Int) (ha : isI a) (hb : isI b) (w : World) :
    Calls Try.prog 6 #[.int .i64 a, .int .i64 b] w fun e w' => e = .returned (.bool true) ∧ Below w.heap.size w w' := by
  have H1 := fun w => wDiv a b ha hb w
  have H2 := fun w => rDiv a b ha hb w
  obtain ⟨r, hr⟩ : ∃ r, r = dX b (flM a b) := ⟨_, rfl⟩
  obtain ⟨q, hq⟩ : ∃ q, q = dX b (wrap64 (flD a b)) := ⟨_, rfl⟩
  obtain ⟨t, ht⟩ : ∃ t, t = dT b := ⟨_, rfl⟩
  rw [← hr, ← hq, ← ht] at H1 H2
  have G1 := Lib.hid H1
  have G2 := Lib.hid H2
  clear hr hq ht ha hb H1 H2
  go_enter Try.func6, Try.ntmps6
  go_wp2_with (first
    | (go_at_call 10; refine (awake _).mono ?_; rintro e w1 ⟨rfl, hb_w1⟩)
    | (go_at_call 23; refine (G1.out _).mono ?_; rintro e w2 ⟨rfl, hb_w2⟩)
    | (go_at_call 24; refine (G2.out _).mono ?_; rintro e w3 ⟨rfl, hb_w3⟩))
  go_ret
  exact ⟨rfl, by repeat (first | (with_reducible exact Below.refl _ _) | (with_reducible assumption) | (with_reducible apply bel_alloc) | (with_reducible apply bel_drew) | (with_reducible refine bel_set ?_ (by first | exact Nat.le_refl _ | (simp; done) | omega | (simp; omega)) _) | (with_reducible refine bel_trans ?_ (by with_reducible assumption)))⟩

set_option maxHeartbeats 1600000 in
theorem law_muls (a b : Int) (ha : isI a) (hb : isI b) (w : World) :
    Calls Try.prog 7 #[.int .i64 a, .int .i64 b] w fun e w' => e = .returned (.bool true) ∧ Below w.heap.size w w' := by
  have H1 := fun w => wMul a b ha hb w
  have H2 := fun w => rMul a b ha hb w
  have H3 := fun w => wUMul (lo a) (lo b) (lo_64 a) (lo_64 b) w
  have H4 := fun w => rUMul (lo a) (lo b) (lo_64 a) (lo_64 b) w
  obtain ⟨X, hX⟩ : ∃ X, X = a * b := ⟨_, rfl⟩
  obtain ⟨Y, hY⟩ : ∃ Y, Y = lo a * lo b := ⟨_, rfl⟩
  rw [← hX] at H1 H2
  rw [← hY] at H3 H4
  have hw := wrap_lo
  have G1 := Lib.hid H1
  have G2 := Lib.hid H2
  have G3 := Lib.hid H3
  have G4 := Lib.hid H4
  clear hX hY ha hb H1 H2 H3 H4
  go_enter Try.func7, Try.ntmps7
  go_wp2_with (first
    | (go_at_call 10; refine (awake _).mono ?_; rintro e w1 ⟨rfl, hb_w1⟩)
    | (go_at_call 25; refine (G1.out _).mono ?_; rintro e w2 ⟨rfl, hb_w2⟩)
    | (go_at_call 26; refine (G2.out _).mono ?_; rintro e w3 ⟨rfl, hb_w3⟩)
    | (go_at_call 27; refine (G3.out _).mono ?_; rintro e w4 ⟨rfl, hb_w4⟩)
    | (go_at_call 28; refine (G4.out _).mono ?_; rintro e w5 ⟨rfl, hb_w5⟩))
  go_ret
  exact ⟨rfl, by repeat (first | (with_reducible exact Below.refl _ _) | (with_reducible assumption) | (with_reducible apply bel_alloc) | (with_reducible apply bel_drew) | (with_reducible refine bel_set ?_ (by first | exact Nat.le_refl _ | (simp; done) | omega | (simp; omega)) _) | (with_reducible refine bel_trans ?_ (by with_reducible assumption)))⟩
end Go.Proofs.Ytmanjadnagfhpaa
