/- The quotients that the package hands out. -/
import Derived.Test.YtmanjadnagfhpaaA15
namespace Go.Proofs.Ytmanjadnagfhpaa
open Go.RowKit
set_option linter.unusedVariables false
set_option linter.unusedSimpArgs false
attribute [local go_sem ↓] Go.wp_at_zero Go.wp_at_succ
attribute [local go_sem] cell_set set_set
attribute [local go_sem high] eql24 neq24 grd24

set_option maxHeartbeats 400000 in
theorem uClos_0 (a b : Nat) (w : World) (h0 : Blk w b #[.int .u64 0] 22) :
    Calls Try.prog 32 #[.pointer (some ⟨b, 0, none⟩), .pointer (some ⟨a, 0, none⟩)] w fun e w' => e = Thr (-10) ∧ Below w.heap.size w w' := by
  obtain ⟨c1, c2, c3⟩ := h0.one
  go_enter Try.func32, Try.ntmps32
  go_wp2_with (go_at_call 33; refine (must_no _ _).mono ?_; rintro e w1 ⟨rfl, rfl⟩)
  exact ⟨rfl, rfl, by repeat (first | (with_reducible exact Below.refl _ _) | (with_reducible assumption) | (with_reducible apply bel_alloc) | (with_reducible apply bel_drew) | (with_reducible refine bel_set ?_ (by first | exact Nat.le_refl _ | (simp; done) | omega | (simp; omega)) _) | (with_reducible refine bel_trans ?_ (by with_reducible assumption)))⟩

theorem hi0 (q : Int) (h0 : 0 ≤ q) (h1 : q < 340282366920938463463374607431768211456) : (hi q == 0) = decide (q < 18446744073709551616) := by
  rw [Bool.eq_iff_iff]; simp only [beq_iff_eq, decide_eq_true_eq]; unfold hi; omega
set_option maxHeartbeats 800000 in
theorem uClos (a b : Nat) (a0 a1 y : Int) (ha0 : is64 a0) (ha1 : is64 a1) (hy : is64 y) (hy0 : y ≠ 0) (w : World) (h0 : Blk w b #[.int .u64 y] 22) (h1 : Blk w a #[.int .u64 a0, .int .u64 a1] 24) :
    Calls Try.prog 32 #[.pointer (some ⟨b, 0, none⟩), .pointer (some ⟨a, 0, none⟩)] w fun e w' => e = (if val a0 a1 / y < 18446744073709551616 then .returned (.tuple #[.int .u64 (val a0 a1 % y), .int .u64 (val a0 a1 / y)]) else Thr (-11)) ∧ Below w.heap.size w w' := by
  obtain ⟨c1, c2, c3⟩ := h0.one
  obtain ⟨d1, d2, d3, d4, d5⟩ := h1.two
  have hyn : (y != 0) = true := by rw [bne_iff_ne]; exact hy0
  have hy1 : 0 < y := by unfold is64 at hy; omega
  have HD := Lib.hid (fun w => wDivide a0 a1 y ha0 ha1 hy hy1 w)
  have hA0 : 0 ≤ val a0 a1 := by unfold is64 at *; unfold val; omega
  have hA1 : val a0 a1 < 340282366920938463463374607431768211456 := by unfold is64 at *; unfold val; omega
  have hq0 : 0 ≤ val a0 a1 / y := Int.ediv_nonneg hA0 (by omega)
  have hq1 : val a0 a1 / y ≤ val a0 a1 := Int.ediv_le_self _ hA0
  have hh := hi0 (val a0 a1 / y) hq0 (by omega)
  have hl : val a0 a1 / y < 18446744073709551616 → lo (val a0 a1 / y) = val a0 a1 / y := fun h => by unfold lo; omega
  obtain ⟨q, hq⟩ : ∃ q, q = val a0 a1 / y := ⟨_, rfl⟩
  obtain ⟨r, hr⟩ : ∃ r, r = val a0 a1 % y := ⟨_, rfl⟩
  rw [← hq] at HD hh hl ⊢
  rw [← hr] at HD ⊢
  clear hq hr hA0 hA1 hq0 hq1 hy hy0 hy1
  by_cases hlt : q < 18446744073709551616
  · rw [if_pos hlt]
    have hl' := hl hlt
    simp only [hlt, decide_true, beq_iff_eq] at hh
    clear hl hlt
    go_enter Try.func32, Try.ntmps32
    go_wp2_with (first | (go_at_call 33; refine (must_ok _ _).mono ?_; rintro e w1 ⟨rfl, rfl⟩) | (go_at_call 34; refine (HD.out _).mono ?_; rintro e w1 ⟨rfl, hb_w1⟩))
    go_region
    all_goals
      go_wp2
      go_ret2
      exact ⟨rfl, by repeat (first | (with_reducible exact Below.refl _ _) | (with_reducible assumption) | (with_reducible apply bel_alloc) | (with_reducible apply bel_drew) | (with_reducible refine bel_set ?_ (by first | exact Nat.le_refl _ | (simp; done) | omega | (simp; omega)) _) | (with_reducible refine bel_trans ?_ (by with_reducible assumption)))⟩
  · rw [if_neg hlt]
    simp only [hlt, decide_false] at hh
    clear hl hlt
    go_enter Try.func32, Try.ntmps32
    go_wp2_with (first | (go_at_call 34; refine (HD.out _).mono ?_; rintro e w1 ⟨rfl, hb_w1⟩) | (go_at_call_of 33 (Value.bool true); refine (must_ok _ _).mono ?_; rintro e w1 ⟨rfl, rfl⟩) | (go_at_call_of 33 (Value.bool false); refine (must_no _ _).mono ?_; rintro e w1 ⟨rfl, rfl⟩))
    exact ⟨rfl, rfl, by repeat (first | (with_reducible exact Below.refl _ _) | (with_reducible assumption) | (with_reducible apply bel_alloc) | (with_reducible apply bel_drew) | (with_reducible refine bel_set ?_ (by first | exact Nat.le_refl _ | (simp; done) | omega | (simp; omega)) _) | (with_reducible refine bel_trans ?_ (by with_reducible assumption)))⟩

theorem sg_tdiv (S b : Int) (hb0 : b ≠ 0) : sg (decide (S < 0) != decide (b < 0)) (sz S / sz b) = S.tdiv b := by
  rw [(tdm S b hb0).1]
  unfold sg
  by_cases h4 : S < 0 <;> by_cases h6 : b < 0 <;> simp [h4, h6]
theorem fit_wrap {D : Int} (h : fitB D = true) : wrap64 D = D := by
  unfold fitB at h; simp only [decide_eq_true_eq] at h; unfold wrap64; omega
theorem narrow_r (Q : Int) (h0 : 0 ≤ Q) (h1 : Q < 340282366920938463463374607431768211456) (m : Bool) (w : World) :
    Calls Try.prog 39 #[WV Q, .bool m, .bool false] w fun e w' => e = (if fitB (sg m Q) = true then .returned (.int .i64 (sg m Q)) else Thr (-11)) ∧ Below w.heap.size w w' := by
  by_cases h : fitB (sg m Q) = true
  · rw [if_pos h]
    have h2 := wNarrow_ok Q h0 h1 m false (.inr h) w
    rwa [fit_wrap h] at h2
  · rw [if_neg h]
    exact wNarrow_no Q h0 h1 m (by simpa using h) w

set_option maxHeartbeats 400000 in
theorem sClos_0 (a b : Nat) (a0 a1 : Int) (ha0 : is64 a0) (ha1 : is64 a1) (w : World) (h1 : Blk w a #[.int .u64 a0, .int .u64 a1] 24) (h0 : Blk w b #[.int .i64 0] 2) :
    Calls Try.prog 37 #[.pointer (some ⟨a, 0, none⟩), .pointer (some ⟨b, 0, none⟩)] w fun e w' => e = Thr (-10) ∧ Below w.heap.size w w' := by
  obtain ⟨c1, c2, c3⟩ := h0.one
  obtain ⟨d1, d2, d3, d4, d5⟩ := h1.two
  go_enter Try.func37, Try.ntmps37
  go_wp2_with (go_at_call 38; refine (wSigned_0 a0 a1 ha0 ha1 _).mono ?_; rintro e w1 ⟨rfl, hb_w1⟩)
  exact ⟨rfl, rfl, by repeat (first | (with_reducible exact Below.refl _ _) | (with_reducible assumption) | (with_reducible apply bel_alloc) | (with_reducible apply bel_drew) | (with_reducible refine bel_set ?_ (by first | exact Nat.le_refl _ | (simp; done) | omega | (simp; omega)) _) | (with_reducible refine bel_trans ?_ (by with_reducible assumption)))⟩

attribute [local irreducible] hi lo val
set_option maxHeartbeats 800000 in
theorem sClos (a b : Nat) (a0 a1 y : Int) (ha0 : is64 a0) (ha1 : is64 a1) (hy : isI y) (hy0 : y ≠ 0) (w : World) (h1 : Blk w a #[.int .u64 a0, .int .u64 a1] 24) (h0 : Blk w b #[.int .i64 y] 2) :
    Calls Try.prog 37 #[.pointer (some ⟨a, 0, none⟩), .pointer (some ⟨b, 0, none⟩)] w fun e w' => e = (if fitB ((sv a0 a1).tdiv y) = true then .returned (.tuple #[.int .i64 ((sv a0 a1).tmod y), .int .i64 ((sv a0 a1).tdiv y)]) else Thr (-11)) ∧ Below w.heap.size w w' := by
  obtain ⟨c1, c2, c3⟩ := h0.one
  obtain ⟨d1, d2, d3, d4, d5⟩ := h1.two
  have hbd := sv_bd a0 a1 ha0 ha1
  have HS := Lib.hid (fun w => wSigned a0 a1 y ha0 ha1 hy hy0 w)
  have hqb := sz_div (sv a0 a1) y hbd.1 hbd.2 hy0
  have hsg := sg_tdiv (sv a0 a1) y hy0
  obtain ⟨S, hS⟩ : ∃ S, S = sv a0 a1 := ⟨_, rfl⟩
  rw [← hS] at HS hsg hqb ⊢
  obtain ⟨m, hm⟩ : ∃ m, m = (decide (S < 0) != decide (y < 0)) := ⟨_, rfl⟩
  obtain ⟨Q, hQ⟩ : ∃ Q, Q = sz S / sz y := ⟨_, rfl⟩
  obtain ⟨M, hM⟩ : ∃ M, M = S.tmod y := ⟨_, rfl⟩
  obtain ⟨D, hD⟩ : ∃ D, D = S.tdiv y := ⟨_, rfl⟩
  rw [← hm, ← hQ] at HS hsg
  rw [← hQ] at hqb
  rw [← hM] at HS ⊢
  rw [← hD] at hsg ⊢
  have HN := fun w => narrow_r Q hqb.1 (by omega) m w
  rw [hsg] at HN
  clear hS hm hQ hM hD hsg hqb hbd hy hy0
  by_cases hf : fitB D = true
  · simp only [if_pos hf] at HN ⊢
    have HN' := Lib.hid HN
    clear HN hf
    go_enter Try.func37, Try.ntmps37
    go_wp2_with (first | (go_at_call 38; refine (HS.out _).mono ?_; rintro e w1 ⟨rfl, hb_w1⟩) | (go_at_call 39; refine (HN'.out _).mono ?_; rintro e w2 ⟨rfl, hb_w2⟩))
    go_ret2
    exact ⟨rfl, by repeat (first | (with_reducible exact Below.refl _ _) | (with_reducible assumption) | (with_reducible apply bel_alloc) | (with_reducible apply bel_drew) | (with_reducible refine bel_set ?_ (by first | exact Nat.le_refl _ | (simp; done) | omega | (simp; omega)) _) | (with_reducible refine bel_trans ?_ (by with_reducible assumption)))⟩
  · simp only [if_neg hf] at HN ⊢
    have HN' := Lib.hid HN
    clear HN hf
    go_enter Try.func37, Try.ntmps37
    go_wp2_with (first | (go_at_call 38; refine (HS.out _).mono ?_; rintro e w1 ⟨rfl, hb_w1⟩) | (go_at_call 39; refine (HN'.out _).mono ?_; rintro e w2 ⟨rfl, hb_w2⟩))
    exact ⟨rfl, rfl, by repeat (first | (with_reducible exact Below.refl _ _) | (with_reducible assumption) | (with_reducible apply bel_alloc) | (with_reducible apply bel_drew) | (with_reducible refine bel_set ?_ (by first | exact Nat.le_refl _ | (simp; done) | omega | (simp; omega)) _) | (with_reducible refine bel_trans ?_ (by with_reducible assumption)))⟩
end Go.Proofs.Ytmanjadnagfhpaa
