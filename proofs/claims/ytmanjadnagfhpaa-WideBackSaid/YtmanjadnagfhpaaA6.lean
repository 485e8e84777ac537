/- The reference's quotients: UDiv, SmRem, FmMod, Div. -/
import Derived.Test.YtmanjadnagfhpaaA5
namespace Go.Proofs.Ytmanjadnagfhpaa
open Go.RowKit
set_option linter.unusedVariables false
set_option linter.unusedSimpArgs false
attribute [local go_sem ↓] Go.wp_at_zero Go.wp_at_succ
attribute [local go_sem] cell_set set_set

def uT (A b : Int) : Int := if b = 0 then -10 else if A / b < 18446744073709551616 then 0 else -11
def uR (A b : Int) : Int := if uT A b = 0 then A % b else 0
def uQ (A b : Int) : Int := if uT A b = 0 then A / b else 0
theorem ret_udiv {A b r q t : Int} (h : r = uR A b ∧ q = uQ A b ∧ t = uT A b) : Ending.returned (.tuple #[.int .u64 r, .int .u64 q, .int .i64 t]) = .returned (.tuple #[.int .u64 (uR A b), .int .u64 (uQ A b), .int .i64 (uT A b)]) := by
  rw [h.1, h.2.1, h.2.2]

set_option maxHeartbeats 800000 in
theorem rUDiv (a0 a1 b : Int) (ha0 : is64 a0) (ha1 : is64 a1) (hb : is64 b) (w : World) :
    Calls Try.prog 18 #[.agg #[.int .u64 a0, .int .u64 a1], .int .u64 b] w fun e w' => e = .returned (.tuple #[.int .u64 (uR (val a0 a1) b), .int .u64 (uQ (val a0 a1) b), .int .i64 (uT (val a0 a1) b)]) ∧ Below w.heap.size w w' := by
  by_cases hb0 : b = 0
  · subst hb0
    go_enter Try.func18, Try.ntmps18
    go_wp2
    go_ret3
    exact ⟨ret_udiv (by simp [uR, uQ, uT]), by repeat (first | (with_reducible exact Below.refl _ _) | (with_reducible assumption) | (with_reducible apply bel_alloc) | (with_reducible apply bel_drew) | (with_reducible refine bel_set ?_ (by first | exact Nat.le_refl _ | (simp; done) | omega | (simp; omega)) _) | (with_reducible refine bel_trans ?_ (by with_reducible assumption)))⟩
  · have hb1 : 0 < b := by unfold is64 at hb; omega
    obtain ⟨A, hA⟩ : ∃ A, A = val a0 a1 := ⟨_, rfl⟩
    have hA0 : 0 ≤ A := by rw [hA]; unfold is64 at *; unfold val; omega
    have hA1 : A < 340282366920938463463374607431768211456 := by rw [hA]; unfold is64 at *; unfold val; omega
    have hq0 : 0 ≤ A / b := Int.ediv_nonneg hA0 (by omega)
    have hq1 : A / b ≤ A := Int.ediv_le_self _ hA0
    have HD := fun w => rDivide a0 a1 b ha0 ha1 hb hb1 w
    rw [← hA] at HD ⊢
    by_cases hf : A / b < 18446744073709551616
    · have hh : hi (A / b) = 0 := by unfold hi; omega
      have hfin : A % b = uR A b ∧ lo (A / b) = uQ A b ∧ (0 : Int) = uT A b := by
        have ht : uT A b = 0 := by unfold uT; rw [if_neg hb0, if_pos hf]
        refine ⟨by rw [uR, if_pos ht], by rw [uQ, if_pos ht]; unfold lo; omega, ht.symm⟩
      have HF := Lib.hid hfin
      obtain ⟨q, hq⟩ : ∃ q, q = A / b := ⟨_, rfl⟩
      obtain ⟨r, hr⟩ : ∃ r, r = A % b := ⟨_, rfl⟩
      rw [← hq, ← hr] at HD HF
      rw [← hq] at hh
      have HD' := Lib.hid HD
      clear HD hfin hA hA0 hA1 hq0 hq1 hf hq hr
      go_enter Try.func18, Try.ntmps18
      go_wp2_with (go_at_call 35; refine (HD'.out _).mono ?_; rintro e w1 ⟨rfl, hb_w1⟩; obtain ⟨hc_w1, hf_w1⟩ := bcell hb_w1; have hz_w1 := hb_w1.size; (try simp only [World.size_alloc, World.size_setCell] at hz_w1 hc_w1 hf_w1); have qw10 : w.heap.size < w1.heap.size := (by omega); clear hz_w1)
      go_region
      all_goals
        go_wp2
        go_ret3
        exact ⟨ret_udiv HF.out, by repeat (first | (with_reducible exact Below.refl _ _) | (with_reducible assumption) | (with_reducible apply bel_alloc) | (with_reducible apply bel_drew) | (with_reducible refine bel_set ?_ (by first | exact Nat.le_refl _ | (simp; done) | omega | (simp; omega)) _) | (with_reducible refine bel_trans ?_ (by with_reducible assumption)))⟩
    · have hh : (hi (A / b) != 0) = true := by rw [bne_iff_ne]; unfold hi; omega
      have hfin : (0 : Int) = uR A b ∧ 0 = uQ A b ∧ -11 = uT A b := by
        have ht : uT A b = -11 := by unfold uT; rw [if_neg hb0, if_neg hf]
        refine ⟨by rw [uR, if_neg (by omega)], by rw [uQ, if_neg (by omega)], ht.symm⟩
      have HF := Lib.hid hfin
      obtain ⟨q, hq⟩ : ∃ q, q = A / b := ⟨_, rfl⟩
      obtain ⟨r, hr⟩ : ∃ r, r = A % b := ⟨_, rfl⟩
      rw [← hq, ← hr] at HD
      rw [← hq] at hh
      have HD' := Lib.hid HD
      clear HD hfin hA hA0 hA1 hq0 hq1 hf hq hr
      go_enter Try.func18, Try.ntmps18
      go_wp2_with (go_at_call 35; refine (HD'.out _).mono ?_; rintro e w1 ⟨rfl, hb_w1⟩; obtain ⟨hc_w1, hf_w1⟩ := bcell hb_w1; have hz_w1 := hb_w1.size; (try simp only [World.size_alloc, World.size_setCell] at hz_w1 hc_w1 hf_w1); have qw10 : w.heap.size < w1.heap.size := (by omega); clear hz_w1)
      go_ret3
      exact ⟨ret_udiv HF.out, by repeat (first | (with_reducible exact Below.refl _ _) | (with_reducible assumption) | (with_reducible apply bel_alloc) | (with_reducible apply bel_drew) | (with_reducible refine bel_set ?_ (by first | exact Nat.le_refl _ | (simp; done) | omega | (simp; omega)) _) | (with_reducible refine bel_trans ?_ (by with_reducible assumption)))⟩

theorem stood24 : Try.prog.stoodInHeld 24 = false := by kernel_rfl
theorem guard24 : Try.prog.eqGuardType Try.prog.depth 24 = false := by kernel_rfl
theorem eql24 (a b c d : Int) (w : World) : (binOp .eql 24 (.agg #[.int .u64 a, .int .u64 b]) (.agg #[.int .u64 c, .int .u64 d])).run Try.prog w = .ok (.bool (a == c && b == d)) w := by
  have h1 := stood24
  simp [go_sem, h1]
  by_cases h2 : a = c <;> by_cases h3 : b = d <;> simp [h2, h3]
theorem neq24 (a b c d : Int) (w : World) : (binOp .neq 24 (.agg #[.int .u64 a, .int .u64 b]) (.agg #[.int .u64 c, .int .u64 d])).run Try.prog w = .ok (.bool (!(a == c && b == d))) w := by
  have h1 := stood24
  simp [go_sem, h1]
  by_cases h2 : a = c <;> by_cases h3 : b = d <;> simp [h2, h3]
theorem grd24 (op : BinOp) (x y : Operand) (a b c d : Int) (w : World) : (eqGuard op 24 x y (.agg #[.int .u64 a, .int .u64 b]) (.agg #[.int .u64 c, .int .u64 d])).run Try.prog w = .ok () w := run_eqGuard_agg w op 24 x y _ _ guard24
attribute [local go_sem high] eql24 neq24 grd24

def fitB (D : Int) : Bool := decide (-9223372036854775808 ≤ D ∧ D < 9223372036854775808)
theorem fit_is (D : Int) (h0 : -170141183460469231731687303715884105728 ≤ D) (h1 : D ≤ 170141183460469231731687303715884105728) :
    (hi D == hi (IntKind.i64.wrap (lo D)) && lo D == lo (IntKind.i64.wrap (lo D))) = fitB D := by
  rw [IntKind.wrap_i64, Bool.eq_iff_iff]
  unfold fitB hi lo
  simp only [Bool.and_eq_true, beq_iff_eq, decide_eq_true_eq]
  omega
set_option maxHeartbeats 800000 in
theorem rFits (D : Int) (h0 : -170141183460469231731687303715884105728 ≤ D) (h1 : D ≤ 170141183460469231731687303715884105728) (w : World) :
    Calls Try.prog 41 #[WV D] w fun e w' => e = .returned (.bool (fitB D)) ∧ Below w.heap.size w w' := by
  have hi1 : isI (IntKind.i64.wrap (lo D)) := by rw [IntKind.wrap_i64]; unfold isI; omega
  have HF := Lib.hid (fit_is D h0 h1)
  go_enter Try.func41, Try.ntmps41
  go_wp2
  go_region_held3 (fun w' => w'.cell? ⟨w.heap.size, 0, none⟩ = some (.int .u64 (hi D)) ∧ w'.cell? ⟨w.heap.size, 1, none⟩ = some (.int .u64 (lo D))) (first | go_keep | (refine ⟨?_, ?_⟩ <;> assumption)) (first | (go_at_call 16; (refine (rOf _ hi1 _).mono ?_; rintro e w1 ⟨rfl, hb1⟩; obtain ⟨k1, k2, k3, k4, k5⟩ := (show Blk w1 w.heap.size #[.int .u64 (hi D), .int .u64 (lo D)] 24 from (by repeat (first | (with_reducible assumption) | (with_reducible refine Blk.new' ?_; first | rfl | (simp; done) | (simp; omega)) | (with_reducible apply Blk.set01) | (with_reducible apply Blk.set0) | (with_reducible apply Blk.set1) | (with_reducible apply Blk.setOne) | (with_reducible refine Blk.set_other ?_ (by omega) _ _) | (with_reducible apply Blk.alloc) | (with_reducible apply Blk.drew) | (with_reducible refine Blk.below ?_ (by with_reducible assumption))))).two)))
  go_wp2
  go_ret
  exact ⟨ret_bool HF.out, by repeat (first | (with_reducible exact Below.refl _ _) | (with_reducible assumption) | (with_reducible apply bel_alloc) | (with_reducible apply bel_drew) | (with_reducible refine bel_set ?_ (by first | exact Nat.le_refl _ | (simp; done) | omega | (simp; omega)) _) | (with_reducible refine bel_trans ?_ (by with_reducible assumption)))⟩
end Go.Proofs.Ytmanjadnagfhpaa
