/- The examples that each statement asks first. -/
import Derived.Test.YtmanjadnagfhpaaA18
namespace Go.Proofs.Ytmanjadnagfhpaa
open Go.RowKit
set_option linter.unusedVariables false
set_option linter.unusedSimpArgs false
attribute [local go_sem ↓] Go.wp_at_zero Go.wp_at_succ
attribute [local go_sem] cell_set set_set
attribute [local go_sem high] eql24 neq24 grd24

theorem fm_at (a b : Int) (ha : isI a) (hb : isI b) (w : World) :
    Calls Try.prog 21 #[WV a, .int .i64 b] w fun e w' => e = .returned (.tuple #[.int .i64 (sX b (flD a b) (flM a b)), .int .i64 (sX b (flD a b) (flD a b)), .int .i64 (sT b (flD a b))]) ∧ Below w.heap.size w w' := by
  have h := wFmMod (hi a) (lo a) b (hi_64 a) (lo_64 a) hb w
  rwa [sv_small a ha] at h
theorem sm_at (a b : Int) (ha : isI a) (hb : isI b) (w : World) :
    Calls Try.prog 19 #[WV a, .int .i64 b] w fun e w' => e = .returned (.tuple #[.int .i64 (sX b (a.tdiv b) (a.tmod b)), .int .i64 (sX b (a.tdiv b) (a.tdiv b)), .int .i64 (sT b (a.tdiv b))]) ∧ Below w.heap.size w w' := by
  have h := wSmRem (hi a) (lo a) b (hi_64 a) (lo_64 a) hb w
  rwa [sv_small a ha] at h
theorem isI_7 : isI (-7) := by unfold isI; omega
theorem isI_2 : isI 2 := by unfold isI; omega
theorem ex_fm (w : World) : Calls Try.prog 21 #[WV (-7), .int .i64 2] w fun e w' => e = .returned (.tuple #[.int .i64 1, .int .i64 (-4), .int .i64 0]) ∧ Below w.heap.size w w' := by
  have h := fm_at (-7) 2 isI_7 isI_2 w
  rwa [show sX 2 (flD (-7) 2) (flM (-7) 2) = 1 by decide, show sX 2 (flD (-7) 2) (flD (-7) 2) = -4 by decide, show sT 2 (flD (-7) 2) = 0 by decide] at h
theorem ex_sm (w : World) : Calls Try.prog 19 #[WV (-7), .int .i64 2] w fun e w' => e = .returned (.tuple #[.int .i64 (-1), .int .i64 (-3), .int .i64 0]) ∧ Below w.heap.size w w' := by
  have h := sm_at (-7) 2 isI_7 isI_2 w
  rwa [show sX 2 (Int.tdiv (-7) 2) (Int.tmod (-7) 2) = -1 by decide, show sX 2 (Int.tdiv (-7) 2) (Int.tdiv (-7) 2) = -3 by decide, show sT 2 (Int.tdiv (-7) 2) = 0 by decide] at h
theorem ex_u (w : World) : Calls Try.prog 17 #[.agg #[.int .u64 1, .int .u64 0], .int .u64 1] w fun e w' => e = .returned (.tuple #[.int .u64 0, .int .u64 0, .int .i64 (-11)]) ∧ Below w.heap.size w w' := by
  have h := wUDiv 1 0 1 is64_1 is64_0 is64_1 w
  rwa [show uR (val 1 0) 1 = 0 by decide, show uQ (val 1 0) 1 = 0 by decide, show uT (val 1 0) 1 = -11 by decide] at h
theorem ex_m (w : World) : Calls Try.prog 27 #[.int .u64 9223372036854775808, .int .u64 2] w fun e w' => e = .returned (.agg #[.int .u64 1, .int .u64 0]) ∧ Below w.heap.size w w' := by
  have h := wUMul 9223372036854775808 2 (by unfold is64; omega) (by unfold is64; omega) w
  rwa [WV, show hi (9223372036854775808 * 2) = 1 by decide, show lo (9223372036854775808 * 2) = 0 by decide] at h
attribute [local irreducible] hi lo val
set_option maxHeartbeats 800000 in
theorem awake (w : World) : Calls Try.prog 10 #[] w fun e w' => e = .returned (.bool true) ∧ Below w.heap.size w w' := by
  go_enter Try.func10, Try.ntmps10
  go_wp2_with (first | (go_at_call 15; refine (wOf (-7) isI_7 _).mono ?_; rintro e w1 ⟨rfl, hb_w1⟩) | (go_at_call 21; refine (ex_fm _).mono ?_; rintro e w2 ⟨rfl, hb_w2⟩) | (go_at_call 19; refine (ex_sm _).mono ?_; rintro e w4 ⟨rfl, hb_w4⟩) | (go_at_call 17; refine (ex_u _).mono ?_; rintro e w5 ⟨rfl, hb_w5⟩) | (go_at_call 27; refine (ex_m _).mono ?_; rintro e w6 ⟨rfl, hb_w6⟩))
  go_ret
  exact ⟨rfl, by repeat (first | (with_reducible exact Below.refl _ _) | (with_reducible assumption) | (with_reducible apply bel_alloc) | (with_reducible apply bel_drew) | (with_reducible refine bel_set ?_ (by first | exact Nat.le_refl _ | (simp; done) | omega | (simp; omega)) _) | (with_reducible refine bel_trans ?_ (by with_reducible assumption)))⟩
end Go.Proofs.Ytmanjadnagfhpaa
