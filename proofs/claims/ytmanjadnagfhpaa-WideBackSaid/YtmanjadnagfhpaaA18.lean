/- UDiv, SmRem, FmMod, Div. -/
import Derived.Test.YtmanjadnagfhpaaA17d
namespace Go.Proofs.Ytmanjadnagfhpaa
open Go.RowKit
set_option linter.unusedVariables false
set_option linter.unusedSimpArgs false
attribute [local go_sem ↓] Go.wp_at_zero Go.wp_at_succ
attribute [local go_sem] cell_set set_set
attribute [local go_sem high] eql24 neq24 grd24
attribute [local irreducible] hi lo val

set_option maxHeartbeats 800000 in
theorem wUDiv (a0 a1 b : Int) (ha0 : is64 a0) (ha1 : is64 a1) (hb : is64 b) (w : World) :
    Calls Try.prog 17 #[.agg #[.int .u64 a0, .int .u64 a1], .int .u64 b] w fun e w' => e = .returned (.tuple #[.int .u64 (uR (val a0 a1) b), .int .u64 (uQ (val a0 a1) b), .int .i64 (uT (val a0 a1) b)]) ∧ Below w.heap.size w w' := by
  have hmf : ∀ (fn : Fn) (first cap : Array Value) (w : World), (Instr.makeFunc fn first cap).run Try.prog w = .ok (.func fn first cap) w := fun _ _ _ _ => rfl
  by_cases hb0 : b = 0
  · subst hb0
    go_enter Try.func17, Try.ntmps17
    go_wp2_with (first | (go_at_call 31; refine (caught_32_no _ (-10) _ (fun w1 hw1 => uClos_0 w.heap.size (w.heap.size + 1) w1 (by repeat (first | (with_reducible assumption) | (with_reducible refine Blk.new' ?_; first | rfl | (simp; done) | (simp; omega)) | (with_reducible apply Blk.set01) | (with_reducible apply Blk.set0) | (with_reducible apply Blk.set1) | (with_reducible apply Blk.setOne) | (with_reducible refine Blk.set_other ?_ (by omega) _ _) | (with_reducible apply Blk.alloc) | (with_reducible apply Blk.drew) | (with_reducible refine Blk.below ?_ (by with_reducible assumption)))))).mono ?_; rintro e w1 ⟨rfl, hb_w1⟩))
    go_ret3
    exact ⟨ret_udiv (by simp [uR, uQ, uT]), by repeat (first | (with_reducible exact Below.refl _ _) | (with_reducible assumption) | (with_reducible apply bel_alloc) | (with_reducible apply bel_drew) | (with_reducible refine bel_set ?_ (by first | exact Nat.le_refl _ | (simp; done) | omega | (simp; omega)) _) | (with_reducible refine bel_trans ?_ (by with_reducible assumption)))⟩
  · have HC := fun x y w h0 h1 => uClos x y a0 a1 b ha0 ha1 hb hb0 w h0 h1
    by_cases hf : val a0 a1 / b < 18446744073709551616
    · simp only [if_pos hf] at HC
      have HT := Lib.hid (show val a0 a1 % b = uR (val a0 a1) b ∧ val a0 a1 / b = uQ (val a0 a1) b ∧ 0 = uT (val a0 a1) b by simp [uR, uQ, uT, hb0, hf])
      have HC' := Lib.hid HC
      clear HC hf
      go_enter Try.func17, Try.ntmps17
      go_wp2_with (first | (go_at_call 31; refine (caught_32_ok _ _ _ _ (fun w1 hw1 => HC'.out w.heap.size (w.heap.size + 1) w1 (by repeat (first | (with_reducible assumption) | (with_reducible refine Blk.new' ?_; first | rfl | (simp; done) | (simp; omega)) | (with_reducible apply Blk.set01) | (with_reducible apply Blk.set0) | (with_reducible apply Blk.set1) | (with_reducible apply Blk.setOne) | (with_reducible refine Blk.set_other ?_ (by omega) _ _) | (with_reducible apply Blk.alloc) | (with_reducible apply Blk.drew) | (with_reducible refine Blk.below ?_ (by with_reducible assumption)))) (by repeat (first | (with_reducible assumption) | (with_reducible refine Blk.new' ?_; first | rfl | (simp; done) | (simp; omega)) | (with_reducible apply Blk.set01) | (with_reducible apply Blk.set0) | (with_reducible apply Blk.set1) | (with_reducible apply Blk.setOne) | (with_reducible refine Blk.set_other ?_ (by omega) _ _) | (with_reducible apply Blk.alloc) | (with_reducible apply Blk.drew) | (with_reducible refine Blk.below ?_ (by with_reducible assumption)))))).mono ?_; rintro e w1 ⟨rfl, hb_w1⟩))
      go_ret3
      exact ⟨ret_udiv HT.out, by repeat (first | (with_reducible exact Below.refl _ _) | (with_reducible assumption) | (with_reducible apply bel_alloc) | (with_reducible apply bel_drew) | (with_reducible refine bel_set ?_ (by first | exact Nat.le_refl _ | (simp; done) | omega | (simp; omega)) _) | (with_reducible refine bel_trans ?_ (by with_reducible assumption)))⟩
    · simp only [if_neg hf] at HC
      have HT := Lib.hid (show 0 = uR (val a0 a1) b ∧ 0 = uQ (val a0 a1) b ∧ -11 = uT (val a0 a1) b by simp [uR, uQ, uT, hb0, hf])
      have HC' := Lib.hid HC
      clear HC hf
      go_enter Try.func17, Try.ntmps17
      go_wp2_with (first | (go_at_call 31; refine (caught_32_no _ (-11) _ (fun w1 hw1 => HC'.out w.heap.size (w.heap.size + 1) w1 (by repeat (first | (with_reducible assumption) | (with_reducible refine Blk.new' ?_; first | rfl | (simp; done) | (simp; omega)) | (with_reducible apply Blk.set01) | (with_reducible apply Blk.set0) | (with_reducible apply Blk.set1) | (with_reducible apply Blk.setOne) | (with_reducible refine Blk.set_other ?_ (by omega) _ _) | (with_reducible apply Blk.alloc) | (with_reducible apply Blk.drew) | (with_reducible refine Blk.below ?_ (by with_reducible assumption)))) (by repeat (first | (with_reducible assumption) | (with_reducible refine Blk.new' ?_; first | rfl | (simp; done) | (simp; omega)) | (with_reducible apply Blk.set01) | (with_reducible apply Blk.set0) | (with_reducible apply Blk.set1) | (with_reducible apply Blk.setOne) | (with_reducible refine Blk.set_other ?_ (by omega) _ _) | (with_reducible apply Blk.alloc) | (with_reducible apply Blk.drew) | (with_reducible refine Blk.below ?_ (by with_reducible assumption)))))).mono ?_; rintro e w1 ⟨rfl, hb_w1⟩))
      go_ret3
      exact ⟨ret_udiv HT.out, by repeat (first | (with_reducible exact Below.refl _ _) | (with_reducible assumption) | (with_reducible apply bel_alloc) | (with_reducible apply bel_drew) | (with_reducible refine bel_set ?_ (by first | exact Nat.le_refl _ | (simp; done) | omega | (simp; omega)) _) | (with_reducible refine bel_trans ?_ (by with_reducible assumption)))⟩

set_option maxHeartbeats 800000 in
theorem wSmRem (a0 a1 b : Int) (ha0 : is64 a0) (ha1 : is64 a1) (hb : isI b) (w : World) :
    Calls Try.prog 19 #[.agg #[.int .u64 a0, .int .u64 a1], .int .i64 b] w fun e w' => e = .returned (.tuple #[.int .i64 (sX b ((sv a0 a1).tdiv b) ((sv a0 a1).tmod b)), .int .i64 (sX b ((sv a0 a1).tdiv b) ((sv a0 a1).tdiv b)), .int .i64 (sT b ((sv a0 a1).tdiv b))]) ∧ Below w.heap.size w w' := by
  have hmf : ∀ (fn : Fn) (first cap : Array Value) (w : World), (Instr.makeFunc fn first cap).run Try.prog w = .ok (.func fn first cap) w := fun _ _ _ _ => rfl
  by_cases hb0 : b = 0
  · subst hb0
    go_enter Try.func19, Try.ntmps19
    go_wp2_with (first | (go_at_call 36; refine (caught_37_no _ (-10) _ (fun w1 hw1 => sClos_0 w.heap.size (w.heap.size + 1) a0 a1 ha0 ha1 w1 (by repeat (first | (with_reducible assumption) | (with_reducible refine Blk.new' ?_; first | rfl | (simp; done) | (simp; omega)) | (with_reducible apply Blk.set01) | (with_reducible apply Blk.set0) | (with_reducible apply Blk.set1) | (with_reducible apply Blk.setOne) | (with_reducible refine Blk.set_other ?_ (by omega) _ _) | (with_reducible apply Blk.alloc) | (with_reducible apply Blk.drew) | (with_reducible refine Blk.below ?_ (by with_reducible assumption)))) (by repeat (first | (with_reducible assumption) | (with_reducible refine Blk.new' ?_; first | rfl | (simp; done) | (simp; omega)) | (with_reducible apply Blk.set01) | (with_reducible apply Blk.set0) | (with_reducible apply Blk.set1) | (with_reducible apply Blk.setOne) | (with_reducible refine Blk.set_other ?_ (by omega) _ _) | (with_reducible apply Blk.alloc) | (with_reducible apply Blk.drew) | (with_reducible refine Blk.below ?_ (by with_reducible assumption)))))).mono ?_; rintro e w1 ⟨rfl, hb_w1⟩))
    go_ret3
    exact ⟨ret3i (by simp [sX, sT]), by repeat (first | (with_reducible exact Below.refl _ _) | (with_reducible assumption) | (with_reducible apply bel_alloc) | (with_reducible apply bel_drew) | (with_reducible refine bel_set ?_ (by first | exact Nat.le_refl _ | (simp; done) | omega | (simp; omega)) _) | (with_reducible refine bel_trans ?_ (by with_reducible assumption)))⟩
  · have HC := fun x y w h0 h1 => sClos x y a0 a1 b ha0 ha1 hb hb0 w h0 h1
    by_cases hf : fitB ((sv a0 a1).tdiv b) = true
    · simp only [if_pos hf] at HC
      have HT := Lib.hid (show ((sv a0 a1).tmod b) = sX b ((sv a0 a1).tdiv b) ((sv a0 a1).tmod b) ∧ ((sv a0 a1).tdiv b) = sX b ((sv a0 a1).tdiv b) ((sv a0 a1).tdiv b) ∧ 0 = sT b ((sv a0 a1).tdiv b) by simp [sX, sT, hb0, hf])
      have HC' := Lib.hid HC
      clear HC hf
      go_enter Try.func19, Try.ntmps19
      go_wp2_with (first | (go_at_call 36; refine (caught_37_ok _ _ _ _ (fun w1 hw1 => HC'.out w.heap.size (w.heap.size + 1) w1 (by repeat (first | (with_reducible assumption) | (with_reducible refine Blk.new' ?_; first | rfl | (simp; done) | (simp; omega)) | (with_reducible apply Blk.set01) | (with_reducible apply Blk.set0) | (with_reducible apply Blk.set1) | (with_reducible apply Blk.setOne) | (with_reducible refine Blk.set_other ?_ (by omega) _ _) | (with_reducible apply Blk.alloc) | (with_reducible apply Blk.drew) | (with_reducible refine Blk.below ?_ (by with_reducible assumption)))) (by repeat (first | (with_reducible assumption) | (with_reducible refine Blk.new' ?_; first | rfl | (simp; done) | (simp; omega)) | (with_reducible apply Blk.set01) | (with_reducible apply Blk.set0) | (with_reducible apply Blk.set1) | (with_reducible apply Blk.setOne) | (with_reducible refine Blk.set_other ?_ (by omega) _ _) | (with_reducible apply Blk.alloc) | (with_reducible apply Blk.drew) | (with_reducible refine Blk.below ?_ (by with_reducible assumption)))))).mono ?_; rintro e w1 ⟨rfl, hb_w1⟩))
      go_ret3
      exact ⟨ret3i HT.out, by repeat (first | (with_reducible exact Below.refl _ _) | (with_reducible assumption) | (with_reducible apply bel_alloc) | (with_reducible apply bel_drew) | (with_reducible refine bel_set ?_ (by first | exact Nat.le_refl _ | (simp; done) | omega | (simp; omega)) _) | (with_reducible refine bel_trans ?_ (by with_reducible assumption)))⟩
    · simp only [if_neg hf] at HC
      have HT := Lib.hid (show 0 = sX b ((sv a0 a1).tdiv b) ((sv a0 a1).tmod b) ∧ 0 = sX b ((sv a0 a1).tdiv b) ((sv a0 a1).tdiv b) ∧ -11 = sT b ((sv a0 a1).tdiv b) by simp [sX, sT, hb0, hf])
      have HC' := Lib.hid HC
      clear HC hf
      go_enter Try.func19, Try.ntmps19
      go_wp2_with (first | (go_at_call 36; refine (caught_37_no _ (-11) _ (fun w1 hw1 => HC'.out w.heap.size (w.heap.size + 1) w1 (by repeat (first | (with_reducible assumption) | (with_reducible refine Blk.new' ?_; first | rfl | (simp; done) | (simp; omega)) | (with_reducible apply Blk.set01) | (with_reducible apply Blk.set0) | (with_reducible apply Blk.set1) | (with_reducible apply Blk.setOne) | (with_reducible refine Blk.set_other ?_ (by omega) _ _) | (with_reducible apply Blk.alloc) | (with_reducible apply Blk.drew) | (with_reducible refine Blk.below ?_ (by with_reducible assumption)))) (by repeat (first | (with_reducible assumption) | (with_reducible refine Blk.new' ?_; first | rfl | (simp; done) | (simp; omega)) | (with_reducible apply Blk.set01) | (with_reducible apply Blk.set0) | (with_reducible apply Blk.set1) | (with_reducible apply Blk.setOne) | (with_reducible refine Blk.set_other ?_ (by omega) _ _) | (with_reducible apply Blk.alloc) | (with_reducible apply Blk.drew) | (with_reducible refine Blk.below ?_ (by with_reducible assumption)))))).mono ?_; rintro e w1 ⟨rfl, hb_w1⟩))
      go_ret3
      exact ⟨ret3i HT.out, by repeat (first | (with_reducible exact Below.refl _ _) | (with_reducible assumption) | (with_reducible apply bel_alloc) | (with_reducible apply bel_drew) | (with_reducible refine bel_set ?_ (by first | exact Nat.le_refl _ | (simp; done) | omega | (simp; omega)) _) | (with_reducible refine bel_trans ?_ (by with_reducible assumption)))⟩

set_option maxHeartbeats 800000 in
theorem wFmMod (a0 a1 b : Int) (ha0 : is64 a0) (ha1 : is64 a1) (hb : isI b) (w : World) :
    Calls Try.prog 21 #[.agg #[.int .u64 a0, .int .u64 a1], .int .i64 b] w fun e w' => e = .returned (.tuple #[.int .i64 (sX b (flD (sv a0 a1) b) (flM (sv a0 a1) b)), .int .i64 (sX b (flD (sv a0 a1) b) (flD (sv a0 a1) b)), .int .i64 (sT b (flD (sv a0 a1) b))]) ∧ Below w.heap.size w w' := by
  have hmf : ∀ (fn : Fn) (first cap : Array Value) (w : World), (Instr.makeFunc fn first cap).run Try.prog w = .ok (.func fn first cap) w := fun _ _ _ _ => rfl
  by_cases hb0 : b = 0
  · subst hb0
    go_enter Try.func21, Try.ntmps21
    go_wp2_with (first | (go_at_call 36; refine (caught_42_no _ (-10) _ (fun w1 hw1 => fClos_0 w.heap.size (w.heap.size + 1) a0 a1 ha0 ha1 w1 (by repeat (first | (with_reducible assumption) | (with_reducible refine Blk.new' ?_; first | rfl | (simp; done) | (simp; omega)) | (with_reducible apply Blk.set01) | (with_reducible apply Blk.set0) | (with_reducible apply Blk.set1) | (with_reducible apply Blk.setOne) | (with_reducible refine Blk.set_other ?_ (by omega) _ _) | (with_reducible apply Blk.alloc) | (with_reducible apply Blk.drew) | (with_reducible refine Blk.below ?_ (by with_reducible assumption)))) (by repeat (first | (with_reducible assumption) | (with_reducible refine Blk.new' ?_; first | rfl | (simp; done) | (simp; omega)) | (with_reducible apply Blk.set01) | (with_reducible apply Blk.set0) | (with_reducible apply Blk.set1) | (with_reducible apply Blk.setOne) | (with_reducible refine Blk.set_other ?_ (by omega) _ _) | (with_reducible apply Blk.alloc) | (with_reducible apply Blk.drew) | (with_reducible refine Blk.below ?_ (by with_reducible assumption)))))).mono ?_; rintro e w1 ⟨rfl, hb_w1⟩))
    go_ret3
    exact ⟨ret3i (by simp [sX, sT]), by repeat (first | (with_reducible exact Below.refl _ _) | (with_reducible assumption) | (with_reducible apply bel_alloc) | (with_reducible apply bel_drew) | (with_reducible refine bel_set ?_ (by first | exact Nat.le_refl _ | (simp; done) | omega | (simp; omega)) _) | (with_reducible refine bel_trans ?_ (by with_reducible assumption)))⟩
  · have HC := fun x y w h0 h1 => fClos x y a0 a1 b ha0 ha1 hb hb0 w h0 h1
    by_cases hf : fitB (flD (sv a0 a1) b) = true
    · simp only [if_pos hf] at HC
      have HT := Lib.hid (show (flM (sv a0 a1) b) = sX b (flD (sv a0 a1) b) (flM (sv a0 a1) b) ∧ (flD (sv a0 a1) b) = sX b (flD (sv a0 a1) b) (flD (sv a0 a1) b) ∧ 0 = sT b (flD (sv a0 a1) b) by simp [sX, sT, hb0, hf])
      have HC' := Lib.hid HC
      clear HC hf
      go_enter Try.func21, Try.ntmps21
      go_wp2_with (first | (go_at_call 36; refine (caught_42_ok _ _ _ _ (fun w1 hw1 => HC'.out w.heap.size (w.heap.size + 1) w1 (by repeat (first | (with_reducible assumption) | (with_reducible refine Blk.new' ?_; first | rfl | (simp; done) | (simp; omega)) | (with_reducible apply Blk.set01) | (with_reducible apply Blk.set0) | (with_reducible apply Blk.set1) | (with_reducible apply Blk.setOne) | (with_reducible refine Blk.set_other ?_ (by omega) _ _) | (with_reducible apply Blk.alloc) | (with_reducible apply Blk.drew) | (with_reducible refine Blk.below ?_ (by with_reducible assumption)))) (by repeat (first | (with_reducible assumption) | (with_reducible refine Blk.new' ?_; first | rfl | (simp; done) | (simp; omega)) | (with_reducible apply Blk.set01) | (with_reducible apply Blk.set0) | (with_reducible apply Blk.set1) | (with_reducible apply Blk.setOne) | (with_reducible refine Blk.set_other ?_ (by omega) _ _) | (with_reducible apply Blk.alloc) | (with_reducible apply Blk.drew) | (with_reducible refine Blk.below ?_ (by with_reducible assumption)))))).mono ?_; rintro e w1 ⟨rfl, hb_w1⟩))
      go_ret3
      exact ⟨ret3i HT.out, by repeat (first | (with_reducible exact Below.refl _ _) | (with_reducible assumption) | (with_reducible apply bel_alloc) | (with_reducible apply bel_drew) | (with_reducible refine bel_set ?_ (by first | exact Nat.le_refl _ | (simp; done) | omega | (simp; omega)) _) | (with_reducible refine bel_trans ?_ (by with_reducible assumption)))⟩
    · simp only [if_neg hf] at HC
      have HT := Lib.hid (show 0 = sX b (flD (sv a0 a1) b) (flM (sv a0 a1) b) ∧ 0 = sX b (flD (sv a0 a1) b) (flD (sv a0 a1) b) ∧ -11 = sT b (flD (sv a0 a1) b) by simp [sX, sT, hb0, hf])
      have HC' := Lib.hid HC
      clear HC hf
      go_enter Try.func21, Try.ntmps21
      go_wp2_with (first | (go_at_call 36; refine (caught_42_no _ (-11) _ (fun w1 hw1 => HC'.out w.heap.size (w.heap.size + 1) w1 (by repeat (first | (with_reducible assumption) | (with_reducible refine Blk.new' ?_; first | rfl | (simp; done) | (simp; omega)) | (with_reducible apply Blk.set01) | (with_reducible apply Blk.set0) | (with_reducible apply Blk.set1) | (with_reducible apply Blk.setOne) | (with_reducible refine Blk.set_other ?_ (by omega) _ _) | (with_reducible apply Blk.alloc) | (with_reducible apply Blk.drew) | (with_reducible refine Blk.below ?_ (by with_reducible assumption)))) (by repeat (first | (with_reducible assumption) | (with_reducible refine Blk.new' ?_; first | rfl | (simp; done) | (simp; omega)) | (with_reducible apply Blk.set01) | (with_reducible apply Blk.set0) | (with_reducible apply Blk.set1) | (with_reducible apply Blk.setOne) | (with_reducible refine Blk.set_other ?_ (by omega) _ _) | (with_reducible apply Blk.alloc) | (with_reducible apply Blk.drew) | (with_reducible refine Blk.below ?_ (by with_reducible assumption)))))).mono ?_; rintro e w1 ⟨rfl, hb_w1⟩))
      go_ret3
      exact ⟨ret3i HT.out, by repeat (first | (with_reducible exact Below.refl _ _) | (with_reducible assumption) | (with_reducible apply bel_alloc) | (with_reducible apply bel_drew) | (with_reducible refine bel_set ?_ (by first | exact Nat.le_refl _ | (simp; done) | omega | (simp; omega)) _) | (with_reducible refine bel_trans ?_ (by with_reducible assumption)))⟩

set_option maxHeartbeats 800000 in
theorem wDiv (a b : Int) (ha : isI a) (hb : isI b) (w : World) :
    Calls Try.prog 23 #[.int .i64 a, .int .i64 b] w fun e w' => e = .returned (.tuple #[.int .i64 (dX b (flM a b)), .int .i64 (dX b (wrap64 (flD a b))), .int .i64 (dT b)]) ∧ Below w.heap.size w w' := by
  have hmf : ∀ (fn : Fn) (first cap : Array Value) (w : World), (Instr.makeFunc fn first cap).run Try.prog w = .ok (.func fn first cap) w := fun _ _ _ _ => rfl
  by_cases hb0 : b = 0
  · subst hb0
    go_enter Try.func23, Try.ntmps23
    go_wp2_with (first | (go_at_call 36; refine (caught_45_no _ (-10) _ (fun w1 hw1 => dClos_0 w.heap.size (w.heap.size + 1) a ha w1 (by repeat (first | (with_reducible assumption) | (with_reducible refine Blk.new' ?_; first | rfl | (simp; done) | (simp; omega)) | (with_reducible apply Blk.set01) | (with_reducible apply Blk.set0) | (with_reducible apply Blk.set1) | (with_reducible apply Blk.setOne) | (with_reducible refine Blk.set_other ?_ (by omega) _ _) | (with_reducible apply Blk.alloc) | (with_reducible apply Blk.drew) | (with_reducible refine Blk.below ?_ (by with_reducible assumption)))) (by repeat (first | (with_reducible assumption) | (with_reducible refine Blk.new' ?_; first | rfl | (simp; done) | (simp; omega)) | (with_reducible apply Blk.set01) | (with_reducible apply Blk.set0) | (with_reducible apply Blk.set1) | (with_reducible apply Blk.setOne) | (with_reducible refine Blk.set_other ?_ (by omega) _ _) | (with_reducible apply Blk.alloc) | (with_reducible apply Blk.drew) | (with_reducible refine Blk.below ?_ (by with_reducible assumption)))))).mono ?_; rintro e w1 ⟨rfl, hb_w1⟩))
    go_ret3
    exact ⟨ret3d (by simp [dX, dT]), by repeat (first | (with_reducible exact Below.refl _ _) | (with_reducible assumption) | (with_reducible apply bel_alloc) | (with_reducible apply bel_drew) | (with_reducible refine bel_set ?_ (by first | exact Nat.le_refl _ | (simp; done) | omega | (simp; omega)) _) | (with_reducible refine bel_trans ?_ (by with_reducible assumption)))⟩
  · have HC := fun x y w h0 h1 => dClos x y a b ha hb hb0 w h0 h1
    have HT := Lib.hid (show flM a b = dX b (flM a b) ∧ wrap64 (flD a b) = dX b (wrap64 (flD a b)) ∧ 0 = dT b by simp [dX, dT, hb0])
    have HC' := Lib.hid HC
    clear HC
    go_enter Try.func23, Try.ntmps23
    go_wp2_with (first | (go_at_call 36; refine (caught_45_ok _ _ _ _ (fun w1 hw1 => HC'.out w.heap.size (w.heap.size + 1) w1 (by repeat (first | (with_reducible assumption) | (with_reducible refine Blk.new' ?_; first | rfl | (simp; done) | (simp; omega)) | (with_reducible apply Blk.set01) | (with_reducible apply Blk.set0) | (with_reducible apply Blk.set1) | (with_reducible apply Blk.setOne) | (with_reducible refine Blk.set_other ?_ (by omega) _ _) | (with_reducible apply Blk.alloc) | (with_reducible apply Blk.drew) | (with_reducible refine Blk.below ?_ (by with_reducible assumption)))) (by repeat (first | (with_reducible assumption) | (with_reducible refine Blk.new' ?_; first | rfl | (simp; done) | (simp; omega)) | (with_reducible apply Blk.set01) | (with_reducible apply Blk.set0) | (with_reducible apply Blk.set1) | (with_reducible apply Blk.setOne) | (with_reducible refine Blk.set_other ?_ (by omega) _ _) | (with_reducible apply Blk.alloc) | (with_reducible apply Blk.drew) | (with_reducible refine Blk.below ?_ (by with_reducible assumption)))))).mono ?_; rintro e w1 ⟨rfl, hb_w1⟩))
    go_ret3
    exact ⟨ret3d HT.out, by repeat (first | (with_reducible exact Below.refl _ _) | (with_reducible assumption) | (with_reducible apply bel_alloc) | (with_reducible apply bel_drew) | (with_reducible refine bel_set ?_ (by first | exact Nat.le_refl _ | (simp; done) | omega | (simp; omega)) _) | (with_reducible refine bel_trans ?_ (by with_reducible assumption)))⟩
end Go.Proofs.Ytmanjadnagfhpaa
