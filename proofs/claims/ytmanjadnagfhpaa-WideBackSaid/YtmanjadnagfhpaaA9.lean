/- The reference's FmMod and Div. -/
import Derived.Test.YtmanjadnagfhpaaA8
namespace Go.Proofs.Ytmanjadnagfhpaa
open Go.RowKit
set_option linter.unusedVariables false
set_option linter.unusedSimpArgs false
attribute [local go_sem ↓] Go.wp_at_zero Go.wp_at_succ
attribute [local go_sem] cell_set set_set
attribute [local go_sem high] eql24 neq24 grd24

theorem adj_b (S b : Int) (hb : b ≠ 0) (h : adj S b = true) : 2 ≤ b.natAbs ∧ S.tmod b ≠ 0 ∧ ¬ (S.tmod b < 0 ↔ b < 0) := by
  unfold adj at h
  simp only [Bool.and_eq_true, bne_iff_ne, ne_eq, decide_eq_decide] at h
  refine ⟨?_, h.1, h.2⟩
  have h2 : (S.tmod b).natAbs < b.natAbs := by rw [Int.natAbs_tmod]; exact Nat.mod_lt _ (by omega)
  have := h.1
  omega
theorem flD_bd (S b : Int) (h0 : -170141183460469231731687303715884105728 ≤ S) (h1 : S < 170141183460469231731687303715884105728) (hb : b ≠ 0) : -170141183460469231731687303715884105728 ≤ flD S b ∧ flD S b ≤ 170141183460469231731687303715884105728 := by
  have hd := tdiv_bd S b h0 h1 hb
  unfold flD
  by_cases h : adj S b = true
  · rw [if_pos h]
    have h2 := (adj_b S b hb h).1
    have h3 : (S.tdiv b).natAbs * 2 ≤ S.natAbs := by
      rw [Int.natAbs_tdiv]
      exact Nat.le_trans (Nat.mul_le_mul_left _ h2) (Nat.div_mul_le_self _ _)
    omega
  · rw [if_neg h]; exact hd
theorem flM_bd (S b : Int) (hb : b ≠ 0) (hi : isI b) : isI (flM S b) ∧ (flM S b).natAbs < b.natAbs := by
  have hm := tmod_bd S b hb hi
  unfold flM
  by_cases h : adj S b = true
  · rw [if_pos h]
    have h2 := adj_b S b hb h
    unfold isI at *
    omega
  · rw [if_neg h]; exact hm
theorem over_not' (a0 a1 b : Int) (h0 : a0 = 9223372036854775808) (h1 : a1 = 0) (hb : b = -1) : fitB (flD (sv a0 a1) b) = false := by
  subst h0 h1 hb; decide

set_option maxHeartbeats 1600000 in
theorem rFmMod (a0 a1 b : Int) (ha0 : is64 a0) (ha1 : is64 a1) (hb : isI b) (w : World) :
    Calls Try.prog 22 #[.agg #[.int .u64 a0, .int .u64 a1], .int .i64 b] w fun e w' => e = .returned (.tuple #[.int .i64 (sX b (flD (sv a0 a1) b) (flM (sv a0 a1) b)), .int .i64 (sX b (flD (sv a0 a1) b) (flD (sv a0 a1) b)), .int .i64 (sT b (flD (sv a0 a1) b))]) ∧ Below w.heap.size w w' := by
  by_cases hb0 : b = 0
  · subst hb0
    go_enter Try.func22, Try.ntmps22
    go_wp2
    go_ret3
    exact ⟨ret3i (by simp [sX, sT]), by repeat (first | (with_reducible exact Below.refl _ _) | (with_reducible assumption) | (with_reducible apply bel_alloc) | (with_reducible apply bel_drew) | (with_reducible refine bel_set ?_ (by first | exact Nat.le_refl _ | (simp; done) | omega | (simp; omega)) _) | (with_reducible refine bel_trans ?_ (by with_reducible assumption)))⟩
  · have HS := fun w => rFloor a0 a1 b ha0 ha1 hb hb0 w
    have hbd := sv_bd a0 a1 ha0 ha1
    have hDb := flD_bd (sv a0 a1) b hbd.1 hbd.2 hb0
    have hMb := flM_bd (sv a0 a1) b hb0 hb
    have hov := over_not' a0 a1 b
    obtain ⟨D, hD⟩ : ∃ D, D = flD (sv a0 a1) b := ⟨_, rfl⟩
    obtain ⟨M, hM⟩ : ∃ M, M = flM (sv a0 a1) b := ⟨_, rfl⟩
    rw [← hD, ← hM] at HS ⊢
    rw [← hD] at hDb hov
    rw [← hM] at hMb
    clear hD hM hbd
    have HS' := Lib.hid HS
    clear HS
    have HF := Lib.hid (fun w => rFits D hDb.1 hDb.2 w)
    have hMl := i64_lo M hMb.1
    by_cases ho : a0 = 9223372036854775808 ∧ a1 = 0 ∧ b = -1
    · obtain ⟨rfl, rfl, rfl⟩ := ho
      have hf := hov rfl rfl rfl
      have HT : (0 : Int) = sX (-1) D M ∧ 0 = sX (-1) D D ∧ -11 = sT (-1) D := by simp [sX, sT, hf]
      have HT' := Lib.hid HT
      clear HT hf hov hDb hMb
      go_enter Try.func22, Try.ntmps22
      go_wp2_with (go_at_call 44; refine (HS'.out _).mono ?_; rintro e w1 ⟨rfl, hb1⟩; obtain ⟨k1, k2, k3, k4, k5⟩ := (show Blk w1 w.heap.size #[.int .u64 9223372036854775808, .int .u64 0] 24 from (by repeat (first | (with_reducible assumption) | (with_reducible refine Blk.new' ?_; first | rfl | (simp; done) | (simp; omega)) | (with_reducible apply Blk.set01) | (with_reducible apply Blk.set0) | (with_reducible apply Blk.set1) | (with_reducible apply Blk.setOne) | (with_reducible refine Blk.set_other ?_ (by omega) _ _) | (with_reducible apply Blk.alloc) | (with_reducible apply Blk.drew) | (with_reducible refine Blk.below ?_ (by with_reducible assumption))))).two)
      go_ret3
      exact ⟨ret3i HT'.out, by repeat (first | (with_reducible exact Below.refl _ _) | (with_reducible assumption) | (with_reducible apply bel_alloc) | (with_reducible apply bel_drew) | (with_reducible refine bel_set ?_ (by first | exact Nat.le_refl _ | (simp; done) | omega | (simp; omega)) _) | (with_reducible refine bel_trans ?_ (by with_reducible assumption)))⟩
    · clear hov
      have hovb : (a0 == 9223372036854775808 && a1 == 0) = false ∨ ((a0 == 9223372036854775808 && a1 == 0) = true ∧ (b == -1) = false) := by
        by_cases h1 : a0 = 9223372036854775808 <;> by_cases h2 : a1 = 0 <;> simp [h1, h2] <;> (intro h3; exact ho ⟨h1, h2, h3⟩)
      clear ho
      by_cases hf : fitB D = true
      · have hDl : wrap64 (lo D) = D := i64_lo D (by unfold fitB at hf; unfold isI; simpa using hf)
        have HT : M = sX b D M ∧ D = sX b D D ∧ 0 = sT b D := by simp [sX, sT, hf, hb0]
        have HT' := Lib.hid HT
        have HMl := Lib.hid hMl
        have HDl := Lib.hid hDl
        rw [hf] at HF
        clear HT hDb hMb hMl hDl
        rcases hovb with hovb | ⟨hovb, hb1⟩
        all_goals
          go_enter Try.func22, Try.ntmps22
          go_wp2_with (first | (go_at_call 44; refine (HS'.out _).mono ?_; rintro e w1 ⟨rfl, hb1⟩; obtain ⟨k1, k2, k3, k4, k5⟩ := (show Blk w1 w.heap.size #[.int .u64 a0, .int .u64 a1] 24 from (by repeat (first | (with_reducible assumption) | (with_reducible refine Blk.new' ?_; first | rfl | (simp; done) | (simp; omega)) | (with_reducible apply Blk.set01) | (with_reducible apply Blk.set0) | (with_reducible apply Blk.set1) | (with_reducible apply Blk.setOne) | (with_reducible refine Blk.set_other ?_ (by omega) _ _) | (with_reducible apply Blk.alloc) | (with_reducible apply Blk.drew) | (with_reducible refine Blk.below ?_ (by with_reducible assumption))))).two) | (go_at_call 41; refine (HF.out _).mono ?_; rintro e w2 ⟨rfl, hb2⟩; obtain ⟨k1, k2, k3, k4, k5⟩ := (show Blk w2 w1.heap.size #[.int .u64 (hi D), .int .u64 (lo D)] 24 from (by repeat (first | (with_reducible assumption) | (with_reducible refine Blk.new' ?_; first | rfl | (simp; done) | (simp; omega)) | (with_reducible apply Blk.set01) | (with_reducible apply Blk.set0) | (with_reducible apply Blk.set1) | (with_reducible apply Blk.setOne) | (with_reducible refine Blk.set_other ?_ (by omega) _ _) | (with_reducible apply Blk.alloc) | (with_reducible apply Blk.drew) | (with_reducible refine Blk.below ?_ (by with_reducible assumption))))).two; obtain ⟨j1, j2, j3, j4, j5⟩ := (show Blk w2 (w1.heap.size + 1) #[.int .u64 (hi M), .int .u64 (lo M)] 24 from (by repeat (first | (with_reducible assumption) | (with_reducible refine Blk.new' ?_; first | rfl | (simp; done) | (simp; omega)) | (with_reducible apply Blk.set01) | (with_reducible apply Blk.set0) | (with_reducible apply Blk.set1) | (with_reducible apply Blk.setOne) | (with_reducible refine Blk.set_other ?_ (by omega) _ _) | (with_reducible apply Blk.alloc) | (with_reducible apply Blk.drew) | (with_reducible refine Blk.below ?_ (by with_reducible assumption))))).two))
          go_region
          all_goals
            go_wp2
            go_ret3
            refine ⟨?_, by repeat (first | (with_reducible exact Below.refl _ _) | (with_reducible assumption) | (with_reducible apply bel_alloc) | (with_reducible apply bel_drew) | (with_reducible refine bel_set ?_ (by first | exact Nat.le_refl _ | (simp; done) | omega | (simp; omega)) _) | (with_reducible refine bel_trans ?_ (by with_reducible assumption)))⟩
            refine ret3i ⟨?_, ?_, HT'.out.2.2⟩
            · refine Eq.trans ?_ HT'.out.1
              first | exact HMl.out | (rw [IntKind.wrap_i64]; exact HMl.out)
            · refine Eq.trans ?_ HT'.out.2.1
              first | exact HDl.out | (rw [IntKind.wrap_i64]; exact HDl.out)
      · have hff : fitB D = false := by simpa using hf
        have HT : 0 = sX b D M ∧ 0 = sX b D D ∧ -11 = sT b D := by simp [sX, sT, hff, hb0]
        have HT' := Lib.hid HT
        rw [hff] at HF
        clear HT hDb hMb hMl hf hff
        rcases hovb with hovb | ⟨hovb, hb1⟩
        all_goals
          go_enter Try.func22, Try.ntmps22
          go_wp2_with (first | (go_at_call 44; refine (HS'.out _).mono ?_; rintro e w1 ⟨rfl, hb1⟩; obtain ⟨k1, k2, k3, k4, k5⟩ := (show Blk w1 w.heap.size #[.int .u64 a0, .int .u64 a1] 24 from (by repeat (first | (with_reducible assumption) | (with_reducible refine Blk.new' ?_; first | rfl | (simp; done) | (simp; omega)) | (with_reducible apply Blk.set01) | (with_reducible apply Blk.set0) | (with_reducible apply Blk.set1) | (with_reducible apply Blk.setOne) | (with_reducible refine Blk.set_other ?_ (by omega) _ _) | (with_reducible apply Blk.alloc) | (with_reducible apply Blk.drew) | (with_reducible refine Blk.below ?_ (by with_reducible assumption))))).two) | (go_at_call 41; refine (HF.out _).mono ?_; rintro e w2 ⟨rfl, hb2⟩))
          go_ret3
          exact ⟨ret3i HT'.out, by repeat (first | (with_reducible exact Below.refl _ _) | (with_reducible assumption) | (with_reducible apply bel_alloc) | (with_reducible apply bel_drew) | (with_reducible refine bel_set ?_ (by first | exact Nat.le_refl _ | (simp; done) | omega | (simp; omega)) _) | (with_reducible refine bel_trans ?_ (by with_reducible assumption)))⟩

def dT (b : Int) : Int := if b = 0 then -10 else 0
def dX (b x : Int) : Int := if b = 0 then 0 else x
theorem ret3d {b x y r q t : Int} (h : r = dX b x ∧ q = dX b y ∧ t = dT b) : Ending.returned (.tuple #[.int .i64 r, .int .i64 q, .int .i64 t]) = .returned (.tuple #[.int .i64 (dX b x), .int .i64 (dX b y), .int .i64 (dT b)]) := by
  rw [h.1, h.2.1, h.2.2]
theorem sv_small (a : Int) (h : isI a) : sv (hi a) (lo a) = a := by
  unfold isI at h; unfold sv val hi lo; split <;> omega
theorem wrap_lo64 (x : Int) : wrap64 (lo x) = wrap64 x := by unfold wrap64 lo; omega

set_option maxHeartbeats 1600000 in
theorem rDiv (a b : Int) (ha : isI a) (hb : isI b) (w : World) :
    Calls Try.prog 24 #[.int .i64 a, .int .i64 b] w fun e w' => e = .returned (.tuple #[.int .i64 (dX b (flM a b)), .int .i64 (dX b (wrap64 (flD a b))), .int .i64 (dT b)]) ∧ Below w.heap.size w w' := by
  by_cases hb0 : b = 0
  · subst hb0
    go_enter Try.func24, Try.ntmps24
    go_wp2
    go_ret3
    exact ⟨ret3d (by simp [dX, dT]), by repeat (first | (with_reducible exact Below.refl _ _) | (with_reducible assumption) | (with_reducible apply bel_alloc) | (with_reducible apply bel_drew) | (with_reducible refine bel_set ?_ (by first | exact Nat.le_refl _ | (simp; done) | omega | (simp; omega)) _) | (with_reducible refine bel_trans ?_ (by with_reducible assumption)))⟩
  · have HS := fun w => rFloor (hi a) (lo a) b (hi_64 a) (lo_64 a) hb hb0 w
    rw [sv_small a ha] at HS
    have hMb := (flM_bd a b hb0 hb).1
    obtain ⟨D, hD⟩ : ∃ D, D = flD a b := ⟨_, rfl⟩
    obtain ⟨M, hM⟩ : ∃ M, M = flM a b := ⟨_, rfl⟩
    rw [← hD, ← hM] at HS ⊢
    rw [← hM] at hMb
    clear hD hM
    have HS' := Lib.hid HS
    have HMl := Lib.hid (i64_lo M hMb)
    have HDl := Lib.hid (wrap_lo64 D)
    have HT : M = dX b M ∧ wrap64 D = dX b (wrap64 D) ∧ 0 = dT b := by simp [dX, dT, hb0]
    have HT' := Lib.hid HT
    have HO := Lib.hid (fun w => rOf a ha w)
    clear HS HT hMb
    go_enter Try.func24, Try.ntmps24
    go_wp2_with (first | (go_at_call 16; refine (HO.out _).mono ?_; rintro e w1 ⟨rfl, hb1⟩) | (go_at_call 44; refine (HS'.out _).mono ?_; rintro e w2 ⟨rfl, hb2⟩))
    go_region
    all_goals
      go_wp2
      go_ret3
      refine ⟨?_, by repeat (first | (with_reducible exact Below.refl _ _) | (with_reducible assumption) | (with_reducible apply bel_alloc) | (with_reducible apply bel_drew) | (with_reducible refine bel_set ?_ (by first | exact Nat.le_refl _ | (simp; done) | omega | (simp; omega)) _) | (with_reducible refine bel_trans ?_ (by with_reducible assumption)))⟩
      refine ret3d ⟨?_, ?_, HT'.out.2.2⟩
      · refine Eq.trans ?_ HT'.out.1
        first | exact HMl.out | (rw [IntKind.wrap_i64]; exact HMl.out)
      · refine Eq.trans ?_ HT'.out.2.1
        first | exact HDl.out | (rw [IntKind.wrap_i64]; exact HDl.out)
end Go.Proofs.Ytmanjadnagfhpaa
