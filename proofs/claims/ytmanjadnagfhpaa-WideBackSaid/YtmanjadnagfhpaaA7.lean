/- The reference's signed quotients: SmRem, floor, FmMod, Div. -/
import Derived.Test.YtmanjadnagfhpaaA6
namespace Go.Proofs.Ytmanjadnagfhpaa
open Go.RowKit
set_option linter.unusedVariables false
set_option linter.unusedSimpArgs false
attribute [local go_sem ↓] Go.wp_at_zero Go.wp_at_succ
attribute [local go_sem] cell_set set_set
attribute [local go_sem high] eql24 neq24 grd24

/-- What is thrown for a quotient D of a divisor b; rest and quotient. -/
def sT (b D : Int) : Int := if b = 0 then -10 else if fitB D then 0 else -11
def sX (b D x : Int) : Int := if sT b D = 0 then x else 0
/-- Rounded down: quotient and rest. -/
def adj (S b : Int) : Bool := S.tmod b != 0 && (decide (S.tmod b < 0) != decide (b < 0))
def flD (S b : Int) : Int := if adj S b then S.tdiv b - 1 else S.tdiv b
def flM (S b : Int) : Int := if adj S b then S.tmod b + b else S.tmod b
theorem ret3i {b D x y r q t : Int} (h : r = sX b D x ∧ q = sX b D y ∧ t = sT b D) : Ending.returned (.tuple #[.int .i64 r, .int .i64 q, .int .i64 t]) = .returned (.tuple #[.int .i64 (sX b D x), .int .i64 (sX b D y), .int .i64 (sT b D)]) := by
  rw [h.1, h.2.1, h.2.2]
theorem tdiv_bd (S b : Int) (h0 : -170141183460469231731687303715884105728 ≤ S) (h1 : S < 170141183460469231731687303715884105728) (hb : b ≠ 0) : -170141183460469231731687303715884105728 ≤ S.tdiv b ∧ S.tdiv b ≤ 170141183460469231731687303715884105728 := by
  have h := Int.natAbs_tdiv_le_natAbs S b
  omega
theorem tmod_bd (S b : Int) (hb : b ≠ 0) (hi : isI b) : isI (S.tmod b) ∧ (S.tmod b).natAbs < b.natAbs := by
  have h : (S.tmod b).natAbs < b.natAbs := by
    rw [Int.natAbs_tmod]; exact Nat.mod_lt _ (by omega)
  unfold isI at *; exact ⟨by omega, h⟩
theorem i64_lo (x : Int) (h : isI x) : wrap64 (lo x) = x := by unfold isI at h; unfold wrap64 lo; omega
theorem over_not (a0 a1 b : Int) (h0 : a0 = 9223372036854775808) (h1 : a1 = 0) (hb : b = -1) : fitB ((sv a0 a1).tdiv b) = false := by
  subst h0 h1 hb; decide

set_option maxHeartbeats 1600000 in
theorem rSmRem (a0 a1 b : Int) (ha0 : is64 a0) (ha1 : is64 a1) (hb : isI b) (w : World) :
    Calls Try.prog 20 #[.agg #[.int .u64 a0, .int .u64 a1], .int .i64 b] w fun e w' => e = .returned (.tuple #[.int .i64 (sX b ((sv a0 a1).tdiv b) ((sv a0 a1).tmod b)), .int .i64 (sX b ((sv a0 a1).tdiv b) ((sv a0 a1).tdiv b)), .int .i64 (sT b ((sv a0 a1).tdiv b))]) ∧ Below w.heap.size w w' := by
  by_cases hb0 : b = 0
  · subst hb0
    go_enter Try.func20, Try.ntmps20
    go_wp2
    go_ret3
    exact ⟨ret3i (by simp [sX, sT]), by repeat (first | (with_reducible exact Below.refl _ _) | (with_reducible assumption) | (with_reducible apply bel_alloc) | (with_reducible apply bel_drew) | (with_reducible refine bel_set ?_ (by first | exact Nat.le_refl _ | (simp; done) | omega | (simp; omega)) _) | (with_reducible refine bel_trans ?_ (by with_reducible assumption)))⟩
  · have HS := fun w => rSigned a0 a1 b ha0 ha1 hb hb0 w
    have hbd := sv_bd a0 a1 ha0 ha1
    have hDb := tdiv_bd (sv a0 a1) b hbd.1 hbd.2 hb0
    have hMb := tmod_bd (sv a0 a1) b hb0 hb
    have hov := over_not a0 a1 b
    obtain ⟨D, hD⟩ : ∃ D, D = (sv a0 a1).tdiv b := ⟨_, rfl⟩
    obtain ⟨M, hM⟩ : ∃ M, M = (sv a0 a1).tmod b := ⟨_, rfl⟩
    rw [← hD, ← hM] at HS ⊢
    rw [← hD] at hDb hov
    rw [← hM] at hMb
    clear hD hM hbd
    have HS' := Lib.hid HS
    clear HS
    have HF := Lib.hid (fun w => rFits D hDb.1 hDb.2 w)
    have hMl := i64_lo M hMb.1
    by_cases ho : a0 = 9223372036854775808 ∧ a1 = 0 ∧ b = -1
    · obtain ⟨rfl, rfl, rfl⟩ := ho
      have hf := hov rfl rfl rfl
      have HT : (0 : Int) = sX (-1) D M ∧ 0 = sX (-1) D D ∧ -11 = sT (-1) D := by simp [sX, sT, hf]
      have HT' := Lib.hid HT
      clear HT hf hov hDb hMb
      go_enter Try.func20, Try.ntmps20
      go_wp2_with (go_at_call 40; refine (HS'.out _).mono ?_; rintro e w1 ⟨rfl, hb1⟩; obtain ⟨k1, k2, k3, k4, k5⟩ := (show Blk w1 w.heap.size #[.int .u64 9223372036854775808, .int .u64 0] 24 from (by repeat (first | (with_reducible assumption) | (with_reducible refine Blk.new' ?_; first | rfl | (simp; done) | (simp; omega)) | (with_reducible apply Blk.set01) | (with_reducible apply Blk.set0) | (with_reducible apply Blk.set1) | (with_reducible apply Blk.setOne) | (with_reducible refine Blk.set_other ?_ (by omega) _ _) | (with_reducible apply Blk.alloc) | (with_reducible apply Blk.drew) | (with_reducible refine Blk.below ?_ (by with_reducible assumption))))).two)
      go_ret3
      exact ⟨ret3i HT'.out, by repeat (first | (with_reducible exact Below.refl _ _) | (with_reducible assumption) | (with_reducible apply bel_alloc) | (with_reducible apply bel_drew) | (with_reducible refine bel_set ?_ (by first | exact Nat.le_refl _ | (simp; done) | omega | (simp; omega)) _) | (with_reducible refine bel_trans ?_ (by with_reducible assumption)))⟩
    · clear hov
      have hovb : (a0 == 9223372036854775808 && a1 == 0) = false ∨ ((a0 == 9223372036854775808 && a1 == 0) = true ∧ (b == -1) = false) := by
        by_cases h1 : a0 = 9223372036854775808 <;> by_cases h2 : a1 = 0 <;> simp [h1, h2] <;> (intro h3; exact ho ⟨h1, h2, h3⟩)
      clear ho
      by_cases hf : fitB D = true
      · have hDl : wrap64 (lo D) = D := i64_lo D (by unfold fitB at hf; unfold isI; simpa using hf)
        have HT : M = sX b D M ∧ D = sX b D D ∧ 0 = sT b D := by simp [sX, sT, hf, hb0]
        have HT' := Lib.hid HT
        have HMl := Lib.hid hMl
        have HDl := Lib.hid hDl
        rw [hf] at HF
        clear HT hDb hMb hMl hDl
        rcases hovb with hovb | ⟨hovb, hb1⟩
        all_goals
          go_enter Try.func20, Try.ntmps20
          go_wp2_with (first | (go_at_call 40; refine (HS'.out _).mono ?_; rintro e w1 ⟨rfl, hb1⟩; obtain ⟨k1, k2, k3, k4, k5⟩ := (show Blk w1 w.heap.size #[.int .u64 a0, .int .u64 a1] 24 from (by repeat (first | (with_reducible assumption) | (with_reducible refine Blk.new' ?_; first | rfl | (simp; done) | (simp; omega)) | (with_reducible apply Blk.set01) | (with_reducible apply Blk.set0) | (with_reducible apply Blk.set1) | (with_reducible apply Blk.setOne) | (with_reducible refine Blk.set_other ?_ (by omega) _ _) | (with_reducible apply Blk.alloc) | (with_reducible apply Blk.drew) | (with_reducible refine Blk.below ?_ (by with_reducible assumption))))).two) | (go_at_call 41; refine (HF.out _).mono ?_; rintro e w2 ⟨rfl, hb2⟩; obtain ⟨k1, k2, k3, k4, k5⟩ := (show Blk w2 w1.heap.size #[.int .u64 (hi D), .int .u64 (lo D)] 24 from (by repeat (first | (with_reducible assumption) | (with_reducible refine Blk.new' ?_; first | rfl | (simp; done) | (simp; omega)) | (with_reducible apply Blk.set01) | (with_reducible apply Blk.set0) | (with_reducible apply Blk.set1) | (with_reducible apply Blk.setOne) | (with_reducible refine Blk.set_other ?_ (by omega) _ _) | (with_reducible apply Blk.alloc) | (with_reducible apply Blk.drew) | (with_reducible refine Blk.below ?_ (by with_reducible assumption))))).two; obtain ⟨j1, j2, j3, j4, j5⟩ := (show Blk w2 (w1.heap.size + 1) #[.int .u64 (hi M), .int .u64 (lo M)] 24 from (by repeat (first | (with_reducible assumption) | (with_reducible refine Blk.new' ?_; first | rfl | (simp; done) | (simp; omega)) | (with_reducible apply Blk.set01) | (with_reducible apply Blk.set0) | (with_reducible apply Blk.set1) | (with_reducible apply Blk.setOne) | (with_reducible refine Blk.set_other ?_ (by omega) _ _) | (with_reducible apply Blk.alloc) | (with_reducible apply Blk.drew) | (with_reducible refine Blk.below ?_ (by with_reducible assumption))))).two))
          go_region
          all_goals
            go_wp2
            go_ret3
            refine ⟨?_, by repeat (first | (with_reducible exact Below.refl _ _) | (with_reducible assumption) | (with_reducible apply bel_alloc) | (with_reducible apply bel_drew) | (with_reducible refine bel_set ?_ (by first | exact Nat.le_refl _ | (simp; done) | omega | (simp; omega)) _) | (with_reducible refine bel_trans ?_ (by with_reducible assumption)))⟩
            refine ret3i ⟨?_, ?_, HT'.out.2.2⟩
            · refine Eq.trans ?_ HT'.out.1
              first | exact HMl.out | (rw [IntKind.wrap_i64]; exact HMl.out)
            · refine Eq.trans ?_ HT'.out.2.1
              first | exact HDl.out | (rw [IntKind.wrap_i64]; exact HDl.out)
      · have hff : fitB D = false := by simpa using hf
        have HT : 0 = sX b D M ∧ 0 = sX b D D ∧ -11 = sT b D := by simp [sX, sT, hff, hb0]
        have HT' := Lib.hid HT
        rw [hff] at HF
        clear HT hDb hMb hMl hf hff
        rcases hovb with hovb | ⟨hovb, hb1⟩
        all_goals
          go_enter Try.func20, Try.ntmps20
          go_wp2_with (first | (go_at_call 40; refine (HS'.out _).mono ?_; rintro e w1 ⟨rfl, hb1⟩; obtain ⟨k1, k2, k3, k4, k5⟩ := (show Blk w1 w.heap.size #[.int .u64 a0, .int .u64 a1] 24 from (by repeat (first | (with_reducible assumption) | (with_reducible refine Blk.new' ?_; first | rfl | (simp; done) | (simp; omega)) | (with_reducible apply Blk.set01) | (with_reducible apply Blk.set0) | (with_reducible apply Blk.set1) | (with_reducible apply Blk.setOne) | (with_reducible refine Blk.set_other ?_ (by omega) _ _) | (with_reducible apply Blk.alloc) | (with_reducible apply Blk.drew) | (with_reducible refine Blk.below ?_ (by with_reducible assumption))))).two) | (go_at_call 41; refine (HF.out _).mono ?_; rintro e w2 ⟨rfl, hb2⟩))
          go_ret3
          exact ⟨ret3i HT'.out, by repeat (first | (with_reducible exact Below.refl _ _) | (with_reducible assumption) | (with_reducible apply bel_alloc) | (with_reducible apply bel_drew) | (with_reducible refine bel_set ?_ (by first | exact Nat.le_refl _ | (simp; done) | omega | (simp; omega)) _) | (with_reducible refine bel_trans ?_ (by with_reducible assumption)))⟩
end Go.Proofs.Ytmanjadnagfhpaa
