/- Rounded down: the closures; and the functions that the package hands out. -/
import Derived.Test.YtmanjadnagfhpaaA16
namespace Go.Proofs.Ytmanjadnagfhpaa
open Go.RowKit
set_option linter.unusedVariables false
set_option linter.unusedSimpArgs false
attribute [local go_sem ↓] Go.wp_at_zero Go.wp_at_succ
attribute [local go_sem] cell_set set_set
attribute [local go_sem high] eql24 neq24 grd24

theorem floor_r (a0 a1 b : Int) (ha0 : is64 a0) (ha1 : is64 a1) (hb : isI b) (hb0 : b ≠ 0) (w : World) :
    Calls Try.prog 43 #[.agg #[.int .u64 a0, .int .u64 a1], .int .i64 b, .bool false] w fun e w' => e = (if fitB (flD (sv a0 a1) b) = true then .returned (.tuple #[.int .i64 (flM (sv a0 a1) b), .int .i64 (flD (sv a0 a1) b)]) else Thr (-11)) ∧ Below w.heap.size w w' := by
  by_cases h : fitB (flD (sv a0 a1) b) = true
  · rw [if_pos h]
    have h2 := wFloored_ok a0 a1 b ha0 ha1 hb hb0 false (.inr h) w
    rwa [fit_wrap h] at h2
  · rw [if_neg h]
    exact wFloored_no a0 a1 b ha0 ha1 hb hb0 (by simpa using h) w
theorem floor_w (a b : Int) (ha : isI a) (hb : isI b) (hb0 : b ≠ 0) (w : World) :
    Calls Try.prog 43 #[WV a, .int .i64 b, .bool true] w fun e w' => e = .returned (.tuple #[.int .i64 (flM a b), .int .i64 (wrap64 (flD a b))]) ∧ Below w.heap.size w w' := by
  have h := wFloored_ok (hi a) (lo a) b (hi_64 a) (lo_64 a) hb hb0 true (.inl rfl) w
  rwa [sv_small a ha] at h
theorem floor_0 (a : Int) (w : World) :
    Calls Try.prog 43 #[WV a, .int .i64 0, .bool true] w fun e w' => e = Thr (-10) ∧ Below w.heap.size w w' :=
  wFloored_0 (hi a) (lo a) (hi_64 a) (lo_64 a) true w

set_option maxHeartbeats 400000 in
theorem fClos_0 (a b : Nat) (a0 a1 : Int) (ha0 : is64 a0) (ha1 : is64 a1) (w : World) (h1 : Blk w a #[.int .u64 a0, .int .u64 a1] 24) (h0 : Blk w b #[.int .i64 0] 2) :
    Calls Try.prog 42 #[.pointer (some ⟨a, 0, none⟩), .pointer (some ⟨b, 0, none⟩)] w fun e w' => e = Thr (-10) ∧ Below w.heap.size w w' := by
  obtain ⟨c1, c2, c3⟩ := h0.one
  obtain ⟨d1, d2, d3, d4, d5⟩ := h1.two
  go_enter Try.func42, Try.ntmps42
  go_wp2_with (go_at_call 43; refine (wFloored_0 a0 a1 ha0 ha1 false _).mono ?_; rintro e w1 ⟨rfl, hb_w1⟩)
  exact ⟨rfl, rfl, by repeat (first | (with_reducible exact Below.refl _ _) | (with_reducible assumption) | (with_reducible apply bel_alloc) | (with_reducible apply bel_drew) | (with_reducible refine bel_set ?_ (by first | exact Nat.le_refl _ | (simp; done) | omega | (simp; omega)) _) | (with_reducible refine bel_trans ?_ (by with_reducible assumption)))⟩
attribute [local irreducible] hi lo val
set_option maxHeartbeats 800000 in
theorem fClos (a b : Nat) (a0 a1 y : Int) (ha0 : is64 a0) (ha1 : is64 a1) (hy : isI y) (hy0 : y ≠ 0) (w : World) (h1 : Blk w a #[.int .u64 a0, .int .u64 a1] 24) (h0 : Blk w b #[.int .i64 y] 2) :
    Calls Try.prog 42 #[.pointer (some ⟨a, 0, none⟩), .pointer (some ⟨b, 0, none⟩)] w fun e w' => e = (if fitB (flD (sv a0 a1) y) = true then .returned (.tuple #[.int .i64 (flM (sv a0 a1) y), .int .i64 (flD (sv a0 a1) y)]) else Thr (-11)) ∧ Below w.heap.size w w' := by
  obtain ⟨c1, c2, c3⟩ := h0.one
  obtain ⟨d1, d2, d3, d4, d5⟩ := h1.two
  have HS := fun w => floor_r a0 a1 y ha0 ha1 hy hy0 w
  obtain ⟨M, hM⟩ : ∃ M, M = flM (sv a0 a1) y := ⟨_, rfl⟩
  obtain ⟨D, hD⟩ : ∃ D, D = flD (sv a0 a1) y := ⟨_, rfl⟩
  rw [← hM, ← hD] at HS ⊢
  clear hM hD hy hy0
  by_cases hf : fitB D = true
  · simp only [if_pos hf] at HS ⊢
    have HS' := Lib.hid HS
    clear HS hf
    go_enter Try.func42, Try.ntmps42
    go_wp2_with (first | (go_at_call 43; refine (HS'.out _).mono ?_; rintro e w1 ⟨rfl, hb_w1⟩))
    go_ret2
    exact ⟨rfl, by repeat (first | (with_reducible exact Below.refl _ _) | (with_reducible assumption) | (with_reducible apply bel_alloc) | (with_reducible apply bel_drew) | (with_reducible refine bel_set ?_ (by first | exact Nat.le_refl _ | (simp; done) | omega | (simp; omega)) _) | (with_reducible refine bel_trans ?_ (by with_reducible assumption)))⟩
  · simp only [if_neg hf] at HS ⊢
    have HS' := Lib.hid HS
    clear HS hf
    go_enter Try.func42, Try.ntmps42
    go_wp2_with (first | (go_at_call 43; refine (HS'.out _).mono ?_; rintro e w1 ⟨rfl, hb_w1⟩))
    exact ⟨rfl, rfl, by repeat (first | (with_reducible exact Below.refl _ _) | (with_reducible assumption) | (with_reducible apply bel_alloc) | (with_reducible apply bel_drew) | (with_reducible refine bel_set ?_ (by first | exact Nat.le_refl _ | (simp; done) | omega | (simp; omega)) _) | (with_reducible refine bel_trans ?_ (by with_reducible assumption)))⟩

set_option maxHeartbeats 800000 in
theorem dClos (a b : Nat) (x y : Int) (hx : isI x) (hy : isI y) (hy0 : y ≠ 0) (w : World) (h1 : Blk w a #[.int .i64 x] 2) (h0 : Blk w b #[.int .i64 y] 2) :
    Calls Try.prog 45 #[.pointer (some ⟨a, 0, none⟩), .pointer (some ⟨b, 0, none⟩)] w fun e w' => e = .returned (.tuple #[.int .i64 (flM x y), .int .i64 (wrap64 (flD x y))]) ∧ Below w.heap.size w w' := by
  obtain ⟨c1, c2, c3⟩ := h0.one
  obtain ⟨d1, d2, d3⟩ := h1.one
  have HO := Lib.hid (fun w => wOf x hx w)
  have HS' := fun w => floor_w x y hx hy hy0 w
  obtain ⟨M, hM⟩ : ∃ M, M = flM x y := ⟨_, rfl⟩
  obtain ⟨D, hD⟩ : ∃ D, D = wrap64 (flD x y) := ⟨_, rfl⟩
  rw [← hM, ← hD] at HS' ⊢
  have HS := Lib.hid HS'
  clear HS' hM hD hx hy hy0
  go_enter Try.func45, Try.ntmps45
  go_wp2_with fail
  go_region_with (first | (go_at_call 15; refine (HO.out _).mono ?_; rintro e w1 ⟨rfl, hb_w1⟩; obtain ⟨k1, k2, k3⟩ := (show Blk w1 b #[.int .i64 y] 2 from (by repeat (first | (with_reducible assumption) | (with_reducible refine Blk.new' ?_; first | rfl | (simp; done) | (simp; omega)) | (with_reducible apply Blk.set01) | (with_reducible apply Blk.set0) | (with_reducible apply Blk.set1) | (with_reducible apply Blk.setOne) | (with_reducible refine Blk.set_other ?_ (by omega) _ _) | (with_reducible apply Blk.alloc) | (with_reducible apply Blk.drew) | (with_reducible refine Blk.below ?_ (by with_reducible assumption))))).one) | (go_at_call 43; refine (HS.out _).mono ?_; rintro e w2 ⟨rfl, hb_w2⟩))
  all_goals
    go_wp2
    go_ret2
    exact ⟨rfl, by repeat (first | (with_reducible exact Below.refl _ _) | (with_reducible assumption) | (with_reducible apply bel_alloc) | (with_reducible apply bel_drew) | (with_reducible refine bel_set ?_ (by first | exact Nat.le_refl _ | (simp; done) | omega | (simp; omega)) _) | (with_reducible refine bel_trans ?_ (by with_reducible assumption)))⟩
end Go.Proofs.Ytmanjadnagfhpaa
