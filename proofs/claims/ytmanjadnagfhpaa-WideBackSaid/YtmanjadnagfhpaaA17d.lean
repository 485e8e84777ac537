/- Rounded down: the closures; and the functions that the package hands out. -/
import Derived.Test.YtmanjadnagfhpaaA17
namespace Go.Proofs.Ytmanjadnagfhpaa
open Go.RowKit
set_option linter.unusedVariables false
set_option linter.unusedSimpArgs false
attribute [local go_sem ↓] Go.wp_at_zero Go.wp_at_succ
attribute [local go_sem] cell_set set_set
attribute [local go_sem high] eql24 neq24 grd24

set_option maxHeartbeats 800000 in
theorem dClos_0 (a b : Nat) (x : Int) (hx : isI x) (w : World) (h1 : Blk w a #[.int .i64 x] 2) (h0 : Blk w b #[.int .i64 0] 2) :
    Calls Try.prog 45 #[.pointer (some ⟨a, 0, none⟩), .pointer (some ⟨b, 0, none⟩)] w fun e w' => e = Thr (-10) ∧ Below w.heap.size w w' := by
  obtain ⟨c1, c2, c3⟩ := h0.one
  obtain ⟨d1, d2, d3⟩ := h1.one
  have HO := Lib.hid (fun w => wOf x hx w)
  have HS := Lib.hid (fun w => floor_0 x w)
  clear hx
  go_enter Try.func45, Try.ntmps45
  go_wp2_with fail
  refine wp_region_any (by kernel_rfl) ?_
  refine wpAny_ready (rs := [0, 2]) (by kernel_rfl) (by simp) ?_
  refine AllReady.cons rfl (fun K hK => ?_) ?_
  · go_simp; refine hK _ _ ?_; clear hK K
    refine wpAny_ready (rs := [1, 2]) (by kernel_rfl) (by simp) ?_
    refine AllReady.cons rfl (fun K hK => ?_) ?_
    · go_simp; go_wp2_with (go_at_call 15; refine (HO.out _).mono ?_; rintro e w1 ⟨rfl, hb_w1⟩; obtain ⟨k1, k2, k3⟩ := (show Blk w1 b #[.int .i64 0] 2 from (by repeat (first | (with_reducible assumption) | (with_reducible refine Blk.new' ?_; first | rfl | (simp; done) | (simp; omega)) | (with_reducible apply Blk.set01) | (with_reducible apply Blk.set0) | (with_reducible apply Blk.set1) | (with_reducible apply Blk.setOne) | (with_reducible refine Blk.set_other ?_ (by omega) _ _) | (with_reducible apply Blk.alloc) | (with_reducible apply Blk.drew) | (with_reducible refine Blk.below ?_ (by with_reducible assumption))))).one)
      refine wpAny_ready (rs := [2]) (by kernel_rfl) (by simp) ?_
      refine AllReady.cons rfl (fun K hK => ?_) ?_
      · go_simp; refine hK _ _ ?_; clear hK K
        refine wpAny_ready (rs := [3]) (by kernel_rfl) (by simp) ?_
        refine AllReady.cons rfl (fun K hK => ?_) ?_
        · go_simp; go_wp2_with (go_at_call 43; refine (HS.out _).mono ?_; rintro e w2 ⟨rfl, hb_w2⟩)
          skip
          exact ⟨rfl, rfl, by repeat (first | (with_reducible exact Below.refl _ _) | (with_reducible assumption) | (with_reducible apply bel_alloc) | (with_reducible apply bel_drew) | (with_reducible refine bel_set ?_ (by first | exact Nat.le_refl _ | (simp; done) | omega | (simp; omega)) _) | (with_reducible refine bel_trans ?_ (by with_reducible assumption)))⟩
        exact AllReady.nil
      exact AllReady.nil
    refine AllReady.cons rfl (fun K hK => ?_) ?_
    · go_simp; refine hK _ _ ?_; clear hK K
      refine wpAny_ready (rs := [1]) (by kernel_rfl) (by simp) ?_
      refine AllReady.cons rfl (fun K hK => ?_) ?_
      · go_simp; go_wp2_with (go_at_call 15; refine (HO.out _).mono ?_; rintro e w1 ⟨rfl, hb_w1⟩; obtain ⟨k1, k2, k3⟩ := (show Blk w1 b #[.int .i64 0] 2 from (by repeat (first | (with_reducible assumption) | (with_reducible refine Blk.new' ?_; first | rfl | (simp; done) | (simp; omega)) | (with_reducible apply Blk.set01) | (with_reducible apply Blk.set0) | (with_reducible apply Blk.set1) | (with_reducible apply Blk.setOne) | (with_reducible refine Blk.set_other ?_ (by omega) _ _) | (with_reducible apply Blk.alloc) | (with_reducible apply Blk.drew) | (with_reducible refine Blk.below ?_ (by with_reducible assumption))))).one)
        refine wpAny_ready (rs := [3]) (by kernel_rfl) (by simp) ?_
        refine AllReady.cons rfl (fun K hK => ?_) ?_
        · go_simp; go_wp2_with (go_at_call 43; refine (HS.out _).mono ?_; rintro e w2 ⟨rfl, hb_w2⟩)
          skip
          exact ⟨rfl, rfl, by repeat (first | (with_reducible exact Below.refl _ _) | (with_reducible assumption) | (with_reducible apply bel_alloc) | (with_reducible apply bel_drew) | (with_reducible refine bel_set ?_ (by first | exact Nat.le_refl _ | (simp; done) | omega | (simp; omega)) _) | (with_reducible refine bel_trans ?_ (by with_reducible assumption)))⟩
        exact AllReady.nil
      exact AllReady.nil
    exact AllReady.nil
  refine AllReady.cons rfl (fun K hK => ?_) ?_
  · go_simp; refine hK _ _ ?_; clear hK K
    refine wpAny_ready (rs := [0]) (by kernel_rfl) (by simp) ?_
    refine AllReady.cons rfl (fun K hK => ?_) ?_
    · go_simp; refine hK _ _ ?_; clear hK K
      refine wpAny_ready (rs := [1]) (by kernel_rfl) (by simp) ?_
      refine AllReady.cons rfl (fun K hK => ?_) ?_
      · go_simp; go_wp2_with (go_at_call 15; refine (HO.out _).mono ?_; rintro e w1 ⟨rfl, hb_w1⟩; obtain ⟨k1, k2, k3⟩ := (show Blk w1 b #[.int .i64 0] 2 from (by repeat (first | (with_reducible assumption) | (with_reducible refine Blk.new' ?_; first | rfl | (simp; done) | (simp; omega)) | (with_reducible apply Blk.set01) | (with_reducible apply Blk.set0) | (with_reducible apply Blk.set1) | (with_reducible apply Blk.setOne) | (with_reducible refine Blk.set_other ?_ (by omega) _ _) | (with_reducible apply Blk.alloc) | (with_reducible apply Blk.drew) | (with_reducible refine Blk.below ?_ (by with_reducible assumption))))).one)
        refine wpAny_ready (rs := [3]) (by kernel_rfl) (by simp) ?_
        refine AllReady.cons rfl (fun K hK => ?_) ?_
        · go_simp; go_wp2_with (go_at_call 43; refine (HS.out _).mono ?_; rintro e w2 ⟨rfl, hb_w2⟩)
          skip
          exact ⟨rfl, rfl, by repeat (first | (with_reducible exact Below.refl _ _) | (with_reducible assumption) | (with_reducible apply bel_alloc) | (with_reducible apply bel_drew) | (with_reducible refine bel_set ?_ (by first | exact Nat.le_refl _ | (simp; done) | omega | (simp; omega)) _) | (with_reducible refine bel_trans ?_ (by with_reducible assumption)))⟩
        exact AllReady.nil
      exact AllReady.nil
    exact AllReady.nil
  exact AllReady.nil
end Go.Proofs.Ytmanjadnagfhpaa
