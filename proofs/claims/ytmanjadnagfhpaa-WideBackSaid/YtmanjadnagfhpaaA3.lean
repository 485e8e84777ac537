/- The reference's signed product, and its division bit by bit. -/
import Derived.Test.YtmanjadnagfhpaaA2
import Derived.Deep.RegionHeld3
import Derived.Deep.DrawnRows
namespace Go.Proofs.Ytmanjadnagfhpaa
open Go.RowKit
set_option linter.unusedVariables false
set_option linter.unusedSimpArgs false

theorem sz_mul (a b : Int) : (a < 0 ↔ b < 0) → sz a * sz b = a * b := by
  intro h
  unfold sz
  by_cases h1 : a < 0
  · rw [if_pos h1, if_pos (h.1 h1), Int.neg_mul_neg]
  · rw [if_neg h1, if_neg (fun h2 => h1 (h.2 h2))]
theorem sz_mul' (a b : Int) (h : ¬ (a < 0 ↔ b < 0)) : sz a * sz b = - (a * b) := by
  unfold sz
  by_cases h1 : a < 0
  · rw [if_pos h1, if_neg (fun h2 => h ⟨fun _ => h2, fun _ => h1⟩), Int.neg_mul]
  · rw [if_neg h1]
    by_cases h2 : b < 0
    · rw [if_pos h2, Int.mul_neg]
    · exact absurd ⟨fun h3 => absurd h3 h1, fun h3 => absurd h3 h2⟩ h

set_option maxHeartbeats 800000 in
theorem rMul (a b : Int) (ha : isI a) (hb : isI b) (w : World) :
    Calls Try.prog 26 #[.int .i64 a, .int .i64 b] w fun e w' => e = .returned (WV (a * b)) ∧ Below w.heap.size w w' := by
  have sa := sz_64 ha
  have sb := sz_64 hb
  by_cases hs : (a < 0 ↔ b < 0)
  · have HP := Lib.hid (sz_mul a b hs)
    obtain ⟨p, hp⟩ : ∃ p, p = sz a * sz b := ⟨_, rfl⟩
    have HU : ∀ w, Calls Try.prog 28 #[.int .u64 (sz a), .int .u64 (sz b)] w fun e w' => e = .returned (WV p) ∧ Below w.heap.size w w' := fun w => by rw [hp]; exact rUMul _ _ sa sb w
    have HU := Lib.hid HU
    have HQ := Lib.hid (hp.trans HP.out)
    clear hp HP
    have hd : decide (a < 0) = decide (b < 0) := by congr 1; exact propext hs
    go_enter Try.func26, Try.ntmps26
    go_wp2_with (first | (go_at_call 46; refine (rSize _ (by assumption) _).mono ?_; rintro e w1 ⟨rfl, rfl⟩) | (go_at_call 28; refine (HU.out _).mono ?_; rintro e w1 ⟨rfl, hb_w1⟩; obtain ⟨hc_w1, hf_w1⟩ := bcell hb_w1; have hz_w1 := hb_w1.size; (try simp only [World.size_alloc, World.size_setCell] at hz_w1 hc_w1 hf_w1); have qw10 : w.heap.size < w1.heap.size := (by omega); clear hz_w1))
    refine ret_blk (v := WV (p)) (w.heap.size) #[.int .u64 (hi (p)), .int .u64 (lo (p))] 24 (by repeat (first | (with_reducible assumption) | (with_reducible refine Blk.new' ?_; first | rfl | (simp; done) | (simp; omega)) | (with_reducible apply Blk.set01) | (with_reducible apply Blk.set0) | (with_reducible apply Blk.set1) | (with_reducible apply Blk.setOne) | (with_reducible refine Blk.set_other ?_ (by omega) _ _) | (with_reducible apply Blk.alloc) | (with_reducible apply Blk.drew) | (with_reducible refine Blk.below ?_ (by with_reducible assumption)))) (fun w' h => by obtain ⟨c1, c2, _⟩ := h.two; simp [results, Try.results26, go_sem, c1, c2]) rfl ⟨by rw [HQ.out], by repeat (first | (with_reducible exact Below.refl _ _) | (with_reducible assumption) | (with_reducible apply bel_alloc) | (with_reducible apply bel_drew) | (with_reducible refine bel_set ?_ (by first | exact Nat.le_refl _ | (simp; done) | omega | (simp; omega)) _) | (with_reducible refine bel_trans ?_ (by with_reducible assumption)))⟩
  · have HP := Lib.hid (sz_mul' a b hs)
    obtain ⟨p, hp⟩ : ∃ p, p = sz a * sz b := ⟨_, rfl⟩
    have HU : ∀ w, Calls Try.prog 28 #[.int .u64 (sz a), .int .u64 (sz b)] w fun e w' => e = .returned (WV p) ∧ Below w.heap.size w w' := fun w => by rw [hp]; exact rUMul _ _ sa sb w
    have HU := Lib.hid HU
    have HQ : WV (- val (hi p) (lo p)) = WV (a * b) := by
      apply WVc; rw [val_hl, hp, HP.out]; omega
    have HQ' := Lib.hid HQ
    clear hp HP HQ
    have hph := hi_64 p
    have hpl := lo_64 p
    have hd : (decide (a < 0) == decide (b < 0)) = false := by
      rw [beq_eq_false_iff_ne]; intro h; exact hs (decide_eq_decide.1 h)
    have hd' : (decide (a < 0) != decide (b < 0)) = true := by simp only [bne, hd]; rfl
    have hd2 : ¬ decide (a < 0) = decide (b < 0) := by
      intro h; exact hs (decide_eq_decide.1 h)
    go_enter Try.func26, Try.ntmps26
    go_wp2_with (first | (go_at_call 46; refine (rSize _ (by assumption) _).mono ?_; rintro e w1 ⟨rfl, rfl⟩) | (go_at_call 28; refine (HU.out _).mono ?_; rintro e w1 ⟨rfl, hb_w1⟩; obtain ⟨hc_w1, hf_w1⟩ := bcell hb_w1; have hz_w1 := hb_w1.size; (try simp only [World.size_alloc, World.size_setCell] at hz_w1 hc_w1 hf_w1); have qw10 : w.heap.size < w1.heap.size := (by omega); clear hz_w1) | (go_at_call 14; refine (rNeg _ _ hph hpl _).mono ?_; rintro e w2 ⟨rfl, hb2⟩; obtain ⟨hc2, hf2⟩ := bcell hb2; have hz2 := hb2.size; (try simp only [World.size_alloc, World.size_setCell] at hz2 hc2 hf2); have q2 : w.heap.size < w2.heap.size := (by omega)))
    refine ret_blk (v := WV (- val (hi p) (lo p))) (w.heap.size) #[.int .u64 (hi (- val (hi p) (lo p))), .int .u64 (lo (- val (hi p) (lo p)))] 24 (by repeat (first | (with_reducible assumption) | (with_reducible refine Blk.new' ?_; first | rfl | (simp; done) | (simp; omega)) | (with_reducible apply Blk.set01) | (with_reducible apply Blk.set0) | (with_reducible apply Blk.set1) | (with_reducible apply Blk.setOne) | (with_reducible refine Blk.set_other ?_ (by omega) _ _) | (with_reducible apply Blk.alloc) | (with_reducible apply Blk.drew) | (with_reducible refine Blk.below ?_ (by with_reducible assumption)))) (fun w' h => by obtain ⟨c1, c2, _⟩ := h.two; simp [results, Try.results26, go_sem, c1, c2]) rfl ⟨by rw [HQ'.out], by repeat (first | (with_reducible exact Below.refl _ _) | (with_reducible assumption) | (with_reducible apply bel_alloc) | (with_reducible apply bel_drew) | (with_reducible refine bel_set ?_ (by first | exact Nat.le_refl _ | (simp; done) | omega | (simp; omega)) _) | (with_reducible refine bel_trans ?_ (by with_reducible assumption)))⟩
end Go.Proofs.Ytmanjadnagfhpaa
