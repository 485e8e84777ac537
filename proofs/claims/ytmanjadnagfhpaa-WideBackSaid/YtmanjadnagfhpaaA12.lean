/- The package's own helpers: what is too great to be narrowed; signed quotients. -/
import Derived.Test.YtmanjadnagfhpaaA11
import Derived.WalkSmall
namespace Go.Proofs.Ytmanjadnagfhpaa
open Go.RowKit
set_option linter.unusedVariables false
set_option linter.unusedSimpArgs false
attribute [local go_sem ↓] Go.wp_at_zero Go.wp_at_succ
attribute [local go_sem] cell_set set_set
attribute [local go_sem high] eql24 neq24 grd24

theorem and_no {a b : Bool} (h : (a && b) = false) : a = false ∨ (a = true ∧ b = false) := by cases a <;> simp_all
set_option maxHeartbeats 400000 in
theorem wNarrow_no (Q : Int) (h0 : 0 ≤ Q) (h1 : Q < 340282366920938463463374607431768211456) (m : Bool) (hok : fitB (sg m Q) = false) (w : World) :
    Calls Try.prog 39 #[WV Q, .bool m, .bool false] w fun e w' => e = Thr (-11) ∧ Below w.heap.size w w' := by
  have hl := lo_64 Q
  cases m
  · have f1 := fit_pos Q h0 h1
    rw [hok] at f1
    clear hok
    rcases and_no f1 with f | ⟨f, g⟩
    all_goals
      clear f1
      try have g' := of_decide_eq_false g
      go_enter Try.func39, Try.ntmps39
      go_wp2_with (go_at_call 33; refine (must_no _ _).mono ?_; rintro e w1 ⟨rfl, rfl⟩)
      exact ⟨rfl, rfl, by repeat (first | (with_reducible exact Below.refl _ _) | (with_reducible assumption) | (with_reducible apply bel_alloc) | (with_reducible apply bel_drew) | (with_reducible refine bel_set ?_ (by first | exact Nat.le_refl _ | (simp; done) | omega | (simp; omega)) _) | (with_reducible refine bel_trans ?_ (by with_reducible assumption)))⟩
  · have f1 := fit_neg Q h0 h1
    rw [hok] at f1
    clear hok
    rcases and_no f1 with f | ⟨f, g⟩
    all_goals
      clear f1
      try have g' := of_decide_eq_false g
      go_enter Try.func39, Try.ntmps39
      go_wp2_with (go_at_call 33; refine (must_no _ _).mono ?_; rintro e w1 ⟨rfl, rfl⟩)
      exact ⟨rfl, rfl, by repeat (first | (with_reducible exact Below.refl _ _) | (with_reducible assumption) | (with_reducible apply bel_alloc) | (with_reducible apply bel_drew) | (with_reducible refine bel_set ?_ (by first | exact Nat.le_refl _ | (simp; done) | omega | (simp; omega)) _) | (with_reducible refine bel_trans ?_ (by with_reducible assumption)))⟩

theorem wSigned_0 (a0 a1 : Int) (ha0 : is64 a0) (ha1 : is64 a1) (w : World) :
    Calls Try.prog 38 #[.agg #[.int .u64 a0, .int .u64 a1], .int .i64 0] w fun e w' => e = Thr (-10) ∧ Below w.heap.size w w' := by
  go_enter Try.func38, Try.ntmps38
  go_wp2_with (go_at_call 33; refine (must_no _ _).mono ?_; rintro e w1 ⟨rfl, rfl⟩)
  exact ⟨rfl, rfl, by repeat (first | (with_reducible exact Below.refl _ _) | (with_reducible assumption) | (with_reducible apply bel_alloc) | (with_reducible apply bel_drew) | (with_reducible refine bel_set ?_ (by first | exact Nat.le_refl _ | (simp; done) | omega | (simp; omega)) _) | (with_reducible refine bel_trans ?_ (by with_reducible assumption)))⟩

theorem signed_rest (S b : Int) (hb0 : b ≠ 0) (hb : isI b) : is64 (sz S % sz b) ∧ wrap64 (sz S % sz b) = sz S % sz b ∧ (S < 0 → wrap64 (- (sz S % sz b)) = S.tmod b) ∧ (¬ S < 0 → sz S % sz b = S.tmod b) := by
  have h := (tdm S b hb0).2
  have hb1 : 0 < sz b := by unfold sz; split <;> omega
  have h1 := Int.emod_nonneg (sz S) (b := sz b) (by omega)
  have h2 := Int.emod_lt_of_pos (sz S) hb1
  have h3 : sz b ≤ 9223372036854775808 := by unfold isI at hb; unfold sz; split <;> omega
  refine ⟨⟨by omega, by omega⟩, by unfold wrap64; omega, fun hs => ?_, fun hs => ?_⟩
  · rw [h, if_pos hs]; unfold wrap64; omega
  · rw [h, if_neg hs]
theorem ret_sgn {r M : Int} {v x : Value} {b c : Bool} (h1 : r = M) (h : v = x) (h2 : b = c) : Ending.returned (.tuple #[.int .i64 r, v, .bool b]) = .returned (.tuple #[.int .i64 M, x, .bool c]) := by rw [h1, h, h2]
theorem size_of (b : Int) (hb : isI b) (w : World) : Calls Try.prog 53 #[WV b] w fun e w' => e = .returned (.tuple #[WV (sz b), .bool (decide (b < 0))]) ∧ Below w.heap.size w w' := by
  have h := wSize (hi b) (lo b) (hi_64 b) (lo_64 b) w
  rwa [sv_small b hb] at h

attribute [local irreducible] hi lo val
set_option maxHeartbeats 1600000 in
theorem wSigned (a0 a1 b : Int) (ha0 : is64 a0) (ha1 : is64 a1) (hb : isI b) (hb0 : b ≠ 0) (w : World) :
    Calls Try.prog 38 #[.agg #[.int .u64 a0, .int .u64 a1], .int .i64 b] w fun e w' => e = .returned (.tuple #[.int .i64 ((sv a0 a1).tmod b), WV (sz (sv a0 a1) / sz b), .bool (decide (sv a0 a1 < 0) != decide (b < 0))]) ∧ Below w.heap.size w w' := by
  have hbd := sv_bd a0 a1 ha0 ha1
  have H1 := fun w => wSize a0 a1 ha0 ha1 w
  have H2 := fun w => size_of b hb w
  have hy := sz_64 hb
  have hy0 : 0 < sz b := by unfold sz; split <;> omega
  obtain ⟨S, hS⟩ : ∃ S, S = sv a0 a1 := ⟨_, rfl⟩
  rw [← hS] at H1 hbd ⊢
  clear hS
  obtain ⟨hr1, hr2, hr3, hr4⟩ := signed_rest S b hb0 hb
  obtain ⟨y, hyd⟩ : ∃ y, y = sz b := ⟨_, rfl⟩
  obtain ⟨X, hX⟩ : ∃ X, X = sz S := ⟨_, rfl⟩
  have hXb : 0 ≤ X ∧ X < 340282366920938463463374607431768211456 := by rw [hX]; unfold sz; split <;> omega
  rw [← hyd] at H2 hy hy0 hr1 hr2 hr3 hr4 ⊢
  rw [← hX] at H1 hr1 hr2 hr3 hr4 ⊢
  have HD := fun w => wDivide (hi X) (lo X) y (hi_64 X) (lo_64 X) hy hy0 w
  rw [T_val X hXb.1 hXb.2] at HD
  obtain ⟨q, hq⟩ : ∃ q, q = X / y := ⟨_, rfl⟩
  obtain ⟨r, hr⟩ : ∃ r, r = X % y := ⟨_, rfl⟩
  rw [← hr] at HD hr1 hr2 hr3 hr4
  rw [← hq] at HD ⊢
  have hly : lo y = y := by unfold is64 at hy; unfold lo; omega
  obtain ⟨M, hM⟩ : ∃ M, M = S.tmod b := ⟨_, rfl⟩
  rw [← hM] at hr3 hr4 ⊢
  have hbn : (b != 0) = true := by rw [bne_iff_ne]; exact hb0
  have HO := Lib.hid (fun w => wOf b hb w)
  obtain ⟨n, hn⟩ : ∃ n, n = decide (S < 0) := ⟨_, rfl⟩
  obtain ⟨m, hm⟩ : ∃ m, m = decide (b < 0) := ⟨_, rfl⟩
  have hr3' : n = true → wrap64 (-r) = M := fun h => hr3 (by rw [hn] at h; simpa using h)
  have hr4' : n = false → r = M := fun h => hr4 (by rw [hn] at h; exact of_decide_eq_false h)
  rw [← hn] at H1 ⊢
  rw [← hm] at H2 ⊢
  have H1' := Lib.hid H1
  have H2' := Lib.hid H2
  have HD' := Lib.hid HD
  clear H1 H2 HD hM hq hr hXb hX hyd hbd hy0 hb hr3 hr4 hn hm
  have htq := lo_64 q
  have htq2 := hi_64 q
  have hall : n = true ∧ wrap64 (-r) = M ∨ n = false ∧ r = M := by cases n; exact .inr ⟨rfl, hr4' rfl⟩; exact .inl ⟨rfl, hr3' rfl⟩
  clear hr3' hr4'
  rcases hall with ⟨rfl, hr3⟩ | ⟨rfl, rfl⟩
  · go_enter Try.func38, Try.ntmps38
    go_wp2_with (first | (go_at_call 33; refine (must_ok _ _).mono ?_; rintro e w1 ⟨rfl, rfl⟩) | (go_at_call_of 53 a0; refine (H1'.out _).mono ?_; rintro e w1 ⟨rfl, hb_w1⟩; have ql1 : w.heap.size + 1 + 1 ≤ w1.heap.size := (by have := hb_w1.size; (simp at this; omega)); obtain ⟨k1, k2, k3, k4, k5⟩ := (show Blk w1 (w.heap.size + 1) #[.int .u64 0, .int .u64 0] 24 from (by repeat (first | (with_reducible assumption) | (with_reducible refine Blk.new' ?_; first | rfl | (simp; done) | (simp; omega)) | (with_reducible apply Blk.set01) | (with_reducible apply Blk.set0) | (with_reducible apply Blk.set1) | (with_reducible apply Blk.setOne) | (with_reducible refine Blk.set_other ?_ (by omega) _ _) | (with_reducible apply Blk.alloc) | (with_reducible apply Blk.drew) | (with_reducible refine Blk.below ?_ (by with_reducible assumption))))).two) | (go_at_call 15; refine (HO.out _).mono ?_; rintro e w2 ⟨rfl, hb_w2⟩; have ql2 : w1.heap.size + 1 ≤ w2.heap.size := (by have := hb_w2.size; (simp at this; omega)); obtain ⟨j1, j2, j3, j4, j5⟩ := (show Blk w2 (w.heap.size + 1) #[.int .u64 0, .int .u64 0] 24 from (by repeat (first | (with_reducible assumption) | (with_reducible refine Blk.new' ?_; first | rfl | (simp; done) | (simp; omega)) | (with_reducible apply Blk.set01) | (with_reducible apply Blk.set0) | (with_reducible apply Blk.set1) | (with_reducible apply Blk.setOne) | (with_reducible refine Blk.set_other ?_ (by omega) _ _) | (with_reducible apply Blk.alloc) | (with_reducible apply Blk.drew) | (with_reducible refine Blk.below ?_ (by with_reducible assumption))))).two; obtain ⟨i1, i2, i3, i4, i5⟩ := (show Blk w2 (w1.heap.size) #[.int .u64 (hi X), .int .u64 (lo X)] 24 from (by repeat (first | (with_reducible assumption) | (with_reducible refine Blk.new' ?_; first | rfl | (simp; done) | (simp; omega)) | (with_reducible apply Blk.set01) | (with_reducible apply Blk.set0) | (with_reducible apply Blk.set1) | (with_reducible apply Blk.setOne) | (with_reducible refine Blk.set_other ?_ (by omega) _ _) | (with_reducible apply Blk.alloc) | (with_reducible apply Blk.drew) | (with_reducible refine Blk.below ?_ (by with_reducible assumption))))).two) | (go_at_call_of 53 (WV b); refine (H2'.out _).mono ?_; rintro e w3 ⟨rfl, hb_w3⟩; have ql3 : w2.heap.size ≤ w3.heap.size := hb_w3.size; obtain ⟨l1, l2, l3, l4, l5⟩ := (show Blk w3 (w.heap.size + 1) #[.int .u64 0, .int .u64 0] 24 from (by repeat (first | (with_reducible assumption) | (with_reducible refine Blk.new' ?_; first | rfl | (simp; done) | (simp; omega)) | (with_reducible apply Blk.set01) | (with_reducible apply Blk.set0) | (with_reducible apply Blk.set1) | (with_reducible apply Blk.setOne) | (with_reducible refine Blk.set_other ?_ (by omega) _ _) | (with_reducible apply Blk.alloc) | (with_reducible apply Blk.drew) | (with_reducible refine Blk.below ?_ (by with_reducible assumption))))).two; obtain ⟨m1, m2, m3, m4, m5⟩ := (show Blk w3 (w1.heap.size) #[.int .u64 (hi X), .int .u64 (lo X)] 24 from (by repeat (first | (with_reducible assumption) | (with_reducible refine Blk.new' ?_; first | rfl | (simp; done) | (simp; omega)) | (with_reducible apply Blk.set01) | (with_reducible apply Blk.set0) | (with_reducible apply Blk.set1) | (with_reducible apply Blk.setOne) | (with_reducible refine Blk.set_other ?_ (by omega) _ _) | (with_reducible apply Blk.alloc) | (with_reducible apply Blk.drew) | (with_reducible refine Blk.below ?_ (by with_reducible assumption))))).two) | (go_at_call 34; refine (HD'.out _).mono ?_; rintro e w4 ⟨rfl, hb_w4⟩; have ql4 : w3.heap.size + 1 ≤ w4.heap.size := (by have := hb_w4.size; (simp at this; omega)); obtain ⟨n1, n2, n3, n4, n5⟩ := (show Blk w4 (w.heap.size + 1) #[.int .u64 0, .int .u64 0] 24 from (by repeat (first | (with_reducible assumption) | (with_reducible refine Blk.new' ?_; first | rfl | (simp; done) | (simp; omega)) | (with_reducible apply Blk.set01) | (with_reducible apply Blk.set0) | (with_reducible apply Blk.set1) | (with_reducible apply Blk.setOne) | (with_reducible refine Blk.set_other ?_ (by omega) _ _) | (with_reducible apply Blk.alloc) | (with_reducible apply Blk.drew) | (with_reducible refine Blk.below ?_ (by with_reducible assumption))))).two))
    go_region
    all_goals
      go_wp2
      cases m
      all_goals
        refine ret_blk (v := .tuple #[.int .i64 M, .agg #[.int .u64 (hi q), .int .u64 (lo q)], .bool _]) (w.heap.size + 1) #[.int .u64 (hi q), .int .u64 (lo q)] 24 (by repeat (first | (with_reducible assumption) | (with_reducible refine Blk.new' ?_; first | rfl | (simp; done) | (simp; omega)) | (with_reducible apply Blk.set01) | (with_reducible apply Blk.set0) | (with_reducible apply Blk.set1) | (with_reducible apply Blk.setOne) | (with_reducible refine Blk.set_other ?_ (by omega) _ _) | (with_reducible apply Blk.alloc) | (with_reducible apply Blk.drew) | (with_reducible refine Blk.below ?_ (by with_reducible assumption)))) (fun w' h => by obtain ⟨c1, c2, _⟩ := h.two; simp [results, Try.results38, go_sem, c1, c2, hr2, hr3]) rfl ⟨rfl, by repeat (first | (with_reducible exact Below.refl _ _) | (with_reducible assumption) | (with_reducible apply bel_alloc) | (with_reducible apply bel_drew) | (with_reducible refine bel_set ?_ (by first | exact Nat.le_refl _ | (simp; done) | omega | (simp; omega)) _) | (with_reducible refine bel_trans ?_ (by with_reducible assumption)))⟩
  · go_enter Try.func38, Try.ntmps38
    go_wp2_with (first | (go_at_call 33; refine (must_ok _ _).mono ?_; rintro e w1 ⟨rfl, rfl⟩) | (go_at_call_of 53 a0; refine (H1'.out _).mono ?_; rintro e w1 ⟨rfl, hb_w1⟩; have ql1 : w.heap.size + 1 + 1 ≤ w1.heap.size := (by have := hb_w1.size; (simp at this; omega)); obtain ⟨k1, k2, k3, k4, k5⟩ := (show Blk w1 (w.heap.size + 1) #[.int .u64 0, .int .u64 0] 24 from (by repeat (first | (with_reducible assumption) | (with_reducible refine Blk.new' ?_; first | rfl | (simp; done) | (simp; omega)) | (with_reducible apply Blk.set01) | (with_reducible apply Blk.set0) | (with_reducible apply Blk.set1) | (with_reducible apply Blk.setOne) | (with_reducible refine Blk.set_other ?_ (by omega) _ _) | (with_reducible apply Blk.alloc) | (with_reducible apply Blk.drew) | (with_reducible refine Blk.below ?_ (by with_reducible assumption))))).two) | (go_at_call 15; refine (HO.out _).mono ?_; rintro e w2 ⟨rfl, hb_w2⟩; have ql2 : w1.heap.size + 1 ≤ w2.heap.size := (by have := hb_w2.size; (simp at this; omega)); obtain ⟨j1, j2, j3, j4, j5⟩ := (show Blk w2 (w.heap.size + 1) #[.int .u64 0, .int .u64 0] 24 from (by repeat (first | (with_reducible assumption) | (with_reducible refine Blk.new' ?_; first | rfl | (simp; done) | (simp; omega)) | (with_reducible apply Blk.set01) | (with_reducible apply Blk.set0) | (with_reducible apply Blk.set1) | (with_reducible apply Blk.setOne) | (with_reducible refine Blk.set_other ?_ (by omega) _ _) | (with_reducible apply Blk.alloc) | (with_reducible apply Blk.drew) | (with_reducible refine Blk.below ?_ (by with_reducible assumption))))).two; obtain ⟨i1, i2, i3, i4, i5⟩ := (show Blk w2 (w1.heap.size) #[.int .u64 (hi X), .int .u64 (lo X)] 24 from (by repeat (first | (with_reducible assumption) | (with_reducible refine Blk.new' ?_; first | rfl | (simp; done) | (simp; omega)) | (with_reducible apply Blk.set01) | (with_reducible apply Blk.set0) | (with_reducible apply Blk.set1) | (with_reducible apply Blk.setOne) | (with_reducible refine Blk.set_other ?_ (by omega) _ _) | (with_reducible apply Blk.alloc) | (with_reducible apply Blk.drew) | (with_reducible refine Blk.below ?_ (by with_reducible assumption))))).two) | (go_at_call_of 53 (WV b); refine (H2'.out _).mono ?_; rintro e w3 ⟨rfl, hb_w3⟩; have ql3 : w2.heap.size ≤ w3.heap.size := hb_w3.size; obtain ⟨l1, l2, l3, l4, l5⟩ := (show Blk w3 (w.heap.size + 1) #[.int .u64 0, .int .u64 0] 24 from (by repeat (first | (with_reducible assumption) | (with_reducible refine Blk.new' ?_; first | rfl | (simp; done) | (simp; omega)) | (with_reducible apply Blk.set01) | (with_reducible apply Blk.set0) | (with_reducible apply Blk.set1) | (with_reducible apply Blk.setOne) | (with_reducible refine Blk.set_other ?_ (by omega) _ _) | (with_reducible apply Blk.alloc) | (with_reducible apply Blk.drew) | (with_reducible refine Blk.below ?_ (by with_reducible assumption))))).two; obtain ⟨m1, m2, m3, m4, m5⟩ := (show Blk w3 (w1.heap.size) #[.int .u64 (hi X), .int .u64 (lo X)] 24 from (by repeat (first | (with_reducible assumption) | (with_reducible refine Blk.new' ?_; first | rfl | (simp; done) | (simp; omega)) | (with_reducible apply Blk.set01) | (with_reducible apply Blk.set0) | (with_reducible apply Blk.set1) | (with_reducible apply Blk.setOne) | (with_reducible refine Blk.set_other ?_ (by omega) _ _) | (with_reducible apply Blk.alloc) | (with_reducible apply Blk.drew) | (with_reducible refine Blk.below ?_ (by with_reducible assumption))))).two) | (go_at_call 34; refine (HD'.out _).mono ?_; rintro e w4 ⟨rfl, hb_w4⟩; have ql4 : w3.heap.size + 1 ≤ w4.heap.size := (by have := hb_w4.size; (simp at this; omega)); obtain ⟨n1, n2, n3, n4, n5⟩ := (show Blk w4 (w.heap.size + 1) #[.int .u64 0, .int .u64 0] 24 from (by repeat (first | (with_reducible assumption) | (with_reducible refine Blk.new' ?_; first | rfl | (simp; done) | (simp; omega)) | (with_reducible apply Blk.set01) | (with_reducible apply Blk.set0) | (with_reducible apply Blk.set1) | (with_reducible apply Blk.setOne) | (with_reducible refine Blk.set_other ?_ (by omega) _ _) | (with_reducible apply Blk.alloc) | (with_reducible apply Blk.drew) | (with_reducible refine Blk.below ?_ (by with_reducible assumption))))).two))
    go_region
    all_goals
      go_wp2
      cases m
      all_goals
        refine ret_blk (v := .tuple #[.int .i64 r, .agg #[.int .u64 (hi q), .int .u64 (lo q)], .bool _]) (w.heap.size + 1) #[.int .u64 (hi q), .int .u64 (lo q)] 24 (by repeat (first | (with_reducible assumption) | (with_reducible refine Blk.new' ?_; first | rfl | (simp; done) | (simp; omega)) | (with_reducible apply Blk.set01) | (with_reducible apply Blk.set0) | (with_reducible apply Blk.set1) | (with_reducible apply Blk.setOne) | (with_reducible refine Blk.set_other ?_ (by omega) _ _) | (with_reducible apply Blk.alloc) | (with_reducible apply Blk.drew) | (with_reducible refine Blk.below ?_ (by with_reducible assumption)))) (fun w' h => by obtain ⟨c1, c2, _⟩ := h.two; simp [results, Try.results38, go_sem, c1, c2, hr2]) rfl ⟨rfl, by repeat (first | (with_reducible exact Below.refl _ _) | (with_reducible assumption) | (with_reducible apply bel_alloc) | (with_reducible apply bel_drew) | (with_reducible refine bel_set ?_ (by first | exact Nat.le_refl _ | (simp; done) | omega | (simp; omega)) _) | (with_reducible refine bel_trans ?_ (by with_reducible assumption)))⟩
end Go.Proofs.Ytmanjadnagfhpaa
