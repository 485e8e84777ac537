/- Signed division by the reference: quotient rounded to 0, and rest. -/
import Derived.Test.YtmanjadnagfhpaaA4
namespace Go.Proofs.Ytmanjadnagfhpaa
open Go.RowKit
set_option linter.unusedVariables false
set_option linter.unusedSimpArgs false
attribute [local go_sem ↓] Go.wp_at_zero Go.wp_at_succ
attribute [local go_sem] cell_set set_set

/-- A wide number as a signed one. -/
def sv (h l : Int) : Int := if 9223372036854775808 ≤ h then val h l - 340282366920938463463374607431768211456 else val h l
theorem sv_bd (h l : Int) (hh : is64 h) (hl : is64 l) : -170141183460469231731687303715884105728 ≤ sv h l ∧ sv h l < 170141183460469231731687303715884105728 := by
  unfold is64 at *; unfold sv val; split <;> omega
theorem sv_neg (h l : Int) (hh : is64 h) (hl : is64 l) : (sv h l < 0 ↔ 9223372036854775808 ≤ h) := by
  unfold is64 at *; unfold sv val; split <;> omega
theorem neg_abs (h l : Int) (hh : is64 h) (hl : is64 l) (hn : sv h l < 0) : WV (- val h l) = WV (- sv h l) := by
  have h1 := (sv_neg h l hh hl).1 hn
  apply WVc; unfold sv; rw [if_pos h1]; omega
theorem pos_val (h l : Int) (hh : is64 h) (hl : is64 l) (hn : ¬ sv h l < 0) : val h l = sv h l := by
  have h1 : ¬ 9223372036854775808 ≤ h := fun h2 => hn ((sv_neg h l hh hl).2 h2)
  unfold sv; rw [if_neg h1]
theorem tdm (S b : Int) (hb : b ≠ 0) : S.tdiv b = (if S < 0 then (if b < 0 then sz S / sz b else - (sz S / sz b)) else (if b < 0 then - (sz S / sz b) else sz S / sz b)) ∧ S.tmod b = (if S < 0 then - (sz S % sz b) else sz S % sz b) := by
  unfold sz
  by_cases h1 : S < 0 <;> by_cases h2 : b < 0
  · simp only [if_pos h1, if_pos h2]
    obtain ⟨x, rfl⟩ : ∃ x, S = - x := ⟨- S, by omega⟩
    obtain ⟨y, rfl⟩ : ∃ y, b = - y := ⟨- b, by omega⟩
    rw [Int.neg_tdiv_neg, Int.neg_neg, Int.neg_neg, Int.neg_tmod, Int.tmod_neg, Int.tdiv_eq_ediv_of_nonneg (by omega), Int.tmod_eq_emod_of_nonneg (by omega)]
    exact ⟨rfl, rfl⟩
  · simp only [if_pos h1, if_neg h2]
    obtain ⟨x, rfl⟩ : ∃ x, S = - x := ⟨- S, by omega⟩
    rw [Int.neg_tdiv, Int.neg_neg, Int.neg_tmod, Int.tdiv_eq_ediv_of_nonneg (by omega), Int.tmod_eq_emod_of_nonneg (by omega)]
    exact ⟨rfl, rfl⟩
  · simp only [if_neg h1, if_pos h2]
    obtain ⟨y, rfl⟩ : ∃ y, b = - y := ⟨- b, by omega⟩
    rw [Int.tdiv_neg, Int.neg_neg, Int.tmod_neg, Int.tdiv_eq_ediv_of_nonneg (by omega), Int.tmod_eq_emod_of_nonneg (by omega)]
    exact ⟨rfl, rfl⟩
  · simp only [if_neg h1, if_neg h2]
    rw [Int.tdiv_eq_ediv_of_nonneg (by omega), Int.tmod_eq_emod_of_nonneg (by omega)]
    exact ⟨rfl, rfl⟩
theorem WV_small (r : Int) (h : is64 r) : (.agg #[.int .u64 0, .int .u64 r] : Value) = WV r := by
  unfold is64 at h
  have e1 : hi r = 0 := by unfold hi; omega
  have e2 : lo r = r := by unfold lo; omega
  rw [WV, e1, e2]
theorem small_hl (r : Int) (h : is64 r) : hi r = 0 ∧ lo r = r := by
  unfold is64 at h
  exact ⟨by unfold hi; omega, by unfold lo; omega⟩



theorem ret_blk2 {P : Program} {R' : Ending → World → Prop} {fn : Func} {a : Act} {w : World} {v : Value} (b b' : Nat) (c c' : Array Value) (t t' : TypeId) (hB : Blk w b c t) (hB' : Blk w b' c' t')
    (hres : ∀ w', Blk w' b c t → Blk w' b' c' t' → (results fn a.tmps).run P w' = .ok v w') (hd : a.defers = []) (hR : R' (.returned v) w) : bodyPost P fn R' .ret a w := ⟨hd, v, hres w hB hB', hR⟩

set_option maxHeartbeats 3200000 in
theorem rSigned_nn (a0 a1 b : Int) (ha0 : is64 a0) (ha1 : is64 a1) (hb : isI b) (hb0 : b ≠ 0) (hS : sv a0 a1 < 0) (hbn : b < 0) (w : World) :
    Calls Try.prog 40 #[.agg #[.int .u64 a0, .int .u64 a1], .int .i64 b] w fun e w' => e = .returned (.tuple #[WV ((sv a0 a1).tdiv b), WV ((sv a0 a1).tmod b)]) ∧ Below w.heap.size w w' := by
  have hbd := sv_bd a0 a1 ha0 ha1
  have htd := tdm (sv a0 a1) b hb0
  have hge := sv_neg a0 a1 ha0 ha1
  have hbs := sz_64 hb
  have hb1 : 0 < sz b := by unfold sz; split <;> omega
  have hna := neg_abs a0 a1 ha0 ha1 hS
  have h63 : (a0 / 9223372036854775808 == 1) = true := by have := hge.1 hS; unfold is64 at ha0; rw [beq_iff_eq]; omega
  obtain ⟨S, hSd⟩ : ∃ S, S = sv a0 a1 := ⟨_, rfl⟩
  rw [← hSd] at hbd htd hna hS ⊢
  clear hSd
  obtain ⟨X, hX⟩ : ∃ X, X = sz S := ⟨_, rfl⟩
  have hXb : 0 ≤ X ∧ X < 340282366920938463463374607431768211456 := by rw [hX]; unfold sz; split <;> omega
  have hXn : WV (- S) = WV X := by rw [hX, sz, if_pos hS]
  rw [hXn] at hna
  obtain ⟨e1, e2⟩ := WV_inj hna
  have HD := fun w => rDivide (hi X) (lo X) (sz b) (hi_64 X) (lo_64 X) hbs hb1 w
  rw [T_val X hXb.1 hXb.2] at HD
  rw [← hX] at htd
  obtain ⟨qv, hqv⟩ : ∃ q, q = X / sz b := ⟨_, rfl⟩
  obtain ⟨r, hr⟩ : ∃ r, r = X % sz b := ⟨_, rfl⟩
  rw [← hqv, ← hr] at HD htd
  have hr64 : is64 r := by
    have h1 := Int.emod_nonneg X (b := sz b) (by omega)
    have h2 := Int.emod_lt_of_pos X hb1
    unfold is64 at *; rw [hr]; omega
  have hD : S.tdiv b = qv := by rw [htd.1, if_pos hS, if_pos hbn]
  have hM : S.tmod b = - r := by rw [htd.2, if_pos hS]
  have eR : WV (- val 0 r) = WV (S.tmod b) := by rw [hM, N_val]
  obtain ⟨e3, e4⟩ := WV_inj eR
  have hrr := is64_0
  have htq := lo_64 qv
  have htq2 := hi_64 qv
  have HD' := Lib.hid HD
  have HD2 := Lib.hid hD
  clear HD htd hna hXn hX hXb hqv hr hbd hge hD hM eR
  have hdd : (!decide (b < 0)) = false := by simp; omega
  go_enter Try.func40, Try.ntmps40
  go_upto_region 5 with (first | (go_at_call 14; refine (rNeg _ _ (by assumption) (by assumption) _).mono ?_; rintro e w1 ⟨rfl, hb_w1⟩; obtain ⟨hc_w1, hf_w1⟩ := bcell hb_w1; have hz_w1 := hb_w1.size; (try simp only [World.size_alloc, World.size_setCell] at hz_w1 hc_w1 hf_w1); have qw10 : w.heap.size < w1.heap.size := (by omega); have qw11 : w.heap.size + 1 < w1.heap.size := (by omega); have qw12 : w.heap.size + 1 + 1 < w1.heap.size := (by omega); have qw13 : w.heap.size + 1 + 1 + 1 < w1.heap.size := (by omega); clear hz_w1))
  go_cut [8, 9] (fun v8 v9 wx => ∃ g : Nat, v8 = .pointer (some ⟨g, 0, none⟩) ∧ v9 = .int .u64 r ∧ w.heap.size + 1 + 1 + 1 < g ∧ Blk wx g #[.int .u64 (hi qv), .int .u64 (lo qv)] 24 ∧ Blk wx (w.heap.size + 1) #[.int .u64 0, .int .u64 0] 24 ∧ Blk wx (w.heap.size + 1 + 1) #[.int .u64 0, .int .u64 0] 24 ∧ Below w.heap.size w wx)
  case first =>
    go_region_with (first | (go_at_call 46; refine (rSize _ (by assumption) _).mono ?_; rintro e w1 ⟨rfl, rfl⟩) | (go_at_call 35; refine (HD'.out _).mono ?_; rintro e wd ⟨rfl, hb_wd⟩; obtain ⟨hc_wd, hf_wd⟩ := bcell hb_wd; have hz_wd := hb_wd.size; (try simp at hz_wd); have z1 : w.heap.size + 1 + 1 + 1 < wd.heap.size := (by omega)))
    all_goals
      go_wp2_with fail
      go_meet
      exact ⟨_, rfl, rfl, by omega, by repeat (first | (with_reducible assumption) | (with_reducible refine Blk.new' ?_; first | rfl | (simp; done) | (simp; omega)) | (with_reducible apply Blk.set01) | (with_reducible apply Blk.set0) | (with_reducible apply Blk.set1) | (with_reducible apply Blk.setOne) | (with_reducible refine Blk.set_other ?_ (by omega) _ _) | (with_reducible apply Blk.alloc) | (with_reducible apply Blk.drew) | (with_reducible refine Blk.below ?_ (by with_reducible assumption))), by repeat (first | (with_reducible assumption) | (with_reducible refine Blk.new' ?_; first | rfl | (simp; done) | (simp; omega)) | (with_reducible apply Blk.set01) | (with_reducible apply Blk.set0) | (with_reducible apply Blk.set1) | (with_reducible apply Blk.setOne) | (with_reducible refine Blk.set_other ?_ (by omega) _ _) | (with_reducible apply Blk.alloc) | (with_reducible apply Blk.drew) | (with_reducible refine Blk.below ?_ (by with_reducible assumption))), by repeat (first | (with_reducible assumption) | (with_reducible refine Blk.new' ?_; first | rfl | (simp; done) | (simp; omega)) | (with_reducible apply Blk.set01) | (with_reducible apply Blk.set0) | (with_reducible apply Blk.set1) | (with_reducible apply Blk.setOne) | (with_reducible refine Blk.set_other ?_ (by omega) _ _) | (with_reducible apply Blk.alloc) | (with_reducible apply Blk.drew) | (with_reducible refine Blk.below ?_ (by with_reducible assumption))), by repeat (first | (with_reducible exact Below.refl _ _) | (with_reducible assumption) | (with_reducible apply bel_alloc) | (with_reducible apply bel_drew) | (with_reducible refine bel_set ?_ (by first | exact Nat.le_refl _ | (simp; done) | omega | (simp; omega)) _) | (with_reducible refine bel_trans ?_ (by with_reducible assumption)))⟩
  case rest =>
    obtain ⟨g, rfl, rfl, hg, hB, hB1, hB2, hbl⟩ := hcut
    have hs1 := hbl.size
    have hz0 := is64_0
    obtain ⟨c1, c2, f1, f2, l1⟩ := hB.two
    obtain ⟨d1, d2, g1, g2, l2⟩ := hB1.two
    obtain ⟨m1, m2, n1, n2, l3⟩ := hB2.two
    go_wp2_with (first | (go_at_call_of 14 r; go_must (refine (rNeg _ _ (by assumption) (by assumption) _).mono ?_; rintro e wn ⟨rfl, hb_wn⟩; obtain ⟨x1, x2, x3, x4, x5⟩ := (show Blk wn (g) #[.int .u64 (hi qv), .int .u64 (lo qv)] 24 from (by repeat (first | (with_reducible assumption) | (with_reducible refine Blk.new' ?_; first | rfl | (simp; done) | (simp; omega)) | (with_reducible apply Blk.set01) | (with_reducible apply Blk.set0) | (with_reducible apply Blk.set1) | (with_reducible apply Blk.setOne) | (with_reducible refine Blk.set_other ?_ (by omega) _ _) | (with_reducible apply Blk.alloc) | (with_reducible apply Blk.drew) | (with_reducible refine Blk.below ?_ (by with_reducible assumption))))).two; obtain ⟨y1, y2, y3, y4, y5⟩ := (show Blk wn (w.heap.size + 1) #[.int .u64 (0), .int .u64 (0)] 24 from (by repeat (first | (with_reducible assumption) | (with_reducible refine Blk.new' ?_; first | rfl | (simp; done) | (simp; omega)) | (with_reducible apply Blk.set01) | (with_reducible apply Blk.set0) | (with_reducible apply Blk.set1) | (with_reducible apply Blk.setOne) | (with_reducible refine Blk.set_other ?_ (by omega) _ _) | (with_reducible apply Blk.alloc) | (with_reducible apply Blk.drew) | (with_reducible refine Blk.below ?_ (by with_reducible assumption))))).two; obtain ⟨z1, z2, z3, z4, z5⟩ := (show Blk wn (w.heap.size + 1 + 1) #[.int .u64 (0), .int .u64 (0)] 24 from (by repeat (first | (with_reducible assumption) | (with_reducible refine Blk.new' ?_; first | rfl | (simp; done) | (simp; omega)) | (with_reducible apply Blk.set01) | (with_reducible apply Blk.set0) | (with_reducible apply Blk.set1) | (with_reducible apply Blk.setOne) | (with_reducible refine Blk.set_other ?_ (by omega) _ _) | (with_reducible apply Blk.alloc) | (with_reducible apply Blk.drew) | (with_reducible refine Blk.below ?_ (by with_reducible assumption))))).two; obtain ⟨v1, v2, v3, v4, v5⟩ := (show Blk wn (wc.heap.size) #[.int .u64 (0), .int .u64 (r)] 24 from (by repeat (first | (with_reducible assumption) | (with_reducible refine Blk.new' ?_; first | rfl | (simp; done) | (simp; omega)) | (with_reducible apply Blk.set01) | (with_reducible apply Blk.set0) | (with_reducible apply Blk.set1) | (with_reducible apply Blk.setOne) | (with_reducible refine Blk.set_other ?_ (by omega) _ _) | (with_reducible apply Blk.alloc) | (with_reducible apply Blk.drew) | (with_reducible refine Blk.below ?_ (by with_reducible assumption))))).two)) | (go_at_call_of 14 (hi qv); go_must (refine (rNeg _ _ (by assumption) (by assumption) _).mono ?_; rintro e wn ⟨rfl, hb_wn⟩; obtain ⟨x1, x2, x3, x4, x5⟩ := (show Blk wn (g) #[.int .u64 (hi qv), .int .u64 (lo qv)] 24 from (by repeat (first | (with_reducible assumption) | (with_reducible refine Blk.new' ?_; first | rfl | (simp; done) | (simp; omega)) | (with_reducible apply Blk.set01) | (with_reducible apply Blk.set0) | (with_reducible apply Blk.set1) | (with_reducible apply Blk.setOne) | (with_reducible refine Blk.set_other ?_ (by omega) _ _) | (with_reducible apply Blk.alloc) | (with_reducible apply Blk.drew) | (with_reducible refine Blk.below ?_ (by with_reducible assumption))))).two; obtain ⟨y1, y2, y3, y4, y5⟩ := (show Blk wn (w.heap.size + 1) #[.int .u64 (0), .int .u64 (0)] 24 from (by repeat (first | (with_reducible assumption) | (with_reducible refine Blk.new' ?_; first | rfl | (simp; done) | (simp; omega)) | (with_reducible apply Blk.set01) | (with_reducible apply Blk.set0) | (with_reducible apply Blk.set1) | (with_reducible apply Blk.setOne) | (with_reducible refine Blk.set_other ?_ (by omega) _ _) | (with_reducible apply Blk.alloc) | (with_reducible apply Blk.drew) | (with_reducible refine Blk.below ?_ (by with_reducible assumption))))).two; obtain ⟨z1, z2, z3, z4, z5⟩ := (show Blk wn (w.heap.size + 1 + 1) #[.int .u64 (0), .int .u64 (0)] 24 from (by repeat (first | (with_reducible assumption) | (with_reducible refine Blk.new' ?_; first | rfl | (simp; done) | (simp; omega)) | (with_reducible apply Blk.set01) | (with_reducible apply Blk.set0) | (with_reducible apply Blk.set1) | (with_reducible apply Blk.setOne) | (with_reducible refine Blk.set_other ?_ (by omega) _ _) | (with_reducible apply Blk.alloc) | (with_reducible apply Blk.drew) | (with_reducible refine Blk.below ?_ (by with_reducible assumption))))).two; obtain ⟨v1, v2, v3, v4, v5⟩ := (show Blk wn (wc.heap.size) #[.int .u64 (hi (S.tmod b)), .int .u64 (lo (S.tmod b))] 24 from (by repeat (first | (with_reducible assumption) | (with_reducible refine Blk.new' ?_; first | rfl | (simp; done) | (simp; omega)) | (with_reducible apply Blk.set01) | (with_reducible apply Blk.set0) | (with_reducible apply Blk.set1) | (with_reducible apply Blk.setOne) | (with_reducible refine Blk.set_other ?_ (by omega) _ _) | (with_reducible apply Blk.alloc) | (with_reducible apply Blk.drew) | (with_reducible refine Blk.below ?_ (by with_reducible assumption))))).two)))
    go_region
    all_goals
      go_wp2
      refine ret_blk2 (v := .tuple #[.agg #[.int .u64 (hi qv), .int .u64 (lo qv)], .agg #[.int .u64 (hi (S.tmod b)), .int .u64 (lo (S.tmod b))]]) (w.heap.size + 1) (w.heap.size + 1 + 1) #[.int .u64 (hi qv), .int .u64 (lo qv)] #[.int .u64 (hi (S.tmod b)), .int .u64 (lo (S.tmod b))] 24 24 (by repeat (first | (with_reducible assumption) | (with_reducible refine Blk.new' ?_; first | rfl | (simp; done) | (simp; omega)) | (with_reducible apply Blk.set01) | (with_reducible apply Blk.set0) | (with_reducible apply Blk.set1) | (with_reducible apply Blk.setOne) | (with_reducible refine Blk.set_other ?_ (by omega) _ _) | (with_reducible apply Blk.alloc) | (with_reducible apply Blk.drew) | (with_reducible refine Blk.below ?_ (by with_reducible assumption)))) (by repeat (first | (with_reducible assumption) | (with_reducible refine Blk.new' ?_; first | rfl | (simp; done) | (simp; omega)) | (with_reducible apply Blk.set01) | (with_reducible apply Blk.set0) | (with_reducible apply Blk.set1) | (with_reducible apply Blk.setOne) | (with_reducible refine Blk.set_other ?_ (by omega) _ _) | (with_reducible apply Blk.alloc) | (with_reducible apply Blk.drew) | (with_reducible refine Blk.below ?_ (by with_reducible assumption)))) (fun w' h h' => by obtain ⟨c1, c2, _⟩ := h.two; obtain ⟨c3, c4, _⟩ := h'.two; simp [results, Try.results40, go_sem, c1, c2, c3, c4]) rfl ⟨by rw [HD2.out], by repeat (first | (with_reducible exact Below.refl _ _) | (with_reducible assumption) | (with_reducible apply bel_alloc) | (with_reducible apply bel_drew) | (with_reducible refine bel_set ?_ (by first | exact Nat.le_refl _ | (simp; done) | omega | (simp; omega)) _) | (with_reducible refine bel_trans ?_ (by with_reducible assumption)))⟩

set_option maxHeartbeats 3200000 in
theorem rSigned_np (a0 a1 b : Int) (ha0 : is64 a0) (ha1 : is64 a1) (hb : isI b) (hb0 : b ≠ 0) (hS : sv a0 a1 < 0) (hbn : ¬ b < 0) (w : World) :
    Calls Try.prog 40 #[.agg #[.int .u64 a0, .int .u64 a1], .int .i64 b] w fun e w' => e = .returned (.tuple #[WV ((sv a0 a1).tdiv b), WV ((sv a0 a1).tmod b)]) ∧ Below w.heap.size w w' := by
  have hbd := sv_bd a0 a1 ha0 ha1
  have htd := tdm (sv a0 a1) b hb0
  have hge := sv_neg a0 a1 ha0 ha1
  have hbs := sz_64 hb
  have hb1 : 0 < sz b := by unfold sz; split <;> omega
  have hna := neg_abs a0 a1 ha0 ha1 hS
  have h63 : (a0 / 9223372036854775808 == 1) = true := by have := hge.1 hS; unfold is64 at ha0; rw [beq_iff_eq]; omega
  obtain ⟨S, hSd⟩ : ∃ S, S = sv a0 a1 := ⟨_, rfl⟩
  rw [← hSd] at hbd htd hna hS ⊢
  clear hSd
  obtain ⟨X, hX⟩ : ∃ X, X = sz S := ⟨_, rfl⟩
  have hXb : 0 ≤ X ∧ X < 340282366920938463463374607431768211456 := by rw [hX]; unfold sz; split <;> omega
  have hXn : WV (- S) = WV X := by rw [hX, sz, if_pos hS]
  rw [hXn] at hna
  obtain ⟨e1, e2⟩ := WV_inj hna
  have HD := fun w => rDivide (hi X) (lo X) (sz b) (hi_64 X) (lo_64 X) hbs hb1 w
  rw [T_val X hXb.1 hXb.2] at HD
  rw [← hX] at htd
  obtain ⟨qv, hqv⟩ : ∃ q, q = X / sz b := ⟨_, rfl⟩
  obtain ⟨r, hr⟩ : ∃ r, r = X % sz b := ⟨_, rfl⟩
  rw [← hqv, ← hr] at HD htd
  have hr64 : is64 r := by
    have h1 := Int.emod_nonneg X (b := sz b) (by omega)
    have h2 := Int.emod_lt_of_pos X hb1
    unfold is64 at *; rw [hr]; omega
  have hD : S.tdiv b = - qv := by rw [htd.1, if_pos hS, if_neg hbn]
  have hM : S.tmod b = - r := by rw [htd.2, if_pos hS]
  have eR : WV (- val 0 r) = WV (S.tmod b) := by rw [hM, N_val]
  obtain ⟨e3, e4⟩ := WV_inj eR
  have hrr := is64_0
  have eQ : WV (- val (hi qv) (lo qv)) = WV (S.tdiv b) := by rw [hD]; apply WVc; rw [val_hl]; omega
  obtain ⟨e5, e6⟩ := WV_inj eQ
  have htq := lo_64 qv
  have htq2 := hi_64 qv
  have HD' := Lib.hid HD
  clear HD htd hna hXn hX hXb hqv hr hbd hge hD hM eR eQ
  have hdd : (!decide (b < 0)) = true := by simp; omega
  go_enter Try.func40, Try.ntmps40
  go_upto_region 5 with (first | (go_at_call 14; refine (rNeg _ _ (by assumption) (by assumption) _).mono ?_; rintro e w1 ⟨rfl, hb_w1⟩; obtain ⟨hc_w1, hf_w1⟩ := bcell hb_w1; have hz_w1 := hb_w1.size; (try simp only [World.size_alloc, World.size_setCell] at hz_w1 hc_w1 hf_w1); have qw10 : w.heap.size < w1.heap.size := (by omega); have qw11 : w.heap.size + 1 < w1.heap.size := (by omega); have qw12 : w.heap.size + 1 + 1 < w1.heap.size := (by omega); have qw13 : w.heap.size + 1 + 1 + 1 < w1.heap.size := (by omega); clear hz_w1))
  go_cut [8, 9] (fun v8 v9 wx => ∃ g : Nat, v8 = .pointer (some ⟨g, 0, none⟩) ∧ v9 = .int .u64 r ∧ w.heap.size + 1 + 1 + 1 < g ∧ Blk wx g #[.int .u64 (hi qv), .int .u64 (lo qv)] 24 ∧ Blk wx (w.heap.size + 1) #[.int .u64 0, .int .u64 0] 24 ∧ Blk wx (w.heap.size + 1 + 1) #[.int .u64 0, .int .u64 0] 24 ∧ Below w.heap.size w wx)
  case first =>
    go_region_with (first | (go_at_call 46; refine (rSize _ (by assumption) _).mono ?_; rintro e w1 ⟨rfl, rfl⟩) | (go_at_call 35; refine (HD'.out _).mono ?_; rintro e wd ⟨rfl, hb_wd⟩; obtain ⟨hc_wd, hf_wd⟩ := bcell hb_wd; have hz_wd := hb_wd.size; (try simp at hz_wd); have z1 : w.heap.size + 1 + 1 + 1 < wd.heap.size := (by omega)))
    all_goals
      go_wp2_with fail
      go_meet
      exact ⟨_, rfl, rfl, by omega, by repeat (first | (with_reducible assumption) | (with_reducible refine Blk.new' ?_; first | rfl | (simp; done) | (simp; omega)) | (with_reducible apply Blk.set01) | (with_reducible apply Blk.set0) | (with_reducible apply Blk.set1) | (with_reducible apply Blk.setOne) | (with_reducible refine Blk.set_other ?_ (by omega) _ _) | (with_reducible apply Blk.alloc) | (with_reducible apply Blk.drew) | (with_reducible refine Blk.below ?_ (by with_reducible assumption))), by repeat (first | (with_reducible assumption) | (with_reducible refine Blk.new' ?_; first | rfl | (simp; done) | (simp; omega)) | (with_reducible apply Blk.set01) | (with_reducible apply Blk.set0) | (with_reducible apply Blk.set1) | (with_reducible apply Blk.setOne) | (with_reducible refine Blk.set_other ?_ (by omega) _ _) | (with_reducible apply Blk.alloc) | (with_reducible apply Blk.drew) | (with_reducible refine Blk.below ?_ (by with_reducible assumption))), by repeat (first | (with_reducible assumption) | (with_reducible refine Blk.new' ?_; first | rfl | (simp; done) | (simp; omega)) | (with_reducible apply Blk.set01) | (with_reducible apply Blk.set0) | (with_reducible apply Blk.set1) | (with_reducible apply Blk.setOne) | (with_reducible refine Blk.set_other ?_ (by omega) _ _) | (with_reducible apply Blk.alloc) | (with_reducible apply Blk.drew) | (with_reducible refine Blk.below ?_ (by with_reducible assumption))), by repeat (first | (with_reducible exact Below.refl _ _) | (with_reducible assumption) | (with_reducible apply bel_alloc) | (with_reducible apply bel_drew) | (with_reducible refine bel_set ?_ (by first | exact Nat.le_refl _ | (simp; done) | omega | (simp; omega)) _) | (with_reducible refine bel_trans ?_ (by with_reducible assumption)))⟩
  case rest =>
    obtain ⟨g, rfl, rfl, hg, hB, hB1, hB2, hbl⟩ := hcut
    have hs1 := hbl.size
    have hz0 := is64_0
    obtain ⟨c1, c2, f1, f2, l1⟩ := hB.two
    obtain ⟨d1, d2, g1, g2, l2⟩ := hB1.two
    obtain ⟨m1, m2, n1, n2, l3⟩ := hB2.two
    go_wp2_with (first | (go_at_call_of 14 r; go_must (refine (rNeg _ _ (by assumption) (by assumption) _).mono ?_; rintro e wn ⟨rfl, hb_wn⟩; obtain ⟨x1, x2, x3, x4, x5⟩ := (show Blk wn (g) #[.int .u64 (hi qv), .int .u64 (lo qv)] 24 from (by repeat (first | (with_reducible assumption) | (with_reducible refine Blk.new' ?_; first | rfl | (simp; done) | (simp; omega)) | (with_reducible apply Blk.set01) | (with_reducible apply Blk.set0) | (with_reducible apply Blk.set1) | (with_reducible apply Blk.setOne) | (with_reducible refine Blk.set_other ?_ (by omega) _ _) | (with_reducible apply Blk.alloc) | (with_reducible apply Blk.drew) | (with_reducible refine Blk.below ?_ (by with_reducible assumption))))).two; obtain ⟨y1, y2, y3, y4, y5⟩ := (show Blk wn (w.heap.size + 1) #[.int .u64 (0), .int .u64 (0)] 24 from (by repeat (first | (with_reducible assumption) | (with_reducible refine Blk.new' ?_; first | rfl | (simp; done) | (simp; omega)) | (with_reducible apply Blk.set01) | (with_reducible apply Blk.set0) | (with_reducible apply Blk.set1) | (with_reducible apply Blk.setOne) | (with_reducible refine Blk.set_other ?_ (by omega) _ _) | (with_reducible apply Blk.alloc) | (with_reducible apply Blk.drew) | (with_reducible refine Blk.below ?_ (by with_reducible assumption))))).two; obtain ⟨z1, z2, z3, z4, z5⟩ := (show Blk wn (w.heap.size + 1 + 1) #[.int .u64 (0), .int .u64 (0)] 24 from (by repeat (first | (with_reducible assumption) | (with_reducible refine Blk.new' ?_; first | rfl | (simp; done) | (simp; omega)) | (with_reducible apply Blk.set01) | (with_reducible apply Blk.set0) | (with_reducible apply Blk.set1) | (with_reducible apply Blk.setOne) | (with_reducible refine Blk.set_other ?_ (by omega) _ _) | (with_reducible apply Blk.alloc) | (with_reducible apply Blk.drew) | (with_reducible refine Blk.below ?_ (by with_reducible assumption))))).two; obtain ⟨v1, v2, v3, v4, v5⟩ := (show Blk wn (wc.heap.size) #[.int .u64 (0), .int .u64 (r)] 24 from (by repeat (first | (with_reducible assumption) | (with_reducible refine Blk.new' ?_; first | rfl | (simp; done) | (simp; omega)) | (with_reducible apply Blk.set01) | (with_reducible apply Blk.set0) | (with_reducible apply Blk.set1) | (with_reducible apply Blk.setOne) | (with_reducible refine Blk.set_other ?_ (by omega) _ _) | (with_reducible apply Blk.alloc) | (with_reducible apply Blk.drew) | (with_reducible refine Blk.below ?_ (by with_reducible assumption))))).two)) | (go_at_call_of 14 (hi qv); go_must (refine (rNeg _ _ (by assumption) (by assumption) _).mono ?_; rintro e wn ⟨rfl, hb_wn⟩; obtain ⟨x1, x2, x3, x4, x5⟩ := (show Blk wn (g) #[.int .u64 (hi qv), .int .u64 (lo qv)] 24 from (by repeat (first | (with_reducible assumption) | (with_reducible refine Blk.new' ?_; first | rfl | (simp; done) | (simp; omega)) | (with_reducible apply Blk.set01) | (with_reducible apply Blk.set0) | (with_reducible apply Blk.set1) | (with_reducible apply Blk.setOne) | (with_reducible refine Blk.set_other ?_ (by omega) _ _) | (with_reducible apply Blk.alloc) | (with_reducible apply Blk.drew) | (with_reducible refine Blk.below ?_ (by with_reducible assumption))))).two; obtain ⟨y1, y2, y3, y4, y5⟩ := (show Blk wn (w.heap.size + 1) #[.int .u64 (0), .int .u64 (0)] 24 from (by repeat (first | (with_reducible assumption) | (with_reducible refine Blk.new' ?_; first | rfl | (simp; done) | (simp; omega)) | (with_reducible apply Blk.set01) | (with_reducible apply Blk.set0) | (with_reducible apply Blk.set1) | (with_reducible apply Blk.setOne) | (with_reducible refine Blk.set_other ?_ (by omega) _ _) | (with_reducible apply Blk.alloc) | (with_reducible apply Blk.drew) | (with_reducible refine Blk.below ?_ (by with_reducible assumption))))).two; obtain ⟨z1, z2, z3, z4, z5⟩ := (show Blk wn (w.heap.size + 1 + 1) #[.int .u64 (0), .int .u64 (0)] 24 from (by repeat (first | (with_reducible assumption) | (with_reducible refine Blk.new' ?_; first | rfl | (simp; done) | (simp; omega)) | (with_reducible apply Blk.set01) | (with_reducible apply Blk.set0) | (with_reducible apply Blk.set1) | (with_reducible apply Blk.setOne) | (with_reducible refine Blk.set_other ?_ (by omega) _ _) | (with_reducible apply Blk.alloc) | (with_reducible apply Blk.drew) | (with_reducible refine Blk.below ?_ (by with_reducible assumption))))).two; obtain ⟨v1, v2, v3, v4, v5⟩ := (show Blk wn (wc.heap.size) #[.int .u64 (hi (S.tmod b)), .int .u64 (lo (S.tmod b))] 24 from (by repeat (first | (with_reducible assumption) | (with_reducible refine Blk.new' ?_; first | rfl | (simp; done) | (simp; omega)) | (with_reducible apply Blk.set01) | (with_reducible apply Blk.set0) | (with_reducible apply Blk.set1) | (with_reducible apply Blk.setOne) | (with_reducible refine Blk.set_other ?_ (by omega) _ _) | (with_reducible apply Blk.alloc) | (with_reducible apply Blk.drew) | (with_reducible refine Blk.below ?_ (by with_reducible assumption))))).two)))
    go_region
    all_goals
      go_wp2
      refine ret_blk2 (v := .tuple #[.agg #[.int .u64 (hi (S.tdiv b)), .int .u64 (lo (S.tdiv b))], .agg #[.int .u64 (hi (S.tmod b)), .int .u64 (lo (S.tmod b))]]) (w.heap.size + 1) (w.heap.size + 1 + 1) #[.int .u64 (hi (S.tdiv b)), .int .u64 (lo (S.tdiv b))] #[.int .u64 (hi (S.tmod b)), .int .u64 (lo (S.tmod b))] 24 24 (by repeat (first | (with_reducible assumption) | (with_reducible refine Blk.new' ?_; first | rfl | (simp; done) | (simp; omega)) | (with_reducible apply Blk.set01) | (with_reducible apply Blk.set0) | (with_reducible apply Blk.set1) | (with_reducible apply Blk.setOne) | (with_reducible refine Blk.set_other ?_ (by omega) _ _) | (with_reducible apply Blk.alloc) | (with_reducible apply Blk.drew) | (with_reducible refine Blk.below ?_ (by with_reducible assumption)))) (by repeat (first | (with_reducible assumption) | (with_reducible refine Blk.new' ?_; first | rfl | (simp; done) | (simp; omega)) | (with_reducible apply Blk.set01) | (with_reducible apply Blk.set0) | (with_reducible apply Blk.set1) | (with_reducible apply Blk.setOne) | (with_reducible refine Blk.set_other ?_ (by omega) _ _) | (with_reducible apply Blk.alloc) | (with_reducible apply Blk.drew) | (with_reducible refine Blk.below ?_ (by with_reducible assumption)))) (fun w' h h' => by obtain ⟨c1, c2, _⟩ := h.two; obtain ⟨c3, c4, _⟩ := h'.two; simp [results, Try.results40, go_sem, c1, c2, c3, c4]) rfl ⟨rfl, by repeat (first | (with_reducible exact Below.refl _ _) | (with_reducible assumption) | (with_reducible apply bel_alloc) | (with_reducible apply bel_drew) | (with_reducible refine bel_set ?_ (by first | exact Nat.le_refl _ | (simp; done) | omega | (simp; omega)) _) | (with_reducible refine bel_trans ?_ (by with_reducible assumption)))⟩

set_option maxHeartbeats 3200000 in
theorem rSigned_pn (a0 a1 b : Int) (ha0 : is64 a0) (ha1 : is64 a1) (hb : isI b) (hb0 : b ≠ 0) (hS : ¬ sv a0 a1 < 0) (hbn : b < 0) (w : World) :
    Calls Try.prog 40 #[.agg #[.int .u64 a0, .int .u64 a1], .int .i64 b] w fun e w' => e = .returned (.tuple #[WV ((sv a0 a1).tdiv b), WV ((sv a0 a1).tmod b)]) ∧ Below w.heap.size w w' := by
  have hbd := sv_bd a0 a1 ha0 ha1
  have htd := tdm (sv a0 a1) b hb0
  have hge := sv_neg a0 a1 ha0 ha1
  have hbs := sz_64 hb
  have hb1 : 0 < sz b := by unfold sz; split <;> omega
  have hna := pos_val a0 a1 ha0 ha1 hS
  have h63 : (a0 / 9223372036854775808 == 1) = false := by have : ¬ 9223372036854775808 ≤ a0 := fun h => hS (hge.2 h); unfold is64 at ha0; rw [beq_eq_false_iff_ne]; omega
  obtain ⟨S, hSd⟩ : ∃ S, S = sv a0 a1 := ⟨_, rfl⟩
  rw [← hSd] at hbd htd hna hS ⊢
  clear hSd
  obtain ⟨X, hX⟩ : ∃ X, X = sz S := ⟨_, rfl⟩
  have hXb : 0 ≤ X ∧ X < 340282366920938463463374607431768211456 := by rw [hX]; unfold sz; split <;> omega
  have hXn : X = S := by rw [hX, sz, if_neg hS]
  have HD := fun w => rDivide a0 a1 (sz b) ha0 ha1 hbs hb1 w
  rw [hna, ← hXn] at HD
  rw [← hX] at htd
  obtain ⟨qv, hqv⟩ : ∃ q, q = X / sz b := ⟨_, rfl⟩
  obtain ⟨r, hr⟩ : ∃ r, r = X % sz b := ⟨_, rfl⟩
  rw [← hqv, ← hr] at HD htd
  have hr64 : is64 r := by
    have h1 := Int.emod_nonneg X (b := sz b) (by omega)
    have h2 := Int.emod_lt_of_pos X hb1
    unfold is64 at *; rw [hr]; omega
  have hD : S.tdiv b = - qv := by rw [htd.1, if_neg hS, if_pos hbn]
  have hM : S.tmod b = r := by rw [htd.2, if_neg hS]
  have HM2 : WV (S.tmod b) = .agg #[.int .u64 0, .int .u64 r] := by rw [hM]; exact (WV_small r hr64).symm
  have HM2' := Lib.hid HM2
  clear HM2
  have eQ : WV (- val (hi qv) (lo qv)) = WV (S.tdiv b) := by rw [hD]; apply WVc; rw [val_hl]; omega
  obtain ⟨e5, e6⟩ := WV_inj eQ
  have htq := lo_64 qv
  have htq2 := hi_64 qv
  have HD' := Lib.hid HD
  clear HD htd hna hXn hX hXb hqv hr hbd hge hD hM eQ
  go_enter Try.func40, Try.ntmps40
  go_upto_region 5 with (first | (go_at_call 14; refine (rNeg _ _ (by assumption) (by assumption) _).mono ?_; rintro e w1 ⟨rfl, hb_w1⟩; obtain ⟨hc_w1, hf_w1⟩ := bcell hb_w1; have hz_w1 := hb_w1.size; (try simp only [World.size_alloc, World.size_setCell] at hz_w1 hc_w1 hf_w1); have qw10 : w.heap.size < w1.heap.size := (by omega); have qw11 : w.heap.size + 1 < w1.heap.size := (by omega); have qw12 : w.heap.size + 1 + 1 < w1.heap.size := (by omega); have qw13 : w.heap.size + 1 + 1 + 1 < w1.heap.size := (by omega); clear hz_w1))
  go_cut [8, 9] (fun v8 v9 wx => ∃ g : Nat, v8 = .pointer (some ⟨g, 0, none⟩) ∧ v9 = .int .u64 r ∧ w.heap.size + 1 + 1 + 1 < g ∧ Blk wx g #[.int .u64 (hi qv), .int .u64 (lo qv)] 24 ∧ Blk wx (w.heap.size + 1) #[.int .u64 0, .int .u64 0] 24 ∧ Blk wx (w.heap.size + 1 + 1) #[.int .u64 0, .int .u64 0] 24 ∧ Below w.heap.size w wx)
  case first =>
    go_region_with (first | (go_at_call 46; refine (rSize _ (by assumption) _).mono ?_; rintro e w1 ⟨rfl, rfl⟩) | (go_at_call 35; refine (HD'.out _).mono ?_; rintro e wd ⟨rfl, hb_wd⟩; obtain ⟨hc_wd, hf_wd⟩ := bcell hb_wd; have hz_wd := hb_wd.size; (try simp at hz_wd); have z1 : w.heap.size + 1 + 1 + 1 < wd.heap.size := (by omega)))
    all_goals
      go_wp2_with fail
      go_meet
      exact ⟨_, rfl, rfl, by omega, by repeat (first | (with_reducible assumption) | (with_reducible refine Blk.new' ?_; first | rfl | (simp; done) | (simp; omega)) | (with_reducible apply Blk.set01) | (with_reducible apply Blk.set0) | (with_reducible apply Blk.set1) | (with_reducible apply Blk.setOne) | (with_reducible refine Blk.set_other ?_ (by omega) _ _) | (with_reducible apply Blk.alloc) | (with_reducible apply Blk.drew) | (with_reducible refine Blk.below ?_ (by with_reducible assumption))), by repeat (first | (with_reducible assumption) | (with_reducible refine Blk.new' ?_; first | rfl | (simp; done) | (simp; omega)) | (with_reducible apply Blk.set01) | (with_reducible apply Blk.set0) | (with_reducible apply Blk.set1) | (with_reducible apply Blk.setOne) | (with_reducible refine Blk.set_other ?_ (by omega) _ _) | (with_reducible apply Blk.alloc) | (with_reducible apply Blk.drew) | (with_reducible refine Blk.below ?_ (by with_reducible assumption))), by repeat (first | (with_reducible assumption) | (with_reducible refine Blk.new' ?_; first | rfl | (simp; done) | (simp; omega)) | (with_reducible apply Blk.set01) | (with_reducible apply Blk.set0) | (with_reducible apply Blk.set1) | (with_reducible apply Blk.setOne) | (with_reducible refine Blk.set_other ?_ (by omega) _ _) | (with_reducible apply Blk.alloc) | (with_reducible apply Blk.drew) | (with_reducible refine Blk.below ?_ (by with_reducible assumption))), by repeat (first | (with_reducible exact Below.refl _ _) | (with_reducible assumption) | (with_reducible apply bel_alloc) | (with_reducible apply bel_drew) | (with_reducible refine bel_set ?_ (by first | exact Nat.le_refl _ | (simp; done) | omega | (simp; omega)) _) | (with_reducible refine bel_trans ?_ (by with_reducible assumption)))⟩
  case rest =>
    obtain ⟨g, rfl, rfl, hg, hB, hB1, hB2, hbl⟩ := hcut
    have hs1 := hbl.size
    have hz0 := is64_0
    obtain ⟨c1, c2, f1, f2, l1⟩ := hB.two
    obtain ⟨d1, d2, g1, g2, l2⟩ := hB1.two
    obtain ⟨m1, m2, n1, n2, l3⟩ := hB2.two
    go_wp2_with (first | (go_at_call_of 14 r; go_must (refine (rNeg _ _ (by assumption) (by assumption) _).mono ?_; rintro e wn ⟨rfl, hb_wn⟩; obtain ⟨x1, x2, x3, x4, x5⟩ := (show Blk wn (g) #[.int .u64 (hi qv), .int .u64 (lo qv)] 24 from (by repeat (first | (with_reducible assumption) | (with_reducible refine Blk.new' ?_; first | rfl | (simp; done) | (simp; omega)) | (with_reducible apply Blk.set01) | (with_reducible apply Blk.set0) | (with_reducible apply Blk.set1) | (with_reducible apply Blk.setOne) | (with_reducible refine Blk.set_other ?_ (by omega) _ _) | (with_reducible apply Blk.alloc) | (with_reducible apply Blk.drew) | (with_reducible refine Blk.below ?_ (by with_reducible assumption))))).two; obtain ⟨y1, y2, y3, y4, y5⟩ := (show Blk wn (w.heap.size + 1) #[.int .u64 (0), .int .u64 (0)] 24 from (by repeat (first | (with_reducible assumption) | (with_reducible refine Blk.new' ?_; first | rfl | (simp; done) | (simp; omega)) | (with_reducible apply Blk.set01) | (with_reducible apply Blk.set0) | (with_reducible apply Blk.set1) | (with_reducible apply Blk.setOne) | (with_reducible refine Blk.set_other ?_ (by omega) _ _) | (with_reducible apply Blk.alloc) | (with_reducible apply Blk.drew) | (with_reducible refine Blk.below ?_ (by with_reducible assumption))))).two; obtain ⟨z1, z2, z3, z4, z5⟩ := (show Blk wn (w.heap.size + 1 + 1) #[.int .u64 (0), .int .u64 (0)] 24 from (by repeat (first | (with_reducible assumption) | (with_reducible refine Blk.new' ?_; first | rfl | (simp; done) | (simp; omega)) | (with_reducible apply Blk.set01) | (with_reducible apply Blk.set0) | (with_reducible apply Blk.set1) | (with_reducible apply Blk.setOne) | (with_reducible refine Blk.set_other ?_ (by omega) _ _) | (with_reducible apply Blk.alloc) | (with_reducible apply Blk.drew) | (with_reducible refine Blk.below ?_ (by with_reducible assumption))))).two; obtain ⟨v1, v2, v3, v4, v5⟩ := (show Blk wn (wc.heap.size) #[.int .u64 (0), .int .u64 (r)] 24 from (by repeat (first | (with_reducible assumption) | (with_reducible refine Blk.new' ?_; first | rfl | (simp; done) | (simp; omega)) | (with_reducible apply Blk.set01) | (with_reducible apply Blk.set0) | (with_reducible apply Blk.set1) | (with_reducible apply Blk.setOne) | (with_reducible refine Blk.set_other ?_ (by omega) _ _) | (with_reducible apply Blk.alloc) | (with_reducible apply Blk.drew) | (with_reducible refine Blk.below ?_ (by with_reducible assumption))))).two)) | (go_at_call_of 14 (hi qv); go_must (refine (rNeg _ _ (by assumption) (by assumption) _).mono ?_; rintro e wn ⟨rfl, hb_wn⟩; obtain ⟨x1, x2, x3, x4, x5⟩ := (show Blk wn (g) #[.int .u64 (hi qv), .int .u64 (lo qv)] 24 from (by repeat (first | (with_reducible assumption) | (with_reducible refine Blk.new' ?_; first | rfl | (simp; done) | (simp; omega)) | (with_reducible apply Blk.set01) | (with_reducible apply Blk.set0) | (with_reducible apply Blk.set1) | (with_reducible apply Blk.setOne) | (with_reducible refine Blk.set_other ?_ (by omega) _ _) | (with_reducible apply Blk.alloc) | (with_reducible apply Blk.drew) | (with_reducible refine Blk.below ?_ (by with_reducible assumption))))).two; obtain ⟨y1, y2, y3, y4, y5⟩ := (show Blk wn (w.heap.size + 1) #[.int .u64 (0), .int .u64 (0)] 24 from (by repeat (first | (with_reducible assumption) | (with_reducible refine Blk.new' ?_; first | rfl | (simp; done) | (simp; omega)) | (with_reducible apply Blk.set01) | (with_reducible apply Blk.set0) | (with_reducible apply Blk.set1) | (with_reducible apply Blk.setOne) | (with_reducible refine Blk.set_other ?_ (by omega) _ _) | (with_reducible apply Blk.alloc) | (with_reducible apply Blk.drew) | (with_reducible refine Blk.below ?_ (by with_reducible assumption))))).two; obtain ⟨z1, z2, z3, z4, z5⟩ := (show Blk wn (w.heap.size + 1 + 1) #[.int .u64 (0), .int .u64 (0)] 24 from (by repeat (first | (with_reducible assumption) | (with_reducible refine Blk.new' ?_; first | rfl | (simp; done) | (simp; omega)) | (with_reducible apply Blk.set01) | (with_reducible apply Blk.set0) | (with_reducible apply Blk.set1) | (with_reducible apply Blk.setOne) | (with_reducible refine Blk.set_other ?_ (by omega) _ _) | (with_reducible apply Blk.alloc) | (with_reducible apply Blk.drew) | (with_reducible refine Blk.below ?_ (by with_reducible assumption))))).two; obtain ⟨v1, v2, v3, v4, v5⟩ := (show Blk wn (wc.heap.size) #[.int .u64 (0), .int .u64 (r)] 24 from (by repeat (first | (with_reducible assumption) | (with_reducible refine Blk.new' ?_; first | rfl | (simp; done) | (simp; omega)) | (with_reducible apply Blk.set01) | (with_reducible apply Blk.set0) | (with_reducible apply Blk.set1) | (with_reducible apply Blk.setOne) | (with_reducible refine Blk.set_other ?_ (by omega) _ _) | (with_reducible apply Blk.alloc) | (with_reducible apply Blk.drew) | (with_reducible refine Blk.below ?_ (by with_reducible assumption))))).two)))
    go_region
    all_goals
      go_wp2
      refine ret_blk2 (v := .tuple #[.agg #[.int .u64 (hi (S.tdiv b)), .int .u64 (lo (S.tdiv b))], .agg #[.int .u64 (0), .int .u64 (r)]]) (w.heap.size + 1) (w.heap.size + 1 + 1) #[.int .u64 (hi (S.tdiv b)), .int .u64 (lo (S.tdiv b))] #[.int .u64 (0), .int .u64 (r)] 24 24 (by repeat (first | (with_reducible assumption) | (with_reducible refine Blk.new' ?_; first | rfl | (simp; done) | (simp; omega)) | (with_reducible apply Blk.set01) | (with_reducible apply Blk.set0) | (with_reducible apply Blk.set1) | (with_reducible apply Blk.setOne) | (with_reducible refine Blk.set_other ?_ (by omega) _ _) | (with_reducible apply Blk.alloc) | (with_reducible apply Blk.drew) | (with_reducible refine Blk.below ?_ (by with_reducible assumption)))) (by repeat (first | (with_reducible assumption) | (with_reducible refine Blk.new' ?_; first | rfl | (simp; done) | (simp; omega)) | (with_reducible apply Blk.set01) | (with_reducible apply Blk.set0) | (with_reducible apply Blk.set1) | (with_reducible apply Blk.setOne) | (with_reducible refine Blk.set_other ?_ (by omega) _ _) | (with_reducible apply Blk.alloc) | (with_reducible apply Blk.drew) | (with_reducible refine Blk.below ?_ (by with_reducible assumption)))) (fun w' h h' => by obtain ⟨c1, c2, _⟩ := h.two; obtain ⟨c3, c4, _⟩ := h'.two; simp [results, Try.results40, go_sem, c1, c2, c3, c4]) rfl ⟨by rw [HM2'.out], by repeat (first | (with_reducible exact Below.refl _ _) | (with_reducible assumption) | (with_reducible apply bel_alloc) | (with_reducible apply bel_drew) | (with_reducible refine bel_set ?_ (by first | exact Nat.le_refl _ | (simp; done) | omega | (simp; omega)) _) | (with_reducible refine bel_trans ?_ (by with_reducible assumption)))⟩

set_option maxHeartbeats 3200000 in
theorem rSigned_pp (a0 a1 b : Int) (ha0 : is64 a0) (ha1 : is64 a1) (hb : isI b) (hb0 : b ≠ 0) (hS : ¬ sv a0 a1 < 0) (hbn : ¬ b < 0) (w : World) :
    Calls Try.prog 40 #[.agg #[.int .u64 a0, .int .u64 a1], .int .i64 b] w fun e w' => e = .returned (.tuple #[WV ((sv a0 a1).tdiv b), WV ((sv a0 a1).tmod b)]) ∧ Below w.heap.size w w' := by
  have hbd := sv_bd a0 a1 ha0 ha1
  have htd := tdm (sv a0 a1) b hb0
  have hge := sv_neg a0 a1 ha0 ha1
  have hbs := sz_64 hb
  have hb1 : 0 < sz b := by unfold sz; split <;> omega
  have hna := pos_val a0 a1 ha0 ha1 hS
  have h63 : (a0 / 9223372036854775808 == 1) = false := by have : ¬ 9223372036854775808 ≤ a0 := fun h => hS (hge.2 h); unfold is64 at ha0; rw [beq_eq_false_iff_ne]; omega
  obtain ⟨S, hSd⟩ : ∃ S, S = sv a0 a1 := ⟨_, rfl⟩
  rw [← hSd] at hbd htd hna hS ⊢
  clear hSd
  obtain ⟨X, hX⟩ : ∃ X, X = sz S := ⟨_, rfl⟩
  have hXb : 0 ≤ X ∧ X < 340282366920938463463374607431768211456 := by rw [hX]; unfold sz; split <;> omega
  have hXn : X = S := by rw [hX, sz, if_neg hS]
  have HD := fun w => rDivide a0 a1 (sz b) ha0 ha1 hbs hb1 w
  rw [hna, ← hXn] at HD
  rw [← hX] at htd
  obtain ⟨qv, hqv⟩ : ∃ q, q = X / sz b := ⟨_, rfl⟩
  obtain ⟨r, hr⟩ : ∃ r, r = X % sz b := ⟨_, rfl⟩
  rw [← hqv, ← hr] at HD htd
  have hr64 : is64 r := by
    have h1 := Int.emod_nonneg X (b := sz b) (by omega)
    have h2 := Int.emod_lt_of_pos X hb1
    unfold is64 at *; rw [hr]; omega
  have hD : S.tdiv b = qv := by rw [htd.1, if_neg hS, if_neg hbn]
  have hM : S.tmod b = r := by rw [htd.2, if_neg hS]
  have HM2 : WV (S.tmod b) = .agg #[.int .u64 0, .int .u64 r] := by rw [hM]; exact (WV_small r hr64).symm
  have HM2' := Lib.hid HM2
  clear HM2
  have htq := lo_64 qv
  have htq2 := hi_64 qv
  have HD' := Lib.hid HD
  have HD2 := Lib.hid hD
  clear HD htd hna hXn hX hXb hqv hr hbd hge hD hM
  go_enter Try.func40, Try.ntmps40
  go_upto_region 5 with (first | (go_at_call 14; refine (rNeg _ _ (by assumption) (by assumption) _).mono ?_; rintro e w1 ⟨rfl, hb_w1⟩; obtain ⟨hc_w1, hf_w1⟩ := bcell hb_w1; have hz_w1 := hb_w1.size; (try simp only [World.size_alloc, World.size_setCell] at hz_w1 hc_w1 hf_w1); have qw10 : w.heap.size < w1.heap.size := (by omega); have qw11 : w.heap.size + 1 < w1.heap.size := (by omega); have qw12 : w.heap.size + 1 + 1 < w1.heap.size := (by omega); have qw13 : w.heap.size + 1 + 1 + 1 < w1.heap.size := (by omega); clear hz_w1))
  go_cut [8, 9] (fun v8 v9 wx => ∃ g : Nat, v8 = .pointer (some ⟨g, 0, none⟩) ∧ v9 = .int .u64 r ∧ w.heap.size + 1 + 1 + 1 < g ∧ Blk wx g #[.int .u64 (hi qv), .int .u64 (lo qv)] 24 ∧ Blk wx (w.heap.size + 1) #[.int .u64 0, .int .u64 0] 24 ∧ Blk wx (w.heap.size + 1 + 1) #[.int .u64 0, .int .u64 0] 24 ∧ Below w.heap.size w wx)
  case first =>
    go_region_with (first | (go_at_call 46; refine (rSize _ (by assumption) _).mono ?_; rintro e w1 ⟨rfl, rfl⟩) | (go_at_call 35; refine (HD'.out _).mono ?_; rintro e wd ⟨rfl, hb_wd⟩; obtain ⟨hc_wd, hf_wd⟩ := bcell hb_wd; have hz_wd := hb_wd.size; (try simp at hz_wd); have z1 : w.heap.size + 1 + 1 + 1 < wd.heap.size := (by omega)))
    all_goals
      go_wp2_with fail
      go_meet
      exact ⟨_, rfl, rfl, by omega, by repeat (first | (with_reducible assumption) | (with_reducible refine Blk.new' ?_; first | rfl | (simp; done) | (simp; omega)) | (with_reducible apply Blk.set01) | (with_reducible apply Blk.set0) | (with_reducible apply Blk.set1) | (with_reducible apply Blk.setOne) | (with_reducible refine Blk.set_other ?_ (by omega) _ _) | (with_reducible apply Blk.alloc) | (with_reducible apply Blk.drew) | (with_reducible refine Blk.below ?_ (by with_reducible assumption))), by repeat (first | (with_reducible assumption) | (with_reducible refine Blk.new' ?_; first | rfl | (simp; done) | (simp; omega)) | (with_reducible apply Blk.set01) | (with_reducible apply Blk.set0) | (with_reducible apply Blk.set1) | (with_reducible apply Blk.setOne) | (with_reducible refine Blk.set_other ?_ (by omega) _ _) | (with_reducible apply Blk.alloc) | (with_reducible apply Blk.drew) | (with_reducible refine Blk.below ?_ (by with_reducible assumption))), by repeat (first | (with_reducible assumption) | (with_reducible refine Blk.new' ?_; first | rfl | (simp; done) | (simp; omega)) | (with_reducible apply Blk.set01) | (with_reducible apply Blk.set0) | (with_reducible apply Blk.set1) | (with_reducible apply Blk.setOne) | (with_reducible refine Blk.set_other ?_ (by omega) _ _) | (with_reducible apply Blk.alloc) | (with_reducible apply Blk.drew) | (with_reducible refine Blk.below ?_ (by with_reducible assumption))), by repeat (first | (with_reducible exact Below.refl _ _) | (with_reducible assumption) | (with_reducible apply bel_alloc) | (with_reducible apply bel_drew) | (with_reducible refine bel_set ?_ (by first | exact Nat.le_refl _ | (simp; done) | omega | (simp; omega)) _) | (with_reducible refine bel_trans ?_ (by with_reducible assumption)))⟩
  case rest =>
    obtain ⟨g, rfl, rfl, hg, hB, hB1, hB2, hbl⟩ := hcut
    have hs1 := hbl.size
    have hz0 := is64_0
    obtain ⟨c1, c2, f1, f2, l1⟩ := hB.two
    obtain ⟨d1, d2, g1, g2, l2⟩ := hB1.two
    obtain ⟨m1, m2, n1, n2, l3⟩ := hB2.two
    go_wp2_with (first | (go_at_call_of 14 r; go_must (refine (rNeg _ _ (by assumption) (by assumption) _).mono ?_; rintro e wn ⟨rfl, hb_wn⟩; obtain ⟨x1, x2, x3, x4, x5⟩ := (show Blk wn (g) #[.int .u64 (hi qv), .int .u64 (lo qv)] 24 from (by repeat (first | (with_reducible assumption) | (with_reducible refine Blk.new' ?_; first | rfl | (simp; done) | (simp; omega)) | (with_reducible apply Blk.set01) | (with_reducible apply Blk.set0) | (with_reducible apply Blk.set1) | (with_reducible apply Blk.setOne) | (with_reducible refine Blk.set_other ?_ (by omega) _ _) | (with_reducible apply Blk.alloc) | (with_reducible apply Blk.drew) | (with_reducible refine Blk.below ?_ (by with_reducible assumption))))).two; obtain ⟨y1, y2, y3, y4, y5⟩ := (show Blk wn (w.heap.size + 1) #[.int .u64 (0), .int .u64 (0)] 24 from (by repeat (first | (with_reducible assumption) | (with_reducible refine Blk.new' ?_; first | rfl | (simp; done) | (simp; omega)) | (with_reducible apply Blk.set01) | (with_reducible apply Blk.set0) | (with_reducible apply Blk.set1) | (with_reducible apply Blk.setOne) | (with_reducible refine Blk.set_other ?_ (by omega) _ _) | (with_reducible apply Blk.alloc) | (with_reducible apply Blk.drew) | (with_reducible refine Blk.below ?_ (by with_reducible assumption))))).two; obtain ⟨z1, z2, z3, z4, z5⟩ := (show Blk wn (w.heap.size + 1 + 1) #[.int .u64 (0), .int .u64 (0)] 24 from (by repeat (first | (with_reducible assumption) | (with_reducible refine Blk.new' ?_; first | rfl | (simp; done) | (simp; omega)) | (with_reducible apply Blk.set01) | (with_reducible apply Blk.set0) | (with_reducible apply Blk.set1) | (with_reducible apply Blk.setOne) | (with_reducible refine Blk.set_other ?_ (by omega) _ _) | (with_reducible apply Blk.alloc) | (with_reducible apply Blk.drew) | (with_reducible refine Blk.below ?_ (by with_reducible assumption))))).two; obtain ⟨v1, v2, v3, v4, v5⟩ := (show Blk wn (wc.heap.size) #[.int .u64 (0), .int .u64 (r)] 24 from (by repeat (first | (with_reducible assumption) | (with_reducible refine Blk.new' ?_; first | rfl | (simp; done) | (simp; omega)) | (with_reducible apply Blk.set01) | (with_reducible apply Blk.set0) | (with_reducible apply Blk.set1) | (with_reducible apply Blk.setOne) | (with_reducible refine Blk.set_other ?_ (by omega) _ _) | (with_reducible apply Blk.alloc) | (with_reducible apply Blk.drew) | (with_reducible refine Blk.below ?_ (by with_reducible assumption))))).two)) | (go_at_call_of 14 (hi qv); go_must (refine (rNeg _ _ (by assumption) (by assumption) _).mono ?_; rintro e wn ⟨rfl, hb_wn⟩; obtain ⟨x1, x2, x3, x4, x5⟩ := (show Blk wn (g) #[.int .u64 (hi qv), .int .u64 (lo qv)] 24 from (by repeat (first | (with_reducible assumption) | (with_reducible refine Blk.new' ?_; first | rfl | (simp; done) | (simp; omega)) | (with_reducible apply Blk.set01) | (with_reducible apply Blk.set0) | (with_reducible apply Blk.set1) | (with_reducible apply Blk.setOne) | (with_reducible refine Blk.set_other ?_ (by omega) _ _) | (with_reducible apply Blk.alloc) | (with_reducible apply Blk.drew) | (with_reducible refine Blk.below ?_ (by with_reducible assumption))))).two; obtain ⟨y1, y2, y3, y4, y5⟩ := (show Blk wn (w.heap.size + 1) #[.int .u64 (0), .int .u64 (0)] 24 from (by repeat (first | (with_reducible assumption) | (with_reducible refine Blk.new' ?_; first | rfl | (simp; done) | (simp; omega)) | (with_reducible apply Blk.set01) | (with_reducible apply Blk.set0) | (with_reducible apply Blk.set1) | (with_reducible apply Blk.setOne) | (with_reducible refine Blk.set_other ?_ (by omega) _ _) | (with_reducible apply Blk.alloc) | (with_reducible apply Blk.drew) | (with_reducible refine Blk.below ?_ (by with_reducible assumption))))).two; obtain ⟨z1, z2, z3, z4, z5⟩ := (show Blk wn (w.heap.size + 1 + 1) #[.int .u64 (0), .int .u64 (0)] 24 from (by repeat (first | (with_reducible assumption) | (with_reducible refine Blk.new' ?_; first | rfl | (simp; done) | (simp; omega)) | (with_reducible apply Blk.set01) | (with_reducible apply Blk.set0) | (with_reducible apply Blk.set1) | (with_reducible apply Blk.setOne) | (with_reducible refine Blk.set_other ?_ (by omega) _ _) | (with_reducible apply Blk.alloc) | (with_reducible apply Blk.drew) | (with_reducible refine Blk.below ?_ (by with_reducible assumption))))).two; obtain ⟨v1, v2, v3, v4, v5⟩ := (show Blk wn (wc.heap.size) #[.int .u64 (0), .int .u64 (r)] 24 from (by repeat (first | (with_reducible assumption) | (with_reducible refine Blk.new' ?_; first | rfl | (simp; done) | (simp; omega)) | (with_reducible apply Blk.set01) | (with_reducible apply Blk.set0) | (with_reducible apply Blk.set1) | (with_reducible apply Blk.setOne) | (with_reducible refine Blk.set_other ?_ (by omega) _ _) | (with_reducible apply Blk.alloc) | (with_reducible apply Blk.drew) | (with_reducible refine Blk.below ?_ (by with_reducible assumption))))).two)))
    go_region
    all_goals
      go_wp2
      refine ret_blk2 (v := .tuple #[.agg #[.int .u64 (hi qv), .int .u64 (lo qv)], .agg #[.int .u64 (0), .int .u64 (r)]]) (w.heap.size + 1) (w.heap.size + 1 + 1) #[.int .u64 (hi qv), .int .u64 (lo qv)] #[.int .u64 (0), .int .u64 (r)] 24 24 (by repeat (first | (with_reducible assumption) | (with_reducible refine Blk.new' ?_; first | rfl | (simp; done) | (simp; omega)) | (with_reducible apply Blk.set01) | (with_reducible apply Blk.set0) | (with_reducible apply Blk.set1) | (with_reducible apply Blk.setOne) | (with_reducible refine Blk.set_other ?_ (by omega) _ _) | (with_reducible apply Blk.alloc) | (with_reducible apply Blk.drew) | (with_reducible refine Blk.below ?_ (by with_reducible assumption)))) (by repeat (first | (with_reducible assumption) | (with_reducible refine Blk.new' ?_; first | rfl | (simp; done) | (simp; omega)) | (with_reducible apply Blk.set01) | (with_reducible apply Blk.set0) | (with_reducible apply Blk.set1) | (with_reducible apply Blk.setOne) | (with_reducible refine Blk.set_other ?_ (by omega) _ _) | (with_reducible apply Blk.alloc) | (with_reducible apply Blk.drew) | (with_reducible refine Blk.below ?_ (by with_reducible assumption)))) (fun w' h h' => by obtain ⟨c1, c2, _⟩ := h.two; obtain ⟨c3, c4, _⟩ := h'.two; simp [results, Try.results40, go_sem, c1, c2, c3, c4]) rfl ⟨by rw [HD2.out, HM2'.out], by repeat (first | (with_reducible exact Below.refl _ _) | (with_reducible assumption) | (with_reducible apply bel_alloc) | (with_reducible apply bel_drew) | (with_reducible refine bel_set ?_ (by first | exact Nat.le_refl _ | (simp; done) | omega | (simp; omega)) _) | (with_reducible refine bel_trans ?_ (by with_reducible assumption)))⟩

theorem rSigned (a0 a1 b : Int) (ha0 : is64 a0) (ha1 : is64 a1) (hb : isI b) (hb0 : b ≠ 0) (w : World) :
    Calls Try.prog 40 #[.agg #[.int .u64 a0, .int .u64 a1], .int .i64 b] w fun e w' => e = .returned (.tuple #[WV ((sv a0 a1).tdiv b), WV ((sv a0 a1).tmod b)]) ∧ Below w.heap.size w w' := by
  by_cases h1 : sv a0 a1 < 0 <;> by_cases h2 : b < 0
  · exact rSigned_nn a0 a1 b ha0 ha1 hb hb0 h1 h2 w
  · exact rSigned_np a0 a1 b ha0 ha1 hb hb0 h1 h2 w
  · exact rSigned_pn a0 a1 b ha0 ha1 hb hb0 h1 h2 w
  · exact rSigned_pp a0 a1 b ha0 ha1 hb hb0 h1 h2 w

end Go.Proofs.Ytmanjadnagfhpaa
