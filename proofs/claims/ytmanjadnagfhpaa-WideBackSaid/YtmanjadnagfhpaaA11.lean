/- The package's own helpers: what throws, sizes, quotients of halves, what is narrowed. -/
import Derived.Test.YtmanjadnagfhpaaA10
import Derived.WalkSmall
namespace Go.Proofs.Ytmanjadnagfhpaa
open Go.RowKit
set_option linter.unusedVariables false
set_option linter.unusedSimpArgs false
attribute [local go_sem ↓] Go.wp_at_zero Go.wp_at_succ
attribute [local go_sem] cell_set set_set
attribute [local go_sem high] eql24 neq24 grd24

/-- What is thrown. -/
abbrev TV (n : Int) : Value := .iface 62 (.agg #[.int .i64 n])
abbrev Thr (n : Int) : Ending := .panicked [{ v := TV n, recovered := false }]

theorem must_ok (n : Int) (w : World) : Calls Try.prog 33 #[.bool true, .int .i64 n] w fun e w' => e = .returned (.tuple #[]) ∧ w = w' := by
  go_enter Try.func33, Try.ntmps33
  go_wp2
  go_end0
  exact ⟨rfl, rfl⟩
theorem must_no (n : Int) (w : World) : Calls Try.prog 33 #[.bool false, .int .i64 n] w fun e w' => e = Thr n ∧ w = w' := by
  go_enter Try.func33, Try.ntmps33
  go_wp2
  exact ⟨rfl, rfl, rfl⟩

theorem sz_pos (a0 a1 : Int) (ha0 : is64 a0) (ha1 : is64 a1) (hS : ¬ sv a0 a1 < 0) : (.agg #[.int .u64 a0, .int .u64 a1] : Value) = WV (sz (sv a0 a1)) := by
  have h := pos_val a0 a1 ha0 ha1 hS
  rw [sz, if_neg hS, ← h]
  unfold is64 at *
  have e1 : hi (val a0 a1) = a0 := by unfold hi val; omega
  have e2 : lo (val a0 a1) = a1 := by unfold lo val; omega
  rw [WV, e1, e2]
theorem size_not (a0 a1 : Int) (ha0 : is64 a0) (ha1 : is64 a1) (hS : ¬ sv a0 a1 < 0) : (a0 / 9223372036854775808 == 1) = false := by
  have h := sv_neg a0 a1 ha0 ha1
  unfold is64 at *
  rw [beq_eq_false_iff_ne]; omega
theorem size_is (a0 a1 : Int) (ha0 : is64 a0) (ha1 : is64 a1) (hS : sv a0 a1 < 0) : (a0 / 9223372036854775808 == 1) = true ∧ (a0 == 0 && a1 == 0) = false := by
  have h := (sv_neg a0 a1 ha0 ha1).1 hS
  unfold is64 at *
  have : ¬ a0 = 0 := by omega
  exact ⟨by rw [beq_iff_eq]; omega, by simp [this]⟩
theorem ret_size {v x : Value} {b c : Bool} (h : v = x) (h2 : b = c) : Ending.returned (.tuple #[v, .bool b]) = .returned (.tuple #[x, .bool c]) := by rw [h, h2]

set_option maxHeartbeats 800000 in
theorem wSize (a0 a1 : Int) (ha0 : is64 a0) (ha1 : is64 a1) (w : World) :
    Calls Try.prog 53 #[.agg #[.int .u64 a0, .int .u64 a1]] w fun e w' => e = .returned (.tuple #[WV (sz (sv a0 a1)), .bool (decide (sv a0 a1 < 0))]) ∧ Below w.heap.size w w' := by
  by_cases hS : sv a0 a1 < 0
  · obtain ⟨h1, h2⟩ := size_is a0 a1 ha0 ha1 hS
    have HF := Lib.hid (neg_abs a0 a1 ha0 ha1 hS)
    have HS := Lib.hid hS
    have HN := Lib.hid (fun w => wNeg a0 a1 ha0 ha1 w)
    obtain ⟨X, hX⟩ : ∃ X, X = - val a0 a1 := ⟨_, rfl⟩
    rw [← hX] at HF HN
    clear hS hX
    go_enter Try.func53, Try.ntmps53
    go_wp2_with (go_at_call 13; refine (HN.out _).mono ?_; rintro e w1 ⟨rfl, hb_w1⟩; obtain ⟨k1, k2, k3, k4, k5⟩ := (show Blk w1 (w.heap.size + 1) #[.int .u64 0, .int .u64 0] 24 from (by repeat (first | (with_reducible assumption) | (with_reducible refine Blk.new' ?_; first | rfl | (simp; done) | (simp; omega)) | (with_reducible apply Blk.set01) | (with_reducible apply Blk.set0) | (with_reducible apply Blk.set1) | (with_reducible apply Blk.setOne) | (with_reducible refine Blk.set_other ?_ (by omega) _ _) | (with_reducible apply Blk.alloc) | (with_reducible apply Blk.drew) | (with_reducible refine Blk.below ?_ (by with_reducible assumption))))).two)
    refine ret_blk (v := .tuple #[WV X, .bool true]) (w.heap.size + 1) #[.int .u64 (hi X), .int .u64 (lo X)] 24 (by repeat (first | (with_reducible assumption) | (with_reducible refine Blk.new' ?_; first | rfl | (simp; done) | (simp; omega)) | (with_reducible apply Blk.set01) | (with_reducible apply Blk.set0) | (with_reducible apply Blk.set1) | (with_reducible apply Blk.setOne) | (with_reducible refine Blk.set_other ?_ (by omega) _ _) | (with_reducible apply Blk.alloc) | (with_reducible apply Blk.drew) | (with_reducible refine Blk.below ?_ (by with_reducible assumption)))) (fun w' h => by obtain ⟨c1, c2, _⟩ := h.two; simp [results, Try.results53, go_sem, c1, c2]) rfl ⟨ret_size (by rw [HF.out, sz, if_pos HS.out]) (by simp [HS.out]), by repeat (first | (with_reducible exact Below.refl _ _) | (with_reducible assumption) | (with_reducible apply bel_alloc) | (with_reducible apply bel_drew) | (with_reducible refine bel_set ?_ (by first | exact Nat.le_refl _ | (simp; done) | omega | (simp; omega)) _) | (with_reducible refine bel_trans ?_ (by with_reducible assumption)))⟩
  · have h1 := size_not a0 a1 ha0 ha1 hS
    have HF := Lib.hid (sz_pos a0 a1 ha0 ha1 hS)
    have HS := Lib.hid hS
    clear hS
    by_cases h2 : (a0 == 0 && a1 == 0) = true
    · go_enter Try.func53, Try.ntmps53
      go_wp2
      refine ret_blk (v := .tuple #[.agg #[.int .u64 a0, .int .u64 a1], .bool false]) (w.heap.size + 1) #[.int .u64 a0, .int .u64 a1] 24 (by repeat (first | (with_reducible assumption) | (with_reducible refine Blk.new' ?_; first | rfl | (simp; done) | (simp; omega)) | (with_reducible apply Blk.set01) | (with_reducible apply Blk.set0) | (with_reducible apply Blk.set1) | (with_reducible apply Blk.setOne) | (with_reducible refine Blk.set_other ?_ (by omega) _ _) | (with_reducible apply Blk.alloc) | (with_reducible apply Blk.drew) | (with_reducible refine Blk.below ?_ (by with_reducible assumption)))) (fun w' h => by obtain ⟨c1, c2, _⟩ := h.two; simp [results, Try.results53, go_sem, c1, c2]) rfl ⟨ret_size (by rw [HF.out]) (by simp [HS.out]), by repeat (first | (with_reducible exact Below.refl _ _) | (with_reducible assumption) | (with_reducible apply bel_alloc) | (with_reducible apply bel_drew) | (with_reducible refine bel_set ?_ (by first | exact Nat.le_refl _ | (simp; done) | omega | (simp; omega)) _) | (with_reducible refine bel_trans ?_ (by with_reducible assumption)))⟩
    · simp only [Bool.not_eq_true] at h2
      go_enter Try.func53, Try.ntmps53
      go_wp2
      refine ret_blk (v := .tuple #[.agg #[.int .u64 a0, .int .u64 a1], .bool false]) (w.heap.size + 1) #[.int .u64 a0, .int .u64 a1] 24 (by repeat (first | (with_reducible assumption) | (with_reducible refine Blk.new' ?_; first | rfl | (simp; done) | (simp; omega)) | (with_reducible apply Blk.set01) | (with_reducible apply Blk.set0) | (with_reducible apply Blk.set1) | (with_reducible apply Blk.setOne) | (with_reducible refine Blk.set_other ?_ (by omega) _ _) | (with_reducible apply Blk.alloc) | (with_reducible apply Blk.drew) | (with_reducible refine Blk.below ?_ (by with_reducible assumption)))) (fun w' h => by obtain ⟨c1, c2, _⟩ := h.two; simp [results, Try.results53, go_sem, c1, c2]) rfl ⟨ret_size (by rw [HF.out]) (by simp [HS.out]), by repeat (first | (with_reducible exact Below.refl _ _) | (with_reducible assumption) | (with_reducible apply bel_alloc) | (with_reducible apply bel_drew) | (with_reducible refine bel_set ?_ (by first | exact Nat.le_refl _ | (simp; done) | omega | (simp; omega)) _) | (with_reducible refine bel_trans ?_ (by with_reducible assumption)))⟩

theorem div_split (a0 a1 b : Int) (ha1 : is64 a1) (hb : 0 < b) : val (a0 / b) (val (a0 % b) a1 / b) = val a0 a1 / b ∧ val (a0 % b) a1 % b = val a0 a1 % b := by
  have e : val a0 a1 = val (a0 % b) a1 + b * (a0 / b * 18446744073709551616) := by
    have := Int.mul_ediv_add_emod a0 b
    unfold val
    rw [← Int.mul_assoc]
    omega
  rw [e, Int.add_mul_ediv_left _ _ (by omega), Int.add_mul_emod_self_left]
  exact ⟨by unfold val; omega, rfl⟩
theorem div_fin (a0 a1 b : Int) (ha0 : is64 a0) (ha1 : is64 a1) (hb : 0 < b) (hb6 : is64 b) : (.agg #[.int .u64 (a0 / b), .int .u64 (val (a0 % b) a1 / b)] : Value) = WV (val a0 a1 / b) ∧ val (a0 % b) a1 % b = val a0 a1 % b := by
  have h := div_split a0 a1 b ha1 hb
  have h1 := Int.emod_nonneg a0 (b := b) (by omega)
  have h2 := Int.emod_lt_of_pos a0 hb
  refine ⟨?_, h.2⟩
  rw [← h.1]
  have q0 : 0 ≤ val (a0 % b) a1 / b := Int.ediv_nonneg (by unfold is64 at ha1; unfold val; omega) (by omega)
  have q1 : val (a0 % b) a1 / b < 18446744073709551616 := by
    apply Int.ediv_lt_of_lt_mul hb
    unfold is64 at ha1; unfold val; omega
  have p0 : 0 ≤ a0 / b := Int.ediv_nonneg ha0.1 (by omega)
  have p1 : a0 / b ≤ a0 := Int.ediv_le_self _ ha0.1
  unfold is64 at ha0
  obtain ⟨x, hx⟩ : ∃ x, x = val (a0 % b) a1 / b := ⟨_, rfl⟩
  obtain ⟨y, hy⟩ : ∃ y, y = a0 / b := ⟨_, rfl⟩
  rw [← hx] at q0 q1
  rw [← hx, ← hy]
  rw [← hy] at p0 p1
  have e1 : hi (val y x) = y := by unfold hi val; omega
  have e2 : lo (val y x) = x := by unfold lo val; omega
  rw [WV, e1, e2]
theorem ret_div {v x : Value} {b c : Int} (h : v = x) (h2 : b = c) : Ending.returned (.tuple #[v, .int .u64 b]) = .returned (.tuple #[x, .int .u64 c]) := by rw [h, h2]

set_option maxHeartbeats 1600000 in
theorem wDivide (a0 a1 b : Int) (ha0 : is64 a0) (ha1 : is64 a1) (hb : is64 b) (hb0 : 0 < b) (w : World) :
    Calls Try.prog 34 #[.agg #[.int .u64 a0, .int .u64 a1], .int .u64 b] w fun e w' => e = .returned (.tuple #[WV (val a0 a1 / b), .int .u64 (val a0 a1 % b)]) ∧ Below w.heap.size w w' := by
  have HF := Lib.hid (div_fin a0 a1 b ha0 ha1 hb0 hb)
  have h1 := Int.emod_nonneg a0 (b := b) (by omega)
  have h2 := Int.emod_lt_of_pos a0 hb0
  have h3 : is64 (a0 % b) := by unfold is64 at *; omega
  have HD := Lib.hid (fun w => wDiv64 (a0 % b) a1 b h3 ha1 hb h2 w)
  have hbz : (b == 0) = false := by rw [beq_eq_false_iff_ne]; omega
  have hbn : ¬ b = 0 := by omega
  have hq : a0.tdiv b = a0 / b := Int.tdiv_eq_ediv_of_nonneg ha0.1
  have hr : a0.tmod b = a0 % b := Int.tmod_eq_emod_of_nonneg ha0.1
  have hqw : IntKind.u64.wrap (a0 / b) = a0 / b := by
    have p0 : 0 ≤ a0 / b := Int.ediv_nonneg ha0.1 (by omega)
    have p1 : a0 / b ≤ a0 := Int.ediv_le_self _ ha0.1
    rw [wrap_lo]; unfold is64 at ha0; unfold lo; omega
  have hrw : IntKind.u64.wrap (a0 % b) = a0 % b := by rw [wrap_lo]; unfold is64 at h3; unfold lo; omega
  obtain ⟨x, hx⟩ : ∃ x, x = val (a0 % b) a1 / b := ⟨_, rfl⟩
  obtain ⟨r, hr2⟩ : ∃ r, r = val (a0 % b) a1 % b := ⟨_, rfl⟩
  obtain ⟨m, hm⟩ : ∃ m, m = a0 % b := ⟨_, rfl⟩
  obtain ⟨q, hq2⟩ : ∃ q, q = a0 / b := ⟨_, rfl⟩
  rw [← hx, ← hr2] at HF HD
  rw [← hq2] at HF hq hqw
  rw [← hm] at HD hr hrw h3
  have hm' := hm.symm
  have hq2' := hq2.symm
  clear hx hr2 h1 h2 hbn hm hq2
  go_enter Try.func34, Try.ntmps34
  go_wp2_with fail
  go_region_with (first | (go_at_call 50; refine (HD.out _).mono ?_; rintro e w1 ⟨rfl, hb_w1⟩; obtain ⟨k1, k2, k3, k4, k5⟩ := (show Blk w1 w.heap.size #[.int .u64 a0, .int .u64 a1] 24 from (by repeat (first | (with_reducible assumption) | (with_reducible refine Blk.new' ?_; first | rfl | (simp; done) | (simp; omega)) | (with_reducible apply Blk.set01) | (with_reducible apply Blk.set0) | (with_reducible apply Blk.set1) | (with_reducible apply Blk.setOne) | (with_reducible refine Blk.set_other ?_ (by omega) _ _) | (with_reducible apply Blk.alloc) | (with_reducible apply Blk.drew) | (with_reducible refine Blk.below ?_ (by with_reducible assumption))))).two; obtain ⟨j1, j2, j3, j4, j5⟩ := (show Blk w1 (w.heap.size + 1) #[.int .u64 0, .int .u64 0] 24 from (by repeat (first | (with_reducible assumption) | (with_reducible refine Blk.new' ?_; first | rfl | (simp; done) | (simp; omega)) | (with_reducible apply Blk.set01) | (with_reducible apply Blk.set0) | (with_reducible apply Blk.set1) | (with_reducible apply Blk.setOne) | (with_reducible refine Blk.set_other ?_ (by omega) _ _) | (with_reducible apply Blk.alloc) | (with_reducible apply Blk.drew) | (with_reducible refine Blk.below ?_ (by with_reducible assumption))))).two; obtain ⟨i1, i2, i3, i4, i5⟩ := (show Blk w1 (w.heap.size + 1 + 1) #[.int .u64 q, .int .u64 0] 24 from (by repeat (first | (with_reducible assumption) | (with_reducible refine Blk.new' ?_; first | rfl | (simp; done) | (simp; omega)) | (with_reducible apply Blk.set01) | (with_reducible apply Blk.set0) | (with_reducible apply Blk.set1) | (with_reducible apply Blk.setOne) | (with_reducible refine Blk.set_other ?_ (by omega) _ _) | (with_reducible apply Blk.alloc) | (with_reducible apply Blk.drew) | (with_reducible refine Blk.below ?_ (by with_reducible assumption))))).two))
  all_goals
    go_wp2
    refine ret_blk (v := .tuple #[.agg #[.int .u64 q, .int .u64 x], .int .u64 r]) (w.heap.size + 1) #[.int .u64 q, .int .u64 x] 24 (by repeat (first | (with_reducible assumption) | (with_reducible refine Blk.new' ?_; first | rfl | (simp; done) | (simp; omega)) | (with_reducible apply Blk.set01) | (with_reducible apply Blk.set0) | (with_reducible apply Blk.set1) | (with_reducible apply Blk.setOne) | (with_reducible refine Blk.set_other ?_ (by omega) _ _) | (with_reducible apply Blk.alloc) | (with_reducible apply Blk.drew) | (with_reducible refine Blk.below ?_ (by with_reducible assumption)))) (fun w' h => by obtain ⟨c1, c2, _⟩ := h.two; simp [results, Try.results34, go_sem, c1, c2]) rfl ⟨ret_div HF.out.1 HF.out.2, by repeat (first | (with_reducible exact Below.refl _ _) | (with_reducible assumption) | (with_reducible apply bel_alloc) | (with_reducible apply bel_drew) | (with_reducible refine bel_set ?_ (by first | exact Nat.le_refl _ | (simp; done) | omega | (simp; omega)) _) | (with_reducible refine bel_trans ?_ (by with_reducible assumption)))⟩

/-- A size with its sign. -/
def sg (m : Bool) (x : Int) : Int := if m then - x else x
theorem fit_pos (Q : Int) (h0 : 0 ≤ Q) (h1 : Q < 340282366920938463463374607431768211456) : (hi Q == 0 && decide (lo Q ≤ 9223372036854775807)) = fitB (sg false Q) := by
  rw [Bool.eq_iff_iff]; simp only [sg, fitB, Bool.and_eq_true, beq_iff_eq, decide_eq_true_eq, Bool.false_eq_true, if_false]
  unfold hi lo; omega
theorem fit_neg (Q : Int) (h0 : 0 ≤ Q) (h1 : Q < 340282366920938463463374607431768211456) : (hi Q == 0 && decide (lo Q ≤ 9223372036854775808)) = fitB (sg true Q) := by
  rw [Bool.eq_iff_iff]; simp only [sg, fitB, Bool.and_eq_true, beq_iff_eq, decide_eq_true_eq, if_true]
  unfold hi lo; omega
theorem ret_i64 {a b : Int} (h : a = b) : Ending.returned (.int .i64 a) = .returned (.int .i64 b) := by rw [h]
theorem nar_pos (Q : Int) : IntKind.i64.wrap (lo Q) = wrap64 (sg false Q) := by
  rw [IntKind.wrap_i64]; unfold sg lo wrap64; simp only [Bool.false_eq_true, if_false]; omega
theorem nar_neg (Q : Int) : IntKind.i64.wrap (- IntKind.i64.wrap (lo Q)) = wrap64 (sg true Q) := by
  simp only [IntKind.wrap_i64]; unfold sg lo wrap64; simp only [if_true]; omega
theorem nar_neg' (Q : Int) : wrap64 (- wrap64 (lo Q)) = wrap64 (sg true Q) := by
  unfold sg lo wrap64; simp only [if_true]; omega
theorem nar_pos' (Q : Int) : wrap64 (lo Q) = wrap64 (sg false Q) := by
  unfold sg lo wrap64; simp only [Bool.false_eq_true, if_false]; omega

set_option maxHeartbeats 800000 in
theorem wNarrow_ok (Q : Int) (h0 : 0 ≤ Q) (h1 : Q < 340282366920938463463374607431768211456) (m ws : Bool) (hok : ws = true ∨ fitB (sg m Q) = true) (w : World) :
    Calls Try.prog 39 #[WV Q, .bool m, .bool ws] w fun e w' => e = .returned (.int .i64 (wrap64 (sg m Q))) ∧ Below w.heap.size w w' := by
  have hl := lo_64 Q
  cases m
  · have f1 := fit_pos Q h0 h1
    have HF := Lib.hid (nar_pos Q)
    have HF' := Lib.hid (nar_pos' Q)
    cases ws
    · have f2 : fitB (sg false Q) = true := by simpa using hok
      rw [f2] at f1
      clear f2 hok
      simp only [Bool.and_eq_true, decide_eq_true_eq] at f1
      obtain ⟨f1, f2⟩ := f1
      go_enter Try.func39, Try.ntmps39
      go_wp2_with (go_at_call 33; refine (must_ok _ _).mono ?_; rintro e w1 ⟨rfl, rfl⟩)
      go_ret
      exact ⟨ret_i64 (by first | exact HF.out | exact HF'.out), by repeat (first | (with_reducible exact Below.refl _ _) | (with_reducible assumption) | (with_reducible apply bel_alloc) | (with_reducible apply bel_drew) | (with_reducible refine bel_set ?_ (by first | exact Nat.le_refl _ | (simp; done) | omega | (simp; omega)) _) | (with_reducible refine bel_trans ?_ (by with_reducible assumption)))⟩
    · clear f1 hok
      go_enter Try.func39, Try.ntmps39
      go_wp2_with (go_at_call 33; refine (must_ok _ _).mono ?_; rintro e w1 ⟨rfl, rfl⟩)
      go_ret
      exact ⟨ret_i64 (by first | exact HF.out | exact HF'.out), by repeat (first | (with_reducible exact Below.refl _ _) | (with_reducible assumption) | (with_reducible apply bel_alloc) | (with_reducible apply bel_drew) | (with_reducible refine bel_set ?_ (by first | exact Nat.le_refl _ | (simp; done) | omega | (simp; omega)) _) | (with_reducible refine bel_trans ?_ (by with_reducible assumption)))⟩
  · have f1 := fit_neg Q h0 h1
    have HF := Lib.hid (nar_neg Q)
    have HF' := Lib.hid (nar_neg' Q)
    cases ws
    · have f2 : fitB (sg true Q) = true := by simpa using hok
      rw [f2] at f1
      clear f2 hok
      simp only [Bool.and_eq_true, decide_eq_true_eq] at f1
      obtain ⟨f1, f2⟩ := f1
      go_enter Try.func39, Try.ntmps39
      go_wp2_with (go_at_call 33; refine (must_ok _ _).mono ?_; rintro e w1 ⟨rfl, rfl⟩)
      go_ret
      exact ⟨ret_i64 (by first | exact HF.out | exact HF'.out), by repeat (first | (with_reducible exact Below.refl _ _) | (with_reducible assumption) | (with_reducible apply bel_alloc) | (with_reducible apply bel_drew) | (with_reducible refine bel_set ?_ (by first | exact Nat.le_refl _ | (simp; done) | omega | (simp; omega)) _) | (with_reducible refine bel_trans ?_ (by with_reducible assumption)))⟩
    · clear f1 hok
      go_enter Try.func39, Try.ntmps39
      go_wp2_with (go_at_call 33; refine (must_ok _ _).mono ?_; rintro e w1 ⟨rfl, rfl⟩)
      go_ret
      exact ⟨ret_i64 (by first | exact HF.out | exact HF'.out), by repeat (first | (with_reducible exact Below.refl _ _) | (with_reducible assumption) | (with_reducible apply bel_alloc) | (with_reducible apply bel_drew) | (with_reducible refine bel_set ?_ (by first | exact Nat.le_refl _ | (simp; done) | omega | (simp; omega)) _) | (with_reducible refine bel_trans ?_ (by with_reducible assumption)))⟩

end Go.Proofs.Ytmanjadnagfhpaa
