/- The package's own helpers: quotients rounded down. -/
import Derived.Test.YtmanjadnagfhpaaA12
import Derived.WalkSmall
namespace Go.Proofs.Ytmanjadnagfhpaa
open Go.RowKit
set_option linter.unusedVariables false
set_option linter.unusedSimpArgs false
attribute [local go_sem ↓] Go.wp_at_zero Go.wp_at_succ
attribute [local go_sem] cell_set set_set
attribute [local go_sem high] eql24 neq24 grd24


theorem sz_div (S b : Int) (h0 : -170141183460469231731687303715884105728 ≤ S) (h1 : S < 170141183460469231731687303715884105728) (hb0 : b ≠ 0) : 0 ≤ sz S / sz b ∧ sz S / sz b ≤ 170141183460469231731687303715884105728 := by
  have hy : 0 < sz b := by unfold sz; split <;> omega
  have hx : 0 ≤ sz S ∧ sz S ≤ 170141183460469231731687303715884105728 := by unfold sz; split <;> omega
  have := Int.ediv_le_self (sz b) hx.1
  exact ⟨Int.ediv_nonneg hx.1 (by omega), by omega⟩
theorem fl_split (S b : Int) (hb : isI b) (hb0 : b ≠ 0) :
    (S.tmod b != 0 && (decide (S < 0) != decide (b < 0))) = adj S b ∧ (adj S b = true → sg (decide (S < 0) != decide (b < 0)) (sz S / sz b + 1) = flD S b ∧ wrap64 (S.tmod b + b) = flM S b) ∧
    (adj S b = false → sg (decide (S < 0) != decide (b < 0)) (sz S / sz b) = flD S b ∧ S.tmod b = flM S b) := by
  have hm := tmod_bd S b hb0 hb
  have hfm := flM_bd S b hb0 hb
  have h := tdm S b hb0
  have h5 : 0 ≤ sz S % sz b := Int.emod_nonneg _ (by unfold sz; split <;> omega)
  obtain ⟨Q, hQ⟩ : ∃ Q, Q = sz S / sz b := ⟨_, rfl⟩
  obtain ⟨r, hr⟩ : ∃ r, r = sz S % sz b := ⟨_, rfl⟩
  rw [← hQ, ← hr] at h
  rw [← hr] at h5
  rw [← hQ]
  obtain ⟨h1, h2⟩ := h
  have e : (S.tmod b != 0 && (decide (S < 0) != decide (b < 0))) = adj S b := by
    unfold adj
    by_cases h3 : S.tmod b = 0
    · simp [h3]
    · congr 2
      rw [decide_eq_decide]
      by_cases h4 : S < 0
      · rw [if_pos h4] at h2; omega
      · rw [if_neg h4] at h2; omega
  refine ⟨e, fun ha => ?_, fun ha => ?_⟩
  · have hadj := ha
    rw [← e, Bool.and_eq_true] at hadj
    rw [hadj.2]
    have hd : S.tdiv b = - Q := by
      have h3 := hadj.2
      by_cases h4 : S < 0 <;> by_cases h6 : b < 0 <;> simp [h4, h6] at h3 h1
      · exact h1
      · exact h1
    have e1 : flD S b = - Q - 1 := by unfold flD; rw [if_pos ha, hd]
    have e2 : flM S b = S.tmod b + b := by unfold flM; rw [if_pos ha]
    have hf := hfm.1
    rw [e2] at hf
    rw [e1, e2]
    unfold isI at hf
    refine ⟨by unfold sg; simp only [if_true]; omega, by unfold wrap64; omega⟩
  · have e1 : flD S b = S.tdiv b := by unfold flD; rw [if_neg (by simp [ha])]
    have e2 : flM S b = S.tmod b := by unfold flM; rw [if_neg (by simp [ha])]
    refine ⟨?_, e2.symm⟩
    rw [e1, h1]
    unfold sg
    by_cases h4 : S < 0 <;> by_cases h6 : b < 0 <;> simp [h4, h6]
theorem add_one (Q : Int) (w : World) : Calls Try.prog 11 #[WV Q, .agg #[.int .u64 0, .int .u64 1]] w fun e w' => e = .returned (WV (Q + 1)) ∧ Below w.heap.size w w' := by
  have h := wAdd (hi Q) (lo Q) 0 1 (hi_64 Q) (lo_64 Q) is64_0 is64_1 w
  rwa [WVc (x := val (hi Q) (lo Q) + val 0 1) (y := Q + 1) (by rw [val_hl]; unfold val; omega)] at h
theorem ret_fl {a b c d : Int} (h : a = b) (h2 : c = d) : Ending.returned (.tuple #[.int .i64 a, .int .i64 c]) = .returned (.tuple #[.int .i64 b, .int .i64 d]) := by rw [h, h2]

theorem wFloored_0 (a0 a1 : Int) (ha0 : is64 a0) (ha1 : is64 a1) (ws : Bool) (w : World) :
    Calls Try.prog 43 #[.agg #[.int .u64 a0, .int .u64 a1], .int .i64 0, .bool ws] w fun e w' => e = Thr (-10) ∧ Below w.heap.size w w' := by
  go_enter Try.func43, Try.ntmps43
  go_wp2_with (go_at_call 38; refine (wSigned_0 a0 a1 ha0 ha1 _).mono ?_; rintro e w1 ⟨rfl, hb_w1⟩)
  exact ⟨rfl, rfl, by repeat (first | (with_reducible exact Below.refl _ _) | (with_reducible assumption) | (with_reducible apply bel_alloc) | (with_reducible apply bel_drew) | (with_reducible refine bel_set ?_ (by first | exact Nat.le_refl _ | (simp; done) | omega | (simp; omega)) _) | (with_reducible refine bel_trans ?_ (by with_reducible assumption)))⟩

attribute [local irreducible] hi lo val

set_option maxHeartbeats 1600000 in
theorem wFloored_ok (a0 a1 b : Int) (ha0 : is64 a0) (ha1 : is64 a1) (hb : isI b) (hb0 : b ≠ 0) (ws : Bool) (hok : ws = true ∨ fitB (flD (sv a0 a1) b) = true) (w : World) :
    Calls Try.prog 43 #[.agg #[.int .u64 a0, .int .u64 a1], .int .i64 b, .bool ws] w fun e w' => e = .returned (.tuple #[.int .i64 (flM (sv a0 a1) b), .int .i64 (wrap64 (flD (sv a0 a1) b))]) ∧ Below w.heap.size w w' := by
  have hbd := sv_bd a0 a1 ha0 ha1
  have HS := fun w => wSigned a0 a1 b ha0 ha1 hb hb0 w
  obtain ⟨S, hS⟩ : ∃ S, S = sv a0 a1 := ⟨_, rfl⟩
  rw [← hS] at HS hok hbd
  try rw [← hS]
  have hqb := sz_div S b hbd.1 hbd.2 hb0
  obtain ⟨h1, h2, h3⟩ := fl_split S b hb hb0
  obtain ⟨m, hm⟩ : ∃ m, m = (decide (S < 0) != decide (b < 0)) := ⟨_, rfl⟩
  obtain ⟨Q, hQ⟩ : ∃ Q, Q = sz S / sz b := ⟨_, rfl⟩
  obtain ⟨M, hM⟩ : ∃ M, M = S.tmod b := ⟨_, rfl⟩
  rw [← hm, ← hQ] at HS h2 h3
  rw [← hm] at h1
  rw [← hM] at HS h1 h2 h3
  rw [← hQ] at hqb
  by_cases ha : adj S b = true
  · obtain ⟨e1, e2⟩ := h2 ha
    rw [← e1] at hok
    try rw [← e1]
    try rw [← e2]
    have HN := Lib.hid (fun w => wNarrow_ok (Q + 1) (by omega) (by omega) m ws hok w)
    have HA := Lib.hid (fun w => add_one Q w)
    rw [ha, Bool.and_eq_true] at h1
    obtain ⟨h4, h5⟩ := h1
    clear hm
    subst h5
    have HS' := Lib.hid HS
    clear HS h2 h3 e1 e2 hM hQ hqb hbd hok hS ha hb hb0
    go_enter Try.func43, Try.ntmps43
    go_wp2_with (first | (go_at_call 38; refine (HS'.out _).mono ?_; rintro e w1 ⟨rfl, hb_w1⟩; have ql1 : w.heap.size + 1 ≤ w1.heap.size := (by have := hb_w1.size; (simp at this; omega))) | (go_at_call 11; refine (HA.out _).mono ?_; rintro e w2 ⟨rfl, hb_w2⟩; have ql2 : w1.heap.size + 1 ≤ w2.heap.size := (by have := hb_w2.size; (simp at this; omega)); obtain ⟨k1, k2, k3, k4, k5⟩ := (show Blk w2 (w1.heap.size) #[.int .u64 (hi Q), .int .u64 (lo Q)] 24 from (by repeat (first | (with_reducible assumption) | (with_reducible refine Blk.new' ?_; first | rfl | (simp; done) | (simp; omega)) | (with_reducible apply Blk.set01) | (with_reducible apply Blk.set0) | (with_reducible apply Blk.set1) | (with_reducible apply Blk.setOne) | (with_reducible refine Blk.set_other ?_ (by omega) _ _) | (with_reducible apply Blk.alloc) | (with_reducible apply Blk.drew) | (with_reducible refine Blk.below ?_ (by with_reducible assumption))))).two) | (go_at_call 39; refine (HN.out _).mono ?_; rintro e w3 ⟨rfl, hb_w3⟩))
    · go_ret2
      exact ⟨ret_fl rfl rfl, by repeat (first | (with_reducible exact Below.refl _ _) | (with_reducible assumption) | (with_reducible apply bel_alloc) | (with_reducible apply bel_drew) | (with_reducible refine bel_set ?_ (by first | exact Nat.le_refl _ | (simp; done) | omega | (simp; omega)) _) | (with_reducible refine bel_trans ?_ (by with_reducible assumption)))⟩
  · have ha' : adj S b = false := by simpa using ha
    obtain ⟨e1, e2⟩ := h3 ha'
    rw [← e1] at hok
    try rw [← e1]
    try rw [← e2]
    have HN := Lib.hid (fun w => wNarrow_ok (Q) (by omega) (by omega) m ws hok w)
    rw [ha'] at h1
    have HS' := Lib.hid HS
    clear HS h2 h3 e1 e2 hM hQ hm hqb hbd hok hS ha ha' hb hb0
    rcases and_no h1 with h4 | ⟨h4, h5⟩
    all_goals
      clear h1
      try subst h5
      go_enter Try.func43, Try.ntmps43
      go_wp2_with (first | (go_at_call 38; refine (HS'.out _).mono ?_; rintro e w1 ⟨rfl, hb_w1⟩; have ql1 : w.heap.size + 1 ≤ w1.heap.size := (by have := hb_w1.size; (simp at this; omega))) | (go_at_call 39; refine (HN.out _).mono ?_; rintro e w3 ⟨rfl, hb_w3⟩))
      go_ret2
      exact ⟨ret_fl rfl rfl, by repeat (first | (with_reducible exact Below.refl _ _) | (with_reducible assumption) | (with_reducible apply bel_alloc) | (with_reducible apply bel_drew) | (with_reducible refine bel_set ?_ (by first | exact Nat.le_refl _ | (simp; done) | omega | (simp; omega)) _) | (with_reducible refine bel_trans ?_ (by with_reducible assumption)))⟩

set_option maxHeartbeats 1600000 in
theorem wFloored_no (a0 a1 b : Int) (ha0 : is64 a0) (ha1 : is64 a1) (hb : isI b) (hb0 : b ≠ 0) (hok : fitB (flD (sv a0 a1) b) = false) (w : World) :
    Calls Try.prog 43 #[.agg #[.int .u64 a0, .int .u64 a1], .int .i64 b, .bool false] w fun e w' => e = Thr (-11) ∧ Below w.heap.size w w' := by
  have hbd := sv_bd a0 a1 ha0 ha1
  have HS := fun w => wSigned a0 a1 b ha0 ha1 hb hb0 w
  obtain ⟨S, hS⟩ : ∃ S, S = sv a0 a1 := ⟨_, rfl⟩
  rw [← hS] at HS hok hbd
  try rw [← hS]
  have hqb := sz_div S b hbd.1 hbd.2 hb0
  obtain ⟨h1, h2, h3⟩ := fl_split S b hb hb0
  obtain ⟨m, hm⟩ : ∃ m, m = (decide (S < 0) != decide (b < 0)) := ⟨_, rfl⟩
  obtain ⟨Q, hQ⟩ : ∃ Q, Q = sz S / sz b := ⟨_, rfl⟩
  obtain ⟨M, hM⟩ : ∃ M, M = S.tmod b := ⟨_, rfl⟩
  rw [← hm, ← hQ] at HS h2 h3
  rw [← hm] at h1
  rw [← hM] at HS h1 h2 h3
  rw [← hQ] at hqb
  by_cases ha : adj S b = true
  · obtain ⟨e1, e2⟩ := h2 ha
    rw [← e1] at hok
    try rw [← e1]
    try rw [← e2]
    have HN := Lib.hid (fun w => wNarrow_no (Q + 1) (by omega) (by omega) m hok w)
    have HA := Lib.hid (fun w => add_one Q w)
    rw [ha, Bool.and_eq_true] at h1
    obtain ⟨h4, h5⟩ := h1
    clear hm
    subst h5
    have HS' := Lib.hid HS
    clear HS h2 h3 e1 e2 hM hQ hqb hbd hok hS ha hb hb0
    go_enter Try.func43, Try.ntmps43
    go_wp2_with (first | (go_at_call 38; refine (HS'.out _).mono ?_; rintro e w1 ⟨rfl, hb_w1⟩; have ql1 : w.heap.size + 1 ≤ w1.heap.size := (by have := hb_w1.size; (simp at this; omega))) | (go_at_call 11; refine (HA.out _).mono ?_; rintro e w2 ⟨rfl, hb_w2⟩; have ql2 : w1.heap.size + 1 ≤ w2.heap.size := (by have := hb_w2.size; (simp at this; omega)); obtain ⟨k1, k2, k3, k4, k5⟩ := (show Blk w2 (w1.heap.size) #[.int .u64 (hi Q), .int .u64 (lo Q)] 24 from (by repeat (first | (with_reducible assumption) | (with_reducible refine Blk.new' ?_; first | rfl | (simp; done) | (simp; omega)) | (with_reducible apply Blk.set01) | (with_reducible apply Blk.set0) | (with_reducible apply Blk.set1) | (with_reducible apply Blk.setOne) | (with_reducible refine Blk.set_other ?_ (by omega) _ _) | (with_reducible apply Blk.alloc) | (with_reducible apply Blk.drew) | (with_reducible refine Blk.below ?_ (by with_reducible assumption))))).two) | (go_at_call 39; refine (HN.out _).mono ?_; rintro e w3 ⟨rfl, hb_w3⟩))
    · exact ⟨rfl, rfl, by repeat (first | (with_reducible exact Below.refl _ _) | (with_reducible assumption) | (with_reducible apply bel_alloc) | (with_reducible apply bel_drew) | (with_reducible refine bel_set ?_ (by first | exact Nat.le_refl _ | (simp; done) | omega | (simp; omega)) _) | (with_reducible refine bel_trans ?_ (by with_reducible assumption)))⟩
  · have ha' : adj S b = false := by simpa using ha
    obtain ⟨e1, e2⟩ := h3 ha'
    rw [← e1] at hok
    try rw [← e1]
    try rw [← e2]
    have HN := Lib.hid (fun w => wNarrow_no (Q) (by omega) (by omega) m hok w)
    rw [ha'] at h1
    have HS' := Lib.hid HS
    clear HS h2 h3 e1 e2 hM hQ hm hqb hbd hok hS ha ha' hb hb0
    rcases and_no h1 with h4 | ⟨h4, h5⟩
    all_goals
      clear h1
      try subst h5
      go_enter Try.func43, Try.ntmps43
      go_wp2_with (first | (go_at_call 38; refine (HS'.out _).mono ?_; rintro e w1 ⟨rfl, hb_w1⟩; have ql1 : w.heap.size + 1 ≤ w1.heap.size := (by have := hb_w1.size; (simp at this; omega))) | (go_at_call 39; refine (HN.out _).mono ?_; rintro e w3 ⟨rfl, hb_w3⟩))
      exact ⟨rfl, rfl, by repeat (first | (with_reducible exact Below.refl _ _) | (with_reducible assumption) | (with_reducible apply bel_alloc) | (with_reducible apply bel_drew) | (with_reducible refine bel_set ?_ (by first | exact Nat.le_refl _ | (simp; done) | omega | (simp; omega)) _) | (with_reducible refine bel_trans ?_ (by with_reducible assumption)))⟩
end Go.Proofs.Ytmanjadnagfhpaa
