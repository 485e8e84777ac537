/- Bodies of the statements on the way back and on sums of products. -/
import Derived.Test.YtmanjadnagfhpaaA22
import Derived.Deep.CutRange
import Derived.Deep.DeepCutAuto
namespace Go.Proofs.Ytmanjadnagfhpaa
open Go.RowKit
set_option linter.unusedVariables false
set_option linter.unusedSimpArgs false
attribute [local go_sem ↓] Go.wp_at_zero Go.wp_at_succ
attribute [local go_sem] cell_set set_set
attribute [local go_sem high] eql24 neq24 grd24
attribute [local irreducible] hi lo val

theorem m_undef : Go.yielded.match_1 (motive := fun _ => Option Bool) (some undef) (fun b => some b) (fun _ => none) = none := rfl
attribute [local go_sem] m_undef
set_option maxRecDepth 100000 in
set_option maxHeartbeats 8000000 in
theorem law_ring (a b c : Int) (ha : isI a) (hb : isI b) (hc : isI c) (w : World) :
    Calls Try.prog 9 #[.int .i64 a, .int .i64 b, .int .i64 c] w fun e w' => e = .returned (.bool true) ∧ Below w.heap.size w w' := by
  by_cases h1 : 2305843009213693952 < a
  · clear ha hb hc
    go_enter Try.func9, Try.ntmps9
    go_wp2_with (first
    | (go_at_call 10; refine (awake _).mono ?_; rintro e w1 ⟨rfl, hb_w1⟩))
    go_ret
    exact ⟨rfl, by repeat (first | (with_reducible exact Below.refl _ _) | (with_reducible assumption) | (with_reducible apply bel_alloc) | (with_reducible apply bel_drew) | (with_reducible refine bel_set ?_ (by first | exact Nat.le_refl _ | (simp; done) | omega | (simp; omega)) _) | (with_reducible refine bel_trans ?_ (by with_reducible assumption)))⟩
  by_cases h2 : a < -2305843009213693952
  · clear ha hb hc
    go_enter Try.func9, Try.ntmps9
    go_wp2_with (first
    | (go_at_call 10; refine (awake _).mono ?_; rintro e w1 ⟨rfl, hb_w1⟩))
    go_ret
    exact ⟨rfl, by repeat (first | (with_reducible exact Below.refl _ _) | (with_reducible assumption) | (with_reducible apply bel_alloc) | (with_reducible apply bel_drew) | (with_reducible refine bel_set ?_ (by first | exact Nat.le_refl _ | (simp; done) | omega | (simp; omega)) _) | (with_reducible refine bel_trans ?_ (by with_reducible assumption)))⟩
  by_cases h3 : 2305843009213693952 < b
  · clear ha hb hc
    go_enter Try.func9, Try.ntmps9
    go_wp2_with (first
    | (go_at_call 10; refine (awake _).mono ?_; rintro e w1 ⟨rfl, hb_w1⟩))
    go_ret
    exact ⟨rfl, by repeat (first | (with_reducible exact Below.refl _ _) | (with_reducible assumption) | (with_reducible apply bel_alloc) | (with_reducible apply bel_drew) | (with_reducible refine bel_set ?_ (by first | exact Nat.le_refl _ | (simp; done) | omega | (simp; omega)) _) | (with_reducible refine bel_trans ?_ (by with_reducible assumption)))⟩
  by_cases h4 : b < -2305843009213693952
  · clear ha hb hc
    go_enter Try.func9, Try.ntmps9
    go_wp2_with (first
    | (go_at_call 10; refine (awake _).mono ?_; rintro e w1 ⟨rfl, hb_w1⟩))
    go_ret
    exact ⟨rfl, by repeat (first | (with_reducible exact Below.refl _ _) | (with_reducible assumption) | (with_reducible apply bel_alloc) | (with_reducible apply bel_drew) | (with_reducible refine bel_set ?_ (by first | exact Nat.le_refl _ | (simp; done) | omega | (simp; omega)) _) | (with_reducible refine bel_trans ?_ (by with_reducible assumption)))⟩
  have hs : isI (a + b) := by unfold isI; omega
  have G1 := fun w => wMul a c ha hc w
  have G2 := fun w => wMul (a + b) c hs hc w
  have G3 := fun w => wMul b c hb hc w
  have G4 := fun w => wMul c a hc ha w
  have G5 := fun w => wAdd (hi (a * c)) (lo (a * c)) (hi (b * c)) (lo (b * c)) (hi_64 _) (lo_64 _) (hi_64 _) (lo_64 _) w
  have G6 := fun w => wNeg (hi (a * c)) (lo (a * c)) (hi_64 _) (lo_64 _) w
  have G7 := fun w => wAdd (hi (a * c)) (lo (a * c)) (hi (- val (hi (a * c)) (lo (a * c)))) (lo (- val (hi (a * c)) (lo (a * c)))) (hi_64 _) (lo_64 _) (hi_64 _) (lo_64 _) w
  rw [ring_sum] at G5
  rw [ring_neg] at G7
  rw [Int.mul_comm c a] at G4
  obtain ⟨s, hs'⟩ : ∃ s, s = a + b := ⟨_, rfl⟩
  rw [← hs'] at G2 G5
  have hw' : IntKind.i64.wrap (a + b) = s := by rw [hs']; unfold isI at hs; unfold IntKind.wrap; simp [IntKind.signed, IntKind.bits]; omega
  obtain ⟨X, hX⟩ : ∃ X, X = a * c := ⟨_, rfl⟩
  obtain ⟨Y, hY⟩ : ∃ Y, Y = b * c := ⟨_, rfl⟩
  obtain ⟨Z, hZ⟩ : ∃ Z, Z = s * c := ⟨_, rfl⟩
  rw [← hX] at G1 G4 G5 G6 G7
  rw [← hY] at G3 G5
  rw [← hZ] at G2 G5
  obtain ⟨V, hV⟩ : ∃ V, V = - val (hi X) (lo X) := ⟨_, rfl⟩
  rw [← hV] at G6 G7
  have H1 := Lib.hid G1
  have H2 := Lib.hid G2
  have H3 := Lib.hid G3
  have H4 := Lib.hid G4
  have H5 := Lib.hid G5
  have H6 := Lib.hid G6
  have H7 := Lib.hid G7
  clear G1 G2 G3 G4 G5 G6 G7 hX hY hZ hV hs' hs ha hb hc
  go_enter Try.func9, Try.ntmps9
  go_upto_region 6 with (first
    | (go_at_call 10; refine (awake _).mono ?_; rintro e w1 ⟨rfl, hb_w1⟩)
    | (go_at_call 25; refine (H1.out _).mono ?_; rintro e w2 ⟨rfl, hb_w2⟩))
  first | (go_region_held3 (fun w' => w'.cell? ⟨w2.heap.size, 0, none⟩ = some (.int .u64 (hi X)) ∧ w'.cell? ⟨w2.heap.size, 1, none⟩ = some (.int .u64 (lo X))) (first | go_keep | (refine ⟨?_, ?_⟩ <;> assumption)) (first
    | (go_at_call_of 25 s; refine (H2.out _).mono ?_; rintro e w3 ⟨rfl, hb_w3⟩; obtain ⟨k1, k2, k3, k4, k5⟩ := (show Blk w3 (w2.heap.size) #[.int .u64 (hi X), .int .u64 (lo X)] 24 from (by repeat (first | (with_reducible assumption) | (with_reducible refine Blk.new' ?_; first | rfl | (simp; done) | (simp; omega)) | (with_reducible apply Blk.set01) | (with_reducible apply Blk.set0) | (with_reducible apply Blk.set1) | (with_reducible apply Blk.setOne) | (with_reducible refine Blk.set_other ?_ (by omega) _ _) | (with_reducible apply Blk.alloc) | (with_reducible apply Blk.drew) | (with_reducible refine Blk.below ?_ (by with_reducible assumption))))).two)
    | (go_at_call_of 25 b; refine (H3.out _).mono ?_; rintro e w4 ⟨rfl, hb_w4⟩; obtain ⟨l1, l2, l3, l4, l5⟩ := (show Blk w4 (w2.heap.size) #[.int .u64 (hi X), .int .u64 (lo X)] 24 from (by repeat (first | (with_reducible assumption) | (with_reducible refine Blk.new' ?_; first | rfl | (simp; done) | (simp; omega)) | (with_reducible apply Blk.set01) | (with_reducible apply Blk.set0) | (with_reducible apply Blk.set1) | (with_reducible apply Blk.setOne) | (with_reducible refine Blk.set_other ?_ (by omega) _ _) | (with_reducible apply Blk.alloc) | (with_reducible apply Blk.drew) | (with_reducible refine Blk.below ?_ (by with_reducible assumption))))).two)
    | (go_at_call_of 25 a; refine (H4.out _).mono ?_; rintro e w5 ⟨rfl, hb_w5⟩; obtain ⟨m1, m2, m3, m4, m5⟩ := (show Blk w5 (w2.heap.size) #[.int .u64 (hi X), .int .u64 (lo X)] 24 from (by repeat (first | (with_reducible assumption) | (with_reducible refine Blk.new' ?_; first | rfl | (simp; done) | (simp; omega)) | (with_reducible apply Blk.set01) | (with_reducible apply Blk.set0) | (with_reducible apply Blk.set1) | (with_reducible apply Blk.setOne) | (with_reducible refine Blk.set_other ?_ (by omega) _ _) | (with_reducible apply Blk.alloc) | (with_reducible apply Blk.drew) | (with_reducible refine Blk.below ?_ (by with_reducible assumption))))).two)
    | (go_at_call_of 11 Y; refine (H5.out _).mono ?_; rintro e w6 ⟨rfl, hb_w6⟩; obtain ⟨n1, n2, n3, n4, n5⟩ := (show Blk w6 (w2.heap.size) #[.int .u64 (hi X), .int .u64 (lo X)] 24 from (by repeat (first | (with_reducible assumption) | (with_reducible refine Blk.new' ?_; first | rfl | (simp; done) | (simp; omega)) | (with_reducible apply Blk.set01) | (with_reducible apply Blk.set0) | (with_reducible apply Blk.set1) | (with_reducible apply Blk.setOne) | (with_reducible refine Blk.set_other ?_ (by omega) _ _) | (with_reducible apply Blk.alloc) | (with_reducible apply Blk.drew) | (with_reducible refine Blk.below ?_ (by with_reducible assumption))))).two)
    | (go_at_call 13; refine (H6.out _).mono ?_; rintro e w7 ⟨rfl, hb_w7⟩; obtain ⟨o1, o2, o3, o4, o5⟩ := (show Blk w7 (w2.heap.size) #[.int .u64 (hi X), .int .u64 (lo X)] 24 from (by repeat (first | (with_reducible assumption) | (with_reducible refine Blk.new' ?_; first | rfl | (simp; done) | (simp; omega)) | (with_reducible apply Blk.set01) | (with_reducible apply Blk.set0) | (with_reducible apply Blk.set1) | (with_reducible apply Blk.setOne) | (with_reducible refine Blk.set_other ?_ (by omega) _ _) | (with_reducible apply Blk.alloc) | (with_reducible apply Blk.drew) | (with_reducible refine Blk.below ?_ (by with_reducible assumption))))).two)
    | (go_at_call_of 11 V; refine (H7.out _).mono ?_; rintro e w8 ⟨rfl, hb_w8⟩; obtain ⟨p1, p2, p3, p4, p5⟩ := (show Blk w8 (w2.heap.size) #[.int .u64 (hi X), .int .u64 (lo X)] 24 from (by repeat (first | (with_reducible assumption) | (with_reducible refine Blk.new' ?_; first | rfl | (simp; done) | (simp; omega)) | (with_reducible apply Blk.set01) | (with_reducible apply Blk.set0) | (with_reducible apply Blk.set1) | (with_reducible apply Blk.setOne) | (with_reducible refine Blk.set_other ?_ (by omega) _ _) | (with_reducible apply Blk.alloc) | (with_reducible apply Blk.drew) | (with_reducible refine Blk.below ?_ (by with_reducible assumption))))).two))) | fail
  all_goals
    go_wp2
    go_ret
    exact ⟨rfl, by repeat (first | (with_reducible exact Below.refl _ _) | (with_reducible assumption) | (with_reducible apply bel_alloc) | (with_reducible apply bel_drew) | (with_reducible refine bel_set ?_ (by first | exact Nat.le_refl _ | (simp; done) | omega | (simp; omega)) _) | (with_reducible refine bel_trans ?_ (by with_reducible assumption)))⟩

end Go.Proofs.Ytmanjadnagfhpaa
