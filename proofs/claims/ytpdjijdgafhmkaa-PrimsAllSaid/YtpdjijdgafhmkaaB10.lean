/- The chapter's examples; the statements' bodies, but PrimsAll's. -/
import Derived.Test.YtpdjijdgafhmkaaB9
namespace Go.Proofs.Ytpdjijdgafhmkaa
open Go.RowKit
set_option linter.unusedVariables false
set_option linter.unusedSimpArgs false
theorem stood24 : Try.prog.stoodInHeld 24 = false := by kernel_rfl
theorem guard24 : Try.prog.eqGuardType Try.prog.depth 24 = false := by kernel_rfl
theorem eqlP (a : ByteArray) (b c : Int) (d e : Bool) (w : World) : (binOp .eql 24 (.agg #[.string a, .int .i64 b, .int .i64 c, .bool d, .bool e]) (.agg #[.string a, .int .i64 b, .int .i64 c, .bool d, .bool e])).run Try.prog w = .ok (.bool true) w := by
  have h1 := stood24
  simp [go_sem, h1]
theorem neqP (a : ByteArray) (b c : Int) (d e : Bool) (w : World) : (binOp .neq 24 (.agg #[.string a, .int .i64 b, .int .i64 c, .bool d, .bool e]) (.agg #[.string a, .int .i64 b, .int .i64 c, .bool d, .bool e])).run Try.prog w = .ok (.bool false) w := by
  have h1 := stood24
  simp [go_sem, h1]
theorem grdP (op : BinOp) (x y : Operand) (v u : Array Value) (w : World) : (eqGuard op 24 x y (.agg v) (.agg u)).run Try.prog w = .ok () w := run_eqGuard_agg w op 24 x y _ _ guard24
attribute [local go_sem high] eqlP neqP grdP
attribute [local go_sem] cell_set set_set m_undef
theorem row13 : rowL.getD 13 default = (⟨#[68, 85, 80]⟩, 1, 2, false, false) := by kernel_rfl
theorem num_dup : numOf (large ⟨#[100, 117, 112]⟩).data.toList = 13 := by kernel_rfl
theorem num_lit : numOf (large ⟨#[40, 108, 105, 116, 41]⟩).data.toList = 0 := by kernel_rfl
attribute [local irreducible] cells19 cells20 rowL tabL

set_option maxRecDepth 100000 in
set_option maxHeartbeats 1600000 in
theorem awake (w : World) : Calls Try.prog 7 #[] w fun e w' => e = .returned (.bool true) ∧ Below w.heap.size w w' := by
  have h1 := fun w => wOf 13 (by omega) (by omega) w
  rw [show (13 : Int).toNat = 13 from rfl, row13] at h1
  unfold primV at h1
  have h2 := fun w => wFind ⟨#[100, 117, 112]⟩ (by decide) w
  have h3 := fun w => wFind ⟨#[40, 108, 105, 116, 41]⟩ (by decide) w
  have h4 := fun w => wXt 13 w
  have h5 := fun w => wNumber 104 (by unfold isI; omega) w
  rw [num_dup] at h2
  rw [num_lit] at h3
  rw [if_pos (by omega)] at h4
  have H1 := Lib.hid h1
  have H2 := Lib.hid h2
  have H3 := Lib.hid h3
  have H4 := Lib.hid h4
  have H5 := Lib.hid h5
  clear h1 h2 h3 h4 h5
  go_enter Try.func7, Try.ntmps7
  go_wp2_with (first
    | (go_at_call 8; refine (H1.out _).mono ?_; rintro e w1 ⟨rfl, hb_w1⟩)
    | (go_at_call_of 13 (Value.string { data := #[100, 117, 112] }); refine (H2.out _).mono ?_; rintro e w2 ⟨rfl, hb_w2⟩)
    | (go_at_call_of 13 (Value.string { data := #[40, 108, 105, 116, 41] }); refine (H3.out _).mono ?_; rintro e w3 ⟨rfl, hb_w3⟩)
    | (go_at_call 10; refine (H4.out _).mono ?_; rintro e w4 ⟨rfl, hb_w4⟩)
    | (go_at_call 12; refine (H5.out _).mono ?_; rintro e w5 ⟨rfl, hb_w5⟩))
  go_ret
  exact ⟨rfl, by repeat (first | (with_reducible exact Below.refl _ _) | (with_reducible assumption) | (with_reducible apply bel_alloc) | (with_reducible apply bel_drew) | (with_reducible refine bel_set ?_ (by first | exact Nat.le_refl _ | (simp; done) | omega | (simp; omega)) _) | (with_reducible refine bel_trans ?_ (by with_reducible assumption)))⟩

set_option maxHeartbeats 1600000 in
theorem law_xt (x : Int) (hx : isI x) (w : World) : Calls Try.prog 5 #[.int .i64 x] w fun e w' => e = .returned (.bool true) ∧ Below w.heap.size w w' := by
  have H1 := Lib.hid (fun w => wNumber x hx w)
  have H2 := Lib.hid (fun w => rNumber x hx w)
  obtain ⟨N, hN⟩ : ∃ N, N = numF x := ⟨_, rfl⟩
  rw [← hN] at H1 H2
  clear hN hx
  go_enter Try.func5, Try.ntmps5
  go_wp2_with (first
    | (go_at_call 7; refine (awake _).mono ?_; rintro e w1 ⟨rfl, hb_w1⟩)
    | (go_at_call 12; refine (H1.out _).mono ?_; rintro e w2 ⟨rfl, hb_w2⟩)
    | (go_at_call 17; refine (H2.out _).mono ?_; rintro e w3 ⟨rfl, hb_w3⟩))
  go_ret
  exact ⟨rfl, by repeat (first | (with_reducible exact Below.refl _ _) | (with_reducible assumption) | (with_reducible apply bel_alloc) | (with_reducible apply bel_drew) | (with_reducible refine bel_set ?_ (by first | exact Nat.le_refl _ | (simp; done) | omega | (simp; omega)) _) | (with_reducible refine bel_trans ?_ (by with_reducible assumption)))⟩

set_option maxRecDepth 100000 in
set_option maxHeartbeats 1600000 in
theorem law_find (s : ByteArray) (w : World) : Calls Try.prog 4 #[.string s] w fun e w' => e = .returned (.bool true) ∧ Below w.heap.size w w' := by
  by_cases hs : s.size ≤ 1000
  · have H1 := Lib.hid (fun w => wFind s hs w)
    have H2 := Lib.hid (fun w => rFind s hs w)
    have H3 := Lib.hid (fun w => wLarge s hs w)
    have H4 := Lib.hid (fun w => rLarge s hs w)
    have t1 : ¬ (1000 : Int) < (s.size : Int) := by omega
    obtain ⟨L, hL⟩ : ∃ L, L = large s := ⟨_, rfl⟩
    rw [← hL] at H1 H2 H3 H4
    obtain ⟨N, hN⟩ : ∃ N, N = numOf L.data.toList := ⟨_, rfl⟩
    rw [← hN] at H1 H2
    clear hN hL hs
    go_enter Try.func4, Try.ntmps4
    go_wp2_with (first
      | (go_at_call 7; refine (awake _).mono ?_; rintro e w1 ⟨rfl, hb_w1⟩)
      | (go_at_call 13; refine (H1.out _).mono ?_; rintro e w2 ⟨rfl, hb_w2⟩)
      | (go_at_call 14; refine (H2.out _).mono ?_; rintro e w3 ⟨rfl, hb_w3⟩)
      | (go_at_call 15; refine (H3.out _).mono ?_; rintro e w4 ⟨rfl, hb_w4⟩)
      | (go_at_call 16; refine (H4.out _).mono ?_; rintro e w5 ⟨rfl, hb_w5⟩))
    go_ret
    exact ⟨rfl, by repeat (first | (with_reducible exact Below.refl _ _) | (with_reducible assumption) | (with_reducible apply bel_alloc) | (with_reducible apply bel_drew) | (with_reducible refine bel_set ?_ (by first | exact Nat.le_refl _ | (simp; done) | omega | (simp; omega)) _) | (with_reducible refine bel_trans ?_ (by with_reducible assumption)))⟩
  · have t1 : (1000 : Int) < (s.size : Int) := by omega
    clear hs
    go_enter Try.func4, Try.ntmps4
    go_wp2_with (first
      | (go_at_call 7; refine (awake _).mono ?_; rintro e w1 ⟨rfl, hb_w1⟩))
    go_ret
    exact ⟨rfl, by repeat (first | (with_reducible exact Below.refl _ _) | (with_reducible assumption) | (with_reducible apply bel_alloc) | (with_reducible apply bel_drew) | (with_reducible refine bel_set ?_ (by first | exact Nat.le_refl _ | (simp; done) | omega | (simp; omega)) _) | (with_reducible refine bel_trans ?_ (by with_reducible assumption)))⟩

set_option maxRecDepth 100000 in
set_option maxHeartbeats 1600000 in
theorem law_of (n : Int) (w : World) : Calls Try.prog 3 #[.int .i64 n] w fun e w' => e = .returned (.bool true) ∧ Below w.heap.size w w' := by
  by_cases hn : 1 ≤ n ∧ n ≤ 141
  · have h1 := fun w => wOf n hn.1 hn.2 w
    have h2 := fun w => rOf n hn.1 hn.2 w
    have h3 := fun w => wXt n w
    have h4 := fun w => rXt n w
    have h5 := fun w => wNumber (n * 8) (by unfold isI; omega) w
    rw [if_pos hn] at h3 h4
    have e5 : numF (n * 8) = n := by unfold numF; rw [if_pos (by omega)]; omega
    rw [e5] at h5
    obtain ⟨r, hr⟩ : ∃ r, r = rowL.getD n.toNat default := ⟨_, rfl⟩
    rw [← hr] at h1 h2
    clear hr hn e5
    obtain ⟨nm, tk, ly, nw, on⟩ := r
    unfold primV at h1 h2
    obtain ⟨m, hm⟩ : ∃ m, m = n * 8 := ⟨_, rfl⟩
    rw [← hm] at h3 h4 h5
    clear hm
    have H1 := Lib.hid h1
    have H2 := Lib.hid h2
    have H3 := Lib.hid h3
    have H4 := Lib.hid h4
    have H5 := Lib.hid h5
    clear h1 h2 h3 h4 h5
    go_enter Try.func3, Try.ntmps3
    go_wp2_with (first
      | (go_at_call 7; refine (awake _).mono ?_; rintro e w1 ⟨rfl, hb_w1⟩)
      | (go_at_call 8; refine (H1.out _).mono ?_; rintro e w2 ⟨rfl, hb_w2⟩)
      | (go_at_call 9; refine (H2.out _).mono ?_; rintro e w3 ⟨rfl, hb_w3⟩; obtain ⟨k1, k2, k3, k4, k5, k6, k7, k8, k9, k10, k11⟩ := (show Blk w3 (w2.heap.size) #[.string nm, .int .i64 tk, .int .i64 ly, .bool nw, .bool on] 24 from (by repeat (first | (with_reducible assumption) | (with_reducible refine Blk.new' ?_; first | rfl | (simp; done) | (simp; omega)) | (with_reducible apply Blk.setFive) | (with_reducible apply Blk.set0) | (with_reducible apply Blk.set1) | (with_reducible apply Blk.setOne) | (with_reducible refine Blk.set_other ?_ (by omega) _ _) | (with_reducible apply Blk.alloc) | (with_reducible apply Blk.drew) | (with_reducible refine Blk.below ?_ (by with_reducible assumption))))).five)
      | (go_at_call 10; refine (H3.out _).mono ?_; rintro e w4 ⟨rfl, hb_w4⟩)
      | (go_at_call 11; refine (H4.out _).mono ?_; rintro e w5 ⟨rfl, hb_w5⟩)
      | (go_at_call 12; refine (H5.out _).mono ?_; rintro e w6 ⟨rfl, hb_w6⟩))
    go_ret
    exact ⟨rfl, by repeat (first | (with_reducible exact Below.refl _ _) | (with_reducible assumption) | (with_reducible apply bel_alloc) | (with_reducible apply bel_drew) | (with_reducible refine bel_set ?_ (by first | exact Nat.le_refl _ | (simp; done) | omega | (simp; omega)) _) | (with_reducible refine bel_trans ?_ (by with_reducible assumption)))⟩
  · have h1 := fun w => wOf_no n hn w
    have h2 := fun w => rOf_no n hn w
    have h3 := fun w => wXt n w
    have h4 := fun w => rXt n w
    rw [if_neg hn] at h3 h4
    unfold primV noPrim at h1 h2
    have H1 := Lib.hid h1
    have H2 := Lib.hid h2
    have H3 := Lib.hid h3
    have H4 := Lib.hid h4
    clear h1 h2 h3 h4 hn
    go_enter Try.func3, Try.ntmps3
    go_wp2_with (first
      | (go_at_call 7; refine (awake _).mono ?_; rintro e w1 ⟨rfl, hb_w1⟩)
      | (go_at_call 8; refine (H1.out _).mono ?_; rintro e w2 ⟨rfl, hb_w2⟩)
      | (go_at_call 9; refine (H2.out _).mono ?_; rintro e w3 ⟨rfl, hb_w3⟩; obtain ⟨k1, k2, k3, k4, k5, k6, k7, k8, k9, k10, k11⟩ := (show Blk w3 (w2.heap.size) #[.string ⟨#[]⟩, .int .i64 0, .int .i64 0, .bool false, .bool false] 24 from (by repeat (first | (with_reducible assumption) | (with_reducible refine Blk.new' ?_; first | rfl | (simp; done) | (simp; omega)) | (with_reducible apply Blk.setFive) | (with_reducible apply Blk.set0) | (with_reducible apply Blk.set1) | (with_reducible apply Blk.setOne) | (with_reducible refine Blk.set_other ?_ (by omega) _ _) | (with_reducible apply Blk.alloc) | (with_reducible apply Blk.drew) | (with_reducible refine Blk.below ?_ (by with_reducible assumption))))).five)
      | (go_at_call 10; refine (H3.out _).mono ?_; rintro e w4 ⟨rfl, hb_w4⟩)
      | (go_at_call 11; refine (H4.out _).mono ?_; rintro e w5 ⟨rfl, hb_w5⟩))
    go_ret
    exact ⟨rfl, by repeat (first | (with_reducible exact Below.refl _ _) | (with_reducible assumption) | (with_reducible apply bel_alloc) | (with_reducible apply bel_drew) | (with_reducible refine bel_set ?_ (by first | exact Nat.le_refl _ | (simp; done) | omega | (simp; omega)) _) | (with_reducible refine bel_trans ?_ (by with_reducible assumption)))⟩
end Go.Proofs.Ytpdjijdgafhmkaa
