/- The reference's 'Key'. -/
import Derived.Test.YtfmlbnkmckkjnaaF3
namespace Go.Proofs.Ytfmlbnkmckkjnaa
open Go.RowKit
set_option linter.unusedVariables false
set_option linter.unusedSimpArgs false
attribute [local go_sem] cell_set set_set m_undef ba_get field0 field1 field2

set_option maxRecDepth 100000 in
set_option maxHeartbeats 2000000 in
theorem rKey_8 (w : World) (t : List UInt8) (a : Int) (k : Nat) (hk : k = clampN t a) (ht : t.length ≤ 4000) (hl : 0 < k) (T : List UInt8) (N : Nat) (hT : t.take N ++ t.drop k = T) (hN : k - 1 = N) :
    Calls Try.prog 10 #[vw t a false, .int .u8 8] w fun e w' => e = .returned (vw T N false) ∧ Below w.heap.size w w' := by
  have hk2 := clampN_eq t a
  rw [← hk] at hk2
  have hmax : (if (t.length : Int) < (if a < 0 then 0 else a) then (t.length : Int) else (if a < 0 then 0 else a)) = (k : Int) := by split <;> split <;> omega
  have hkt : k ≤ t.length := by omega
  clear hk hk2
  replace hl := Lib.hid hl
  replace hT := Lib.hid hT
  replace hN := Lib.hid hN
  unfold vw
  go_enter Try.func10, Try.ntmps10
  go_upto_region 4 with fail
  obtain ⟨w0, hw0⟩ : ∃ w0, w0 = ((w.alloc (.cells #[.string ⟨t.toArray⟩, .int .i64 (k : Int), .bool false] 23)).alloc (.cells #[.string ⟨#[]⟩, .int .i64 0, .bool false] 23)) := ⟨_, rfl⟩
  have B1 : Blk w0 w.heap.size #[.string ⟨t.toArray⟩, .int .i64 (k : Int), .bool false] 23 := by subst hw0; exact (Blk.new _ _ _).alloc _
  have B2 : Blk w0 (w.heap.size + 1) #[.string ⟨#[]⟩, .int .i64 0, .bool false] 23 := by subst hw0; exact Blk.new' (by simp)
  have hb0 : Below w.heap.size w w0 := by subst hw0; exact bel_alloc (bel_alloc (Below.refl _ _) _) _
  have hz0 : w.heap.size + 2 ≤ w0.heap.size := by subst hw0; simp
  rw [← hw0]
  generalize (if a < 0 then 0 else a) = m0
  clear hw0
  clear hmax
  obtain ⟨c1, c2, c3, f1, f2, f3, l1⟩ := B1.three
  obtain ⟨d1, d2, d3, g1, g2, g3, l2⟩ := B2.three
  go_quiet (fail)
  clear c1 c2 c3 f1 f2 f3 l1 d1 d2 d3 g1 g2 g3 l2 hz0
  replace B1 := B1.drewN nq
  replace B2 := B2.drewN nq
  replace hb0 := bel_drewN hb0 nq
  generalize w0.drewN nq = w9 at *
  obtain ⟨c1, c2, c3, f1, f2, f3, l1⟩ := B1.three
  obtain ⟨d1, d2, d3, g1, g2, g3, l2⟩ := B2.three
  replace hl := hl.out
  replace hT := hT.out
  replace hN := hN.out
  have w2 : IntKind.i64.wrap ((k : Int) - 1) = (N : Int) := by rw [IntKind.wrap_i64]; omega
  have t1 : ((0 : Int) < (k : Int)) = True := by simp; omega
  have t1n : (0 < k) = True := by simp; omega
  have hNl : N ≤ t.length := by omega
  replace hT := Lib.hid hT
  clear hN hl
  go_wp2_with (go_at_call 19; refine (rCutT _ t N k (by omega) (by omega) (by omega) T hT.out).mono ?_; rintro e w1 ⟨rfl, hb1⟩; replace B1 := B1.below hb1; replace B2 := B2.below hb1; replace hb0 := bel_trans hb0 hb1; clear c1 c2 c3 f1 f2 f3 l1 d1 d2 d3 g1 g2 g3 l2; obtain ⟨c1, c2, c3, f1, f2, f3, l1⟩ := B1.three; obtain ⟨d1, d2, d3, g1, g2, g3, l2⟩ := B2.three)
  refine ret_blk (v := .agg #[.string ⟨(T).toArray⟩, .int .i64 ((N : Int)), .bool false]) (w.heap.size + 1) #[.string ⟨(T).toArray⟩, .int .i64 ((N : Int)), .bool false] 23 (by refine Blk.put3 (x0 := .string ⟨#[]⟩) (y0 := .int .i64 0) (z0 := .bool false) ?_; (repeat (refine Blk.set_other ?_ (by omega) _ _)); first | exact B2 | exact Blk.drewN B2 _) (fun w' h => by obtain ⟨c1, c2, c3, _⟩ := h.three; simp [results, Try.results10, go_sem, c1, c2, c3]) rfl ⟨rfl, ?_⟩
  repeat (first | exact hb0 | exact bel_drewN hb0 _ | refine bel_set ?_ (by omega) _)

set_option maxRecDepth 100000 in
set_option maxHeartbeats 2000000 in
theorem rKey_8n (w : World) (t : List UInt8) (a : Int) (k : Nat) (hk : k = clampN t a) (ht : t.length ≤ 4000) (hl : ¬ 0 < k) :
    Calls Try.prog 10 #[vw t a false, .int .u8 8] w fun e w' => e = .returned (vw t k false) ∧ Below w.heap.size w w' := by
  have hk2 := clampN_eq t a
  rw [← hk] at hk2
  have hmax : (if (t.length : Int) < (if a < 0 then 0 else a) then (t.length : Int) else (if a < 0 then 0 else a)) = (k : Int) := by split <;> split <;> omega
  have hkt : k ≤ t.length := by omega
  clear hk hk2
  replace hl := Lib.hid hl
  unfold vw
  go_enter Try.func10, Try.ntmps10
  go_upto_region 4 with fail
  obtain ⟨w0, hw0⟩ : ∃ w0, w0 = ((w.alloc (.cells #[.string ⟨t.toArray⟩, .int .i64 (k : Int), .bool false] 23)).alloc (.cells #[.string ⟨#[]⟩, .int .i64 0, .bool false] 23)) := ⟨_, rfl⟩
  have B1 : Blk w0 w.heap.size #[.string ⟨t.toArray⟩, .int .i64 (k : Int), .bool false] 23 := by subst hw0; exact (Blk.new _ _ _).alloc _
  have B2 : Blk w0 (w.heap.size + 1) #[.string ⟨#[]⟩, .int .i64 0, .bool false] 23 := by subst hw0; exact Blk.new' (by simp)
  have hb0 : Below w.heap.size w w0 := by subst hw0; exact bel_alloc (bel_alloc (Below.refl _ _) _) _
  have hz0 : w.heap.size + 2 ≤ w0.heap.size := by subst hw0; simp
  rw [← hw0]
  generalize (if a < 0 then 0 else a) = m0
  clear hw0
  clear hmax
  obtain ⟨c1, c2, c3, f1, f2, f3, l1⟩ := B1.three
  obtain ⟨d1, d2, d3, g1, g2, g3, l2⟩ := B2.three
  go_quiet (fail)
  clear c1 c2 c3 f1 f2 f3 l1 d1 d2 d3 g1 g2 g3 l2 hz0
  replace B1 := B1.drewN nq
  replace B2 := B2.drewN nq
  replace hb0 := bel_drewN hb0 nq
  generalize w0.drewN nq = w9 at *
  obtain ⟨c1, c2, c3, f1, f2, f3, l1⟩ := B1.three
  obtain ⟨d1, d2, d3, g1, g2, g3, l2⟩ := B2.three
  replace hl := hl.out
  have t1 : ((0 : Int) < (k : Int)) = False := by simp; omega
  have t1n : (0 < k) = False := by simp; omega
  clear hl
  go_wp2
  refine ret_blk (v := .agg #[.string ⟨(t).toArray⟩, .int .i64 ((k : Int)), .bool false]) (w.heap.size + 1) #[.string ⟨(t).toArray⟩, .int .i64 ((k : Int)), .bool false] 23 (by refine Blk.put3 (x0 := .string ⟨#[]⟩) (y0 := .int .i64 0) (z0 := .bool false) ?_; (repeat (refine Blk.set_other ?_ (by omega) _ _)); first | exact B2 | exact Blk.drewN B2 _) (fun w' h => by obtain ⟨c1, c2, c3, _⟩ := h.three; simp [results, Try.results10, go_sem, c1, c2, c3]) rfl ⟨rfl, ?_⟩
  repeat (first | exact hb0 | exact bel_drewN hb0 _ | refine bel_set ?_ (by omega) _)

set_option maxRecDepth 100000 in
set_option maxHeartbeats 2000000 in
theorem rKey_127 (w : World) (t : List UInt8) (a : Int) (k : Nat) (hk : k = clampN t a) (ht : t.length ≤ 4000) (hl : 0 < k) (T : List UInt8) (N : Nat) (hT : t.take N ++ t.drop k = T) (hN : k - 1 = N) :
    Calls Try.prog 10 #[vw t a false, .int .u8 127] w fun e w' => e = .returned (vw T N false) ∧ Below w.heap.size w w' := by
  have hk2 := clampN_eq t a
  rw [← hk] at hk2
  have hmax : (if (t.length : Int) < (if a < 0 then 0 else a) then (t.length : Int) else (if a < 0 then 0 else a)) = (k : Int) := by split <;> split <;> omega
  have hkt : k ≤ t.length := by omega
  clear hk hk2
  replace hl := Lib.hid hl
  replace hT := Lib.hid hT
  replace hN := Lib.hid hN
  unfold vw
  go_enter Try.func10, Try.ntmps10
  go_upto_region 4 with fail
  obtain ⟨w0, hw0⟩ : ∃ w0, w0 = ((w.alloc (.cells #[.string ⟨t.toArray⟩, .int .i64 (k : Int), .bool false] 23)).alloc (.cells #[.string ⟨#[]⟩, .int .i64 0, .bool false] 23)) := ⟨_, rfl⟩
  have B1 : Blk w0 w.heap.size #[.string ⟨t.toArray⟩, .int .i64 (k : Int), .bool false] 23 := by subst hw0; exact (Blk.new _ _ _).alloc _
  have B2 : Blk w0 (w.heap.size + 1) #[.string ⟨#[]⟩, .int .i64 0, .bool false] 23 := by subst hw0; exact Blk.new' (by simp)
  have hb0 : Below w.heap.size w w0 := by subst hw0; exact bel_alloc (bel_alloc (Below.refl _ _) _) _
  have hz0 : w.heap.size + 2 ≤ w0.heap.size := by subst hw0; simp
  rw [← hw0]
  generalize (if a < 0 then 0 else a) = m0
  clear hw0
  clear hmax
  obtain ⟨c1, c2, c3, f1, f2, f3, l1⟩ := B1.three
  obtain ⟨d1, d2, d3, g1, g2, g3, l2⟩ := B2.three
  go_quiet (fail)
  clear c1 c2 c3 f1 f2 f3 l1 d1 d2 d3 g1 g2 g3 l2 hz0
  replace B1 := B1.drewN nq
  replace B2 := B2.drewN nq
  replace hb0 := bel_drewN hb0 nq
  generalize w0.drewN nq = w9 at *
  obtain ⟨c1, c2, c3, f1, f2, f3, l1⟩ := B1.three
  obtain ⟨d1, d2, d3, g1, g2, g3, l2⟩ := B2.three
  replace hl := hl.out
  replace hT := hT.out
  replace hN := hN.out
  have w2 : IntKind.i64.wrap ((k : Int) - 1) = (N : Int) := by rw [IntKind.wrap_i64]; omega
  have t1 : ((0 : Int) < (k : Int)) = True := by simp; omega
  have t1n : (0 < k) = True := by simp; omega
  have hNl : N ≤ t.length := by omega
  replace hT := Lib.hid hT
  clear hN hl
  go_wp2_with (go_at_call 19; refine (rCutT _ t N k (by omega) (by omega) (by omega) T hT.out).mono ?_; rintro e w1 ⟨rfl, hb1⟩; replace B1 := B1.below hb1; replace B2 := B2.below hb1; replace hb0 := bel_trans hb0 hb1; clear c1 c2 c3 f1 f2 f3 l1 d1 d2 d3 g1 g2 g3 l2; obtain ⟨c1, c2, c3, f1, f2, f3, l1⟩ := B1.three; obtain ⟨d1, d2, d3, g1, g2, g3, l2⟩ := B2.three)
  refine ret_blk (v := .agg #[.string ⟨(T).toArray⟩, .int .i64 ((N : Int)), .bool false]) (w.heap.size + 1) #[.string ⟨(T).toArray⟩, .int .i64 ((N : Int)), .bool false] 23 (by refine Blk.put3 (x0 := .string ⟨#[]⟩) (y0 := .int .i64 0) (z0 := .bool false) ?_; (repeat (refine Blk.set_other ?_ (by omega) _ _)); first | exact B2 | exact Blk.drewN B2 _) (fun w' h => by obtain ⟨c1, c2, c3, _⟩ := h.three; simp [results, Try.results10, go_sem, c1, c2, c3]) rfl ⟨rfl, ?_⟩
  repeat (first | exact hb0 | exact bel_drewN hb0 _ | refine bel_set ?_ (by omega) _)

set_option maxRecDepth 100000 in
set_option maxHeartbeats 2000000 in
theorem rKey_127n (w : World) (t : List UInt8) (a : Int) (k : Nat) (hk : k = clampN t a) (ht : t.length ≤ 4000) (hl : ¬ 0 < k) :
    Calls Try.prog 10 #[vw t a false, .int .u8 127] w fun e w' => e = .returned (vw t k false) ∧ Below w.heap.size w w' := by
  have hk2 := clampN_eq t a
  rw [← hk] at hk2
  have hmax : (if (t.length : Int) < (if a < 0 then 0 else a) then (t.length : Int) else (if a < 0 then 0 else a)) = (k : Int) := by split <;> split <;> omega
  have hkt : k ≤ t.length := by omega
  clear hk hk2
  replace hl := Lib.hid hl
  unfold vw
  go_enter Try.func10, Try.ntmps10
  go_upto_region 4 with fail
  obtain ⟨w0, hw0⟩ : ∃ w0, w0 = ((w.alloc (.cells #[.string ⟨t.toArray⟩, .int .i64 (k : Int), .bool false] 23)).alloc (.cells #[.string ⟨#[]⟩, .int .i64 0, .bool false] 23)) := ⟨_, rfl⟩
  have B1 : Blk w0 w.heap.size #[.string ⟨t.toArray⟩, .int .i64 (k : Int), .bool false] 23 := by subst hw0; exact (Blk.new _ _ _).alloc _
  have B2 : Blk w0 (w.heap.size + 1) #[.string ⟨#[]⟩, .int .i64 0, .bool false] 23 := by subst hw0; exact Blk.new' (by simp)
  have hb0 : Below w.heap.size w w0 := by subst hw0; exact bel_alloc (bel_alloc (Below.refl _ _) _) _
  have hz0 : w.heap.size + 2 ≤ w0.heap.size := by subst hw0; simp
  rw [← hw0]
  generalize (if a < 0 then 0 else a) = m0
  clear hw0
  clear hmax
  obtain ⟨c1, c2, c3, f1, f2, f3, l1⟩ := B1.three
  obtain ⟨d1, d2, d3, g1, g2, g3, l2⟩ := B2.three
  go_quiet (fail)
  clear c1 c2 c3 f1 f2 f3 l1 d1 d2 d3 g1 g2 g3 l2 hz0
  replace B1 := B1.drewN nq
  replace B2 := B2.drewN nq
  replace hb0 := bel_drewN hb0 nq
  generalize w0.drewN nq = w9 at *
  obtain ⟨c1, c2, c3, f1, f2, f3, l1⟩ := B1.three
  obtain ⟨d1, d2, d3, g1, g2, g3, l2⟩ := B2.three
  replace hl := hl.out
  have t1 : ((0 : Int) < (k : Int)) = False := by simp; omega
  have t1n : (0 < k) = False := by simp; omega
  clear hl
  go_wp2
  refine ret_blk (v := .agg #[.string ⟨(t).toArray⟩, .int .i64 ((k : Int)), .bool false]) (w.heap.size + 1) #[.string ⟨(t).toArray⟩, .int .i64 ((k : Int)), .bool false] 23 (by refine Blk.put3 (x0 := .string ⟨#[]⟩) (y0 := .int .i64 0) (z0 := .bool false) ?_; (repeat (refine Blk.set_other ?_ (by omega) _ _)); first | exact B2 | exact Blk.drewN B2 _) (fun w' h => by obtain ⟨c1, c2, c3, _⟩ := h.three; simp [results, Try.results10, go_sem, c1, c2, c3]) rfl ⟨rfl, ?_⟩
  repeat (first | exact hb0 | exact bel_drewN hb0 _ | refine bel_set ?_ (by omega) _)

set_option maxRecDepth 100000 in
set_option maxHeartbeats 2000000 in
theorem rKey_23 (w : World) (t : List UInt8) (a : Int) (k : Nat) (hk : k = clampN t a) (ht : t.length ≤ 4000) (T : List UInt8) (N : Nat) (hT : t.take N ++ t.drop k = T) (hN : k - wordN (t.take k) = N) :
    Calls Try.prog 10 #[vw t a false, .int .u8 23] w fun e w' => e = .returned (vw T N false) ∧ Below w.heap.size w w' := by
  have hk2 := clampN_eq t a
  rw [← hk] at hk2
  have hmax : (if (t.length : Int) < (if a < 0 then 0 else a) then (t.length : Int) else (if a < 0 then 0 else a)) = (k : Int) := by split <;> split <;> omega
  have hkt : k ≤ t.length := by omega
  clear hk hk2
  replace hT := Lib.hid hT
  replace hN := Lib.hid hN
  unfold vw
  go_enter Try.func10, Try.ntmps10
  go_upto_region 4 with fail
  obtain ⟨w0, hw0⟩ : ∃ w0, w0 = ((w.alloc (.cells #[.string ⟨t.toArray⟩, .int .i64 (k : Int), .bool false] 23)).alloc (.cells #[.string ⟨#[]⟩, .int .i64 0, .bool false] 23)) := ⟨_, rfl⟩
  have B1 : Blk w0 w.heap.size #[.string ⟨t.toArray⟩, .int .i64 (k : Int), .bool false] 23 := by subst hw0; exact (Blk.new _ _ _).alloc _
  have B2 : Blk w0 (w.heap.size + 1) #[.string ⟨#[]⟩, .int .i64 0, .bool false] 23 := by subst hw0; exact Blk.new' (by simp)
  have hb0 : Below w.heap.size w w0 := by subst hw0; exact bel_alloc (bel_alloc (Below.refl _ _) _) _
  have hz0 : w.heap.size + 2 ≤ w0.heap.size := by subst hw0; simp
  rw [← hw0]
  generalize (if a < 0 then 0 else a) = m0
  clear hw0
  clear hmax
  obtain ⟨c1, c2, c3, f1, f2, f3, l1⟩ := B1.three
  obtain ⟨d1, d2, d3, g1, g2, g3, l2⟩ := B2.three
  go_quiet (fail)
  clear c1 c2 c3 f1 f2 f3 l1 d1 d2 d3 g1 g2 g3 l2 hz0
  replace B1 := B1.drewN nq
  replace B2 := B2.drewN nq
  replace hb0 := bel_drewN hb0 nq
  generalize w0.drewN nq = w9 at *
  obtain ⟨c1, c2, c3, f1, f2, f3, l1⟩ := B1.three
  obtain ⟨d1, d2, d3, g1, g2, g3, l2⟩ := B2.three
  replace hT := hT.out
  replace hN := hN.out
  replace hT := Lib.hid hT
  have hNl : N ≤ t.length := by omega
  have hwd := Lib.hid (fun w => rWord w t k (by omega) hkt)
  rw [hN] at hwd
  clear hN
  go_upto_region 28 with (go_at_call 20; refine (hwd.out w9).mono ?_; rintro e w1 ⟨rfl, hb1⟩; replace B1 := B1.below hb1; replace B2 := B2.below hb1; replace hb0 := bel_trans hb0 hb1; clear c1 c2 c3 f1 f2 f3 l1 d1 d2 d3 g1 g2 g3 l2; obtain ⟨c1, c2, c3, f1, f2, f3, l1⟩ := B1.three; obtain ⟨d1, d2, d3, g1, g2, g3, l2⟩ := B2.three)
  go_wp2_with (go_at_call 19; refine (rCutT _ t N k (by omega) (by omega) (by omega) T hT.out).mono ?_; rintro e w1 ⟨rfl, hb1⟩; replace B1 := B1.below hb1; replace B2 := B2.below hb1; replace hb0 := bel_trans hb0 hb1; clear c1 c2 c3 f1 f2 f3 l1 d1 d2 d3 g1 g2 g3 l2; obtain ⟨c1, c2, c3, f1, f2, f3, l1⟩ := B1.three; obtain ⟨d1, d2, d3, g1, g2, g3, l2⟩ := B2.three)
  refine ret_blk (v := .agg #[.string ⟨(T).toArray⟩, .int .i64 ((N : Int)), .bool false]) (w.heap.size + 1) #[.string ⟨(T).toArray⟩, .int .i64 ((N : Int)), .bool false] 23 (by refine Blk.put3 (x0 := .string ⟨#[]⟩) (y0 := .int .i64 0) (z0 := .bool false) ?_; (repeat (refine Blk.set_other ?_ (by omega) _ _)); first | exact B2 | exact Blk.drewN B2 _) (fun w' h => by obtain ⟨c1, c2, c3, _⟩ := h.three; simp [results, Try.results10, go_sem, c1, c2, c3]) rfl ⟨rfl, ?_⟩
  repeat (first | exact hb0 | exact bel_drewN hb0 _ | refine bel_set ?_ (by omega) _)

set_option maxRecDepth 100000 in
set_option maxHeartbeats 2000000 in
theorem rKey_20 (w : World) (t : List UInt8) (a : Int) (k : Nat) (hk : k = clampN t a) (ht : t.length ≤ 4000) (p q : Nat) (hq : q = p + 1) (hkq : k = q) (hq0 : q < t.length) (x y : UInt8) (hx : t[p]? = some x) (hy : t[q]? = some y) (T : List UInt8) (hT : (t.set p y).set q x = T) (N : Nat) (hN : k + 1 = N) :
    Calls Try.prog 10 #[vw t a false, .int .u8 20] w fun e w' => e = .returned (vw T N false) ∧ Below w.heap.size w w' := by
  have hk2 := clampN_eq t a
  rw [← hk] at hk2
  have hmax : (if (t.length : Int) < (if a < 0 then 0 else a) then (t.length : Int) else (if a < 0 then 0 else a)) = (k : Int) := by split <;> split <;> omega
  have hkt : k ≤ t.length := by omega
  clear hk hk2
  replace hq := Lib.hid hq
  replace hkq := Lib.hid hkq
  replace hq0 := Lib.hid hq0
  replace hx := Lib.hid hx
  replace hy := Lib.hid hy
  replace hT := Lib.hid hT
  replace hN := Lib.hid hN
  unfold vw
  go_enter Try.func10, Try.ntmps10
  go_upto_region 4 with fail
  obtain ⟨w0, hw0⟩ : ∃ w0, w0 = ((w.alloc (.cells #[.string ⟨t.toArray⟩, .int .i64 (k : Int), .bool false] 23)).alloc (.cells #[.string ⟨#[]⟩, .int .i64 0, .bool false] 23)) := ⟨_, rfl⟩
  have B1 : Blk w0 w.heap.size #[.string ⟨t.toArray⟩, .int .i64 (k : Int), .bool false] 23 := by subst hw0; exact (Blk.new _ _ _).alloc _
  have B2 : Blk w0 (w.heap.size + 1) #[.string ⟨#[]⟩, .int .i64 0, .bool false] 23 := by subst hw0; exact Blk.new' (by simp)
  have hb0 : Below w.heap.size w w0 := by subst hw0; exact bel_alloc (bel_alloc (Below.refl _ _) _) _
  have hz0 : w.heap.size + 2 ≤ w0.heap.size := by subst hw0; simp
  rw [← hw0]
  generalize (if a < 0 then 0 else a) = m0
  clear hw0
  clear hmax
  obtain ⟨c1, c2, c3, f1, f2, f3, l1⟩ := B1.three
  obtain ⟨d1, d2, d3, g1, g2, g3, l2⟩ := B2.three
  go_quiet (fail)
  clear c1 c2 c3 f1 f2 f3 l1 d1 d2 d3 g1 g2 g3 l2 hz0
  replace B1 := B1.drewN nq
  replace B2 := B2.drewN nq
  replace hb0 := bel_drewN hb0 nq
  generalize w0.drewN nq = w9 at *
  obtain ⟨c1, c2, c3, f1, f2, f3, l1⟩ := B1.three
  obtain ⟨d1, d2, d3, g1, g2, g3, l2⟩ := B2.three
  replace hq := hq.out
  replace hkq := hkq.out
  replace hq0 := hq0.out
  replace hx := hx.out
  replace hy := hy.out
  replace hT := hT.out
  replace hN := hN.out
  have hsw := Lib.hid (fun w => rSwap w t p q (by omega) hq hq0 x y (List.getElem?_eq_some_iff.1 hx).2 (List.getElem?_eq_some_iff.1 hy).2)
  rw [hT] at hsw
  have w2 : IntKind.i64.wrap ((k : Int) - 1) = (p : Int) := by rw [IntKind.wrap_i64]; omega
  have w3 : IntKind.i64.wrap ((k : Int) + 1) = (N : Int) := by rw [IntKind.wrap_i64]; omega
  have t1 : ((0 : Int) < (k : Int)) = True := by simp; omega
  have t1n : (0 < k) = True := by simp; omega
  have t2 : ((k : Int) < (t.length : Int)) = True := by simp; omega
  clear hx hy hT hN hkq hq hq0
  go_wp2_with (go_at_call 21; refine (hsw.out _).mono ?_; rintro e w1 ⟨rfl, hb1⟩; replace B1 := B1.below hb1; replace B2 := B2.below hb1; replace hb0 := bel_trans hb0 hb1; clear c1 c2 c3 f1 f2 f3 l1 d1 d2 d3 g1 g2 g3 l2; obtain ⟨c1, c2, c3, f1, f2, f3, l1⟩ := B1.three; obtain ⟨d1, d2, d3, g1, g2, g3, l2⟩ := B2.three)
  refine ret_blk (v := .agg #[.string ⟨(T).toArray⟩, .int .i64 ((N : Int)), .bool false]) (w.heap.size + 1) #[.string ⟨(T).toArray⟩, .int .i64 ((N : Int)), .bool false] 23 (by refine Blk.put3 (x0 := .string ⟨#[]⟩) (y0 := .int .i64 0) (z0 := .bool false) ?_; (repeat (refine Blk.set_other ?_ (by omega) _ _)); first | exact B2 | exact Blk.drewN B2 _) (fun w' h => by obtain ⟨c1, c2, c3, _⟩ := h.three; simp [results, Try.results10, go_sem, c1, c2, c3]) rfl ⟨rfl, ?_⟩
  repeat (first | exact hb0 | exact bel_drewN hb0 _ | refine bel_set ?_ (by omega) _)

set_option maxRecDepth 100000 in
set_option maxHeartbeats 2000000 in
theorem rKey_20e (w : World) (t : List UInt8) (a : Int) (k : Nat) (hk : k = clampN t a) (ht : t.length ≤ 4000) (p q : Nat) (hq : q = p + 1) (hkq : k = q + 1) (hq0 : k = t.length) (x y : UInt8) (hx : t[p]? = some x) (hy : t[q]? = some y) (T : List UInt8) (hT : (t.set p y).set q x = T) :
    Calls Try.prog 10 #[vw t a false, .int .u8 20] w fun e w' => e = .returned (vw T k false) ∧ Below w.heap.size w w' := by
  have hk2 := clampN_eq t a
  rw [← hk] at hk2
  have hmax : (if (t.length : Int) < (if a < 0 then 0 else a) then (t.length : Int) else (if a < 0 then 0 else a)) = (k : Int) := by split <;> split <;> omega
  have hkt : k ≤ t.length := by omega
  clear hk hk2
  replace hq := Lib.hid hq
  replace hkq := Lib.hid hkq
  replace hq0 := Lib.hid hq0
  replace hx := Lib.hid hx
  replace hy := Lib.hid hy
  replace hT := Lib.hid hT
  unfold vw
  go_enter Try.func10, Try.ntmps10
  go_upto_region 4 with fail
  obtain ⟨w0, hw0⟩ : ∃ w0, w0 = ((w.alloc (.cells #[.string ⟨t.toArray⟩, .int .i64 (k : Int), .bool false] 23)).alloc (.cells #[.string ⟨#[]⟩, .int .i64 0, .bool false] 23)) := ⟨_, rfl⟩
  have B1 : Blk w0 w.heap.size #[.string ⟨t.toArray⟩, .int .i64 (k : Int), .bool false] 23 := by subst hw0; exact (Blk.new _ _ _).alloc _
  have B2 : Blk w0 (w.heap.size + 1) #[.string ⟨#[]⟩, .int .i64 0, .bool false] 23 := by subst hw0; exact Blk.new' (by simp)
  have hb0 : Below w.heap.size w w0 := by subst hw0; exact bel_alloc (bel_alloc (Below.refl _ _) _) _
  have hz0 : w.heap.size + 2 ≤ w0.heap.size := by subst hw0; simp
  rw [← hw0]
  generalize (if a < 0 then 0 else a) = m0
  clear hw0
  clear hmax
  obtain ⟨c1, c2, c3, f1, f2, f3, l1⟩ := B1.three
  obtain ⟨d1, d2, d3, g1, g2, g3, l2⟩ := B2.three
  go_quiet (fail)
  clear c1 c2 c3 f1 f2 f3 l1 d1 d2 d3 g1 g2 g3 l2 hz0
  replace B1 := B1.drewN nq
  replace B2 := B2.drewN nq
  replace hb0 := bel_drewN hb0 nq
  generalize w0.drewN nq = w9 at *
  obtain ⟨c1, c2, c3, f1, f2, f3, l1⟩ := B1.three
  obtain ⟨d1, d2, d3, g1, g2, g3, l2⟩ := B2.three
  replace hq := hq.out
  replace hkq := hkq.out
  replace hq0 := hq0.out
  replace hx := hx.out
  replace hy := hy.out
  replace hT := hT.out
  have hsw := Lib.hid (fun w => rSwap w t p q (by omega) hq (by omega) x y (List.getElem?_eq_some_iff.1 hx).2 (List.getElem?_eq_some_iff.1 hy).2)
  rw [hT] at hsw
  have w2 : IntKind.i64.wrap ((k : Int) - 2) = (p : Int) := by rw [IntKind.wrap_i64]; omega
  have t1 : ((0 : Int) < (k : Int)) = True := by simp; omega
  have t1n : (0 < k) = True := by simp; omega
  have t2 : ((k : Int) < (t.length : Int)) = False := by simp; omega
  have t3 : ((k : Int) == (t.length : Int)) = true := by simp; omega
  have t4 : ((2 : Int) ≤ (k : Int)) = True := by simp; omega
  have t4n : (2 ≤ k) = True := by simp; omega
  clear hx hy hT hkq hq hq0
  go_wp2_with (go_at_call 21; refine (hsw.out _).mono ?_; rintro e w1 ⟨rfl, hb1⟩; replace B1 := B1.below hb1; replace B2 := B2.below hb1; replace hb0 := bel_trans hb0 hb1; clear c1 c2 c3 f1 f2 f3 l1 d1 d2 d3 g1 g2 g3 l2; obtain ⟨c1, c2, c3, f1, f2, f3, l1⟩ := B1.three; obtain ⟨d1, d2, d3, g1, g2, g3, l2⟩ := B2.three)
  refine ret_blk (v := .agg #[.string ⟨(T).toArray⟩, .int .i64 ((k : Int)), .bool false]) (w.heap.size + 1) #[.string ⟨(T).toArray⟩, .int .i64 ((k : Int)), .bool false] 23 (by refine Blk.put3 (x0 := .string ⟨#[]⟩) (y0 := .int .i64 0) (z0 := .bool false) ?_; (repeat (refine Blk.set_other ?_ (by omega) _ _)); first | exact B2 | exact Blk.drewN B2 _) (fun w' h => by obtain ⟨c1, c2, c3, _⟩ := h.three; simp [results, Try.results10, go_sem, c1, c2, c3]) rfl ⟨rfl, ?_⟩
  repeat (first | exact hb0 | exact bel_drewN hb0 _ | refine bel_set ?_ (by omega) _)

set_option maxRecDepth 100000 in
set_option maxHeartbeats 2000000 in
theorem rKey_20a (w : World) (t : List UInt8) (a : Int) (k : Nat) (hk : k = clampN t a) (ht : t.length ≤ 4000) (h0 : k = 0) (h1 : 0 < t.length) :
    Calls Try.prog 10 #[vw t a false, .int .u8 20] w fun e w' => e = .returned (vw t k false) ∧ Below w.heap.size w w' := by
  have hk2 := clampN_eq t a
  rw [← hk] at hk2
  have hmax : (if (t.length : Int) < (if a < 0 then 0 else a) then (t.length : Int) else (if a < 0 then 0 else a)) = (k : Int) := by split <;> split <;> omega
  have hkt : k ≤ t.length := by omega
  clear hk hk2
  replace h0 := Lib.hid h0
  replace h1 := Lib.hid h1
  unfold vw
  go_enter Try.func10, Try.ntmps10
  go_upto_region 4 with fail
  obtain ⟨w0, hw0⟩ : ∃ w0, w0 = ((w.alloc (.cells #[.string ⟨t.toArray⟩, .int .i64 (k : Int), .bool false] 23)).alloc (.cells #[.string ⟨#[]⟩, .int .i64 0, .bool false] 23)) := ⟨_, rfl⟩
  have B1 : Blk w0 w.heap.size #[.string ⟨t.toArray⟩, .int .i64 (k : Int), .bool false] 23 := by subst hw0; exact (Blk.new _ _ _).alloc _
  have B2 : Blk w0 (w.heap.size + 1) #[.string ⟨#[]⟩, .int .i64 0, .bool false] 23 := by subst hw0; exact Blk.new' (by simp)
  have hb0 : Below w.heap.size w w0 := by subst hw0; exact bel_alloc (bel_alloc (Below.refl _ _) _) _
  have hz0 : w.heap.size + 2 ≤ w0.heap.size := by subst hw0; simp
  rw [← hw0]
  generalize (if a < 0 then 0 else a) = m0
  clear hw0
  clear hmax
  obtain ⟨c1, c2, c3, f1, f2, f3, l1⟩ := B1.three
  obtain ⟨d1, d2, d3, g1, g2, g3, l2⟩ := B2.three
  go_quiet (fail)
  clear c1 c2 c3 f1 f2 f3 l1 d1 d2 d3 g1 g2 g3 l2 hz0
  replace B1 := B1.drewN nq
  replace B2 := B2.drewN nq
  replace hb0 := bel_drewN hb0 nq
  generalize w0.drewN nq = w9 at *
  obtain ⟨c1, c2, c3, f1, f2, f3, l1⟩ := B1.three
  obtain ⟨d1, d2, d3, g1, g2, g3, l2⟩ := B2.three
  replace h0 := h0.out
  replace h1 := h1.out
  have t1 : ((0 : Int) < (k : Int)) = False := by simp; omega
  have t1n : ((0) < (k)) = False := by simp; omega
  have t2 : ((k : Int) == (t.length : Int)) = false := by simp; omega
  clear h0 h1
  go_wp2
  refine ret_blk (v := .agg #[.string ⟨(t).toArray⟩, .int .i64 ((k : Int)), .bool false]) (w.heap.size + 1) #[.string ⟨(t).toArray⟩, .int .i64 ((k : Int)), .bool false] 23 (by refine Blk.put3 (x0 := .string ⟨#[]⟩) (y0 := .int .i64 0) (z0 := .bool false) ?_; (repeat (refine Blk.set_other ?_ (by omega) _ _)); first | exact B2 | exact Blk.drewN B2 _) (fun w' h => by obtain ⟨c1, c2, c3, _⟩ := h.three; simp [results, Try.results10, go_sem, c1, c2, c3]) rfl ⟨rfl, ?_⟩
  repeat (first | exact hb0 | exact bel_drewN hb0 _ | refine bel_set ?_ (by omega) _)

set_option maxRecDepth 100000 in
set_option maxHeartbeats 2000000 in
theorem rKey_20b (w : World) (t : List UInt8) (a : Int) (k : Nat) (hk : k = clampN t a) (ht : t.length ≤ 4000) (h0 : k = 0) (h1 : t.length = 0) :
    Calls Try.prog 10 #[vw t a false, .int .u8 20] w fun e w' => e = .returned (vw t k false) ∧ Below w.heap.size w w' := by
  have hk2 := clampN_eq t a
  rw [← hk] at hk2
  have hmax : (if (t.length : Int) < (if a < 0 then 0 else a) then (t.length : Int) else (if a < 0 then 0 else a)) = (k : Int) := by split <;> split <;> omega
  have hkt : k ≤ t.length := by omega
  clear hk hk2
  replace h0 := Lib.hid h0
  replace h1 := Lib.hid h1
  unfold vw
  go_enter Try.func10, Try.ntmps10
  go_upto_region 4 with fail
  obtain ⟨w0, hw0⟩ : ∃ w0, w0 = ((w.alloc (.cells #[.string ⟨t.toArray⟩, .int .i64 (k : Int), .bool false] 23)).alloc (.cells #[.string ⟨#[]⟩, .int .i64 0, .bool false] 23)) := ⟨_, rfl⟩
  have B1 : Blk w0 w.heap.size #[.string ⟨t.toArray⟩, .int .i64 (k : Int), .bool false] 23 := by subst hw0; exact (Blk.new _ _ _).alloc _
  have B2 : Blk w0 (w.heap.size + 1) #[.string ⟨#[]⟩, .int .i64 0, .bool false] 23 := by subst hw0; exact Blk.new' (by simp)
  have hb0 : Below w.heap.size w w0 := by subst hw0; exact bel_alloc (bel_alloc (Below.refl _ _) _) _
  have hz0 : w.heap.size + 2 ≤ w0.heap.size := by subst hw0; simp
  rw [← hw0]
  generalize (if a < 0 then 0 else a) = m0
  clear hw0
  clear hmax
  obtain ⟨c1, c2, c3, f1, f2, f3, l1⟩ := B1.three
  obtain ⟨d1, d2, d3, g1, g2, g3, l2⟩ := B2.three
  go_quiet (fail)
  clear c1 c2 c3 f1 f2 f3 l1 d1 d2 d3 g1 g2 g3 l2 hz0
  replace B1 := B1.drewN nq
  replace B2 := B2.drewN nq
  replace hb0 := bel_drewN hb0 nq
  generalize w0.drewN nq = w9 at *
  obtain ⟨c1, c2, c3, f1, f2, f3, l1⟩ := B1.three
  obtain ⟨d1, d2, d3, g1, g2, g3, l2⟩ := B2.three
  replace h0 := h0.out
  replace h1 := h1.out
  have t1 : ((0 : Int) < (k : Int)) = False := by simp; omega
  have t1n : ((0) < (k)) = False := by simp; omega
  have t2 : ((k : Int) == (t.length : Int)) = true := by simp; omega
  have t3 : ((2 : Int) ≤ (k : Int)) = False := by simp; omega
  have t3n : ((2) ≤ (k)) = False := by simp; omega
  clear h0 h1
  go_wp2
  refine ret_blk (v := .agg #[.string ⟨(t).toArray⟩, .int .i64 ((k : Int)), .bool false]) (w.heap.size + 1) #[.string ⟨(t).toArray⟩, .int .i64 ((k : Int)), .bool false] 23 (by refine Blk.put3 (x0 := .string ⟨#[]⟩) (y0 := .int .i64 0) (z0 := .bool false) ?_; (repeat (refine Blk.set_other ?_ (by omega) _ _)); first | exact B2 | exact Blk.drewN B2 _) (fun w' h => by obtain ⟨c1, c2, c3, _⟩ := h.three; simp [results, Try.results10, go_sem, c1, c2, c3]) rfl ⟨rfl, ?_⟩
  repeat (first | exact hb0 | exact bel_drewN hb0 _ | refine bel_set ?_ (by omega) _)

set_option maxRecDepth 100000 in
set_option maxHeartbeats 2000000 in
theorem rKey_20c (w : World) (t : List UInt8) (a : Int) (k : Nat) (hk : k = clampN t a) (ht : t.length ≤ 4000) (h0 : k = 1) (h1 : t.length = 1) :
    Calls Try.prog 10 #[vw t a false, .int .u8 20] w fun e w' => e = .returned (vw t k false) ∧ Below w.heap.size w w' := by
  have hk2 := clampN_eq t a
  rw [← hk] at hk2
  have hmax : (if (t.length : Int) < (if a < 0 then 0 else a) then (t.length : Int) else (if a < 0 then 0 else a)) = (k : Int) := by split <;> split <;> omega
  have hkt : k ≤ t.length := by omega
  clear hk hk2
  replace h0 := Lib.hid h0
  replace h1 := Lib.hid h1
  unfold vw
  go_enter Try.func10, Try.ntmps10
  go_upto_region 4 with fail
  obtain ⟨w0, hw0⟩ : ∃ w0, w0 = ((w.alloc (.cells #[.string ⟨t.toArray⟩, .int .i64 (k : Int), .bool false] 23)).alloc (.cells #[.string ⟨#[]⟩, .int .i64 0, .bool false] 23)) := ⟨_, rfl⟩
  have B1 : Blk w0 w.heap.size #[.string ⟨t.toArray⟩, .int .i64 (k : Int), .bool false] 23 := by subst hw0; exact (Blk.new _ _ _).alloc _
  have B2 : Blk w0 (w.heap.size + 1) #[.string ⟨#[]⟩, .int .i64 0, .bool false] 23 := by subst hw0; exact Blk.new' (by simp)
  have hb0 : Below w.heap.size w w0 := by subst hw0; exact bel_alloc (bel_alloc (Below.refl _ _) _) _
  have hz0 : w.heap.size + 2 ≤ w0.heap.size := by subst hw0; simp
  rw [← hw0]
  generalize (if a < 0 then 0 else a) = m0
  clear hw0
  clear hmax
  obtain ⟨c1, c2, c3, f1, f2, f3, l1⟩ := B1.three
  obtain ⟨d1, d2, d3, g1, g2, g3, l2⟩ := B2.three
  go_quiet (fail)
  clear c1 c2 c3 f1 f2 f3 l1 d1 d2 d3 g1 g2 g3 l2 hz0
  replace B1 := B1.drewN nq
  replace B2 := B2.drewN nq
  replace hb0 := bel_drewN hb0 nq
  generalize w0.drewN nq = w9 at *
  obtain ⟨c1, c2, c3, f1, f2, f3, l1⟩ := B1.three
  obtain ⟨d1, d2, d3, g1, g2, g3, l2⟩ := B2.three
  replace h0 := h0.out
  replace h1 := h1.out
  have t1 : ((0 : Int) < (k : Int)) = True := by simp; omega
  have t1n : ((0) < (k)) = True := by simp; omega
  have t2 : ((k : Int) < (t.length : Int)) = False := by simp; omega
  have t3 : ((k : Int) == (t.length : Int)) = true := by simp; omega
  have t4 : ((2 : Int) ≤ (k : Int)) = False := by simp; omega
  have t4n : ((2) ≤ (k)) = False := by simp; omega
  clear h0 h1
  go_wp2
  refine ret_blk (v := .agg #[.string ⟨(t).toArray⟩, .int .i64 ((k : Int)), .bool false]) (w.heap.size + 1) #[.string ⟨(t).toArray⟩, .int .i64 ((k : Int)), .bool false] 23 (by refine Blk.put3 (x0 := .string ⟨#[]⟩) (y0 := .int .i64 0) (z0 := .bool false) ?_; (repeat (refine Blk.set_other ?_ (by omega) _ _)); first | exact B2 | exact Blk.drewN B2 _) (fun w' h => by obtain ⟨c1, c2, c3, _⟩ := h.three; simp [results, Try.results10, go_sem, c1, c2, c3]) rfl ⟨rfl, ?_⟩
  repeat (first | exact hb0 | exact bel_drewN hb0 _ | refine bel_set ?_ (by omega) _)

end Go.Proofs.Ytfmlbnkmckkjnaa

