/- The reference's 'Key'. -/
import Derived.Test.YtfmlbnkmckkjnaaF2
namespace Go.Proofs.Ytfmlbnkmckkjnaa
open Go.RowKit
set_option linter.unusedVariables false
set_option linter.unusedSimpArgs false
attribute [local go_sem] cell_set set_set m_undef ba_get field0 field1 field2

theorem enc1 (c : UInt8) (h : c.toNat ≤ 126) : Utf8.encode (c.toNat : Int) = ⟨#[c]⟩ := by
  have hv : Utf8.valid (c.toNat : Int) = true := by simp [Utf8.valid]; omega
  unfold Utf8.encode
  simp only [hv, if_true, Int.toNat_natCast]
  rw [if_pos (by omega), UInt8.ofNat_toNat]
theorem Blk.put3 {w : World} {b : Nat} {x0 y0 z0 x y z : Value} {t : TypeId} (h : Blk w b #[x0, y0, z0] t) : Blk (((w.setCell ⟨b, 0, none⟩ x).setCell ⟨b, 1, none⟩ y).setCell ⟨b, 2, none⟩ z) b #[x, y, z] t := ((h.set 0 x).set 1 y).set 2 z
theorem rCutT (w : World) (t : List UInt8) (i j : Nat) (ht : t.length ≤ 5000) (hi : i ≤ t.length) (hj : j ≤ t.length) (T : List UInt8) (hT : t.take i ++ t.drop j = T) :
    Calls Try.prog 19 #[.string ⟨t.toArray⟩, .int .i64 (i : Int), .int .i64 (j : Int)] w fun e w' => e = .returned (.string ⟨T.toArray⟩) ∧ Below w.heap.size w w' := by
  subst hT; exact rCut w t i j ht hi hj

set_option maxRecDepth 100000 in
set_option maxHeartbeats 2000000 in
theorem rKey_1 (w : World) (t : List UInt8) (a : Int) (k : Nat) (hk : k = clampN t a) (ht : t.length ≤ 4000)  :
    Calls Try.prog 10 #[vw t a false, .int .u8 1] w fun e w' => e = .returned (vw t 0 false) ∧ Below w.heap.size w w' := by
  have hk2 := clampN_eq t a
  rw [← hk] at hk2
  have hmax : (if (t.length : Int) < (if a < 0 then 0 else a) then (t.length : Int) else (if a < 0 then 0 else a)) = (k : Int) := by split <;> split <;> omega
  have hkt : k ≤ t.length := by omega
  clear hk hk2
  unfold vw
  go_enter Try.func10, Try.ntmps10
  go_upto_region 4 with fail
  obtain ⟨w0, hw0⟩ : ∃ w0, w0 = ((w.alloc (.cells #[.string ⟨t.toArray⟩, .int .i64 (k : Int), .bool false] 23)).alloc (.cells #[.string ⟨#[]⟩, .int .i64 0, .bool false] 23)) := ⟨_, rfl⟩
  have B1 : Blk w0 w.heap.size #[.string ⟨t.toArray⟩, .int .i64 (k : Int), .bool false] 23 := by subst hw0; exact (Blk.new _ _ _).alloc _
  have B2 : Blk w0 (w.heap.size + 1) #[.string ⟨#[]⟩, .int .i64 0, .bool false] 23 := by subst hw0; exact Blk.new' (by simp)
  have hb0 : Below w.heap.size w w0 := by subst hw0; exact bel_alloc (bel_alloc (Below.refl _ _) _) _
  have hz0 : w.heap.size + 2 ≤ w0.heap.size := by subst hw0; simp
  rw [← hw0]
  generalize (if a < 0 then 0 else a) = m0
  clear hw0
  clear hmax
  obtain ⟨c1, c2, c3, f1, f2, f3, l1⟩ := B1.three
  obtain ⟨d1, d2, d3, g1, g2, g3, l2⟩ := B2.three
  go_quiet (fail)
  clear c1 c2 c3 f1 f2 f3 l1 d1 d2 d3 g1 g2 g3 l2 hz0
  replace B1 := B1.drewN nq
  replace B2 := B2.drewN nq
  replace hb0 := bel_drewN hb0 nq
  generalize w0.drewN nq = w9 at *
  obtain ⟨c1, c2, c3, f1, f2, f3, l1⟩ := B1.three
  obtain ⟨d1, d2, d3, g1, g2, g3, l2⟩ := B2.three
  go_wp2
  refine ret_blk (v := .agg #[.string ⟨(t).toArray⟩, .int .i64 (0), .bool false]) (w.heap.size + 1) #[.string ⟨(t).toArray⟩, .int .i64 (0), .bool false] 23 (by refine Blk.put3 (x0 := .string ⟨#[]⟩) (y0 := .int .i64 0) (z0 := .bool false) ?_; (repeat (refine Blk.set_other ?_ (by omega) _ _)); first | exact B2 | exact Blk.drewN B2 _) (fun w' h => by obtain ⟨c1, c2, c3, _⟩ := h.three; simp [results, Try.results10, go_sem, c1, c2, c3]) rfl ⟨rfl, ?_⟩
  repeat (first | exact hb0 | exact bel_drewN hb0 _ | refine bel_set ?_ (by omega) _)

set_option maxRecDepth 100000 in
set_option maxHeartbeats 2000000 in
theorem rKey_5 (w : World) (t : List UInt8) (a : Int) (k : Nat) (hk : k = clampN t a) (ht : t.length ≤ 4000)  :
    Calls Try.prog 10 #[vw t a false, .int .u8 5] w fun e w' => e = .returned (vw t t.length false) ∧ Below w.heap.size w w' := by
  have hk2 := clampN_eq t a
  rw [← hk] at hk2
  have hmax : (if (t.length : Int) < (if a < 0 then 0 else a) then (t.length : Int) else (if a < 0 then 0 else a)) = (k : Int) := by split <;> split <;> omega
  have hkt : k ≤ t.length := by omega
  clear hk hk2
  unfold vw
  go_enter Try.func10, Try.ntmps10
  go_upto_region 4 with fail
  obtain ⟨w0, hw0⟩ : ∃ w0, w0 = ((w.alloc (.cells #[.string ⟨t.toArray⟩, .int .i64 (k : Int), .bool false] 23)).alloc (.cells #[.string ⟨#[]⟩, .int .i64 0, .bool false] 23)) := ⟨_, rfl⟩
  have B1 : Blk w0 w.heap.size #[.string ⟨t.toArray⟩, .int .i64 (k : Int), .bool false] 23 := by subst hw0; exact (Blk.new _ _ _).alloc _
  have B2 : Blk w0 (w.heap.size + 1) #[.string ⟨#[]⟩, .int .i64 0, .bool false] 23 := by subst hw0; exact Blk.new' (by simp)
  have hb0 : Below w.heap.size w w0 := by subst hw0; exact bel_alloc (bel_alloc (Below.refl _ _) _) _
  have hz0 : w.heap.size + 2 ≤ w0.heap.size := by subst hw0; simp
  rw [← hw0]
  generalize (if a < 0 then 0 else a) = m0
  clear hw0
  clear hmax
  obtain ⟨c1, c2, c3, f1, f2, f3, l1⟩ := B1.three
  obtain ⟨d1, d2, d3, g1, g2, g3, l2⟩ := B2.three
  go_quiet (fail)
  clear c1 c2 c3 f1 f2 f3 l1 d1 d2 d3 g1 g2 g3 l2 hz0
  replace B1 := B1.drewN nq
  replace B2 := B2.drewN nq
  replace hb0 := bel_drewN hb0 nq
  generalize w0.drewN nq = w9 at *
  obtain ⟨c1, c2, c3, f1, f2, f3, l1⟩ := B1.three
  obtain ⟨d1, d2, d3, g1, g2, g3, l2⟩ := B2.three
  go_wp2
  refine ret_blk (v := .agg #[.string ⟨(t).toArray⟩, .int .i64 ((t.length : Int)), .bool false]) (w.heap.size + 1) #[.string ⟨(t).toArray⟩, .int .i64 ((t.length : Int)), .bool false] 23 (by refine Blk.put3 (x0 := .string ⟨#[]⟩) (y0 := .int .i64 0) (z0 := .bool false) ?_; (repeat (refine Blk.set_other ?_ (by omega) _ _)); first | exact B2 | exact Blk.drewN B2 _) (fun w' h => by obtain ⟨c1, c2, c3, _⟩ := h.three; simp [results, Try.results10, go_sem, c1, c2, c3]) rfl ⟨rfl, ?_⟩
  repeat (first | exact hb0 | exact bel_drewN hb0 _ | refine bel_set ?_ (by omega) _)

set_option maxRecDepth 100000 in
set_option maxHeartbeats 2000000 in
theorem rKey_2 (w : World) (t : List UInt8) (a : Int) (k : Nat) (hk : k = clampN t a) (ht : t.length ≤ 4000) (N : Nat) (hN : k - 1 = N) :
    Calls Try.prog 10 #[vw t a false, .int .u8 2] w fun e w' => e = .returned (vw t N false) ∧ Below w.heap.size w w' := by
  have hk2 := clampN_eq t a
  rw [← hk] at hk2
  have hmax : (if (t.length : Int) < (if a < 0 then 0 else a) then (t.length : Int) else (if a < 0 then 0 else a)) = (k : Int) := by split <;> split <;> omega
  have hkt : k ≤ t.length := by omega
  clear hk hk2
  replace hN := Lib.hid hN
  unfold vw
  go_enter Try.func10, Try.ntmps10
  go_upto_region 4 with fail
  obtain ⟨w0, hw0⟩ : ∃ w0, w0 = ((w.alloc (.cells #[.string ⟨t.toArray⟩, .int .i64 (k : Int), .bool false] 23)).alloc (.cells #[.string ⟨#[]⟩, .int .i64 0, .bool false] 23)) := ⟨_, rfl⟩
  have B1 : Blk w0 w.heap.size #[.string ⟨t.toArray⟩, .int .i64 (k : Int), .bool false] 23 := by subst hw0; exact (Blk.new _ _ _).alloc _
  have B2 : Blk w0 (w.heap.size + 1) #[.string ⟨#[]⟩, .int .i64 0, .bool false] 23 := by subst hw0; exact Blk.new' (by simp)
  have hb0 : Below w.heap.size w w0 := by subst hw0; exact bel_alloc (bel_alloc (Below.refl _ _) _) _
  have hz0 : w.heap.size + 2 ≤ w0.heap.size := by subst hw0; simp
  rw [← hw0]
  generalize (if a < 0 then 0 else a) = m0
  clear hw0
  clear hmax
  obtain ⟨c1, c2, c3, f1, f2, f3, l1⟩ := B1.three
  obtain ⟨d1, d2, d3, g1, g2, g3, l2⟩ := B2.three
  go_quiet (fail)
  clear c1 c2 c3 f1 f2 f3 l1 d1 d2 d3 g1 g2 g3 l2 hz0
  replace B1 := B1.drewN nq
  replace B2 := B2.drewN nq
  replace hb0 := bel_drewN hb0 nq
  generalize w0.drewN nq = w9 at *
  obtain ⟨c1, c2, c3, f1, f2, f3, l1⟩ := B1.three
  obtain ⟨d1, d2, d3, g1, g2, g3, l2⟩ := B2.three
  replace hN := hN.out
  obtain ⟨r, hr⟩ : ∃ r : Int, r = (k : Int) - 1 := ⟨_, rfl⟩
  have w2 : IntKind.i64.wrap ((k : Int) - 1) = r := by rw [IntKind.wrap_i64]; omega
  have hm : (if r < 0 then 0 else r) = (N : Int) := by split <;> omega
  clear hr hN
  go_wp2
  refine ret_blk (v := .agg #[.string ⟨(t).toArray⟩, .int .i64 ((N : Int)), .bool false]) (w.heap.size + 1) #[.string ⟨(t).toArray⟩, .int .i64 ((N : Int)), .bool false] 23 (by refine Blk.put3 (x0 := .string ⟨#[]⟩) (y0 := .int .i64 0) (z0 := .bool false) ?_; (repeat (refine Blk.set_other ?_ (by omega) _ _)); first | exact B2 | exact Blk.drewN B2 _) (fun w' h => by obtain ⟨c1, c2, c3, _⟩ := h.three; simp [results, Try.results10, go_sem, c1, c2, c3]) rfl ⟨rfl, ?_⟩
  repeat (first | exact hb0 | exact bel_drewN hb0 _ | refine bel_set ?_ (by omega) _)

set_option maxRecDepth 100000 in
set_option maxHeartbeats 2000000 in
theorem rKey_6 (w : World) (t : List UInt8) (a : Int) (k : Nat) (hk : k = clampN t a) (ht : t.length ≤ 4000) (N : Nat) (hN : min (k + 1) t.length = N) :
    Calls Try.prog 10 #[vw t a false, .int .u8 6] w fun e w' => e = .returned (vw t N false) ∧ Below w.heap.size w w' := by
  have hk2 := clampN_eq t a
  rw [← hk] at hk2
  have hmax : (if (t.length : Int) < (if a < 0 then 0 else a) then (t.length : Int) else (if a < 0 then 0 else a)) = (k : Int) := by split <;> split <;> omega
  have hkt : k ≤ t.length := by omega
  clear hk hk2
  replace hN := Lib.hid hN
  unfold vw
  go_enter Try.func10, Try.ntmps10
  go_upto_region 4 with fail
  obtain ⟨w0, hw0⟩ : ∃ w0, w0 = ((w.alloc (.cells #[.string ⟨t.toArray⟩, .int .i64 (k : Int), .bool false] 23)).alloc (.cells #[.string ⟨#[]⟩, .int .i64 0, .bool false] 23)) := ⟨_, rfl⟩
  have B1 : Blk w0 w.heap.size #[.string ⟨t.toArray⟩, .int .i64 (k : Int), .bool false] 23 := by subst hw0; exact (Blk.new _ _ _).alloc _
  have B2 : Blk w0 (w.heap.size + 1) #[.string ⟨#[]⟩, .int .i64 0, .bool false] 23 := by subst hw0; exact Blk.new' (by simp)
  have hb0 : Below w.heap.size w w0 := by subst hw0; exact bel_alloc (bel_alloc (Below.refl _ _) _) _
  have hz0 : w.heap.size + 2 ≤ w0.heap.size := by subst hw0; simp
  rw [← hw0]
  generalize (if a < 0 then 0 else a) = m0
  clear hw0
  clear hmax
  obtain ⟨c1, c2, c3, f1, f2, f3, l1⟩ := B1.three
  obtain ⟨d1, d2, d3, g1, g2, g3, l2⟩ := B2.three
  go_quiet (fail)
  clear c1 c2 c3 f1 f2 f3 l1 d1 d2 d3 g1 g2 g3 l2 hz0
  replace B1 := B1.drewN nq
  replace B2 := B2.drewN nq
  replace hb0 := bel_drewN hb0 nq
  generalize w0.drewN nq = w9 at *
  obtain ⟨c1, c2, c3, f1, f2, f3, l1⟩ := B1.three
  obtain ⟨d1, d2, d3, g1, g2, g3, l2⟩ := B2.three
  replace hN := hN.out
  obtain ⟨r, hr⟩ : ∃ r : Int, r = (k : Int) + 1 := ⟨_, rfl⟩
  have w2 : IntKind.i64.wrap ((k : Int) + 1) = r := by rw [IntKind.wrap_i64]; omega
  have hm : (if (t.length : Int) < r then (t.length : Int) else r) = (N : Int) := by split <;> omega
  clear hr hN
  go_wp2
  refine ret_blk (v := .agg #[.string ⟨(t).toArray⟩, .int .i64 ((N : Int)), .bool false]) (w.heap.size + 1) #[.string ⟨(t).toArray⟩, .int .i64 ((N : Int)), .bool false] 23 (by refine Blk.put3 (x0 := .string ⟨#[]⟩) (y0 := .int .i64 0) (z0 := .bool false) ?_; (repeat (refine Blk.set_other ?_ (by omega) _ _)); first | exact B2 | exact Blk.drewN B2 _) (fun w' h => by obtain ⟨c1, c2, c3, _⟩ := h.three; simp [results, Try.results10, go_sem, c1, c2, c3]) rfl ⟨rfl, ?_⟩
  repeat (first | exact hb0 | exact bel_drewN hb0 _ | refine bel_set ?_ (by omega) _)

set_option maxRecDepth 100000 in
set_option maxHeartbeats 2000000 in
theorem rKey_11 (w : World) (t : List UInt8) (a : Int) (k : Nat) (hk : k = clampN t a) (ht : t.length ≤ 4000) (T : List UInt8) (hT : t.take k = T) :
    Calls Try.prog 10 #[vw t a false, .int .u8 11] w fun e w' => e = .returned (vw T k false) ∧ Below w.heap.size w w' := by
  have hk2 := clampN_eq t a
  rw [← hk] at hk2
  have hmax : (if (t.length : Int) < (if a < 0 then 0 else a) then (t.length : Int) else (if a < 0 then 0 else a)) = (k : Int) := by split <;> split <;> omega
  have hkt : k ≤ t.length := by omega
  clear hk hk2
  replace hT := Lib.hid hT
  unfold vw
  go_enter Try.func10, Try.ntmps10
  go_upto_region 4 with fail
  obtain ⟨w0, hw0⟩ : ∃ w0, w0 = ((w.alloc (.cells #[.string ⟨t.toArray⟩, .int .i64 (k : Int), .bool false] 23)).alloc (.cells #[.string ⟨#[]⟩, .int .i64 0, .bool false] 23)) := ⟨_, rfl⟩
  have B1 : Blk w0 w.heap.size #[.string ⟨t.toArray⟩, .int .i64 (k : Int), .bool false] 23 := by subst hw0; exact (Blk.new _ _ _).alloc _
  have B2 : Blk w0 (w.heap.size + 1) #[.string ⟨#[]⟩, .int .i64 0, .bool false] 23 := by subst hw0; exact Blk.new' (by simp)
  have hb0 : Below w.heap.size w w0 := by subst hw0; exact bel_alloc (bel_alloc (Below.refl _ _) _) _
  have hz0 : w.heap.size + 2 ≤ w0.heap.size := by subst hw0; simp
  rw [← hw0]
  generalize (if a < 0 then 0 else a) = m0
  clear hw0
  clear hmax
  obtain ⟨c1, c2, c3, f1, f2, f3, l1⟩ := B1.three
  obtain ⟨d1, d2, d3, g1, g2, g3, l2⟩ := B2.three
  go_quiet (fail)
  clear c1 c2 c3 f1 f2 f3 l1 d1 d2 d3 g1 g2 g3 l2 hz0
  replace B1 := B1.drewN nq
  replace B2 := B2.drewN nq
  replace hb0 := bel_drewN hb0 nq
  generalize w0.drewN nq = w9 at *
  obtain ⟨c1, c2, c3, f1, f2, f3, l1⟩ := B1.three
  obtain ⟨d1, d2, d3, g1, g2, g3, l2⟩ := B2.three
  replace hT := hT.out
  have hx1 := ba_take t k
  rw [hT] at hx1
  have hi1 : ((k : Int) ≤ (t.length : Int)) = True := by simp; omega
  clear hT
  go_wp2
  refine ret_blk (v := .agg #[.string ⟨(T).toArray⟩, .int .i64 ((k : Int)), .bool false]) (w.heap.size + 1) #[.string ⟨(T).toArray⟩, .int .i64 ((k : Int)), .bool false] 23 (by refine Blk.put3 (x0 := .string ⟨#[]⟩) (y0 := .int .i64 0) (z0 := .bool false) ?_; (repeat (refine Blk.set_other ?_ (by omega) _ _)); first | exact B2 | exact Blk.drewN B2 _) (fun w' h => by obtain ⟨c1, c2, c3, _⟩ := h.three; simp [results, Try.results10, go_sem, c1, c2, c3]) rfl ⟨rfl, ?_⟩
  repeat (first | exact hb0 | exact bel_drewN hb0 _ | refine bel_set ?_ (by omega) _)

set_option maxRecDepth 100000 in
set_option maxHeartbeats 2000000 in
theorem rKey_21 (w : World) (t : List UInt8) (a : Int) (k : Nat) (hk : k = clampN t a) (ht : t.length ≤ 4000) (T : List UInt8) (hT : t.drop k = T) :
    Calls Try.prog 10 #[vw t a false, .int .u8 21] w fun e w' => e = .returned (vw T 0 false) ∧ Below w.heap.size w w' := by
  have hk2 := clampN_eq t a
  rw [← hk] at hk2
  have hmax : (if (t.length : Int) < (if a < 0 then 0 else a) then (t.length : Int) else (if a < 0 then 0 else a)) = (k : Int) := by split <;> split <;> omega
  have hkt : k ≤ t.length := by omega
  clear hk hk2
  replace hT := Lib.hid hT
  unfold vw
  go_enter Try.func10, Try.ntmps10
  go_upto_region 4 with fail
  obtain ⟨w0, hw0⟩ : ∃ w0, w0 = ((w.alloc (.cells #[.string ⟨t.toArray⟩, .int .i64 (k : Int), .bool false] 23)).alloc (.cells #[.string ⟨#[]⟩, .int .i64 0, .bool false] 23)) := ⟨_, rfl⟩
  have B1 : Blk w0 w.heap.size #[.string ⟨t.toArray⟩, .int .i64 (k : Int), .bool false] 23 := by subst hw0; exact (Blk.new _ _ _).alloc _
  have B2 : Blk w0 (w.heap.size + 1) #[.string ⟨#[]⟩, .int .i64 0, .bool false] 23 := by subst hw0; exact Blk.new' (by simp)
  have hb0 : Below w.heap.size w w0 := by subst hw0; exact bel_alloc (bel_alloc (Below.refl _ _) _) _
  have hz0 : w.heap.size + 2 ≤ w0.heap.size := by subst hw0; simp
  rw [← hw0]
  generalize (if a < 0 then 0 else a) = m0
  clear hw0
  clear hmax
  obtain ⟨c1, c2, c3, f1, f2, f3, l1⟩ := B1.three
  obtain ⟨d1, d2, d3, g1, g2, g3, l2⟩ := B2.three
  go_quiet (fail)
  clear c1 c2 c3 f1 f2 f3 l1 d1 d2 d3 g1 g2 g3 l2 hz0
  replace B1 := B1.drewN nq
  replace B2 := B2.drewN nq
  replace hb0 := bel_drewN hb0 nq
  generalize w0.drewN nq = w9 at *
  obtain ⟨c1, c2, c3, f1, f2, f3, l1⟩ := B1.three
  obtain ⟨d1, d2, d3, g1, g2, g3, l2⟩ := B2.three
  replace hT := hT.out
  have hx1 := ba_drop t k
  rw [hT] at hx1
  have hi1 : ((k : Int) ≤ (t.length : Int)) = True := by simp; omega
  clear hT
  go_wp2
  refine ret_blk (v := .agg #[.string ⟨(T).toArray⟩, .int .i64 (0), .bool false]) (w.heap.size + 1) #[.string ⟨(T).toArray⟩, .int .i64 (0), .bool false] 23 (by refine Blk.put3 (x0 := .string ⟨#[]⟩) (y0 := .int .i64 0) (z0 := .bool false) ?_; (repeat (refine Blk.set_other ?_ (by omega) _ _)); first | exact B2 | exact Blk.drewN B2 _) (fun w' h => by obtain ⟨c1, c2, c3, _⟩ := h.three; simp [results, Try.results10, go_sem, c1, c2, c3]) rfl ⟨rfl, ?_⟩
  repeat (first | exact hb0 | exact bel_drewN hb0 _ | refine bel_set ?_ (by omega) _)

set_option maxRecDepth 100000 in
set_option maxHeartbeats 2000000 in
theorem rKey_10 (w : World) (t : List UInt8) (a : Int) (k : Nat) (hk : k = clampN t a) (ht : t.length ≤ 4000)  :
    Calls Try.prog 10 #[vw t a false, .int .u8 10] w fun e w' => e = .returned (vw t k true) ∧ Below w.heap.size w w' := by
  have hk2 := clampN_eq t a
  rw [← hk] at hk2
  have hmax : (if (t.length : Int) < (if a < 0 then 0 else a) then (t.length : Int) else (if a < 0 then 0 else a)) = (k : Int) := by split <;> split <;> omega
  have hkt : k ≤ t.length := by omega
  clear hk hk2
  unfold vw
  go_enter Try.func10, Try.ntmps10
  go_upto_region 4 with fail
  obtain ⟨w0, hw0⟩ : ∃ w0, w0 = ((w.alloc (.cells #[.string ⟨t.toArray⟩, .int .i64 (k : Int), .bool false] 23)).alloc (.cells #[.string ⟨#[]⟩, .int .i64 0, .bool false] 23)) := ⟨_, rfl⟩
  have B1 : Blk w0 w.heap.size #[.string ⟨t.toArray⟩, .int .i64 (k : Int), .bool false] 23 := by subst hw0; exact (Blk.new _ _ _).alloc _
  have B2 : Blk w0 (w.heap.size + 1) #[.string ⟨#[]⟩, .int .i64 0, .bool false] 23 := by subst hw0; exact Blk.new' (by simp)
  have hb0 : Below w.heap.size w w0 := by subst hw0; exact bel_alloc (bel_alloc (Below.refl _ _) _) _
  have hz0 : w.heap.size + 2 ≤ w0.heap.size := by subst hw0; simp
  rw [← hw0]
  generalize (if a < 0 then 0 else a) = m0
  clear hw0
  clear hmax
  obtain ⟨c1, c2, c3, f1, f2, f3, l1⟩ := B1.three
  obtain ⟨d1, d2, d3, g1, g2, g3, l2⟩ := B2.three
  go_quiet (fail)
  clear c1 c2 c3 f1 f2 f3 l1 d1 d2 d3 g1 g2 g3 l2 hz0
  replace B1 := B1.drewN nq
  replace B2 := B2.drewN nq
  replace hb0 := bel_drewN hb0 nq
  generalize w0.drewN nq = w9 at *
  obtain ⟨c1, c2, c3, f1, f2, f3, l1⟩ := B1.three
  obtain ⟨d1, d2, d3, g1, g2, g3, l2⟩ := B2.three
  go_wp2
  refine ret_blk (v := .agg #[.string ⟨(t).toArray⟩, .int .i64 ((k : Int)), .bool true]) (w.heap.size + 1) #[.string ⟨(t).toArray⟩, .int .i64 ((k : Int)), .bool true] 23 (by refine Blk.put3 (x0 := .string ⟨#[]⟩) (y0 := .int .i64 0) (z0 := .bool false) ?_; (repeat (refine Blk.set_other ?_ (by omega) _ _)); first | exact B2 | exact Blk.drewN B2 _) (fun w' h => by obtain ⟨c1, c2, c3, _⟩ := h.three; simp [results, Try.results10, go_sem, c1, c2, c3]) rfl ⟨rfl, ?_⟩
  repeat (first | exact hb0 | exact bel_drewN hb0 _ | refine bel_set ?_ (by omega) _)

set_option maxRecDepth 100000 in
set_option maxHeartbeats 2000000 in
theorem rKey_13 (w : World) (t : List UInt8) (a : Int) (k : Nat) (hk : k = clampN t a) (ht : t.length ≤ 4000)  :
    Calls Try.prog 10 #[vw t a false, .int .u8 13] w fun e w' => e = .returned (vw t k true) ∧ Below w.heap.size w w' := by
  have hk2 := clampN_eq t a
  rw [← hk] at hk2
  have hmax : (if (t.length : Int) < (if a < 0 then 0 else a) then (t.length : Int) else (if a < 0 then 0 else a)) = (k : Int) := by split <;> split <;> omega
  have hkt : k ≤ t.length := by omega
  clear hk hk2
  unfold vw
  go_enter Try.func10, Try.ntmps10
  go_upto_region 4 with fail
  obtain ⟨w0, hw0⟩ : ∃ w0, w0 = ((w.alloc (.cells #[.string ⟨t.toArray⟩, .int .i64 (k : Int), .bool false] 23)).alloc (.cells #[.string ⟨#[]⟩, .int .i64 0, .bool false] 23)) := ⟨_, rfl⟩
  have B1 : Blk w0 w.heap.size #[.string ⟨t.toArray⟩, .int .i64 (k : Int), .bool false] 23 := by subst hw0; exact (Blk.new _ _ _).alloc _
  have B2 : Blk w0 (w.heap.size + 1) #[.string ⟨#[]⟩, .int .i64 0, .bool false] 23 := by subst hw0; exact Blk.new' (by simp)
  have hb0 : Below w.heap.size w w0 := by subst hw0; exact bel_alloc (bel_alloc (Below.refl _ _) _) _
  have hz0 : w.heap.size + 2 ≤ w0.heap.size := by subst hw0; simp
  rw [← hw0]
  generalize (if a < 0 then 0 else a) = m0
  clear hw0
  clear hmax
  obtain ⟨c1, c2, c3, f1, f2, f3, l1⟩ := B1.three
  obtain ⟨d1, d2, d3, g1, g2, g3, l2⟩ := B2.three
  go_quiet (fail)
  clear c1 c2 c3 f1 f2 f3 l1 d1 d2 d3 g1 g2 g3 l2 hz0
  replace B1 := B1.drewN nq
  replace B2 := B2.drewN nq
  replace hb0 := bel_drewN hb0 nq
  generalize w0.drewN nq = w9 at *
  obtain ⟨c1, c2, c3, f1, f2, f3, l1⟩ := B1.three
  obtain ⟨d1, d2, d3, g1, g2, g3, l2⟩ := B2.three
  go_wp2
  refine ret_blk (v := .agg #[.string ⟨(t).toArray⟩, .int .i64 ((k : Int)), .bool true]) (w.heap.size + 1) #[.string ⟨(t).toArray⟩, .int .i64 ((k : Int)), .bool true] 23 (by refine Blk.put3 (x0 := .string ⟨#[]⟩) (y0 := .int .i64 0) (z0 := .bool false) ?_; (repeat (refine Blk.set_other ?_ (by omega) _ _)); first | exact B2 | exact Blk.drewN B2 _) (fun w' h => by obtain ⟨c1, c2, c3, _⟩ := h.three; simp [results, Try.results10, go_sem, c1, c2, c3]) rfl ⟨rfl, ?_⟩
  repeat (first | exact hb0 | exact bel_drewN hb0 _ | refine bel_set ?_ (by omega) _)

set_option maxRecDepth 100000 in
set_option maxHeartbeats 2000000 in
theorem rKey_4 (w : World) (t : List UInt8) (a : Int) (k : Nat) (hk : k = clampN t a) (ht : t.length ≤ 4000) (hl : k < t.length) (T : List UInt8) (hT : t.take k ++ t.drop (k + 1) = T) :
    Calls Try.prog 10 #[vw t a false, .int .u8 4] w fun e w' => e = .returned (vw T k false) ∧ Below w.heap.size w w' := by
  have hk2 := clampN_eq t a
  rw [← hk] at hk2
  have hmax : (if (t.length : Int) < (if a < 0 then 0 else a) then (t.length : Int) else (if a < 0 then 0 else a)) = (k : Int) := by split <;> split <;> omega
  have hkt : k ≤ t.length := by omega
  clear hk hk2
  replace hl := Lib.hid hl
  replace hT := Lib.hid hT
  unfold vw
  go_enter Try.func10, Try.ntmps10
  go_upto_region 4 with fail
  obtain ⟨w0, hw0⟩ : ∃ w0, w0 = ((w.alloc (.cells #[.string ⟨t.toArray⟩, .int .i64 (k : Int), .bool false] 23)).alloc (.cells #[.string ⟨#[]⟩, .int .i64 0, .bool false] 23)) := ⟨_, rfl⟩
  have B1 : Blk w0 w.heap.size #[.string ⟨t.toArray⟩, .int .i64 (k : Int), .bool false] 23 := by subst hw0; exact (Blk.new _ _ _).alloc _
  have B2 : Blk w0 (w.heap.size + 1) #[.string ⟨#[]⟩, .int .i64 0, .bool false] 23 := by subst hw0; exact Blk.new' (by simp)
  have hb0 : Below w.heap.size w w0 := by subst hw0; exact bel_alloc (bel_alloc (Below.refl _ _) _) _
  have hz0 : w.heap.size + 2 ≤ w0.heap.size := by subst hw0; simp
  rw [← hw0]
  generalize (if a < 0 then 0 else a) = m0
  clear hw0
  clear hmax
  obtain ⟨c1, c2, c3, f1, f2, f3, l1⟩ := B1.three
  obtain ⟨d1, d2, d3, g1, g2, g3, l2⟩ := B2.three
  go_quiet (fail)
  clear c1 c2 c3 f1 f2 f3 l1 d1 d2 d3 g1 g2 g3 l2 hz0
  replace B1 := B1.drewN nq
  replace B2 := B2.drewN nq
  replace hb0 := bel_drewN hb0 nq
  generalize w0.drewN nq = w9 at *
  obtain ⟨c1, c2, c3, f1, f2, f3, l1⟩ := B1.three
  obtain ⟨d1, d2, d3, g1, g2, g3, l2⟩ := B2.three
  replace hl := hl.out
  replace hT := hT.out
  obtain ⟨q, hq⟩ : ∃ q, q = k + 1 := ⟨_, rfl⟩
  rw [← hq] at hT
  have w2 : IntKind.i64.wrap ((k : Int) + 1) = (q : Int) := by rw [IntKind.wrap_i64]; omega
  have t1 : ((k : Int) < (t.length : Int)) = True := by simp; omega
  have hql : q ≤ t.length := by omega
  replace hT := Lib.hid hT
  clear hq
  go_wp2_with (go_at_call 19; refine (rCutT _ t k q (by omega) (by omega) (by omega) T hT.out).mono ?_; rintro e w1 ⟨rfl, hb1⟩; replace B1 := B1.below hb1; replace B2 := B2.below hb1; replace hb0 := bel_trans hb0 hb1; clear c1 c2 c3 f1 f2 f3 l1 d1 d2 d3 g1 g2 g3 l2; obtain ⟨c1, c2, c3, f1, f2, f3, l1⟩ := B1.three; obtain ⟨d1, d2, d3, g1, g2, g3, l2⟩ := B2.three)
  refine ret_blk (v := .agg #[.string ⟨(T).toArray⟩, .int .i64 ((k : Int)), .bool false]) (w.heap.size + 1) #[.string ⟨(T).toArray⟩, .int .i64 ((k : Int)), .bool false] 23 (by refine Blk.put3 (x0 := .string ⟨#[]⟩) (y0 := .int .i64 0) (z0 := .bool false) ?_; (repeat (refine Blk.set_other ?_ (by omega) _ _)); first | exact B2 | exact Blk.drewN B2 _) (fun w' h => by obtain ⟨c1, c2, c3, _⟩ := h.three; simp [results, Try.results10, go_sem, c1, c2, c3]) rfl ⟨rfl, ?_⟩
  repeat (first | exact hb0 | exact bel_drewN hb0 _ | refine bel_set ?_ (by omega) _)

set_option maxRecDepth 100000 in
set_option maxHeartbeats 2000000 in
theorem rKey_4n (w : World) (t : List UInt8) (a : Int) (k : Nat) (hk : k = clampN t a) (ht : t.length ≤ 4000) (hl : ¬ k < t.length) :
    Calls Try.prog 10 #[vw t a false, .int .u8 4] w fun e w' => e = .returned (vw t k false) ∧ Below w.heap.size w w' := by
  have hk2 := clampN_eq t a
  rw [← hk] at hk2
  have hmax : (if (t.length : Int) < (if a < 0 then 0 else a) then (t.length : Int) else (if a < 0 then 0 else a)) = (k : Int) := by split <;> split <;> omega
  have hkt : k ≤ t.length := by omega
  clear hk hk2
  replace hl := Lib.hid hl
  unfold vw
  go_enter Try.func10, Try.ntmps10
  go_upto_region 4 with fail
  obtain ⟨w0, hw0⟩ : ∃ w0, w0 = ((w.alloc (.cells #[.string ⟨t.toArray⟩, .int .i64 (k : Int), .bool false] 23)).alloc (.cells #[.string ⟨#[]⟩, .int .i64 0, .bool false] 23)) := ⟨_, rfl⟩
  have B1 : Blk w0 w.heap.size #[.string ⟨t.toArray⟩, .int .i64 (k : Int), .bool false] 23 := by subst hw0; exact (Blk.new _ _ _).alloc _
  have B2 : Blk w0 (w.heap.size + 1) #[.string ⟨#[]⟩, .int .i64 0, .bool false] 23 := by subst hw0; exact Blk.new' (by simp)
  have hb0 : Below w.heap.size w w0 := by subst hw0; exact bel_alloc (bel_alloc (Below.refl _ _) _) _
  have hz0 : w.heap.size + 2 ≤ w0.heap.size := by subst hw0; simp
  rw [← hw0]
  generalize (if a < 0 then 0 else a) = m0
  clear hw0
  clear hmax
  obtain ⟨c1, c2, c3, f1, f2, f3, l1⟩ := B1.three
  obtain ⟨d1, d2, d3, g1, g2, g3, l2⟩ := B2.three
  go_quiet (fail)
  clear c1 c2 c3 f1 f2 f3 l1 d1 d2 d3 g1 g2 g3 l2 hz0
  replace B1 := B1.drewN nq
  replace B2 := B2.drewN nq
  replace hb0 := bel_drewN hb0 nq
  generalize w0.drewN nq = w9 at *
  obtain ⟨c1, c2, c3, f1, f2, f3, l1⟩ := B1.three
  obtain ⟨d1, d2, d3, g1, g2, g3, l2⟩ := B2.three
  replace hl := hl.out
  have t1 : ((k : Int) < (t.length : Int)) = False := by simp; omega
  go_wp2
  refine ret_blk (v := .agg #[.string ⟨(t).toArray⟩, .int .i64 ((k : Int)), .bool false]) (w.heap.size + 1) #[.string ⟨(t).toArray⟩, .int .i64 ((k : Int)), .bool false] 23 (by refine Blk.put3 (x0 := .string ⟨#[]⟩) (y0 := .int .i64 0) (z0 := .bool false) ?_; (repeat (refine Blk.set_other ?_ (by omega) _ _)); first | exact B2 | exact Blk.drewN B2 _) (fun w' h => by obtain ⟨c1, c2, c3, _⟩ := h.three; simp [results, Try.results10, go_sem, c1, c2, c3]) rfl ⟨rfl, ?_⟩
  repeat (first | exact hb0 | exact bel_drewN hb0 _ | refine bel_set ?_ (by omega) _)

end Go.Proofs.Ytfmlbnkmckkjnaa

