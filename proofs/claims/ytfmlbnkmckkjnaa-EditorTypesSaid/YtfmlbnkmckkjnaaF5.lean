/- The reference's 'Key'. -/
import Derived.Test.YtfmlbnkmckkjnaaF3
namespace Go.Proofs.Ytfmlbnkmckkjnaa
open Go.RowKit
set_option linter.unusedVariables false
set_option linter.unusedSimpArgs false
attribute [local go_sem] cell_set set_set m_undef ba_get field0 field1 field2

set_option maxRecDepth 100000 in
set_option maxHeartbeats 2000000 in
theorem rKey_full (w : World) (t : List UInt8) (a : Int) (k : Nat) (hk : k = clampN t a) (ht : t.length ≤ 4000) (x : Nat) (h32 : 32 ≤ x) (h126 : x ≤ 126) (hfull : 200 ≤ t.length) :
    Calls Try.prog 10 #[vw t a false, .int .u8 (x : Int)] w fun e w' => e = .returned (vw t k false) ∧ Below w.heap.size w w' := by
  have hk2 := clampN_eq t a
  rw [← hk] at hk2
  have hmax : (if (t.length : Int) < (if a < 0 then 0 else a) then (t.length : Int) else (if a < 0 then 0 else a)) = (k : Int) := by split <;> split <;> omega
  have hkt : k ≤ t.length := by omega
  clear hk hk2
  replace h32 := Lib.hid h32
  replace h126 := Lib.hid h126
  replace hfull := Lib.hid hfull
  unfold vw
  go_enter Try.func10, Try.ntmps10
  go_upto_region 4 with fail
  obtain ⟨w0, hw0⟩ : ∃ w0, w0 = ((w.alloc (.cells #[.string ⟨t.toArray⟩, .int .i64 (k : Int), .bool false] 23)).alloc (.cells #[.string ⟨#[]⟩, .int .i64 0, .bool false] 23)) := ⟨_, rfl⟩
  have B1 : Blk w0 w.heap.size #[.string ⟨t.toArray⟩, .int .i64 (k : Int), .bool false] 23 := by subst hw0; exact (Blk.new _ _ _).alloc _
  have B2 : Blk w0 (w.heap.size + 1) #[.string ⟨#[]⟩, .int .i64 0, .bool false] 23 := by subst hw0; exact Blk.new' (by simp)
  have hb0 : Below w.heap.size w w0 := by subst hw0; exact bel_alloc (bel_alloc (Below.refl _ _) _) _
  have hz0 : w.heap.size + 2 ≤ w0.heap.size := by subst hw0; simp
  rw [← hw0]
  generalize (if a < 0 then 0 else a) = m0
  clear hw0
  clear hmax
  obtain ⟨c1, c2, c3, f1, f2, f3, l1⟩ := B1.three
  obtain ⟨d1, d2, d3, g1, g2, g3, l2⟩ := B2.three
  go_quiet (fail)
  clear c1 c2 c3 f1 f2 f3 l1 d1 d2 d3 g1 g2 g3 l2 hz0
  replace B1 := B1.drewN nq
  replace B2 := B2.drewN nq
  replace hb0 := bel_drewN hb0 nq
  generalize w0.drewN nq = w9 at *
  obtain ⟨c1, c2, c3, f1, f2, f3, l1⟩ := B1.three
  obtain ⟨d1, d2, d3, g1, g2, g3, l2⟩ := B2.three
  replace h32 := h32.out
  replace h126 := h126.out
  replace hfull := hfull.out
  have t1 : ((32 : Int) ≤ (x : Int)) = True := by simp; omega
  have t2 : ((x : Int) ≤ 126) = True := by simp; omega
  have t3 : ((t.length : Int) < 200) = False := by simp; omega
  clear h32 h126 hfull
  go_wp2
  refine ret_blk (v := .agg #[.string ⟨(t).toArray⟩, .int .i64 ((k : Int)), .bool false]) (w.heap.size + 1) #[.string ⟨(t).toArray⟩, .int .i64 ((k : Int)), .bool false] 23 (by refine Blk.put3 (x0 := .string ⟨#[]⟩) (y0 := .int .i64 0) (z0 := .bool false) ?_; (repeat (refine Blk.set_other ?_ (by omega) _ _)); first | exact B2 | exact Blk.drewN B2 _) (fun w' h => by obtain ⟨c1, c2, c3, _⟩ := h.three; simp [results, Try.results10, go_sem, c1, c2, c3]) rfl ⟨rfl, ?_⟩
  repeat (first | exact hb0 | exact bel_drewN hb0 _ | refine bel_set ?_ (by omega) _)

set_option maxRecDepth 100000 in
set_option maxHeartbeats 2000000 in
theorem rKey_lo (w : World) (t : List UInt8) (a : Int) (k : Nat) (hk : k = clampN t a) (ht : t.length ≤ 4000) (x : Nat) (hx : x < 32) (n8 : ¬ x = 8) (n127 : ¬ x = 127) (n4 : ¬ x = 4) (n2 : ¬ x = 2) (n6 : ¬ x = 6) (n1 : ¬ x = 1) (n5 : ¬ x = 5) (n11 : ¬ x = 11) (n21 : ¬ x = 21) (n23 : ¬ x = 23) (n20 : ¬ x = 20) (n10 : ¬ x = 10) (n13 : ¬ x = 13)  :
    Calls Try.prog 10 #[vw t a false, .int .u8 (x : Int)] w fun e w' => e = .returned (vw t k false) ∧ Below w.heap.size w w' := by
  have hk2 := clampN_eq t a
  rw [← hk] at hk2
  have hmax : (if (t.length : Int) < (if a < 0 then 0 else a) then (t.length : Int) else (if a < 0 then 0 else a)) = (k : Int) := by split <;> split <;> omega
  have hkt : k ≤ t.length := by omega
  clear hk hk2
  replace hx := Lib.hid hx
  unfold vw
  go_enter Try.func10, Try.ntmps10
  go_upto_region 4 with fail
  obtain ⟨w0, hw0⟩ : ∃ w0, w0 = ((w.alloc (.cells #[.string ⟨t.toArray⟩, .int .i64 (k : Int), .bool false] 23)).alloc (.cells #[.string ⟨#[]⟩, .int .i64 0, .bool false] 23)) := ⟨_, rfl⟩
  have B1 : Blk w0 w.heap.size #[.string ⟨t.toArray⟩, .int .i64 (k : Int), .bool false] 23 := by subst hw0; exact (Blk.new _ _ _).alloc _
  have B2 : Blk w0 (w.heap.size + 1) #[.string ⟨#[]⟩, .int .i64 0, .bool false] 23 := by subst hw0; exact Blk.new' (by simp)
  have hb0 : Below w.heap.size w w0 := by subst hw0; exact bel_alloc (bel_alloc (Below.refl _ _) _) _
  have hz0 : w.heap.size + 2 ≤ w0.heap.size := by subst hw0; simp
  rw [← hw0]
  generalize (if a < 0 then 0 else a) = m0
  clear hw0
  clear hmax
  obtain ⟨c1, c2, c3, f1, f2, f3, l1⟩ := B1.three
  obtain ⟨d1, d2, d3, g1, g2, g3, l2⟩ := B2.three
  go_quiet (fail)
  clear c1 c2 c3 f1 f2 f3 l1 d1 d2 d3 g1 g2 g3 l2 hz0
  replace B1 := B1.drewN nq
  replace B2 := B2.drewN nq
  replace hb0 := bel_drewN hb0 nq
  generalize w0.drewN nq = w9 at *
  obtain ⟨c1, c2, c3, f1, f2, f3, l1⟩ := B1.three
  obtain ⟨d1, d2, d3, g1, g2, g3, l2⟩ := B2.three
  replace hx := hx.out
  have e8 : ((x : Int) == 8) = false := by simp; omega
  have e127 : ((x : Int) == 127) = false := by simp; omega
  have e4 : ((x : Int) == 4) = false := by simp; omega
  have e2 : ((x : Int) == 2) = false := by simp; omega
  have e6 : ((x : Int) == 6) = false := by simp; omega
  have e1 : ((x : Int) == 1) = false := by simp; omega
  have e5 : ((x : Int) == 5) = false := by simp; omega
  have e11 : ((x : Int) == 11) = false := by simp; omega
  have e21 : ((x : Int) == 21) = false := by simp; omega
  have e23 : ((x : Int) == 23) = false := by simp; omega
  have e20 : ((x : Int) == 20) = false := by simp; omega
  have e10 : ((x : Int) == 10) = false := by simp; omega
  have e13 : ((x : Int) == 13) = false := by simp; omega
  have t1 : ((32 : Int) ≤ (x : Int)) = False := by simp; omega
  clear hx n8 n127 n4 n2 n6 n1 n5 n11 n21 n23 n20 n10 n13
  go_wp2
  refine ret_blk (v := .agg #[.string ⟨(t).toArray⟩, .int .i64 ((k : Int)), .bool false]) (w.heap.size + 1) #[.string ⟨(t).toArray⟩, .int .i64 ((k : Int)), .bool false] 23 (by refine Blk.put3 (x0 := .string ⟨#[]⟩) (y0 := .int .i64 0) (z0 := .bool false) ?_; (repeat (refine Blk.set_other ?_ (by omega) _ _)); first | exact B2 | exact Blk.drewN B2 _) (fun w' h => by obtain ⟨c1, c2, c3, _⟩ := h.three; simp [results, Try.results10, go_sem, c1, c2, c3]) rfl ⟨rfl, ?_⟩
  repeat (first | exact hb0 | exact bel_drewN hb0 _ | refine bel_set ?_ (by omega) _)

set_option maxRecDepth 100000 in
set_option maxHeartbeats 2000000 in
theorem rKey_hi (w : World) (t : List UInt8) (a : Int) (k : Nat) (hk : k = clampN t a) (ht : t.length ≤ 4000) (x : Nat) (hx : 126 < x) (n8 : ¬ x = 8) (n127 : ¬ x = 127) (n4 : ¬ x = 4) (n2 : ¬ x = 2) (n6 : ¬ x = 6) (n1 : ¬ x = 1) (n5 : ¬ x = 5) (n11 : ¬ x = 11) (n21 : ¬ x = 21) (n23 : ¬ x = 23) (n20 : ¬ x = 20) (n10 : ¬ x = 10) (n13 : ¬ x = 13)  :
    Calls Try.prog 10 #[vw t a false, .int .u8 (x : Int)] w fun e w' => e = .returned (vw t k false) ∧ Below w.heap.size w w' := by
  have hk2 := clampN_eq t a
  rw [← hk] at hk2
  have hmax : (if (t.length : Int) < (if a < 0 then 0 else a) then (t.length : Int) else (if a < 0 then 0 else a)) = (k : Int) := by split <;> split <;> omega
  have hkt : k ≤ t.length := by omega
  clear hk hk2
  replace hx := Lib.hid hx
  unfold vw
  go_enter Try.func10, Try.ntmps10
  go_upto_region 4 with fail
  obtain ⟨w0, hw0⟩ : ∃ w0, w0 = ((w.alloc (.cells #[.string ⟨t.toArray⟩, .int .i64 (k : Int), .bool false] 23)).alloc (.cells #[.string ⟨#[]⟩, .int .i64 0, .bool false] 23)) := ⟨_, rfl⟩
  have B1 : Blk w0 w.heap.size #[.string ⟨t.toArray⟩, .int .i64 (k : Int), .bool false] 23 := by subst hw0; exact (Blk.new _ _ _).alloc _
  have B2 : Blk w0 (w.heap.size + 1) #[.string ⟨#[]⟩, .int .i64 0, .bool false] 23 := by subst hw0; exact Blk.new' (by simp)
  have hb0 : Below w.heap.size w w0 := by subst hw0; exact bel_alloc (bel_alloc (Below.refl _ _) _) _
  have hz0 : w.heap.size + 2 ≤ w0.heap.size := by subst hw0; simp
  rw [← hw0]
  generalize (if a < 0 then 0 else a) = m0
  clear hw0
  clear hmax
  obtain ⟨c1, c2, c3, f1, f2, f3, l1⟩ := B1.three
  obtain ⟨d1, d2, d3, g1, g2, g3, l2⟩ := B2.three
  go_quiet (fail)
  clear c1 c2 c3 f1 f2 f3 l1 d1 d2 d3 g1 g2 g3 l2 hz0
  replace B1 := B1.drewN nq
  replace B2 := B2.drewN nq
  replace hb0 := bel_drewN hb0 nq
  generalize w0.drewN nq = w9 at *
  obtain ⟨c1, c2, c3, f1, f2, f3, l1⟩ := B1.three
  obtain ⟨d1, d2, d3, g1, g2, g3, l2⟩ := B2.three
  replace hx := hx.out
  have e8 : ((x : Int) == 8) = false := by simp; omega
  have e127 : ((x : Int) == 127) = false := by simp; omega
  have e4 : ((x : Int) == 4) = false := by simp; omega
  have e2 : ((x : Int) == 2) = false := by simp; omega
  have e6 : ((x : Int) == 6) = false := by simp; omega
  have e1 : ((x : Int) == 1) = false := by simp; omega
  have e5 : ((x : Int) == 5) = false := by simp; omega
  have e11 : ((x : Int) == 11) = false := by simp; omega
  have e21 : ((x : Int) == 21) = false := by simp; omega
  have e23 : ((x : Int) == 23) = false := by simp; omega
  have e20 : ((x : Int) == 20) = false := by simp; omega
  have e10 : ((x : Int) == 10) = false := by simp; omega
  have e13 : ((x : Int) == 13) = false := by simp; omega
  have t1 : ((32 : Int) ≤ (x : Int)) = True := by simp; omega
  have t2 : ((x : Int) ≤ 126) = False := by simp; omega
  clear hx n8 n127 n4 n2 n6 n1 n5 n11 n21 n23 n20 n10 n13
  go_wp2
  refine ret_blk (v := .agg #[.string ⟨(t).toArray⟩, .int .i64 ((k : Int)), .bool false]) (w.heap.size + 1) #[.string ⟨(t).toArray⟩, .int .i64 ((k : Int)), .bool false] 23 (by refine Blk.put3 (x0 := .string ⟨#[]⟩) (y0 := .int .i64 0) (z0 := .bool false) ?_; (repeat (refine Blk.set_other ?_ (by omega) _ _)); first | exact B2 | exact Blk.drewN B2 _) (fun w' h => by obtain ⟨c1, c2, c3, _⟩ := h.three; simp [results, Try.results10, go_sem, c1, c2, c3]) rfl ⟨rfl, ?_⟩
  repeat (first | exact hb0 | exact bel_drewN hb0 _ | refine bel_set ?_ (by omega) _)

set_option maxRecDepth 100000 in
set_option maxHeartbeats 2000000 in
theorem rKey_type (w : World) (t : List UInt8) (a : Int) (k : Nat) (hk : k = clampN t a) (ht : t.length ≤ 4000) (c : UInt8) (h32 : 32 ≤ c.toNat) (h126 : c.toNat ≤ 126) (hfull : t.length < 200) (T : List UInt8) (N : Nat) (hT : t.take k ++ [c] ++ t.drop k = T) (hN : k + 1 = N) :
    Calls Try.prog 10 #[vw t a false, .int .u8 (c.toNat : Int)] w fun e w' => e = .returned (vw T N false) ∧ Below w.heap.size w w' := by
  have hk2 := clampN_eq t a
  rw [← hk] at hk2
  have hmax : (if (t.length : Int) < (if a < 0 then 0 else a) then (t.length : Int) else (if a < 0 then 0 else a)) = (k : Int) := by split <;> split <;> omega
  have hkt : k ≤ t.length := by omega
  clear hk hk2
  replace h32 := Lib.hid h32
  replace h126 := Lib.hid h126
  replace hfull := Lib.hid hfull
  replace hT := Lib.hid hT
  replace hN := Lib.hid hN
  unfold vw
  go_enter Try.func10, Try.ntmps10
  go_upto_region 4 with fail
  obtain ⟨w0, hw0⟩ : ∃ w0, w0 = ((w.alloc (.cells #[.string ⟨t.toArray⟩, .int .i64 (k : Int), .bool false] 23)).alloc (.cells #[.string ⟨#[]⟩, .int .i64 0, .bool false] 23)) := ⟨_, rfl⟩
  have B1 : Blk w0 w.heap.size #[.string ⟨t.toArray⟩, .int .i64 (k : Int), .bool false] 23 := by subst hw0; exact (Blk.new _ _ _).alloc _
  have B2 : Blk w0 (w.heap.size + 1) #[.string ⟨#[]⟩, .int .i64 0, .bool false] 23 := by subst hw0; exact Blk.new' (by simp)
  have hb0 : Below w.heap.size w w0 := by subst hw0; exact bel_alloc (bel_alloc (Below.refl _ _) _) _
  have hz0 : w.heap.size + 2 ≤ w0.heap.size := by subst hw0; simp
  rw [← hw0]
  generalize (if a < 0 then 0 else a) = m0
  clear hw0
  clear hmax
  obtain ⟨c1, c2, c3, f1, f2, f3, l1⟩ := B1.three
  obtain ⟨d1, d2, d3, g1, g2, g3, l2⟩ := B2.three
  go_quiet (fail)
  clear c1 c2 c3 f1 f2 f3 l1 d1 d2 d3 g1 g2 g3 l2 hz0
  replace B1 := B1.drewN nq
  replace B2 := B2.drewN nq
  replace hb0 := bel_drewN hb0 nq
  generalize w0.drewN nq = w9 at *
  obtain ⟨c1, c2, c3, f1, f2, f3, l1⟩ := B1.three
  obtain ⟨d1, d2, d3, g1, g2, g3, l2⟩ := B2.three
  replace h32 := h32.out
  replace h126 := h126.out
  replace hfull := hfull.out
  replace hT := hT.out
  replace hN := hN.out
  have t1 : ((32 : Int) ≤ (c.toNat : Int)) = True := by simp; omega
  have t2 : ((c.toNat : Int) ≤ 126) = True := by simp; omega
  have t3 : ((t.length : Int) < 200) = True := by simp; omega
  have henc := enc1 c h126
  have w2 : IntKind.i64.wrap ((k : Int) + 1) = (N : Int) := by rw [IntKind.wrap_i64]; omega
  have w3 : IntKind.i32.wrap (c.toNat : Int) = (c.toNat : Int) := by rw [IntKind.wrap_i32]; omega
  have hx1 := ba_take t k
  have hx2 := ba_drop t k
  have hla : (t.take k).length ≤ 200 := by rw [List.length_take]; omega
  have hlz : (t.drop k).length ≤ 200 := by rw [List.length_drop]; omega
  generalize t.take k = A at *
  generalize t.drop k = Z at *
  have e1 := ba_one A c
  have e2 := ba_append (A ++ [c]) Z
  rw [hT] at e2
  have hl1 : (A ++ [c]).length ≤ 201 := by simp; omega
  generalize A ++ [c] = L1 at *
  have b1 : ¬ (9223372036854775807 < A.length + 1) := by omega
  have b2 : ¬ (9223372036854775807 < L1.length + Z.length) := by omega
  have b3 : ¬ ((9223372036854775807 : Int) < (A.length : Int) + 1) := by omega
  have b4 : ¬ ((9223372036854775807 : Int) < (L1.length : Int) + (Z.length : Int)) := by omega
  have hi1 : ((k : Int) ≤ (t.length : Int)) = True := by simp; omega
  clear h32 h126 hfull hT hN hla hlz hl1
  go_upto_region 7 with fail
  refine wp_region_noPanic ?_
  refine wp_region_held_drew (S := (fun _ => True)) (by kernel_rfl) ?_ (fun hHeld => ?_)
  · (try dsimp only); (try trivial)
  refine wpAnyH_take (i := 0) (oi := { dst := some 33, op := Go.Op.move (Go.Operand.tmp 5), type := 9, pos := "ref.go:39", after := #[], guard := none }) (v := ?v1) rfl (by kernel_rfl) (by kernel_rfl) (by kernel_rfl) (fun _ _ _ h => h) (Or.inl ⟨by rfl, ?hy1⟩) (by assumption) ?rest1
  case hy1 => (intro w hSw; (try dsimp only at hSw); go_simp <;> with_reducible rfl)
  try simp only [Act.put, List.setIfInBounds_toArray, List.set_cons_zero, List.set_cons_succ]
  refine wpAnyH_take (i := 1) (oi := { dst := some 34, op := Go.Op.move (Go.Operand.tmp 6), type := 3, pos := "ref.go:39", after := #[], guard := none }) (v := ?v2) rfl (by kernel_rfl) (by kernel_rfl) (by kernel_rfl) (fun _ _ _ h => h) (Or.inl ⟨by rfl, ?hy2⟩) (by assumption) ?rest2
  case hy2 => (intro w hSw; (try dsimp only at hSw); go_simp <;> with_reducible rfl)
  try simp only [Act.put, List.setIfInBounds_toArray, List.set_cons_zero, List.set_cons_succ]
  refine wpAnyH_take (i := 2) (oi := { dst := some 35, op := Go.Op.slice 9 (Go.Operand.tmp 33) none (some (Go.Operand.tmp 34)) none, type := 9, pos := "ref.go:39", after := #[{ on := 0, ground := Go.Ground.data }, { on := 1, ground := Go.Ground.data }], guard := none }) (v := ?v3) rfl (by kernel_rfl) (by kernel_rfl) (by kernel_rfl) (fun _ _ _ h => h) (Or.inl ⟨by rfl, ?hy3⟩) (by assumption) ?rest3
  case hy3 => (intro w hSw; (try dsimp only at hSw); go_simp <;> with_reducible rfl)
  try simp only [Act.put, List.setIfInBounds_toArray, List.set_cons_zero, List.set_cons_succ]
  refine wpAnyH_take (i := 3) (oi := { dst := some 36, op := Go.Op.move (Go.Operand.tmp 1), type := 5, pos := "ref.go:39", after := #[], guard := none }) (v := ?v4) rfl (by kernel_rfl) (by kernel_rfl) (by kernel_rfl) (fun _ _ _ h => h) (Or.inl ⟨by rfl, ?hy4⟩) (by assumption) ?rest4
  case hy4 => (intro w hSw; (try dsimp only at hSw); go_simp <;> with_reducible rfl)
  try simp only [Act.put, List.setIfInBounds_toArray, List.set_cons_zero, List.set_cons_succ]
  refine wpAnyH_take (i := 4) (oi := { dst := some 37, op := Go.Op.convert 5 21 (Go.Operand.tmp 36), type := 21, pos := "ref.go:39", after := #[{ on := 3, ground := Go.Ground.data }], guard := none }) (v := ?v5) rfl (by kernel_rfl) (by kernel_rfl) (by kernel_rfl) (fun _ _ _ h => h) (Or.inl ⟨by rfl, ?hy5⟩) (by assumption) ?rest5
  case hy5 => (intro w hSw; (try dsimp only at hSw); go_simp <;> with_reducible rfl)
  try simp only [Act.put, List.setIfInBounds_toArray, List.set_cons_zero, List.set_cons_succ]
  refine wpAnyH_take (i := 5) (oi := { dst := some 38, op := Go.Op.convert 21 9 (Go.Operand.tmp 37), type := 9, pos := "ref.go:39", after := #[{ on := 4, ground := Go.Ground.data }], guard := none }) (v := ?v6) rfl (by kernel_rfl) (by kernel_rfl) (by kernel_rfl) (fun _ _ _ h => h) (Or.inl ⟨by rfl, ?hy6⟩) (by assumption) ?rest6
  case hy6 => (intro w hSw; (try dsimp only at hSw); go_simp <;> with_reducible rfl)
  try simp only [Act.put, List.setIfInBounds_toArray, List.set_cons_zero, List.set_cons_succ]
  refine wpAnyH_take (i := 6) (oi := { dst := some 39, op := Go.Op.binOp Go.BinOp.add 9 (Go.Operand.tmp 35) (Go.Operand.tmp 38) 9, type := 9, pos := "ref.go:39", after := #[{ on := 2, ground := Go.Ground.data }, { on := 5, ground := Go.Ground.data }], guard := none }) (v := ?v7) rfl (by kernel_rfl) (by kernel_rfl) (by kernel_rfl) (fun _ _ _ h => h) (Or.inl ⟨by rfl, ?hy7⟩) (by assumption) ?rest7
  case hy7 => (intro w hSw; (try dsimp only at hSw); go_simp <;> with_reducible rfl)
  try simp only [Act.put, List.setIfInBounds_toArray, List.set_cons_zero, List.set_cons_succ]
  refine wpAnyH_take (i := 7) (oi := { dst := some 40, op := Go.Op.move (Go.Operand.tmp 5), type := 9, pos := "ref.go:39", after := #[], guard := none }) (v := ?v8) rfl (by kernel_rfl) (by kernel_rfl) (by kernel_rfl) (fun _ _ _ h => h) (Or.inl ⟨by rfl, ?hy8⟩) (by assumption) ?rest8
  case hy8 => (intro w hSw; (try dsimp only at hSw); go_simp <;> with_reducible rfl)
  try simp only [Act.put, List.setIfInBounds_toArray, List.set_cons_zero, List.set_cons_succ]
  refine wpAnyH_take (i := 8) (oi := { dst := some 41, op := Go.Op.move (Go.Operand.tmp 6), type := 3, pos := "ref.go:39", after := #[], guard := none }) (v := ?v9) rfl (by kernel_rfl) (by kernel_rfl) (by kernel_rfl) (fun _ _ _ h => h) (Or.inl ⟨by rfl, ?hy9⟩) (by assumption) ?rest9
  case hy9 => (intro w hSw; (try dsimp only at hSw); go_simp <;> with_reducible rfl)
  try simp only [Act.put, List.setIfInBounds_toArray, List.set_cons_zero, List.set_cons_succ]
  refine wpAnyH_take (i := 9) (oi := { dst := some 42, op := Go.Op.slice 9 (Go.Operand.tmp 40) (some (Go.Operand.tmp 41)) none none, type := 9, pos := "ref.go:39", after := #[{ on := 7, ground := Go.Ground.data }, { on := 8, ground := Go.Ground.data }], guard := none }) (v := ?v10) rfl (by kernel_rfl) (by kernel_rfl) (by kernel_rfl) (fun _ _ _ h => h) (Or.inl ⟨by rfl, ?hy10⟩) (by assumption) ?rest10
  case hy10 => (intro w hSw; (try dsimp only at hSw); go_simp <;> with_reducible rfl)
  try simp only [Act.put, List.setIfInBounds_toArray, List.set_cons_zero, List.set_cons_succ]
  refine wpAnyH_take (i := 10) (oi := { dst := some 43, op := Go.Op.binOp Go.BinOp.add 9 (Go.Operand.tmp 39) (Go.Operand.tmp 42) 9, type := 9, pos := "ref.go:39", after := #[{ on := 6, ground := Go.Ground.data }, { on := 9, ground := Go.Ground.data }], guard := none }) (v := ?v11) rfl (by kernel_rfl) (by kernel_rfl) (by kernel_rfl) (fun _ _ _ h => h) (Or.inl ⟨by rfl, ?hy11⟩) (by assumption) ?rest11
  case hy11 => (intro w hSw; (try dsimp only at hSw); go_simp <;> with_reducible rfl)
  try simp only [Act.put, List.setIfInBounds_toArray, List.set_cons_zero, List.set_cons_succ]
  refine wpAnyH_take (i := 11) (oi := { dst := some 44, op := Go.Op.move (Go.Operand.tmp 6), type := 3, pos := "ref.go:39", after := #[{ on := 14, ground := Go.Ground.gcOnly Go.Departure.lateStores }], guard := none }) (v := ?v12) rfl (by kernel_rfl) (by kernel_rfl) (by kernel_rfl) (fun _ _ _ h => h) (Or.inl ⟨by rfl, ?hy12⟩) (by assumption) ?rest12
  case hy12 => (intro w hSw; (try dsimp only at hSw); go_simp <;> with_reducible rfl)
  try simp only [Act.put, List.setIfInBounds_toArray, List.set_cons_zero, List.set_cons_succ]
  refine wpAnyH_take (i := 12) (oi := { dst := some 45, op := Go.Op.binOp Go.BinOp.add 3 (Go.Operand.tmp 44) (Go.Operand.const (Go.Value.int Go.IntKind.i64 1)) 3, type := 3, pos := "ref.go:39", after := #[{ on := 11, ground := Go.Ground.data }, { on := 14, ground := Go.Ground.gcOnly Go.Departure.lateStores }], guard := none }) (v := ?v13) rfl (by kernel_rfl) (by kernel_rfl) (by kernel_rfl) (fun _ _ _ h => h) (Or.inl ⟨by rfl, ?hy13⟩) (by assumption) ?rest13
  case hy13 => (intro w hSw; (try dsimp only at hSw); go_simp <;> with_reducible rfl)
  try simp only [Act.put, List.setIfInBounds_toArray, List.set_cons_zero, List.set_cons_succ]
  refine wpAnyH_take (i := 13) (oi := { dst := some 46, op := Go.Op.fieldAddr 23 (Go.Operand.tmp 2) 0, type := 0, pos := "ref.go:39", after := #[{ on := 0, ground := Go.Ground.phase }, { on := 1, ground := Go.Ground.phase }, { on := 2, ground := Go.Ground.phase }, { on := 3, ground := Go.Ground.phase }, { on := 4, ground := Go.Ground.phase }, { on := 5, ground := Go.Ground.phase }, { on := 6, ground := Go.Ground.phase }, { on := 7, ground := Go.Ground.phase }, { on := 8, ground := Go.Ground.phase }, { on := 9, ground := Go.Ground.phase }, { on := 10, ground := Go.Ground.phase }, { on := 11, ground := Go.Ground.textOnly Go.Departure.lateStores }, { on := 12, ground := Go.Ground.textOnly Go.Departure.lateStores }], guard := none }) (v := ?v14) rfl (by kernel_rfl) (by kernel_rfl) (by kernel_rfl) (fun _ _ _ h => h) (Or.inl ⟨by rfl, ?hy14⟩) (by assumption) ?rest14
  case hy14 => (intro w hSw; (try dsimp only at hSw); go_simp <;> with_reducible rfl)
  try simp only [Act.put, List.setIfInBounds_toArray, List.set_cons_zero, List.set_cons_succ]
  refine wpAnyH_ready (rs := [14]) (by kernel_rfl) (by simp) ?_
  refine AllReadyH.cons (o := { dst := none, op := Go.Op.store 9 (Go.Operand.tmp 46) (Go.Operand.tmp 43), type := 0, pos := "ref.go:39", after := #[{ on := 13, ground := Go.Ground.data }, { on := 10, ground := Go.Ground.data }, { on := 0, ground := Go.Ground.phase }, { on := 1, ground := Go.Ground.phase }, { on := 2, ground := Go.Ground.phase }, { on := 3, ground := Go.Ground.phase }, { on := 4, ground := Go.Ground.phase }, { on := 5, ground := Go.Ground.phase }, { on := 6, ground := Go.Ground.phase }, { on := 7, ground := Go.Ground.phase }, { on := 8, ground := Go.Ground.phase }, { on := 9, ground := Go.Ground.phase }, { on := 10, ground := Go.Ground.phase }, { on := 11, ground := Go.Ground.textOnly Go.Departure.lateStores }, { on := 12, ground := Go.Ground.textOnly Go.Departure.lateStores }], guard := none }) rfl (fun K hK => ?_) AllReadyH.nil
  go_simp
  refine hK.out _ _ ?_ (fun hHeld2 => ?_)
  · (try dsimp only); (try trivial)
  clear hK K hHeld
  have hHeld := hHeld2
  clear hHeld2
  try simp only [Act.put, List.setIfInBounds_toArray, List.set_cons_zero, List.set_cons_succ]
  refine wpAnyH_take (i := 15) (oi := { dst := some 47, op := Go.Op.fieldAddr 23 (Go.Operand.tmp 2) 1, type := 0, pos := "ref.go:39", after := #[{ on := 0, ground := Go.Ground.phase }, { on := 1, ground := Go.Ground.phase }, { on := 2, ground := Go.Ground.phase }, { on := 3, ground := Go.Ground.phase }, { on := 4, ground := Go.Ground.phase }, { on := 5, ground := Go.Ground.phase }, { on := 6, ground := Go.Ground.phase }, { on := 7, ground := Go.Ground.phase }, { on := 8, ground := Go.Ground.phase }, { on := 9, ground := Go.Ground.phase }, { on := 10, ground := Go.Ground.phase }, { on := 11, ground := Go.Ground.phase }, { on := 12, ground := Go.Ground.phase }, { on := 13, ground := Go.Ground.phase }, { on := 14, ground := Go.Ground.phase }], guard := none }) (v := ?v15) rfl (by kernel_rfl) (by kernel_rfl) (by kernel_rfl) (fun _ _ _ h => h) (Or.inl ⟨by rfl, ?hy15⟩) (by assumption) ?rest15
  case hy15 => (intro w hSw; (try dsimp only at hSw); go_simp <;> with_reducible rfl)
  try simp only [Act.put, List.setIfInBounds_toArray, List.set_cons_zero, List.set_cons_succ]
  refine wpAnyH_ready (rs := [16]) (by kernel_rfl) (by simp) ?_
  refine AllReadyH.cons (o := { dst := none, op := Go.Op.store 3 (Go.Operand.tmp 47) (Go.Operand.tmp 45), type := 0, pos := "ref.go:39", after := #[{ on := 15, ground := Go.Ground.data }, { on := 12, ground := Go.Ground.data }, { on := 14, ground := Go.Ground.chain }, { on := 0, ground := Go.Ground.phase }, { on := 1, ground := Go.Ground.phase }, { on := 2, ground := Go.Ground.phase }, { on := 3, ground := Go.Ground.phase }, { on := 4, ground := Go.Ground.phase }, { on := 5, ground := Go.Ground.phase }, { on := 6, ground := Go.Ground.phase }, { on := 7, ground := Go.Ground.phase }, { on := 8, ground := Go.Ground.phase }, { on := 9, ground := Go.Ground.phase }, { on := 10, ground := Go.Ground.phase }, { on := 11, ground := Go.Ground.phase }, { on := 12, ground := Go.Ground.phase }, { on := 13, ground := Go.Ground.phase }, { on := 14, ground := Go.Ground.phase }], guard := none }) rfl (fun K hK => ?_) AllReadyH.nil
  go_simp
  refine hK.out _ _ ?_ (fun hHeld2 => ?_)
  · (try dsimp only); (try trivial)
  clear hK K hHeld
  have hHeld := hHeld2
  clear hHeld2
  try simp only [Act.put, List.setIfInBounds_toArray, List.set_cons_zero, List.set_cons_succ]
  refine wpAnyH_done (by kernel_rfl) ?_ _
  refine NoPanic.normal ?_
  go_wp2
  refine ret_blk (v := .agg #[.string ⟨(T).toArray⟩, .int .i64 ((N : Int)), .bool false]) (w.heap.size + 1) #[.string ⟨(T).toArray⟩, .int .i64 ((N : Int)), .bool false] 23 (by refine Blk.drew ?_; refine Blk.put3 (x0 := .string ⟨#[]⟩) (y0 := .int .i64 0) (z0 := .bool false) ?_; (repeat (refine Blk.set_other ?_ (by omega) _ _)); first | exact B2 | exact Blk.drewN B2 _) (fun w' h => by obtain ⟨c1, c2, c3, _⟩ := h.three; simp [results, Try.results10, go_sem, c1, c2, c3]) rfl ⟨rfl, ?_⟩
  refine bel_drew ?_
  repeat (first | exact hb0 | exact bel_drewN hb0 _ | refine bel_set ?_ (by omega) _)

set_option maxRecDepth 100000 in
set_option maxHeartbeats 2000000 in
theorem rKey_done (w : World) (t : List UInt8) (a : Int) (k : Nat) (hk : k = clampN t a) (ht : t.length ≤ 4000) (x : UInt8) :
    Calls Try.prog 10 #[vw t a true, .int .u8 (x.toNat : Int)] w fun e w' => e = .returned (vw t k true) ∧ Below w.heap.size w w' := by
  have hk2 := clampN_eq t a
  rw [← hk] at hk2
  have hmax : (if (t.length : Int) < (if a < 0 then 0 else a) then (t.length : Int) else (if a < 0 then 0 else a)) = (k : Int) := by split <;> split <;> omega
  have hkt : k ≤ t.length := by omega
  clear hk hk2
  unfold vw
  go_enter Try.func10, Try.ntmps10
  go_upto_region 3 with fail
  generalize (if a < 0 then 0 else a) = m0
  go_wp2
  refine ret_blk (v := .agg #[.string ⟨t.toArray⟩, .int .i64 (k : Int), .bool true]) (w.heap.size + 1) #[.string ⟨t.toArray⟩, .int .i64 (k : Int), .bool true] 23 (Blk.new' (by simp)) (fun w' h => by obtain ⟨c1, c2, c3, _⟩ := h.three; simp [results, Try.results10, go_sem, c1, c2, c3]) rfl ⟨rfl, by repeat (first | (with_reducible exact Below.refl _ _) | (with_reducible assumption) | (with_reducible apply bel_alloc) | (with_reducible apply bel_drew) | (with_reducible refine bel_set ?_ (by first | exact Nat.le_refl _ | (simp; done) | omega | (simp; omega)) _) | (with_reducible refine bel_trans ?_ (by with_reducible assumption)))⟩

end Go.Proofs.Ytfmlbnkmckkjnaa

