/- 'Key'. -/
import Derived.Test.YtfmlbnkmckkjnaaE9
namespace Go.Proofs.Ytfmlbnkmckkjnaa
open Go.RowKit
set_option linter.unusedVariables false
set_option linter.unusedSimpArgs false
attribute [local go_sem] cell_set set_set m_undef

/-- The cursor, brought into the text. -/
def clampN (t : List UInt8) (a : Int) : Nat := (min (max a 0) (t.length : Int)).toNat
theorem clampN_le (t : List UInt8) (a : Int) : clampN t a ≤ t.length := by unfold clampN; omega
theorem clampN_eq (t : List UInt8) (a : Int) : (clampN t a : Int) = min (max a 0) (t.length : Int) := by unfold clampN; omega
/-- The text ahead of the cursor and behind it, after a key. -/
def keyT (t : List UInt8) (k : Nat) (x : UInt8) : List UInt8 × List UInt8 :=
  if 32 ≤ x.toNat ∧ x.toNat ≤ 126 then (if t.length < 200 then (t.take k ++ [x], t.drop k) else (t.take k, t.drop k))
  else keyL (x.toNat : Int) (t.take k) (t.drop k)
/-- The view after a key. -/
def keyV (t : List UInt8) (a : Int) (d : Bool) (x : UInt8) : Value :=
  if d then vw t (clampN t a) true
  else if x.toNat = 10 ∨ x.toNat = 13 then vw t (clampN t a) true
  else vw ((keyT t (clampN t a) x).1 ++ (keyT t (clampN t a) x).2) (keyT t (clampN t a) x).1.length false

theorem types_yes (x : Nat) (h1 : 32 ≤ x) (h2 : x ≤ 126) (w : World) : Calls Try.prog 16 #[.int .u8 (x : Int)] w fun e w' => e = .returned (.bool true) ∧ w = w' :=
  (wTypes (x : Int) w).mono fun e w' h => ⟨h.1.trans (ret_bool (by simp; omega)), h.2⟩
theorem types_no (x : Nat) (h : ¬ (32 ≤ x ∧ x ≤ 126)) (w : World) : Calls Try.prog 16 #[.int .u8 (x : Int)] w fun e w' => e = .returned (.bool false) ∧ w = w' :=
  (wTypes (x : Int) w).mono fun e w' h' => ⟨h'.1.trans (ret_bool (by simp; omega)), h'.2⟩
theorem wViewK (w : World) (base Lb : Nat) (A Z : List UInt8) (va vz : Value) (h : LineV w base Lb va vz A Z) (hA : A.length + Z.length ≤ 5000) (T : List UInt8) (N : Nat) (hT : T = A ++ Z) (hN : N = A.length) :
    Calls Try.prog 18 #[.pointer (some ⟨Lb, 0, none⟩)] w fun e w' => e = .returned (.agg #[.string ⟨T.toArray⟩, .int .i64 (N : Int), .bool false]) ∧ Below w.heap.size w w' := by
  subst hT hN
  exact wView w base Lb A Z va vz h hA
theorem swapL_len (A Z : List UInt8) : (swapL A Z).1.length + (swapL A Z).2.length ≤ A.length + Z.length := by
  unfold swapL swp
  split
  · exact Nat.le_refl _
  · split <;> simp only [List.length_append, List.length_set, List.length_cons, List.length_nil, List.length_drop, List.length_take] <;> omega
theorem keyL_len (c : Int) (A Z : List UInt8) : (keyL c A Z).1.length + (keyL c A Z).2.length ≤ A.length + Z.length := by
  unfold keyL
  repeat' split
  all_goals first | exact swapL_len A Z | (simp only [List.length_append, List.length_cons, List.length_nil, List.length_drop, List.length_take]; omega)

set_option maxHeartbeats 1000000 in
theorem wKeyF_full (w : World) (t : List UInt8) (a : Int) (k : Nat) (hk : k = clampN t a) (ht : t.length ≤ 4000) (x : Nat) (h32 : 32 ≤ x) (h126 : x ≤ 126) (hfull : 200 ≤ t.length) (T : List UInt8) (N : Nat) (hT : T = t.take k ++ t.drop k) (hN : N = (t.take k).length) :
    Calls Try.prog 9 #[vw t a false, .int .u8 (x : Int)] w fun e w' => e = .returned (vw T N false) ∧ Below w.heap.size w w' := by
  have hk2 := clampN_eq t a
  rw [← hk] at hk2
  have hmax : (if (t.length : Int) < (if a < 0 then 0 else a) then (t.length : Int) else (if a < 0 then 0 else a)) = (k : Int) := by split <;> split <;> omega
  have hkt : k ≤ t.length := by omega
  clear hk hk2
  unfold vw
  go_enter Try.func9, Try.ntmps9
  go_upto_region 4 with fail
  obtain ⟨w0, hw0⟩ : ∃ w0, w0 = ((w.alloc (.cells #[.string ⟨t.toArray⟩, .int .i64 (k : Int), .bool false] 23)).alloc (.cells #[.string ⟨#[]⟩, .int .i64 0, .bool false] 23)) := ⟨_, rfl⟩
  have B1 : Blk w0 w.heap.size #[.string ⟨t.toArray⟩, .int .i64 (k : Int), .bool false] 23 := by subst hw0; exact (Blk.new _ _ _).alloc _
  have B2 : Blk w0 (w.heap.size + 1) #[.string ⟨#[]⟩, .int .i64 0, .bool false] 23 := by subst hw0; exact Blk.new' (by simp)
  have hb0 : Below w.heap.size w w0 := by subst hw0; exact bel_alloc (bel_alloc (Below.refl _ _) _) _
  have hz0 : w.heap.size + 2 ≤ w0.heap.size := by subst hw0; simp
  rw [← hw0]
  generalize (if a < 0 then 0 else a) = m0
  clear hw0
  clear hmax
  obtain ⟨c1, c2, c3, f1, f2, f3, l1⟩ := B1.three
  go_upto_region 6 with (go_at_call 15; refine (wOf w0 t (k : Int) false (by omega) k (by omega)).mono ?_; rintro e w1 ⟨Lb, va, vz, rfl, hL, hb1⟩)
  replace B1 := B1.below hb1
  replace B2 := B2.below hb1
  clear c1 c2 c3 f1 f2 f3 l1
  obtain ⟨c1, c2, c3, f1, f2, f3, l1⟩ := B1.three
  obtain ⟨d1, d2, d3, g1, g2, g3, l2⟩ := B2.three
  have hb2 : Below w.heap.size w w1 := bel_trans hb0 hb1
  have e10 : ((x : Int) == 10) = false := by simp; omega
  have e13 : ((x : Int) == 13) = false := by simp; omega
  have e200 : ((t.length : Int) < 200) = False := by simp; omega
  go_upto_region 12 with ((go_at_call 16; refine (types_yes x h32 h126 w1).mono ?_; rintro e _ ⟨rfl, rfl⟩))
  go_wp2_with ((go_at_call 18; refine (wViewK w1 _ Lb _ _ _ _ hL (by simp only [List.length_append, List.length_take, List.length_drop, List.length_cons, List.length_nil]; omega) T N hT hN).mono ?_; clear hT hN; rintro e w3 ⟨rfl, hb3⟩; replace B2 := B2.below hb3; clear c1 c2 c3 f1 f2 f3 l1 d1 d2 d3 g1 g2 g3 l2; obtain ⟨d1, d2, d3, g1, g2, g3, l2⟩ := B2.three))
  refine ret_blk (v := .agg #[.string ⟨(T).toArray⟩, .int .i64 ((N : Nat) : Int), .bool false]) (w.heap.size + 1) #[.string ⟨(T).toArray⟩, .int .i64 ((N : Nat) : Int), .bool false] 23 (by first | (simpa using ((B2.set 0 (.string ⟨(T).toArray⟩)).set 1 (.int .i64 ((N : Nat) : Int))).set 2 (.bool false)) | (simp at *; done)) (fun w' h => by obtain ⟨c1, c2, c3, _⟩ := h.three; simp [results, Try.results9, go_sem, c1, c2, c3]) rfl ⟨by first | rfl | simp, by repeat (first | (with_reducible exact Below.refl _ _) | (with_reducible assumption) | (with_reducible apply bel_alloc) | (with_reducible apply bel_drew) | (with_reducible refine bel_set ?_ (by first | exact Nat.le_refl _ | (simp; done) | omega | (simp; omega)) _) | (with_reducible refine bel_trans ?_ (by with_reducible assumption)))⟩

set_option maxHeartbeats 1000000 in
theorem wKeyF_type (w : World) (t : List UInt8) (a : Int) (k : Nat) (hk : k = clampN t a) (ht : t.length ≤ 4000) (x : UInt8) (h32 : 32 ≤ x.toNat) (h126 : x.toNat ≤ 126) (hfull : t.length < 200) (T : List UInt8) (N : Nat) (hT : T = t.take k ++ [x] ++ t.drop k) (hN : N = (t.take k ++ [x]).length) :
    Calls Try.prog 9 #[vw t a false, .int .u8 (x.toNat : Int)] w fun e w' => e = .returned (vw T N false) ∧ Below w.heap.size w w' := by
  have hk2 := clampN_eq t a
  rw [← hk] at hk2
  have hmax : (if (t.length : Int) < (if a < 0 then 0 else a) then (t.length : Int) else (if a < 0 then 0 else a)) = (k : Int) := by split <;> split <;> omega
  have hkt : k ≤ t.length := by omega
  clear hk hk2
  unfold vw
  go_enter Try.func9, Try.ntmps9
  go_upto_region 4 with fail
  obtain ⟨w0, hw0⟩ : ∃ w0, w0 = ((w.alloc (.cells #[.string ⟨t.toArray⟩, .int .i64 (k : Int), .bool false] 23)).alloc (.cells #[.string ⟨#[]⟩, .int .i64 0, .bool false] 23)) := ⟨_, rfl⟩
  have B1 : Blk w0 w.heap.size #[.string ⟨t.toArray⟩, .int .i64 (k : Int), .bool false] 23 := by subst hw0; exact (Blk.new _ _ _).alloc _
  have B2 : Blk w0 (w.heap.size + 1) #[.string ⟨#[]⟩, .int .i64 0, .bool false] 23 := by subst hw0; exact Blk.new' (by simp)
  have hb0 : Below w.heap.size w w0 := by subst hw0; exact bel_alloc (bel_alloc (Below.refl _ _) _) _
  have hz0 : w.heap.size + 2 ≤ w0.heap.size := by subst hw0; simp
  rw [← hw0]
  generalize (if a < 0 then 0 else a) = m0
  clear hw0
  clear hmax
  obtain ⟨c1, c2, c3, f1, f2, f3, l1⟩ := B1.three
  go_upto_region 6 with (go_at_call 15; refine (wOf w0 t (k : Int) false (by omega) k (by omega)).mono ?_; rintro e w1 ⟨Lb, va, vz, rfl, hL, hb1⟩)
  replace B1 := B1.below hb1
  replace B2 := B2.below hb1
  clear c1 c2 c3 f1 f2 f3 l1
  obtain ⟨c1, c2, c3, f1, f2, f3, l1⟩ := B1.three
  obtain ⟨d1, d2, d3, g1, g2, g3, l2⟩ := B2.three
  have hb2 : Below w.heap.size w w1 := bel_trans hb0 hb1
  have e10 : ((x.toNat : Int) == 10) = false := by simp; omega
  have e13 : ((x.toNat : Int) == 13) = false := by simp; omega
  have e200 : ((t.length : Int) < 200) = True := by simp; omega
  go_upto_region 11 with ((go_at_call 16; refine (types_yes x.toNat h32 h126 w1).mono ?_; rintro e _ ⟨rfl, rfl⟩))
  obtain ⟨hLB, ha, hz, h1, h2, h3, h4⟩ := hL
  obtain ⟨va0, nva, cva, rfl⟩ := ha.form
  obtain ⟨vz0, nvz, cvz, rfl⟩ := hz.form
  obtain ⟨k1, k2, j1, j2, l3⟩ := hLB.two
  clear c1 c2 c3 f1 f2 f3 l1 d1 d2 d3 g1 g2 g3 l2
  have hnew : Bs (w1.alloc (.cells #[.int .u8 (x.toNat : Int)] 5)) w1.heap.size (.slice (some ⟨w1.heap.size, 0, none⟩) 1 1) [x] := by
    refine .inr ⟨w1.heap.size, 0, 1, rfl, Nat.le_refl _, by simp, Nat.le_refl _, fun j hj => ?_, fun j hj => ?_⟩
    · have : j = 0 := by simp at hj; omega
      subst this
      obtain ⟨e1, e2, _⟩ := (Blk.new w1 #[.int .u8 (x.toNat : Int)] 5).one
      exact e1
    · have : j = 0 := by omega
      subst this
      obtain ⟨e1, e2, _⟩ := (Blk.new w1 #[.int .u8 (x.toNat : Int)] 5).one
      exact ⟨by rw [e1]; rfl, e2⟩
  obtain ⟨v2, w2, hr, hv2, hg2, ho2⟩ := Bs.append (P := Try.prog) (ty := 39) (ha.alloc (.cells #[.int .u8 (x.toNat : Int)] 5)) hnew Try.underlying39 info5 (by have h9 := List.length_take_le k t; simp only [List.length_cons, List.length_nil]; omega) (by have := hb1.size; simp only [World.size_alloc]; omega)
  obtain ⟨v2a, n2, cc2, rfl⟩ := hv2.form
  have hLB2 := (hLB.alloc (.cells #[.int .u8 (x.toNat : Int)] 5)).kept hg2 (fun e => h2 e.symm)
  obtain ⟨q0, q1, q2, q3, q4⟩ := hLB2.two
  have hrow : (Value.slice vz0 nvz cvz).ownBlock = none ∨ (Value.slice vz0 nvz cvz).ownBlock ≠ (Value.slice va0 nva cva).ownBlock := by
    rcases h1 with h1 | h1
    · rw [h1]; cases (Value.slice vz0 nvz cvz).ownBlock <;> simp
    · exact .inr fun e => h1 e.symm
  have hz2 := (hz.alloc (.cells #[.int .u8 (x.toNat : Int)] 5)).kept hg2 hrow
  have hx1 : (Value.slice v2a n2 cc2).ownBlock = none ∨ (Value.slice v2a n2 cc2).ownBlock ≠ (Value.slice vz0 nvz cvz).ownBlock := by
    rcases ho2 with e | e
    · rw [e]; exact h1
    · rw [e]; exact .inr fun e2 => (hz.alloc (.cells #[.int .u8 (x.toNat : Int)] 5)).neLast e2.symm
  have hx2 : (Value.slice v2a n2 cc2).ownBlock ≠ some Lb := by
    rcases ho2 with e | e
    · rw [e]; exact h2
    · rw [e]; intro e2; simp at e2; omega
  have hL5 := Line.set0 hLB2 hv2 hz2 hx1 hx2 h3 h4
  have B1' := ((B1.alloc (.cells #[.int .u8 (x.toNat : Int)] 5)).kept hg2 (fun e => ha.ne (Lb := w.heap.size) (by omega) e.symm)).set_other (b' := Lb) (by omega) 0 (.slice v2a n2 cc2)
  have B2' := ((B2.alloc (.cells #[.int .u8 (x.toNat : Int)] 5)).kept hg2 (fun e => ha.ne (Lb := w.heap.size + 1) (by omega) e.symm)).set_other (b' := Lb) (by omega) 0 (.slice v2a n2 cc2)
  have hb5 : Below w.heap.size w (w2.setCell ⟨Lb, 0, none⟩ (.slice v2a n2 cc2)) := bel_set ((bel_alloc hb2 (.cells #[.int .u8 (x.toNat : Int)] 5)).grown hg2 (by have := hb2.size; simp only [World.size_alloc]; omega) (fun k e => ha.ge (by omega) e)) (by omega) _
  clear hb1 hb2 hb0
  go_upto_region 12 with (at_builtin; refine wpList_append_bs rfl _ _ 39 rfl hr rfl rfl ?_)
  clear B1 B2 hLB2 hz2 hv2 hg2 hr hnew hLB ha hz ho2 q0 q1 q2 q3 q4 k1 k2 j1 j2 h1 h2 h3 h4 l3 hrow hx1 hx2
  generalize w2.setCell ⟨Lb, 0, none⟩ (.slice v2a n2 cc2) = w5 at *
  have B2 := B2'
  clear B2'
  obtain ⟨d1, d2, d3, g1, g2, g3, l2⟩ := B2.three
  go_wp2_with ((go_at_call 18; refine (wViewK w5 _ Lb _ _ _ _ hL5 (by simp only [List.length_append, List.length_take, List.length_drop, List.length_cons, List.length_nil]; omega) T N hT hN).mono ?_; clear hT hN; rintro e w3 ⟨rfl, hb3⟩; replace B2 := B2.below hb3; clear d1 d2 d3 g1 g2 g3 l2; obtain ⟨d1, d2, d3, g1, g2, g3, l2⟩ := B2.three))
  refine ret_blk (v := .agg #[.string ⟨(T).toArray⟩, .int .i64 ((N : Nat) : Int), .bool false]) (w.heap.size + 1) #[.string ⟨(T).toArray⟩, .int .i64 ((N : Nat) : Int), .bool false] 23 (by first | (simpa using ((B2.set 0 (.string ⟨(T).toArray⟩)).set 1 (.int .i64 ((N : Nat) : Int))).set 2 (.bool false)) | (simp at *; done)) (fun w' h => by obtain ⟨c1, c2, c3, _⟩ := h.three; simp [results, Try.results9, go_sem, c1, c2, c3]) rfl ⟨by first | rfl | simp, by repeat (first | (with_reducible exact Below.refl _ _) | (with_reducible assumption) | (with_reducible apply bel_alloc) | (with_reducible apply bel_drew) | (with_reducible refine bel_set ?_ (by first | exact Nat.le_refl _ | (simp; done) | omega | (simp; omega)) _) | (with_reducible refine bel_trans ?_ (by with_reducible assumption)))⟩

set_option maxHeartbeats 1000000 in
theorem wKeyF_10 (w : World) (t : List UInt8) (a : Int) (k : Nat) (hk : k = clampN t a) (ht : t.length ≤ 4000)  :
    Calls Try.prog 9 #[vw t a false, .int .u8 10] w fun e w' => e = .returned (vw t k true) ∧ Below w.heap.size w w' := by
  have hk2 := clampN_eq t a
  rw [← hk] at hk2
  have hmax : (if (t.length : Int) < (if a < 0 then 0 else a) then (t.length : Int) else (if a < 0 then 0 else a)) = (k : Int) := by split <;> split <;> omega
  have hkt : k ≤ t.length := by omega
  clear hk hk2
  unfold vw
  go_enter Try.func9, Try.ntmps9
  go_upto_region 4 with fail
  obtain ⟨w0, hw0⟩ : ∃ w0, w0 = ((w.alloc (.cells #[.string ⟨t.toArray⟩, .int .i64 (k : Int), .bool false] 23)).alloc (.cells #[.string ⟨#[]⟩, .int .i64 0, .bool false] 23)) := ⟨_, rfl⟩
  have B1 : Blk w0 w.heap.size #[.string ⟨t.toArray⟩, .int .i64 (k : Int), .bool false] 23 := by subst hw0; exact (Blk.new _ _ _).alloc _
  have B2 : Blk w0 (w.heap.size + 1) #[.string ⟨#[]⟩, .int .i64 0, .bool false] 23 := by subst hw0; exact Blk.new' (by simp)
  have hb0 : Below w.heap.size w w0 := by subst hw0; exact bel_alloc (bel_alloc (Below.refl _ _) _) _
  have hz0 : w.heap.size + 2 ≤ w0.heap.size := by subst hw0; simp
  rw [← hw0]
  generalize (if a < 0 then 0 else a) = m0
  clear hw0
  clear hmax
  obtain ⟨c1, c2, c3, f1, f2, f3, l1⟩ := B1.three
  go_upto_region 6 with (go_at_call 15; refine (wOf w0 t (k : Int) false (by omega) k (by omega)).mono ?_; rintro e w1 ⟨Lb, va, vz, rfl, hL, hb1⟩)
  replace B1 := B1.below hb1
  replace B2 := B2.below hb1
  clear c1 c2 c3 f1 f2 f3 l1
  obtain ⟨c1, c2, c3, f1, f2, f3, l1⟩ := B1.three
  obtain ⟨d1, d2, d3, g1, g2, g3, l2⟩ := B2.three
  have hb2 : Below w.heap.size w w1 := bel_trans hb0 hb1
  go_wp2
  refine ret_blk (v := .agg #[.string ⟨(t).toArray⟩, .int .i64 ((k : Nat) : Int), .bool true]) (w.heap.size + 1) #[.string ⟨(t).toArray⟩, .int .i64 ((k : Nat) : Int), .bool true] 23 (by first | (simpa using ((((B2.set_other (b' := w.heap.size) (by omega) 2 (.bool true)).set 0 (.string ⟨(t).toArray⟩)).set 1 (.int .i64 ((k : Nat) : Int))).set 2 (.bool true))) | (simp at *; done)) (fun w' h => by obtain ⟨c1, c2, c3, _⟩ := h.three; simp [results, Try.results9, go_sem, c1, c2, c3]) rfl ⟨by first | rfl | simp, by repeat (first | (with_reducible exact Below.refl _ _) | (with_reducible assumption) | (with_reducible apply bel_alloc) | (with_reducible apply bel_drew) | (with_reducible refine bel_set ?_ (by first | exact Nat.le_refl _ | (simp; done) | omega | (simp; omega)) _) | (with_reducible refine bel_trans ?_ (by with_reducible assumption)))⟩

set_option maxHeartbeats 1000000 in
theorem wKeyF_13 (w : World) (t : List UInt8) (a : Int) (k : Nat) (hk : k = clampN t a) (ht : t.length ≤ 4000)  :
    Calls Try.prog 9 #[vw t a false, .int .u8 13] w fun e w' => e = .returned (vw t k true) ∧ Below w.heap.size w w' := by
  have hk2 := clampN_eq t a
  rw [← hk] at hk2
  have hmax : (if (t.length : Int) < (if a < 0 then 0 else a) then (t.length : Int) else (if a < 0 then 0 else a)) = (k : Int) := by split <;> split <;> omega
  have hkt : k ≤ t.length := by omega
  clear hk hk2
  unfold vw
  go_enter Try.func9, Try.ntmps9
  go_upto_region 4 with fail
  obtain ⟨w0, hw0⟩ : ∃ w0, w0 = ((w.alloc (.cells #[.string ⟨t.toArray⟩, .int .i64 (k : Int), .bool false] 23)).alloc (.cells #[.string ⟨#[]⟩, .int .i64 0, .bool false] 23)) := ⟨_, rfl⟩
  have B1 : Blk w0 w.heap.size #[.string ⟨t.toArray⟩, .int .i64 (k : Int), .bool false] 23 := by subst hw0; exact (Blk.new _ _ _).alloc _
  have B2 : Blk w0 (w.heap.size + 1) #[.string ⟨#[]⟩, .int .i64 0, .bool false] 23 := by subst hw0; exact Blk.new' (by simp)
  have hb0 : Below w.heap.size w w0 := by subst hw0; exact bel_alloc (bel_alloc (Below.refl _ _) _) _
  have hz0 : w.heap.size + 2 ≤ w0.heap.size := by subst hw0; simp
  rw [← hw0]
  generalize (if a < 0 then 0 else a) = m0
  clear hw0
  clear hmax
  obtain ⟨c1, c2, c3, f1, f2, f3, l1⟩ := B1.three
  go_upto_region 6 with (go_at_call 15; refine (wOf w0 t (k : Int) false (by omega) k (by omega)).mono ?_; rintro e w1 ⟨Lb, va, vz, rfl, hL, hb1⟩)
  replace B1 := B1.below hb1
  replace B2 := B2.below hb1
  clear c1 c2 c3 f1 f2 f3 l1
  obtain ⟨c1, c2, c3, f1, f2, f3, l1⟩ := B1.three
  obtain ⟨d1, d2, d3, g1, g2, g3, l2⟩ := B2.three
  have hb2 : Below w.heap.size w w1 := bel_trans hb0 hb1
  go_wp2
  refine ret_blk (v := .agg #[.string ⟨(t).toArray⟩, .int .i64 ((k : Nat) : Int), .bool true]) (w.heap.size + 1) #[.string ⟨(t).toArray⟩, .int .i64 ((k : Nat) : Int), .bool true] 23 (by first | (simpa using ((((B2.set_other (b' := w.heap.size) (by omega) 2 (.bool true)).set 0 (.string ⟨(t).toArray⟩)).set 1 (.int .i64 ((k : Nat) : Int))).set 2 (.bool true))) | (simp at *; done)) (fun w' h => by obtain ⟨c1, c2, c3, _⟩ := h.three; simp [results, Try.results9, go_sem, c1, c2, c3]) rfl ⟨by first | rfl | simp, by repeat (first | (with_reducible exact Below.refl _ _) | (with_reducible assumption) | (with_reducible apply bel_alloc) | (with_reducible apply bel_drew) | (with_reducible refine bel_set ?_ (by first | exact Nat.le_refl _ | (simp; done) | omega | (simp; omega)) _) | (with_reducible refine bel_trans ?_ (by with_reducible assumption)))⟩

set_option maxHeartbeats 1000000 in
theorem wKeyF_done (w : World) (t : List UInt8) (a : Int) (k : Nat) (hk : k = clampN t a) (ht : t.length ≤ 4000) (x : UInt8) :
    Calls Try.prog 9 #[vw t a true, .int .u8 (x.toNat : Int)] w fun e w' => e = .returned (vw t k true) ∧ Below w.heap.size w w' := by
  have hk2 := clampN_eq t a
  rw [← hk] at hk2
  have hmax : (if (t.length : Int) < (if a < 0 then 0 else a) then (t.length : Int) else (if a < 0 then 0 else a)) = (k : Int) := by split <;> split <;> omega
  have hkt : k ≤ t.length := by omega
  clear hk hk2
  unfold vw
  go_enter Try.func9, Try.ntmps9
  go_upto_region 3 with fail
  generalize (if a < 0 then 0 else a) = m0
  go_wp2
  refine ret_blk (v := .agg #[.string ⟨t.toArray⟩, .int .i64 (k : Int), .bool true]) (w.heap.size + 1) #[.string ⟨t.toArray⟩, .int .i64 (k : Int), .bool true] 23 (Blk.new' (by simp)) (fun w' h => by obtain ⟨c1, c2, c3, _⟩ := h.three; simp [results, Try.results9, go_sem, c1, c2, c3]) rfl ⟨rfl, by repeat (first | (with_reducible exact Below.refl _ _) | (with_reducible assumption) | (with_reducible apply bel_alloc) | (with_reducible apply bel_drew) | (with_reducible refine bel_set ?_ (by first | exact Nat.le_refl _ | (simp; done) | omega | (simp; omega)) _) | (with_reducible refine bel_trans ?_ (by with_reducible assumption)))⟩

set_option maxHeartbeats 1000000 in
theorem wKeyF_else (w : World) (t : List UInt8) (a : Int) (k : Nat) (hk : k = clampN t a) (ht : t.length ≤ 4000) (x : UInt8) (hno : ¬ (32 ≤ x.toNat ∧ x.toNat ≤ 126)) (n10 : x.toNat ≠ 10) (n13 : x.toNat ≠ 13) (T : List UInt8) (N : Nat) (hT : T = (keyL (x.toNat : Int) (t.take k) (t.drop k)).1 ++ (keyL (x.toNat : Int) (t.take k) (t.drop k)).2) (hN : N = (keyL (x.toNat : Int) (t.take k) (t.drop k)).1.length) :
    Calls Try.prog 9 #[vw t a false, .int .u8 (x.toNat : Int)] w fun e w' => e = .returned (vw T N false) ∧ Below w.heap.size w w' := by
  have hk2 := clampN_eq t a
  rw [← hk] at hk2
  have hmax : (if (t.length : Int) < (if a < 0 then 0 else a) then (t.length : Int) else (if a < 0 then 0 else a)) = (k : Int) := by split <;> split <;> omega
  have hkt : k ≤ t.length := by omega
  clear hk hk2
  unfold vw
  go_enter Try.func9, Try.ntmps9
  go_upto_region 4 with fail
  obtain ⟨w0, hw0⟩ : ∃ w0, w0 = ((w.alloc (.cells #[.string ⟨t.toArray⟩, .int .i64 (k : Int), .bool false] 23)).alloc (.cells #[.string ⟨#[]⟩, .int .i64 0, .bool false] 23)) := ⟨_, rfl⟩
  have B1 : Blk w0 w.heap.size #[.string ⟨t.toArray⟩, .int .i64 (k : Int), .bool false] 23 := by subst hw0; exact (Blk.new _ _ _).alloc _
  have B2 : Blk w0 (w.heap.size + 1) #[.string ⟨#[]⟩, .int .i64 0, .bool false] 23 := by subst hw0; exact Blk.new' (by simp)
  have hb0 : Below w.heap.size w w0 := by subst hw0; exact bel_alloc (bel_alloc (Below.refl _ _) _) _
  have hz0 : w.heap.size + 2 ≤ w0.heap.size := by subst hw0; simp
  rw [← hw0]
  generalize (if a < 0 then 0 else a) = m0
  clear hw0
  clear hmax
  obtain ⟨c1, c2, c3, f1, f2, f3, l1⟩ := B1.three
  go_upto_region 6 with (go_at_call 15; refine (wOf w0 t (k : Int) false (by omega) k (by omega)).mono ?_; rintro e w1 ⟨Lb, va, vz, rfl, hL, hb1⟩)
  replace B1 := B1.below hb1
  replace B2 := B2.below hb1
  clear c1 c2 c3 f1 f2 f3 l1
  obtain ⟨c1, c2, c3, f1, f2, f3, l1⟩ := B1.three
  obtain ⟨d1, d2, d3, g1, g2, g3, l2⟩ := B2.three
  have hb2 : Below w.heap.size w w1 := bel_trans hb0 hb1
  have e10 : ((x.toNat : Int) == 10) = false := by simp; omega
  have e13 : ((x.toNat : Int) == 13) = false := by simp; omega
  obtain ⟨k1, k2, j1, j2, l3⟩ := hL.1.two
  go_upto_region 5 with (go_at_call 16; refine (types_no x.toNat hno w1).mono ?_; rintro e _ ⟨rfl, rfl⟩)
  clear k1 k2 j1 j2 l3
  have hAZ := keyL_len (x.toNat : Int) (t.take k) (t.drop k)
  simp only [List.length_take, List.length_drop] at hAZ
  go_upto_region 12 with (go_at_call 17; refine (wKey w1 _ Lb _ _ _ _ hL (by simp only [List.length_take, List.length_drop]; omega) (x.toNat : Int)).mono ?_; rintro e w5 ⟨rfl, va5, vz5, hL5, hb5⟩; replace B1 := Blk.below' hb5 (by omega) B1; replace B2 := Blk.below' hb5 (by omega) B2; have hb4 : Below w.heap.size w w5 := hb2.trans (hb5.mono (by omega)))
  clear c1 c2 c3 f1 f2 f3 l1 d1 d2 d3 g1 g2 g3 l2
  obtain ⟨d1, d2, d3, g1, g2, g3, l2⟩ := B2.three
  clear hL hb2
  go_wp2_with ((go_at_call 18; refine (wViewK w5 _ Lb _ _ _ _ hL5 (by omega) T N hT hN).mono ?_; clear hT hN; rintro e w3 ⟨rfl, hb3⟩; replace B2 := B2.below hb3; clear d1 d2 d3 g1 g2 g3 l2; obtain ⟨d1, d2, d3, g1, g2, g3, l2⟩ := B2.three))
  refine ret_blk (v := .agg #[.string ⟨(T).toArray⟩, .int .i64 ((N : Nat) : Int), .bool false]) (w.heap.size + 1) #[.string ⟨(T).toArray⟩, .int .i64 ((N : Nat) : Int), .bool false] 23 (by first | (simpa using ((B2.set 0 (.string ⟨(T).toArray⟩)).set 1 (.int .i64 ((N : Nat) : Int))).set 2 (.bool false)) | (simp at *; done)) (fun w' h => by obtain ⟨c1, c2, c3, _⟩ := h.three; simp [results, Try.results9, go_sem, c1, c2, c3]) rfl ⟨by first | rfl | simp, by repeat (first | (with_reducible exact Below.refl _ _) | (with_reducible assumption) | (with_reducible apply bel_alloc) | (with_reducible apply bel_drew) | (with_reducible refine bel_set ?_ (by first | exact Nat.le_refl _ | (simp; done) | omega | (simp; omega)) _) | (with_reducible refine bel_trans ?_ (by with_reducible assumption)))⟩


theorem wKeyF (w : World) (t : List UInt8) (a : Int) (d : Bool) (x : UInt8) (ht : t.length ≤ 4000) :
    Calls Try.prog 9 #[vw t a d, .int .u8 (x.toNat : Int)] w fun e w' => e = .returned (keyV t a d x) ∧ Below w.heap.size w w' := by
  unfold keyV
  cases d with
  | true => exact wKeyF_done w t a _ rfl ht x
  | false =>
    by_cases h10 : x.toNat = 10
    · rw [h10]; simpa using wKeyF_10 w t a _ rfl ht
    · by_cases h13 : x.toNat = 13
      · rw [h13]; simpa using wKeyF_13 w t a _ rfl ht
      · rw [if_neg (by simp), if_neg (by omega)]
        unfold keyT
        by_cases hc : 32 ≤ x.toNat ∧ x.toNat ≤ 126
        · rw [if_pos hc]
          by_cases hl : t.length < 200
          · rw [if_pos hl]
            exact wKeyF_type w t a _ rfl ht x hc.1 hc.2 hl _ _ rfl rfl
          · rw [if_neg hl]
            exact wKeyF_full w t a _ rfl ht x.toNat hc.1 hc.2 (by omega) _ _ rfl rfl
        · rw [if_neg hc]
          exact wKeyF_else w t a _ rfl ht x hc h10 h13 _ _ rfl rfl

end Go.Proofs.Ytfmlbnkmckkjnaa
