/- The body of PrimsAll. -/
import Derived.Test.YtpdjijdgafhmkaaB10
namespace Go.Proofs.Ytpdjijdgafhmkaa
open Go.RowKit Go.Shelf
set_option linter.unusedVariables false
set_option linter.unusedSimpArgs false
theorem finds_all : allIx.all (fun x => decide (numOf (large (rowAt x).1).data.toList = (x.1 : Int)) == vis x) = true := by kernel_rfl
attribute [local go_sem high] eqlP neqP grdP
attribute [local go_sem] Oper.semAt_some m_undef
attribute [local irreducible] cells19 cells20 rowL tabL
theorem ix_mem (x : Ix) : x ∈ allIx := by
  have h := x.2
  have e := allIx_at (x.1 - 1) (by omega)
  have e2 : (⟨x.1 - 1 + 1, by omega, by omega⟩ : Ix) = x := Subtype.ext (by show x.1 - 1 + 1 = x.1; omega)
  rw [e2] at e
  exact List.mem_of_getElem? e
theorem find_at (x : Ix) : decide (numOf (large (rowAt x).1).data.toList = (x.1 : Int)) = vis x := by
  have h := List.all_eq_true.1 finds_all x (ix_mem x)
  simpa using h
theorem pre_next (pre : List Ix) (x : Ix) (h : pre <+: allIx) (hx : x.1 = pre.length + 1) : pre ++ [x] <+: allIx := by
  have e := List.prefix_iff_eq_take.1 h
  have hl := h.length_le
  have hk : pre.length < 141 := by have := x.2; omega
  have hn := allIx_next pre.length hk
  have e2 : (⟨pre.length + 1, by omega, by omega⟩ : Ix) = x := Subtype.ext hx.symm
  rw [e2, ← e] at hn
  rw [hn]
  exact List.take_prefix _ _
theorem pre_not (pre : List Ix) (x : Ix) (hx : x.1 ≠ pre.length + 1) : ¬ pre ++ [x] <+: allIx := fun h => by
  have hl := h.length_le
  rw [allIx_len] at hl
  simp at hl
  have h1 := h.getElem (i := pre.length) (by simp)
  have e := allIx_at pre.length (by omega)
  rw [List.getElem?_eq_getElem (by rw [allIx_len]; omega)] at e
  rw [Option.some.inj e] at h1
  simp at h1
  exact hx (by rw [h1])

theorem dk_set {W : World} {D b o : Nat} {v : Value} {ob : Option Obj} (h : W.heap[D]? = ob) (hne : D ≠ b) : (W.setCell ⟨b, o, none⟩ v).heap[D]? = ob := (Below.heap_setCell _ _ _ _ hne).trans h
theorem dk_alloc {W : World} {D : Nat} {ob : Option Obj} {o : Obj} (h : W.heap[D]? = ob) (hlt : D < W.heap.size) : (W.alloc o).heap[D]? = ob := (Below.heap_alloc W _ D hlt).trans h
theorem dk_below {W W2 : World} {D : Nat} {ob : Option Obj} (h : W.heap[D]? = ob) (hb : Below W.heap.size W W2) (hlt : D < W.heap.size) : W2.heap[D]? = ob := (hb.block D hlt).trans h
/-- The cells that the body keeps: the argument, the result, the count. -/
def St (w : World) (n : Int) (N : Nat) (v : Int) (W : World) : Prop :=
  ((Boxed W w.heap.size 3 (.int .i64 n) ∧ Boxed W (w.heap.size + 1) 4 (.bool false)) ∧ Boxed W N 3 (.int .i64 v)) ∧ Below w.heap.size w W
theorem St_own {β : Type} (w : World) (n : Int) (N : Nat) (f : β → Int) (B : Nat) (hB : w.heap.size ≤ B) : OwnFrom B (fun (s : β) W => St w n N (f s) W) :=
  OwnFrom.and (OwnFrom.and (OwnFrom.and (Own.from (boxed_own _ _ _) _) (Own.from (boxed_own _ _ _) _)) (Own.from (boxed_own N 3 (fun s => .int .i64 (f s))) _)) (ownFrom_below (Nat.le_refl _) hB)
theorem nil_no (w : World) : (binOp .eql 35 (.func (.func 22) #[] #[]) Value.nilFunc).run Try.prog w = .ok (.bool false) w := by
  first | rfl | kernel_rfl | simp [go_sem]
set_option maxRecDepth 100000 in
set_option maxHeartbeats 4000000 in
theorem law_all (n : Int) (hn : isI n) (w : World) : Calls Try.prog 6 #[.int .i64 n] w fun e w' => e = .returned (.bool true) ∧ Below w.heap.size w w' := by
  have hnil := nil_no
  refine (callsIn_wide (n := 3)).1 ?_
  refine callsIn_of_wp_marks Try.func6 rfl trivial ?_ rfl
  simp only [Try.ntmps6, List.size_toArray, List.length_cons, List.length_nil, Nat.reduceAdd, Nat.reduceSub, Array.replicate_succ, Array.replicate_zero, List.push_toArray, List.append_toArray, List.nil_append, List.cons_append]
  gi_wp2_with (first
    | (refine ⟨trivial, ?_⟩; gi_at_call 7; refine (callsIn_wide.2 (awake _)).mono ?_; rintro e w1 ⟨rfl, hb_w1⟩)
    | (refine ⟨trivial, ?_⟩; gi_at_call 18; refine (callsIn_wide.2 (wAll _)).mono ?_; rintro e w2 ⟨rfl, rfl⟩))
  have hs2 := hb_w1.size
  simp only [World.size_alloc] at hs2
  obtain ⟨N, hN⟩ : ∃ N, N = w2.heap.size := ⟨_, rfl⟩
  have hSt : St w n N 0 (w2.alloc (.cells #[.int .i64 0] 3)) := by
    have b0 : Blk w2 w.heap.size #[.int .i64 n] 3 := by repeat (first | (with_reducible assumption) | (with_reducible refine Blk.new' ?_; first | rfl | (simp; done) | (simp; omega)) | (with_reducible apply Blk.set01) | (with_reducible apply Blk.set0) | (with_reducible apply Blk.set1) | (with_reducible apply Blk.setOne) | (with_reducible refine Blk.set_other ?_ (by omega) _ _) | (with_reducible apply Blk.alloc) | (with_reducible apply Blk.drew) | (with_reducible refine Blk.below ?_ (by with_reducible assumption)))
    have b1 : Blk w2 (w.heap.size + 1) #[.bool false] 4 := by repeat (first | (with_reducible assumption) | (with_reducible refine Blk.new' ?_; first | rfl | (simp; done) | (simp; omega)) | (with_reducible apply Blk.set01) | (with_reducible apply Blk.set0) | (with_reducible apply Blk.set1) | (with_reducible apply Blk.setOne) | (with_reducible refine Blk.set_other ?_ (by omega) _ _) | (with_reducible apply Blk.alloc) | (with_reducible apply Blk.drew) | (with_reducible refine Blk.below ?_ (by with_reducible assumption)))
    refine ⟨⟨⟨b0.alloc _, b1.alloc _⟩, ?_⟩, by repeat (first | (with_reducible exact Below.refl _ _) | (with_reducible assumption) | (with_reducible apply bel_alloc) | (with_reducible apply bel_drew) | (with_reducible refine bel_set ?_ (by first | exact Nat.le_refl _ | (simp; done) | omega | (simp; omega)) _) | (with_reducible refine bel_trans ?_ (by with_reducible assumption)))⟩
    rw [hN]
    exact Boxed.new w2 3 _
  obtain ⟨W0, hW0⟩ : ∃ W0, w2.alloc (.cells #[.int .i64 0] 3) = W0 := ⟨_, rfl⟩
  have hsW : W0.heap.size = N + 1 := by rw [← hW0, hN]; simp
  rw [← hN]
  rw [hW0] at hSt ⊢
  rw [← hN] at hs2
  clear hW0 hN hb_w1
  have hw1 : ∀ k : Nat, k < 141 → IntKind.i64.wrap ((k : Int) + 1) = ((k + 1 : Nat) : Int) := fun k hk => by rw [IntKind.wrap_i64]; omega
  refine wpIn_rangeFunc_ownG rfl (by omega) (gf := 22) (lb := #[]) rfl trivial (enters_of Try.func22 (by kernel_rfl) rfl) (all_stops (3 - 1) (by omega) _) (fun _ _ => trivial) (fun _ _ _ _ _ _ _ _ => trivial) (Below.refl _ _) (fun _ => rfl)
    (fun pre W => St w n N (pre.length : Int) W)
    (fun c pre W => c = .exit 0 ∧ St w n N (pre.length : Int) W)
    (St_own w n N (fun pre : List Ix => (pre.length : Int)) _ (by omega))
    (fun c s A B row hs hg hr => ⟨hs.1, St_own w n N (fun pre : List Ix => (pre.length : Int)) _ (by omega) s A B row hs.2 hg hr⟩)
    hSt
    (fun x => { tmps := #[.int .i64 n, .pointer (some ⟨w.heap.size, 0, none⟩), .pointer (some ⟨w.heap.size + 1, 0, none⟩), .func (.func 22) #[] #[], .pointer (some ⟨N, 0, none⟩), undef, undef, undef, undef, undef, .bool true, .bool false, .func (.func 22) #[] #[], .func (.func 22) #[] #[], .bool false, .func (.func 22) #[] #[], .int .i64 (x.1 : Int), primV (rowAt x), undef, undef, undef, undef, undef, undef, undef, undef, undef, undef, undef, undef, undef, undef, undef, undef, undef, undef, undef, undef, undef, undef, undef, undef, undef, undef, undef, undef, undef, undef, undef, undef, undef, undef, undef, undef, undef, undef, undef, undef, undef, undef, undef, undef], defers := [] })
    ?assign ?body ?done ?stop
  case assign =>
    intro l x W K hK
    gi_wp2
    exact hK
  case body =>
    rintro l pre x W ⟨⟨⟨b0, b1⟩, bk⟩, hB⟩ hlt
    have c0 := b0.cell
    have ck := bk.cell
    have fk := bk.frozen
    have hwk := hw1 pre.length hlt
    by_cases t : n ≤ ((pre.length + 1 : Nat) : Int)
    · gi_wp2
      refine ⟨(KeepsOthers.setCell _ _ _).from _, rfl, ⟨⟨b0.other (by omega) _, b1.other (by omega) _⟩, ?_⟩, hB.setCell (p := ⟨N, 0, none⟩) (show w.heap.size ≤ N by omega) _⟩
      have := bk.set (.int .i64 ((pre ++ [x]).length : Int))
      simpa using this
    · gi_wp2
      refine ⟨(KeepsOthers.setCell _ _ _).from _, trivial, ⟨⟨b0.other (by omega) _, b1.other (by omega) _⟩, ?_⟩, hB.setCell (p := ⟨N, 0, none⟩) (show w.heap.size ≤ N by omega) _⟩
      have := bk.set (.int .i64 ((pre ++ [x]).length : Int))
      simpa using this
  case done =>
    rintro D ys W hD rfl ⟨⟨⟨b0, b1⟩, bk⟩, hB⟩ hK
    have ck := bk.cell
    have fk := bk.frozen
    gi_wp2
    have hSt2 : St w n N 0 (W.setCell ⟨N, 0, none⟩ (.int .i64 0)) := ⟨⟨⟨b0.other (by omega) _, b1.other (by omega) _⟩, bk.set _⟩, hB.setCell (p := ⟨N, 0, none⟩) (show w.heap.size ≤ N by omega) _⟩
    have hK2 := (KeepsOthers.setCell W ⟨N, 0, none⟩ (.int .i64 0)).same D _ hK rfl
    clear hK ck fk b0 b1 bk hB
    obtain ⟨W3, hW3⟩ : ∃ W3, W.setCell ⟨N, 0, none⟩ (.int .i64 0) = W3 := ⟨_, rfl⟩
    rw [hW3] at hSt2 hK2 ⊢
    clear hW3
    have hD3 : D < W3.heap.size := (Array.getElem?_eq_some_iff.1 hK2).1
    have hN3 : N < W3.heap.size := hSt2.1.2.lt
    refine wpIn_rangeFunc_ownH rfl (by omega) (gf := 22) (lb := #[]) rfl trivial (enters_of Try.func22 (by kernel_rfl) rfl) (all_stops (3 - 1) (by omega) _) (fun _ _ => trivial) (fun _ _ _ _ _ _ _ _ => trivial) (Below.refl _ _) (fun _ => rfl)
      (fun pre W => (pre <+: allIx ∧ W.heap[D]? = some (.deferred (some []))) ∧ St w n N (pre.length : Int) W)
      (fun c pre W => c = .ret ∧ ¬ pre <+: allIx)
      (fun s A B row hs hg hr => ⟨⟨hs.1.1, (hg.block D (by have := (Array.getElem?_eq_some_iff.1 hs.1.2).1; exact this) (fun e => by have := (hr D e.symm).1; omega)).trans hs.1.2⟩, St_own w n N (fun pre : List Ix => (pre.length : Int)) _ (by omega) s A B row hs.2 hg hr⟩)
      (fun _ _ _ _ _ hs _ _ => hs)
      ⟨⟨List.nil_prefix, hK2⟩, hSt2⟩
      (fun x a' W => ∃ Bx, N < Bx ∧ Blk W Bx (rowC (rowAt x)) 24 ∧ a' = { tmps := #[.int .i64 n, .pointer (some ⟨w.heap.size, 0, none⟩), .pointer (some ⟨w.heap.size + 1, 0, none⟩), .func (.func 22) #[] #[], .pointer (some ⟨N, 0, none⟩), .int .i64 (x.1 : Int), .pointer (some ⟨Bx, 0, none⟩), undef, undef, undef, .bool true, .bool false, .func (.func 22) #[] #[], .func (.func 22) #[] #[], .bool false, .func (.func 22) #[] #[], undef, undef, undef, undef, undef, undef, undef, .func (.func 22) #[] #[], .int .i64 (x.1 : Int), primV (rowAt x), undef, undef, undef, undef, undef, undef, undef, undef, undef, undef, undef, undef, undef, undef, undef, undef, undef, undef, undef, undef, undef, undef, undef, undef, undef, undef, undef, undef, undef, undef, undef, undef, undef, undef, undef, undef], defers := [] })
      (fun x a' s X Y row hs hg hr => by obtain ⟨Bx, h1, h2, h3⟩ := hs; exact ⟨Bx, h1, blk_own h2 hg (fun r e => (hr r e).2), h3⟩)
      ?assignA ?bodyA ?doneA ?stopA
    case assignA =>
      rintro l pre x W K ⟨⟨hp, hKD⟩, hS⟩ hK
      have hlt := hS.1.2.lt
      have hS' : St w n N (pre.length : Int) (W.alloc (.cells (rowC (rowAt x)) 24)) := ⟨⟨⟨hS.1.1.1.alloc _, hS.1.1.2.alloc _⟩, hS.1.2.alloc _⟩, hS.2.alloc hS.2.size _⟩
      have hK' := hK
      unfold encs at *
      obtain ⟨r, hr⟩ : ∃ r, r = rowAt x := ⟨_, rfl⟩
      simp only [← hr] at hK' hS' ⊢
      clear hr
      obtain ⟨nm, tk, ly, nw, on⟩ := r
      unfold rowC at hK' hS'
      unfold primV at hK' ⊢
      gi_wp2
      exact hK' _ _ ((KeepsOthers.alloc _ _).from _) trivial ⟨⟨hp, (Below.heap_alloc W _ D (Array.getElem?_eq_some_iff.1 hKD).1).trans hKD⟩, hS'⟩ ⟨W.heap.size, hlt, Blk.new _ _ _, rfl⟩
    case bodyA =>
      rintro l pre x a' W' hl ⟨r, hr⟩ ⟨⟨hp, hKD⟩, ⟨⟨b0, b1⟩, bk⟩, hB⟩ ⟨Bx, hBx, bX, rfl⟩ hlt
      have c0 := b0.cell
      have ck := bk.cell
      have fk := bk.frozen
      have hwk := hw1 pre.length hlt
      have hDl : D < W'.heap.size := (Array.getElem?_eq_some_iff.1 hKD).1
      have hk0 : Blk W' w.heap.size #[.int .i64 n] 3 := b0
      have hk1 : Blk W' (w.heap.size + 1) #[.bool false] 4 := b1
      have hk2 : Blk W' N #[.int .i64 (pre.length : Int)] 3 := bk
      have hNl : N < W'.heap.size := bk.lt
      have hfx := find_at x
      have hsm := name_small x
      have HO := fun w => rOf (x.1 : Int) (by have := x.2; omega) (by have := x.2; omega) w
      have HF := fun w => wFind (rowAt x).1 (by omega) w
      have hgood := pre_next pre x hp
      have hbad := pre_not pre x
      have hvx : vis x = (decide (x.1 < 2) || decide (11 < x.1)) := rfl
      have hlen : (pre ++ [x]).length = pre.length + 1 := by simp
      rw [Int.toNat_natCast] at HO
      change ∀ w, Calls Try.prog 9 #[.int .i64 (x.1 : Int)] w fun e w' => e = .returned (.tuple #[primV (rowAt x), .bool true]) ∧ Below w.heap.size w w' at HO
      obtain ⟨V, hV⟩ : ∃ V, V = numOf (large (rowAt x).1).data.toList := ⟨_, rfl⟩
      rw [← hV] at HF hfx
      clear hV hsm
      obtain ⟨ro, hro⟩ : ∃ r, r = rowAt x := ⟨_, rfl⟩
      rw [← hro] at HO HF bX ⊢
      clear hro
      obtain ⟨nm, tk, ly, nw, on⟩ := ro
      unfold primV at HO ⊢
      unfold rowC at bX
      dsimp only at HF
      obtain ⟨k1, k2, k3, k4, k5, k6, k7, k8, k9, k10, k11⟩ := bX.five
      have HO' := Lib.hid HO
      have HF' := Lib.hid HF
      clear HO HF
      obtain ⟨i, hi⟩ : ∃ i : Int, i = (x.1 : Int) := ⟨_, rfl⟩
      obtain ⟨m, hm⟩ : ∃ m : Int, m = (pre.length : Int) := ⟨_, rfl⟩
      obtain ⟨m1, hm1⟩ : ∃ m1 : Int, m1 = m + 1 := ⟨_, rfl⟩
      have hwm : IntKind.i64.wrap (m + 1) = m1 := by rw [hm, hwk, hm1, hm]; omega
      have hml : ((pre ++ [x]).length : Int) = m1 := by rw [hlen, hm1, hm]; omega
      rw [← hi] at HO' hfx ⊢
      rw [← hm] at ck hk2
      clear hwk hlen
      by_cases hx : x.1 = pre.length + 1
      · have hg := hgood hx
        have hxi : (i != m1) = false := by simp; omega
        clear hm1
        by_cases t1 : x.1 < 2
        ·
          have u1 : ¬ (2 : Int) ≤ i := by omega
          have hvt : vis x = true := by rw [hvx]; simp [t1]
          have hVi : (V == i) = true := by rw [hvt] at hfx; simpa using hfx
          clear hfx hvt hvx hx hgood hbad t1 hi hm 
          gi_wp2_with (first
            | (refine ⟨trivial, ?_⟩; gi_at_call 9; refine (CallsIn.inRound l (callsIn_wide.2 (HO'.out _))).mono ?_; rintro e w4 ⟨rfl, hb_w4⟩; obtain ⟨p1, p2, p3⟩ := (show Blk w4 (N) #[.int .i64 m1] 3 from (by repeat (first | (with_reducible assumption) | (with_reducible refine Blk.new' ?_; first | rfl | (simp; done) | (simp; omega)) | (with_reducible apply Blk.setFive) | (with_reducible apply Blk.set0) | (with_reducible apply Blk.set1) | (with_reducible apply Blk.setOne) | (with_reducible refine Blk.set_other ?_ (by omega) _ _) | (with_reducible apply Blk.alloc) | (with_reducible apply Blk.drew) | (with_reducible refine Blk.below ?_ (by with_reducible assumption))))).one; obtain ⟨q1, q2, q3, q4, q5, q6, q7, q8, q9, q10, q11⟩ := (show Blk w4 (Bx) #[.string nm, .int .i64 tk, .int .i64 ly, .bool nw, .bool on] 24 from (by repeat (first | (with_reducible assumption) | (with_reducible refine Blk.new' ?_; first | rfl | (simp; done) | (simp; omega)) | (with_reducible apply Blk.setFive) | (with_reducible apply Blk.set0) | (with_reducible apply Blk.set1) | (with_reducible apply Blk.setOne) | (with_reducible refine Blk.set_other ?_ (by omega) _ _) | (with_reducible apply Blk.alloc) | (with_reducible apply Blk.drew) | (with_reducible refine Blk.below ?_ (by with_reducible assumption))))).five; obtain ⟨z1, z2, z3⟩ := (show Blk w4 (w.heap.size + 1) #[.bool false] 4 from (by repeat (first | (with_reducible assumption) | (with_reducible refine Blk.new' ?_; first | rfl | (simp; done) | (simp; omega)) | (with_reducible apply Blk.setFive) | (with_reducible apply Blk.set0) | (with_reducible apply Blk.set1) | (with_reducible apply Blk.setOne) | (with_reducible refine Blk.set_other ?_ (by omega) _ _) | (with_reducible apply Blk.alloc) | (with_reducible apply Blk.drew) | (with_reducible refine Blk.below ?_ (by with_reducible assumption))))).one; have hz4 := hb_w4.size; simp only [World.size_alloc, World.size_setCell] at hz4)
            | (refine ⟨trivial, ?_⟩; gi_at_call 13; refine (CallsIn.inRound l (callsIn_wide.2 (HF'.out _))).mono ?_; rintro e w5 ⟨rfl, hb_w5⟩; have hz5 := hb_w5.size; simp only [World.size_alloc, World.size_setCell] at hz5))
          refine ⟨by repeat (first | (with_reducible exact KeepsFrom.refl _ _) | (with_reducible refine KeepsFrom.trans ?_ ((KeepsOthers.setCell _ _ _).from _)) | (with_reducible refine KeepsFrom.trans ?_ ((KeepsOthers.alloc _ _).from _)) | (with_reducible refine KeepsFrom.trans ?_ (KeepsFrom.of_grownBy (grown_of_below (by with_reducible assumption)) (fun j e => by cases e)))), trivial, ⟨hg, by repeat (first | (with_reducible assumption) | (with_reducible refine dk_set ?_ (by omega)) | (with_reducible refine dk_alloc ?_ (by omega)) | (with_reducible refine dk_below ?_ (by with_reducible assumption) (by first | omega | (simp only [World.size_alloc, World.size_setCell]; omega))))⟩, ⟨⟨show Blk _ _ _ _ from (by repeat (first | (with_reducible assumption) | (with_reducible refine Blk.new' ?_; first | rfl | (simp; done) | (simp; omega)) | (with_reducible apply Blk.set01) | (with_reducible apply Blk.set0) | (with_reducible apply Blk.set1) | (with_reducible apply Blk.setOne) | (with_reducible refine Blk.set_other ?_ (by omega) _ _) | (with_reducible apply Blk.alloc) | (with_reducible apply Blk.drew) | (with_reducible refine Blk.below ?_ (by with_reducible assumption)))), show Blk _ _ _ _ from (by repeat (first | (with_reducible assumption) | (with_reducible refine Blk.new' ?_; first | rfl | (simp; done) | (simp; omega)) | (with_reducible apply Blk.set01) | (with_reducible apply Blk.set0) | (with_reducible apply Blk.set1) | (with_reducible apply Blk.setOne) | (with_reducible refine Blk.set_other ?_ (by omega) _ _) | (with_reducible apply Blk.alloc) | (with_reducible apply Blk.drew) | (with_reducible refine Blk.below ?_ (by with_reducible assumption))))⟩, ?_⟩, by repeat (first | (with_reducible exact Below.refl _ _) | (with_reducible assumption) | (with_reducible apply bel_alloc) | (with_reducible apply bel_drew) | (with_reducible refine bel_set ?_ (by first | exact Nat.le_refl _ | (simp; done) | omega | (simp; omega)) _) | (with_reducible refine bel_trans ?_ (by with_reducible assumption)))⟩
          rw [hml]
          show Blk _ _ _ _
          repeat (first | (with_reducible assumption) | (with_reducible refine Blk.new' ?_; first | rfl | (simp; done) | (simp; omega)) | (with_reducible apply Blk.set01) | (with_reducible apply Blk.set0) | (with_reducible apply Blk.set1) | (with_reducible apply Blk.setOne) | (with_reducible refine Blk.set_other ?_ (by omega) _ _) | (with_reducible apply Blk.alloc) | (with_reducible apply Blk.drew) | (with_reducible refine Blk.below ?_ (by with_reducible assumption)))
        by_cases t2 : 11 < x.1
        ·
          have u1 : (2 : Int) ≤ i := by omega
          have u2 : ¬ i ≤ (11 : Int) := by omega
          have hvt : vis x = true := by rw [hvx]; simp [t2]
          have hVi : (V == i) = true := by rw [hvt] at hfx; simpa using hfx
          clear hfx hvt hvx hx hgood hbad t1 hi hm t2
          gi_wp2_with (first
            | (refine ⟨trivial, ?_⟩; gi_at_call 9; refine (CallsIn.inRound l (callsIn_wide.2 (HO'.out _))).mono ?_; rintro e w4 ⟨rfl, hb_w4⟩; obtain ⟨p1, p2, p3⟩ := (show Blk w4 (N) #[.int .i64 m1] 3 from (by repeat (first | (with_reducible assumption) | (with_reducible refine Blk.new' ?_; first | rfl | (simp; done) | (simp; omega)) | (with_reducible apply Blk.setFive) | (with_reducible apply Blk.set0) | (with_reducible apply Blk.set1) | (with_reducible apply Blk.setOne) | (with_reducible refine Blk.set_other ?_ (by omega) _ _) | (with_reducible apply Blk.alloc) | (with_reducible apply Blk.drew) | (with_reducible refine Blk.below ?_ (by with_reducible assumption))))).one; obtain ⟨q1, q2, q3, q4, q5, q6, q7, q8, q9, q10, q11⟩ := (show Blk w4 (Bx) #[.string nm, .int .i64 tk, .int .i64 ly, .bool nw, .bool on] 24 from (by repeat (first | (with_reducible assumption) | (with_reducible refine Blk.new' ?_; first | rfl | (simp; done) | (simp; omega)) | (with_reducible apply Blk.setFive) | (with_reducible apply Blk.set0) | (with_reducible apply Blk.set1) | (with_reducible apply Blk.setOne) | (with_reducible refine Blk.set_other ?_ (by omega) _ _) | (with_reducible apply Blk.alloc) | (with_reducible apply Blk.drew) | (with_reducible refine Blk.below ?_ (by with_reducible assumption))))).five; obtain ⟨z1, z2, z3⟩ := (show Blk w4 (w.heap.size + 1) #[.bool false] 4 from (by repeat (first | (with_reducible assumption) | (with_reducible refine Blk.new' ?_; first | rfl | (simp; done) | (simp; omega)) | (with_reducible apply Blk.setFive) | (with_reducible apply Blk.set0) | (with_reducible apply Blk.set1) | (with_reducible apply Blk.setOne) | (with_reducible refine Blk.set_other ?_ (by omega) _ _) | (with_reducible apply Blk.alloc) | (with_reducible apply Blk.drew) | (with_reducible refine Blk.below ?_ (by with_reducible assumption))))).one; have hz4 := hb_w4.size; simp only [World.size_alloc, World.size_setCell] at hz4)
            | (refine ⟨trivial, ?_⟩; gi_at_call 13; refine (CallsIn.inRound l (callsIn_wide.2 (HF'.out _))).mono ?_; rintro e w5 ⟨rfl, hb_w5⟩; have hz5 := hb_w5.size; simp only [World.size_alloc, World.size_setCell] at hz5))
          refine ⟨by repeat (first | (with_reducible exact KeepsFrom.refl _ _) | (with_reducible refine KeepsFrom.trans ?_ ((KeepsOthers.setCell _ _ _).from _)) | (with_reducible refine KeepsFrom.trans ?_ ((KeepsOthers.alloc _ _).from _)) | (with_reducible refine KeepsFrom.trans ?_ (KeepsFrom.of_grownBy (grown_of_below (by with_reducible assumption)) (fun j e => by cases e)))), trivial, ⟨hg, by repeat (first | (with_reducible assumption) | (with_reducible refine dk_set ?_ (by omega)) | (with_reducible refine dk_alloc ?_ (by omega)) | (with_reducible refine dk_below ?_ (by with_reducible assumption) (by first | omega | (simp only [World.size_alloc, World.size_setCell]; omega))))⟩, ⟨⟨show Blk _ _ _ _ from (by repeat (first | (with_reducible assumption) | (with_reducible refine Blk.new' ?_; first | rfl | (simp; done) | (simp; omega)) | (with_reducible apply Blk.set01) | (with_reducible apply Blk.set0) | (with_reducible apply Blk.set1) | (with_reducible apply Blk.setOne) | (with_reducible refine Blk.set_other ?_ (by omega) _ _) | (with_reducible apply Blk.alloc) | (with_reducible apply Blk.drew) | (with_reducible refine Blk.below ?_ (by with_reducible assumption)))), show Blk _ _ _ _ from (by repeat (first | (with_reducible assumption) | (with_reducible refine Blk.new' ?_; first | rfl | (simp; done) | (simp; omega)) | (with_reducible apply Blk.set01) | (with_reducible apply Blk.set0) | (with_reducible apply Blk.set1) | (with_reducible apply Blk.setOne) | (with_reducible refine Blk.set_other ?_ (by omega) _ _) | (with_reducible apply Blk.alloc) | (with_reducible apply Blk.drew) | (with_reducible refine Blk.below ?_ (by with_reducible assumption))))⟩, ?_⟩, by repeat (first | (with_reducible exact Below.refl _ _) | (with_reducible assumption) | (with_reducible apply bel_alloc) | (with_reducible apply bel_drew) | (with_reducible refine bel_set ?_ (by first | exact Nat.le_refl _ | (simp; done) | omega | (simp; omega)) _) | (with_reducible refine bel_trans ?_ (by with_reducible assumption)))⟩
          rw [hml]
          show Blk _ _ _ _
          repeat (first | (with_reducible assumption) | (with_reducible refine Blk.new' ?_; first | rfl | (simp; done) | (simp; omega)) | (with_reducible apply Blk.set01) | (with_reducible apply Blk.set0) | (with_reducible apply Blk.set1) | (with_reducible apply Blk.setOne) | (with_reducible refine Blk.set_other ?_ (by omega) _ _) | (with_reducible apply Blk.alloc) | (with_reducible apply Blk.drew) | (with_reducible refine Blk.below ?_ (by with_reducible assumption)))
        ·
          have u1 : (2 : Int) ≤ i := by omega
          have u2 : i ≤ (11 : Int) := by omega
          have hvt : vis x = false := by rw [hvx]; simp [t1, t2]
          have hVi : (V == i) = false := by rw [hvt] at hfx; simpa using hfx
          clear hfx hvt hvx hx hgood hbad t1 hi hm t2
          gi_wp2_with (first
            | (refine ⟨trivial, ?_⟩; gi_at_call 9; refine (CallsIn.inRound l (callsIn_wide.2 (HO'.out _))).mono ?_; rintro e w4 ⟨rfl, hb_w4⟩; obtain ⟨p1, p2, p3⟩ := (show Blk w4 (N) #[.int .i64 m1] 3 from (by repeat (first | (with_reducible assumption) | (with_reducible refine Blk.new' ?_; first | rfl | (simp; done) | (simp; omega)) | (with_reducible apply Blk.setFive) | (with_reducible apply Blk.set0) | (with_reducible apply Blk.set1) | (with_reducible apply Blk.setOne) | (with_reducible refine Blk.set_other ?_ (by omega) _ _) | (with_reducible apply Blk.alloc) | (with_reducible apply Blk.drew) | (with_reducible refine Blk.below ?_ (by with_reducible assumption))))).one; obtain ⟨q1, q2, q3, q4, q5, q6, q7, q8, q9, q10, q11⟩ := (show Blk w4 (Bx) #[.string nm, .int .i64 tk, .int .i64 ly, .bool nw, .bool on] 24 from (by repeat (first | (with_reducible assumption) | (with_reducible refine Blk.new' ?_; first | rfl | (simp; done) | (simp; omega)) | (with_reducible apply Blk.setFive) | (with_reducible apply Blk.set0) | (with_reducible apply Blk.set1) | (with_reducible apply Blk.setOne) | (with_reducible refine Blk.set_other ?_ (by omega) _ _) | (with_reducible apply Blk.alloc) | (with_reducible apply Blk.drew) | (with_reducible refine Blk.below ?_ (by with_reducible assumption))))).five; obtain ⟨z1, z2, z3⟩ := (show Blk w4 (w.heap.size + 1) #[.bool false] 4 from (by repeat (first | (with_reducible assumption) | (with_reducible refine Blk.new' ?_; first | rfl | (simp; done) | (simp; omega)) | (with_reducible apply Blk.setFive) | (with_reducible apply Blk.set0) | (with_reducible apply Blk.set1) | (with_reducible apply Blk.setOne) | (with_reducible refine Blk.set_other ?_ (by omega) _ _) | (with_reducible apply Blk.alloc) | (with_reducible apply Blk.drew) | (with_reducible refine Blk.below ?_ (by with_reducible assumption))))).one; have hz4 := hb_w4.size; simp only [World.size_alloc, World.size_setCell] at hz4)
            | (refine ⟨trivial, ?_⟩; gi_at_call 13; refine (CallsIn.inRound l (callsIn_wide.2 (HF'.out _))).mono ?_; rintro e w5 ⟨rfl, hb_w5⟩; have hz5 := hb_w5.size; simp only [World.size_alloc, World.size_setCell] at hz5))
          refine ⟨by repeat (first | (with_reducible exact KeepsFrom.refl _ _) | (with_reducible refine KeepsFrom.trans ?_ ((KeepsOthers.setCell _ _ _).from _)) | (with_reducible refine KeepsFrom.trans ?_ ((KeepsOthers.alloc _ _).from _)) | (with_reducible refine KeepsFrom.trans ?_ (KeepsFrom.of_grownBy (grown_of_below (by with_reducible assumption)) (fun j e => by cases e)))), trivial, ⟨hg, by repeat (first | (with_reducible assumption) | (with_reducible refine dk_set ?_ (by omega)) | (with_reducible refine dk_alloc ?_ (by omega)) | (with_reducible refine dk_below ?_ (by with_reducible assumption) (by first | omega | (simp only [World.size_alloc, World.size_setCell]; omega))))⟩, ⟨⟨show Blk _ _ _ _ from (by repeat (first | (with_reducible assumption) | (with_reducible refine Blk.new' ?_; first | rfl | (simp; done) | (simp; omega)) | (with_reducible apply Blk.set01) | (with_reducible apply Blk.set0) | (with_reducible apply Blk.set1) | (with_reducible apply Blk.setOne) | (with_reducible refine Blk.set_other ?_ (by omega) _ _) | (with_reducible apply Blk.alloc) | (with_reducible apply Blk.drew) | (with_reducible refine Blk.below ?_ (by with_reducible assumption)))), show Blk _ _ _ _ from (by repeat (first | (with_reducible assumption) | (with_reducible refine Blk.new' ?_; first | rfl | (simp; done) | (simp; omega)) | (with_reducible apply Blk.set01) | (with_reducible apply Blk.set0) | (with_reducible apply Blk.set1) | (with_reducible apply Blk.setOne) | (with_reducible refine Blk.set_other ?_ (by omega) _ _) | (with_reducible apply Blk.alloc) | (with_reducible apply Blk.drew) | (with_reducible refine Blk.below ?_ (by with_reducible assumption))))⟩, ?_⟩, by repeat (first | (with_reducible exact Below.refl _ _) | (with_reducible assumption) | (with_reducible apply bel_alloc) | (with_reducible apply bel_drew) | (with_reducible refine bel_set ?_ (by first | exact Nat.le_refl _ | (simp; done) | omega | (simp; omega)) _) | (with_reducible refine bel_trans ?_ (by with_reducible assumption)))⟩
          rw [hml]
          show Blk _ _ _ _
          repeat (first | (with_reducible assumption) | (with_reducible refine Blk.new' ?_; first | rfl | (simp; done) | (simp; omega)) | (with_reducible apply Blk.set01) | (with_reducible apply Blk.set0) | (with_reducible apply Blk.set1) | (with_reducible apply Blk.setOne) | (with_reducible refine Blk.set_other ?_ (by omega) _ _) | (with_reducible apply Blk.alloc) | (with_reducible apply Blk.drew) | (with_reducible refine Blk.below ?_ (by with_reducible assumption)))
      · have hb := hbad hx
        have hxi : (i != m1) = true := by simp; omega
        clear hm1
        by_cases t1 : x.1 < 2
        ·
          have u1 : ¬ (2 : Int) ≤ i := by omega
          have hvt : vis x = true := by rw [hvx]; simp [t1]
          clear hfx hvt hvx hx hgood hbad t1 hi hm 
          gi_wp2_with (first
            | (refine ⟨trivial, ?_⟩; gi_at_call 9; refine (CallsIn.inRound l (callsIn_wide.2 (HO'.out _))).mono ?_; rintro e w4 ⟨rfl, hb_w4⟩; obtain ⟨p1, p2, p3⟩ := (show Blk w4 (N) #[.int .i64 m1] 3 from (by repeat (first | (with_reducible assumption) | (with_reducible refine Blk.new' ?_; first | rfl | (simp; done) | (simp; omega)) | (with_reducible apply Blk.setFive) | (with_reducible apply Blk.set0) | (with_reducible apply Blk.set1) | (with_reducible apply Blk.setOne) | (with_reducible refine Blk.set_other ?_ (by omega) _ _) | (with_reducible apply Blk.alloc) | (with_reducible apply Blk.drew) | (with_reducible refine Blk.below ?_ (by with_reducible assumption))))).one; obtain ⟨q1, q2, q3, q4, q5, q6, q7, q8, q9, q10, q11⟩ := (show Blk w4 (Bx) #[.string nm, .int .i64 tk, .int .i64 ly, .bool nw, .bool on] 24 from (by repeat (first | (with_reducible assumption) | (with_reducible refine Blk.new' ?_; first | rfl | (simp; done) | (simp; omega)) | (with_reducible apply Blk.setFive) | (with_reducible apply Blk.set0) | (with_reducible apply Blk.set1) | (with_reducible apply Blk.setOne) | (with_reducible refine Blk.set_other ?_ (by omega) _ _) | (with_reducible apply Blk.alloc) | (with_reducible apply Blk.drew) | (with_reducible refine Blk.below ?_ (by with_reducible assumption))))).five; obtain ⟨z1, z2, z3⟩ := (show Blk w4 (w.heap.size + 1) #[.bool false] 4 from (by repeat (first | (with_reducible assumption) | (with_reducible refine Blk.new' ?_; first | rfl | (simp; done) | (simp; omega)) | (with_reducible apply Blk.setFive) | (with_reducible apply Blk.set0) | (with_reducible apply Blk.set1) | (with_reducible apply Blk.setOne) | (with_reducible refine Blk.set_other ?_ (by omega) _ _) | (with_reducible apply Blk.alloc) | (with_reducible apply Blk.drew) | (with_reducible refine Blk.below ?_ (by with_reducible assumption))))).one; have hz4 := hb_w4.size; simp only [World.size_alloc, World.size_setCell] at hz4))
          refine ⟨trivial, ?_⟩
          gi_wp2
          refine ⟨by repeat (first | (with_reducible exact KeepsFrom.refl _ _) | (with_reducible refine KeepsFrom.trans ?_ ((KeepsOthers.setCell _ _ _).from _)) | (with_reducible refine KeepsFrom.trans ?_ ((KeepsOthers.alloc _ _).from _)) | (with_reducible refine KeepsFrom.trans ?_ (KeepsFrom.of_grownBy (grown_of_below (by with_reducible assumption)) (fun j e => by cases e)))), rfl, hb⟩
        by_cases t2 : 11 < x.1
        ·
          have u1 : (2 : Int) ≤ i := by omega
          have u2 : ¬ i ≤ (11 : Int) := by omega
          have hvt : vis x = true := by rw [hvx]; simp [t2]
          clear hfx hvt hvx hx hgood hbad t1 hi hm t2
          gi_wp2_with (first
            | (refine ⟨trivial, ?_⟩; gi_at_call 9; refine (CallsIn.inRound l (callsIn_wide.2 (HO'.out _))).mono ?_; rintro e w4 ⟨rfl, hb_w4⟩; obtain ⟨p1, p2, p3⟩ := (show Blk w4 (N) #[.int .i64 m1] 3 from (by repeat (first | (with_reducible assumption) | (with_reducible refine Blk.new' ?_; first | rfl | (simp; done) | (simp; omega)) | (with_reducible apply Blk.setFive) | (with_reducible apply Blk.set0) | (with_reducible apply Blk.set1) | (with_reducible apply Blk.setOne) | (with_reducible refine Blk.set_other ?_ (by omega) _ _) | (with_reducible apply Blk.alloc) | (with_reducible apply Blk.drew) | (with_reducible refine Blk.below ?_ (by with_reducible assumption))))).one; obtain ⟨q1, q2, q3, q4, q5, q6, q7, q8, q9, q10, q11⟩ := (show Blk w4 (Bx) #[.string nm, .int .i64 tk, .int .i64 ly, .bool nw, .bool on] 24 from (by repeat (first | (with_reducible assumption) | (with_reducible refine Blk.new' ?_; first | rfl | (simp; done) | (simp; omega)) | (with_reducible apply Blk.setFive) | (with_reducible apply Blk.set0) | (with_reducible apply Blk.set1) | (with_reducible apply Blk.setOne) | (with_reducible refine Blk.set_other ?_ (by omega) _ _) | (with_reducible apply Blk.alloc) | (with_reducible apply Blk.drew) | (with_reducible refine Blk.below ?_ (by with_reducible assumption))))).five; obtain ⟨z1, z2, z3⟩ := (show Blk w4 (w.heap.size + 1) #[.bool false] 4 from (by repeat (first | (with_reducible assumption) | (with_reducible refine Blk.new' ?_; first | rfl | (simp; done) | (simp; omega)) | (with_reducible apply Blk.setFive) | (with_reducible apply Blk.set0) | (with_reducible apply Blk.set1) | (with_reducible apply Blk.setOne) | (with_reducible refine Blk.set_other ?_ (by omega) _ _) | (with_reducible apply Blk.alloc) | (with_reducible apply Blk.drew) | (with_reducible refine Blk.below ?_ (by with_reducible assumption))))).one; have hz4 := hb_w4.size; simp only [World.size_alloc, World.size_setCell] at hz4))
          refine ⟨trivial, ?_⟩
          gi_wp2
          refine ⟨by repeat (first | (with_reducible exact KeepsFrom.refl _ _) | (with_reducible refine KeepsFrom.trans ?_ ((KeepsOthers.setCell _ _ _).from _)) | (with_reducible refine KeepsFrom.trans ?_ ((KeepsOthers.alloc _ _).from _)) | (with_reducible refine KeepsFrom.trans ?_ (KeepsFrom.of_grownBy (grown_of_below (by with_reducible assumption)) (fun j e => by cases e)))), rfl, hb⟩
        ·
          have u1 : (2 : Int) ≤ i := by omega
          have u2 : i ≤ (11 : Int) := by omega
          have hvt : vis x = false := by rw [hvx]; simp [t1, t2]
          clear hfx hvt hvx hx hgood hbad t1 hi hm t2
          gi_wp2_with (first
            | (refine ⟨trivial, ?_⟩; gi_at_call 9; refine (CallsIn.inRound l (callsIn_wide.2 (HO'.out _))).mono ?_; rintro e w4 ⟨rfl, hb_w4⟩; obtain ⟨p1, p2, p3⟩ := (show Blk w4 (N) #[.int .i64 m1] 3 from (by repeat (first | (with_reducible assumption) | (with_reducible refine Blk.new' ?_; first | rfl | (simp; done) | (simp; omega)) | (with_reducible apply Blk.setFive) | (with_reducible apply Blk.set0) | (with_reducible apply Blk.set1) | (with_reducible apply Blk.setOne) | (with_reducible refine Blk.set_other ?_ (by omega) _ _) | (with_reducible apply Blk.alloc) | (with_reducible apply Blk.drew) | (with_reducible refine Blk.below ?_ (by with_reducible assumption))))).one; obtain ⟨q1, q2, q3, q4, q5, q6, q7, q8, q9, q10, q11⟩ := (show Blk w4 (Bx) #[.string nm, .int .i64 tk, .int .i64 ly, .bool nw, .bool on] 24 from (by repeat (first | (with_reducible assumption) | (with_reducible refine Blk.new' ?_; first | rfl | (simp; done) | (simp; omega)) | (with_reducible apply Blk.setFive) | (with_reducible apply Blk.set0) | (with_reducible apply Blk.set1) | (with_reducible apply Blk.setOne) | (with_reducible refine Blk.set_other ?_ (by omega) _ _) | (with_reducible apply Blk.alloc) | (with_reducible apply Blk.drew) | (with_reducible refine Blk.below ?_ (by with_reducible assumption))))).five; obtain ⟨z1, z2, z3⟩ := (show Blk w4 (w.heap.size + 1) #[.bool false] 4 from (by repeat (first | (with_reducible assumption) | (with_reducible refine Blk.new' ?_; first | rfl | (simp; done) | (simp; omega)) | (with_reducible apply Blk.setFive) | (with_reducible apply Blk.set0) | (with_reducible apply Blk.set1) | (with_reducible apply Blk.setOne) | (with_reducible refine Blk.set_other ?_ (by omega) _ _) | (with_reducible apply Blk.alloc) | (with_reducible apply Blk.drew) | (with_reducible refine Blk.below ?_ (by with_reducible assumption))))).one; have hz4 := hb_w4.size; simp only [World.size_alloc, World.size_setCell] at hz4))
          refine ⟨trivial, ?_⟩
          gi_wp2
          refine ⟨by repeat (first | (with_reducible exact KeepsFrom.refl _ _) | (with_reducible refine KeepsFrom.trans ?_ ((KeepsOthers.setCell _ _ _).from _)) | (with_reducible refine KeepsFrom.trans ?_ ((KeepsOthers.alloc _ _).from _)) | (with_reducible refine KeepsFrom.trans ?_ (KeepsFrom.of_grownBy (grown_of_below (by with_reducible assumption)) (fun j e => by cases e)))), rfl, hb⟩
    case doneA =>
      rintro D2 ys W hD2 rfl ⟨⟨hp, hKD⟩, ⟨⟨b0, b1⟩, bk⟩, hB⟩ hK3
      have ck := bk.cell
      have cr := b1.cell
      have fr := b1.frozen
      rw [allIx_len] at ck
      gi_wp2
      have hne : D ≠ D2 := by omega
      have hKa := (KeepsOthers.setCell W ⟨w.heap.size + 1, 0, none⟩ (.bool true)).same D2 _ hK3 rfl
      have hKb := (KeepsOthers.setCell W ⟨w.heap.size + 1, 0, none⟩ (.bool true)).same D _ hKD rfl
      have hc := (b1.set (.bool true)).cell
      have hBs := hB.setCell (p := ⟨w.heap.size + 1, 0, none⟩) (show w.heap.size ≤ w.heap.size + 1 by omega) (.bool true)
      obtain ⟨W4, hW4⟩ : ∃ W4, W.setCell ⟨w.heap.size + 1, 0, none⟩ (.bool true) = W4 := ⟨_, rfl⟩
      rw [hW4] at hKa hKb hc hBs ⊢
      have hKc : (W4.putObj D2 (.deferred none)).heap[D]? = some (.deferred (some [])) := (World.putObj_heap_other hne).trans hKb
      have hc1 := cell_kept hc (grownBy_putObj' _ D2 (.deferred none)) (fun r e => by cases e; exact ⟨_, hKa, rfl⟩)
      have hc2 := cell_kept hc1 (grownBy_putObj' _ D (.deferred none)) (fun r e => by cases e; exact ⟨_, hKc, rfl⟩)
      refine ⟨by simp, .inl ⟨_, _, rfl, run_takeDeferred hKa, ?_⟩⟩
      refine ⟨by simp, .inl ⟨_, _, rfl, run_takeDeferred hKc, ?_⟩⟩
      refine ⟨.bool true, ?_, rfl, (hBs.trans (belowK_b (w := w) (Nat.le_refl _) W4 D2 _ _ (by omega) hKa rfl rfl)).trans (belowK_b (w := w) (Nat.le_refl _) _ D _ _ (by omega) hKc rfl rfl)⟩
      simp [results, Try.results6, go_sem, hc2]
    case stopA =>
      rintro D2 c pre W hD2 hp ⟨_, hn⟩ _
      exact absurd hp hn
  case stop =>
    rintro D c pre W hD _ ⟨rfl, ⟨⟨b0, b1⟩, bk⟩, hB⟩ hK
    have ck := bk.cell
    have fk := bk.frozen
    gi_wp2
    have hSt2 : St w n N 0 (W.setCell ⟨N, 0, none⟩ (.int .i64 0)) := ⟨⟨⟨b0.other (by omega) _, b1.other (by omega) _⟩, bk.set _⟩, hB.setCell (p := ⟨N, 0, none⟩) (show w.heap.size ≤ N by omega) _⟩
    have hK2 := (KeepsOthers.setCell W ⟨N, 0, none⟩ (.int .i64 0)).same D _ hK rfl
    clear hK ck fk b0 b1 bk hB
    obtain ⟨W3, hW3⟩ : ∃ W3, W.setCell ⟨N, 0, none⟩ (.int .i64 0) = W3 := ⟨_, rfl⟩
    rw [hW3] at hSt2 hK2 ⊢
    clear hW3
    have hD3 : D < W3.heap.size := (Array.getElem?_eq_some_iff.1 hK2).1
    have hN3 : N < W3.heap.size := hSt2.1.2.lt
    refine wpIn_rangeFunc_ownH rfl (by omega) (gf := 22) (lb := #[]) rfl trivial (enters_of Try.func22 (by kernel_rfl) rfl) (all_stops (3 - 1) (by omega) _) (fun _ _ => trivial) (fun _ _ _ _ _ _ _ _ => trivial) (Below.refl _ _) (fun _ => rfl)
      (fun pre W => (pre <+: allIx ∧ W.heap[D]? = some (.deferred (some []))) ∧ St w n N (pre.length : Int) W)
      (fun c pre W => c = .ret ∧ ¬ pre <+: allIx)
      (fun s A B row hs hg hr => ⟨⟨hs.1.1, (hg.block D (by have := (Array.getElem?_eq_some_iff.1 hs.1.2).1; exact this) (fun e => by have := (hr D e.symm).1; omega)).trans hs.1.2⟩, St_own w n N (fun pre : List Ix => (pre.length : Int)) _ (by omega) s A B row hs.2 hg hr⟩)
      (fun _ _ _ _ _ hs _ _ => hs)
      ⟨⟨List.nil_prefix, hK2⟩, hSt2⟩
      (fun x a' W => ∃ Bx, N < Bx ∧ Blk W Bx (rowC (rowAt x)) 24 ∧ a' = { tmps := #[.int .i64 n, .pointer (some ⟨w.heap.size, 0, none⟩), .pointer (some ⟨w.heap.size + 1, 0, none⟩), .func (.func 22) #[] #[], .pointer (some ⟨N, 0, none⟩), .int .i64 (x.1 : Int), .pointer (some ⟨Bx, 0, none⟩), undef, undef, undef, .bool true, .bool false, .func (.func 22) #[] #[], .func (.func 22) #[] #[], .bool false, .func (.func 22) #[] #[], undef, undef, undef, undef, undef, undef, undef, .func (.func 22) #[] #[], .int .i64 (x.1 : Int), primV (rowAt x), undef, undef, undef, undef, undef, undef, undef, undef, undef, undef, undef, undef, undef, undef, undef, undef, undef, undef, undef, undef, undef, undef, undef, undef, undef, undef, undef, undef, undef, undef, undef, undef, undef, undef, undef, undef], defers := [] })
      (fun x a' s X Y row hs hg hr => by obtain ⟨Bx, h1, h2, h3⟩ := hs; exact ⟨Bx, h1, blk_own h2 hg (fun r e => (hr r e).2), h3⟩)
      ?assignB ?bodyB ?doneB ?stopB
    case assignB =>
      rintro l pre x W K ⟨⟨hp, hKD⟩, hS⟩ hK
      have hlt := hS.1.2.lt
      have hS' : St w n N (pre.length : Int) (W.alloc (.cells (rowC (rowAt x)) 24)) := ⟨⟨⟨hS.1.1.1.alloc _, hS.1.1.2.alloc _⟩, hS.1.2.alloc _⟩, hS.2.alloc hS.2.size _⟩
      have hK' := hK
      unfold encs at *
      obtain ⟨r, hr⟩ : ∃ r, r = rowAt x := ⟨_, rfl⟩
      simp only [← hr] at hK' hS' ⊢
      clear hr
      obtain ⟨nm, tk, ly, nw, on⟩ := r
      unfold rowC at hK' hS'
      unfold primV at hK' ⊢
      gi_wp2
      exact hK' _ _ ((KeepsOthers.alloc _ _).from _) trivial ⟨⟨hp, (Below.heap_alloc W _ D (Array.getElem?_eq_some_iff.1 hKD).1).trans hKD⟩, hS'⟩ ⟨W.heap.size, hlt, Blk.new _ _ _, rfl⟩
    case bodyB =>
      rintro l pre x a' W' hl ⟨r, hr⟩ ⟨⟨hp, hKD⟩, ⟨⟨b0, b1⟩, bk⟩, hB⟩ ⟨Bx, hBx, bX, rfl⟩ hlt
      have c0 := b0.cell
      have ck := bk.cell
      have fk := bk.frozen
      have hwk := hw1 pre.length hlt
      have hDl : D < W'.heap.size := (Array.getElem?_eq_some_iff.1 hKD).1
      have hk0 : Blk W' w.heap.size #[.int .i64 n] 3 := b0
      have hk1 : Blk W' (w.heap.size + 1) #[.bool false] 4 := b1
      have hk2 : Blk W' N #[.int .i64 (pre.length : Int)] 3 := bk
      have hNl : N < W'.heap.size := bk.lt
      have hfx := find_at x
      have hsm := name_small x
      have HO := fun w => rOf (x.1 : Int) (by have := x.2; omega) (by have := x.2; omega) w
      have HF := fun w => wFind (rowAt x).1 (by omega) w
      have hgood := pre_next pre x hp
      have hbad := pre_not pre x
      have hvx : vis x = (decide (x.1 < 2) || decide (11 < x.1)) := rfl
      have hlen : (pre ++ [x]).length = pre.length + 1 := by simp
      rw [Int.toNat_natCast] at HO
      change ∀ w, Calls Try.prog 9 #[.int .i64 (x.1 : Int)] w fun e w' => e = .returned (.tuple #[primV (rowAt x), .bool true]) ∧ Below w.heap.size w w' at HO
      obtain ⟨V, hV⟩ : ∃ V, V = numOf (large (rowAt x).1).data.toList := ⟨_, rfl⟩
      rw [← hV] at HF hfx
      clear hV hsm
      obtain ⟨ro, hro⟩ : ∃ r, r = rowAt x := ⟨_, rfl⟩
      rw [← hro] at HO HF bX ⊢
      clear hro
      obtain ⟨nm, tk, ly, nw, on⟩ := ro
      unfold primV at HO ⊢
      unfold rowC at bX
      dsimp only at HF
      obtain ⟨k1, k2, k3, k4, k5, k6, k7, k8, k9, k10, k11⟩ := bX.five
      have HO' := Lib.hid HO
      have HF' := Lib.hid HF
      clear HO HF
      obtain ⟨i, hi⟩ : ∃ i : Int, i = (x.1 : Int) := ⟨_, rfl⟩
      obtain ⟨m, hm⟩ : ∃ m : Int, m = (pre.length : Int) := ⟨_, rfl⟩
      obtain ⟨m1, hm1⟩ : ∃ m1 : Int, m1 = m + 1 := ⟨_, rfl⟩
      have hwm : IntKind.i64.wrap (m + 1) = m1 := by rw [hm, hwk, hm1, hm]; omega
      have hml : ((pre ++ [x]).length : Int) = m1 := by rw [hlen, hm1, hm]; omega
      rw [← hi] at HO' hfx ⊢
      rw [← hm] at ck hk2
      clear hwk hlen
      by_cases hx : x.1 = pre.length + 1
      · have hg := hgood hx
        have hxi : (i != m1) = false := by simp; omega
        clear hm1
        by_cases t1 : x.1 < 2
        ·
          have u1 : ¬ (2 : Int) ≤ i := by omega
          have hvt : vis x = true := by rw [hvx]; simp [t1]
          have hVi : (V == i) = true := by rw [hvt] at hfx; simpa using hfx
          clear hfx hvt hvx hx hgood hbad t1 hi hm 
          gi_wp2_with (first
            | (refine ⟨trivial, ?_⟩; gi_at_call 9; refine (CallsIn.inRound l (callsIn_wide.2 (HO'.out _))).mono ?_; rintro e w4 ⟨rfl, hb_w4⟩; obtain ⟨p1, p2, p3⟩ := (show Blk w4 (N) #[.int .i64 m1] 3 from (by repeat (first | (with_reducible assumption) | (with_reducible refine Blk.new' ?_; first | rfl | (simp; done) | (simp; omega)) | (with_reducible apply Blk.setFive) | (with_reducible apply Blk.set0) | (with_reducible apply Blk.set1) | (with_reducible apply Blk.setOne) | (with_reducible refine Blk.set_other ?_ (by omega) _ _) | (with_reducible apply Blk.alloc) | (with_reducible apply Blk.drew) | (with_reducible refine Blk.below ?_ (by with_reducible assumption))))).one; obtain ⟨q1, q2, q3, q4, q5, q6, q7, q8, q9, q10, q11⟩ := (show Blk w4 (Bx) #[.string nm, .int .i64 tk, .int .i64 ly, .bool nw, .bool on] 24 from (by repeat (first | (with_reducible assumption) | (with_reducible refine Blk.new' ?_; first | rfl | (simp; done) | (simp; omega)) | (with_reducible apply Blk.setFive) | (with_reducible apply Blk.set0) | (with_reducible apply Blk.set1) | (with_reducible apply Blk.setOne) | (with_reducible refine Blk.set_other ?_ (by omega) _ _) | (with_reducible apply Blk.alloc) | (with_reducible apply Blk.drew) | (with_reducible refine Blk.below ?_ (by with_reducible assumption))))).five; obtain ⟨z1, z2, z3⟩ := (show Blk w4 (w.heap.size + 1) #[.bool false] 4 from (by repeat (first | (with_reducible assumption) | (with_reducible refine Blk.new' ?_; first | rfl | (simp; done) | (simp; omega)) | (with_reducible apply Blk.setFive) | (with_reducible apply Blk.set0) | (with_reducible apply Blk.set1) | (with_reducible apply Blk.setOne) | (with_reducible refine Blk.set_other ?_ (by omega) _ _) | (with_reducible apply Blk.alloc) | (with_reducible apply Blk.drew) | (with_reducible refine Blk.below ?_ (by with_reducible assumption))))).one; have hz4 := hb_w4.size; simp only [World.size_alloc, World.size_setCell] at hz4)
            | (refine ⟨trivial, ?_⟩; gi_at_call 13; refine (CallsIn.inRound l (callsIn_wide.2 (HF'.out _))).mono ?_; rintro e w5 ⟨rfl, hb_w5⟩; have hz5 := hb_w5.size; simp only [World.size_alloc, World.size_setCell] at hz5))
          refine ⟨by repeat (first | (with_reducible exact KeepsFrom.refl _ _) | (with_reducible refine KeepsFrom.trans ?_ ((KeepsOthers.setCell _ _ _).from _)) | (with_reducible refine KeepsFrom.trans ?_ ((KeepsOthers.alloc _ _).from _)) | (with_reducible refine KeepsFrom.trans ?_ (KeepsFrom.of_grownBy (grown_of_below (by with_reducible assumption)) (fun j e => by cases e)))), trivial, ⟨hg, by repeat (first | (with_reducible assumption) | (with_reducible refine dk_set ?_ (by omega)) | (with_reducible refine dk_alloc ?_ (by omega)) | (with_reducible refine dk_below ?_ (by with_reducible assumption) (by first | omega | (simp only [World.size_alloc, World.size_setCell]; omega))))⟩, ⟨⟨show Blk _ _ _ _ from (by repeat (first | (with_reducible assumption) | (with_reducible refine Blk.new' ?_; first | rfl | (simp; done) | (simp; omega)) | (with_reducible apply Blk.set01) | (with_reducible apply Blk.set0) | (with_reducible apply Blk.set1) | (with_reducible apply Blk.setOne) | (with_reducible refine Blk.set_other ?_ (by omega) _ _) | (with_reducible apply Blk.alloc) | (with_reducible apply Blk.drew) | (with_reducible refine Blk.below ?_ (by with_reducible assumption)))), show Blk _ _ _ _ from (by repeat (first | (with_reducible assumption) | (with_reducible refine Blk.new' ?_; first | rfl | (simp; done) | (simp; omega)) | (with_reducible apply Blk.set01) | (with_reducible apply Blk.set0) | (with_reducible apply Blk.set1) | (with_reducible apply Blk.setOne) | (with_reducible refine Blk.set_other ?_ (by omega) _ _) | (with_reducible apply Blk.alloc) | (with_reducible apply Blk.drew) | (with_reducible refine Blk.below ?_ (by with_reducible assumption))))⟩, ?_⟩, by repeat (first | (with_reducible exact Below.refl _ _) | (with_reducible assumption) | (with_reducible apply bel_alloc) | (with_reducible apply bel_drew) | (with_reducible refine bel_set ?_ (by first | exact Nat.le_refl _ | (simp; done) | omega | (simp; omega)) _) | (with_reducible refine bel_trans ?_ (by with_reducible assumption)))⟩
          rw [hml]
          show Blk _ _ _ _
          repeat (first | (with_reducible assumption) | (with_reducible refine Blk.new' ?_; first | rfl | (simp; done) | (simp; omega)) | (with_reducible apply Blk.set01) | (with_reducible apply Blk.set0) | (with_reducible apply Blk.set1) | (with_reducible apply Blk.setOne) | (with_reducible refine Blk.set_other ?_ (by omega) _ _) | (with_reducible apply Blk.alloc) | (with_reducible apply Blk.drew) | (with_reducible refine Blk.below ?_ (by with_reducible assumption)))
        by_cases t2 : 11 < x.1
        ·
          have u1 : (2 : Int) ≤ i := by omega
          have u2 : ¬ i ≤ (11 : Int) := by omega
          have hvt : vis x = true := by rw [hvx]; simp [t2]
          have hVi : (V == i) = true := by rw [hvt] at hfx; simpa using hfx
          clear hfx hvt hvx hx hgood hbad t1 hi hm t2
          gi_wp2_with (first
            | (refine ⟨trivial, ?_⟩; gi_at_call 9; refine (CallsIn.inRound l (callsIn_wide.2 (HO'.out _))).mono ?_; rintro e w4 ⟨rfl, hb_w4⟩; obtain ⟨p1, p2, p3⟩ := (show Blk w4 (N) #[.int .i64 m1] 3 from (by repeat (first | (with_reducible assumption) | (with_reducible refine Blk.new' ?_; first | rfl | (simp; done) | (simp; omega)) | (with_reducible apply Blk.setFive) | (with_reducible apply Blk.set0) | (with_reducible apply Blk.set1) | (with_reducible apply Blk.setOne) | (with_reducible refine Blk.set_other ?_ (by omega) _ _) | (with_reducible apply Blk.alloc) | (with_reducible apply Blk.drew) | (with_reducible refine Blk.below ?_ (by with_reducible assumption))))).one; obtain ⟨q1, q2, q3, q4, q5, q6, q7, q8, q9, q10, q11⟩ := (show Blk w4 (Bx) #[.string nm, .int .i64 tk, .int .i64 ly, .bool nw, .bool on] 24 from (by repeat (first | (with_reducible assumption) | (with_reducible refine Blk.new' ?_; first | rfl | (simp; done) | (simp; omega)) | (with_reducible apply Blk.setFive) | (with_reducible apply Blk.set0) | (with_reducible apply Blk.set1) | (with_reducible apply Blk.setOne) | (with_reducible refine Blk.set_other ?_ (by omega) _ _) | (with_reducible apply Blk.alloc) | (with_reducible apply Blk.drew) | (with_reducible refine Blk.below ?_ (by with_reducible assumption))))).five; obtain ⟨z1, z2, z3⟩ := (show Blk w4 (w.heap.size + 1) #[.bool false] 4 from (by repeat (first | (with_reducible assumption) | (with_reducible refine Blk.new' ?_; first | rfl | (simp; done) | (simp; omega)) | (with_reducible apply Blk.setFive) | (with_reducible apply Blk.set0) | (with_reducible apply Blk.set1) | (with_reducible apply Blk.setOne) | (with_reducible refine Blk.set_other ?_ (by omega) _ _) | (with_reducible apply Blk.alloc) | (with_reducible apply Blk.drew) | (with_reducible refine Blk.below ?_ (by with_reducible assumption))))).one; have hz4 := hb_w4.size; simp only [World.size_alloc, World.size_setCell] at hz4)
            | (refine ⟨trivial, ?_⟩; gi_at_call 13; refine (CallsIn.inRound l (callsIn_wide.2 (HF'.out _))).mono ?_; rintro e w5 ⟨rfl, hb_w5⟩; have hz5 := hb_w5.size; simp only [World.size_alloc, World.size_setCell] at hz5))
          refine ⟨by repeat (first | (with_reducible exact KeepsFrom.refl _ _) | (with_reducible refine KeepsFrom.trans ?_ ((KeepsOthers.setCell _ _ _).from _)) | (with_reducible refine KeepsFrom.trans ?_ ((KeepsOthers.alloc _ _).from _)) | (with_reducible refine KeepsFrom.trans ?_ (KeepsFrom.of_grownBy (grown_of_below (by with_reducible assumption)) (fun j e => by cases e)))), trivial, ⟨hg, by repeat (first | (with_reducible assumption) | (with_reducible refine dk_set ?_ (by omega)) | (with_reducible refine dk_alloc ?_ (by omega)) | (with_reducible refine dk_below ?_ (by with_reducible assumption) (by first | omega | (simp only [World.size_alloc, World.size_setCell]; omega))))⟩, ⟨⟨show Blk _ _ _ _ from (by repeat (first | (with_reducible assumption) | (with_reducible refine Blk.new' ?_; first | rfl | (simp; done) | (simp; omega)) | (with_reducible apply Blk.set01) | (with_reducible apply Blk.set0) | (with_reducible apply Blk.set1) | (with_reducible apply Blk.setOne) | (with_reducible refine Blk.set_other ?_ (by omega) _ _) | (with_reducible apply Blk.alloc) | (with_reducible apply Blk.drew) | (with_reducible refine Blk.below ?_ (by with_reducible assumption)))), show Blk _ _ _ _ from (by repeat (first | (with_reducible assumption) | (with_reducible refine Blk.new' ?_; first | rfl | (simp; done) | (simp; omega)) | (with_reducible apply Blk.set01) | (with_reducible apply Blk.set0) | (with_reducible apply Blk.set1) | (with_reducible apply Blk.setOne) | (with_reducible refine Blk.set_other ?_ (by omega) _ _) | (with_reducible apply Blk.alloc) | (with_reducible apply Blk.drew) | (with_reducible refine Blk.below ?_ (by with_reducible assumption))))⟩, ?_⟩, by repeat (first | (with_reducible exact Below.refl _ _) | (with_reducible assumption) | (with_reducible apply bel_alloc) | (with_reducible apply bel_drew) | (with_reducible refine bel_set ?_ (by first | exact Nat.le_refl _ | (simp; done) | omega | (simp; omega)) _) | (with_reducible refine bel_trans ?_ (by with_reducible assumption)))⟩
          rw [hml]
          show Blk _ _ _ _
          repeat (first | (with_reducible assumption) | (with_reducible refine Blk.new' ?_; first | rfl | (simp; done) | (simp; omega)) | (with_reducible apply Blk.set01) | (with_reducible apply Blk.set0) | (with_reducible apply Blk.set1) | (with_reducible apply Blk.setOne) | (with_reducible refine Blk.set_other ?_ (by omega) _ _) | (with_reducible apply Blk.alloc) | (with_reducible apply Blk.drew) | (with_reducible refine Blk.below ?_ (by with_reducible assumption)))
        ·
          have u1 : (2 : Int) ≤ i := by omega
          have u2 : i ≤ (11 : Int) := by omega
          have hvt : vis x = false := by rw [hvx]; simp [t1, t2]
          have hVi : (V == i) = false := by rw [hvt] at hfx; simpa using hfx
          clear hfx hvt hvx hx hgood hbad t1 hi hm t2
          gi_wp2_with (first
            | (refine ⟨trivial, ?_⟩; gi_at_call 9; refine (CallsIn.inRound l (callsIn_wide.2 (HO'.out _))).mono ?_; rintro e w4 ⟨rfl, hb_w4⟩; obtain ⟨p1, p2, p3⟩ := (show Blk w4 (N) #[.int .i64 m1] 3 from (by repeat (first | (with_reducible assumption) | (with_reducible refine Blk.new' ?_; first | rfl | (simp; done) | (simp; omega)) | (with_reducible apply Blk.setFive) | (with_reducible apply Blk.set0) | (with_reducible apply Blk.set1) | (with_reducible apply Blk.setOne) | (with_reducible refine Blk.set_other ?_ (by omega) _ _) | (with_reducible apply Blk.alloc) | (with_reducible apply Blk.drew) | (with_reducible refine Blk.below ?_ (by with_reducible assumption))))).one; obtain ⟨q1, q2, q3, q4, q5, q6, q7, q8, q9, q10, q11⟩ := (show Blk w4 (Bx) #[.string nm, .int .i64 tk, .int .i64 ly, .bool nw, .bool on] 24 from (by repeat (first | (with_reducible assumption) | (with_reducible refine Blk.new' ?_; first | rfl | (simp; done) | (simp; omega)) | (with_reducible apply Blk.setFive) | (with_reducible apply Blk.set0) | (with_reducible apply Blk.set1) | (with_reducible apply Blk.setOne) | (with_reducible refine Blk.set_other ?_ (by omega) _ _) | (with_reducible apply Blk.alloc) | (with_reducible apply Blk.drew) | (with_reducible refine Blk.below ?_ (by with_reducible assumption))))).five; obtain ⟨z1, z2, z3⟩ := (show Blk w4 (w.heap.size + 1) #[.bool false] 4 from (by repeat (first | (with_reducible assumption) | (with_reducible refine Blk.new' ?_; first | rfl | (simp; done) | (simp; omega)) | (with_reducible apply Blk.setFive) | (with_reducible apply Blk.set0) | (with_reducible apply Blk.set1) | (with_reducible apply Blk.setOne) | (with_reducible refine Blk.set_other ?_ (by omega) _ _) | (with_reducible apply Blk.alloc) | (with_reducible apply Blk.drew) | (with_reducible refine Blk.below ?_ (by with_reducible assumption))))).one; have hz4 := hb_w4.size; simp only [World.size_alloc, World.size_setCell] at hz4)
            | (refine ⟨trivial, ?_⟩; gi_at_call 13; refine (CallsIn.inRound l (callsIn_wide.2 (HF'.out _))).mono ?_; rintro e w5 ⟨rfl, hb_w5⟩; have hz5 := hb_w5.size; simp only [World.size_alloc, World.size_setCell] at hz5))
          refine ⟨by repeat (first | (with_reducible exact KeepsFrom.refl _ _) | (with_reducible refine KeepsFrom.trans ?_ ((KeepsOthers.setCell _ _ _).from _)) | (with_reducible refine KeepsFrom.trans ?_ ((KeepsOthers.alloc _ _).from _)) | (with_reducible refine KeepsFrom.trans ?_ (KeepsFrom.of_grownBy (grown_of_below (by with_reducible assumption)) (fun j e => by cases e)))), trivial, ⟨hg, by repeat (first | (with_reducible assumption) | (with_reducible refine dk_set ?_ (by omega)) | (with_reducible refine dk_alloc ?_ (by omega)) | (with_reducible refine dk_below ?_ (by with_reducible assumption) (by first | omega | (simp only [World.size_alloc, World.size_setCell]; omega))))⟩, ⟨⟨show Blk _ _ _ _ from (by repeat (first | (with_reducible assumption) | (with_reducible refine Blk.new' ?_; first | rfl | (simp; done) | (simp; omega)) | (with_reducible apply Blk.set01) | (with_reducible apply Blk.set0) | (with_reducible apply Blk.set1) | (with_reducible apply Blk.setOne) | (with_reducible refine Blk.set_other ?_ (by omega) _ _) | (with_reducible apply Blk.alloc) | (with_reducible apply Blk.drew) | (with_reducible refine Blk.below ?_ (by with_reducible assumption)))), show Blk _ _ _ _ from (by repeat (first | (with_reducible assumption) | (with_reducible refine Blk.new' ?_; first | rfl | (simp; done) | (simp; omega)) | (with_reducible apply Blk.set01) | (with_reducible apply Blk.set0) | (with_reducible apply Blk.set1) | (with_reducible apply Blk.setOne) | (with_reducible refine Blk.set_other ?_ (by omega) _ _) | (with_reducible apply Blk.alloc) | (with_reducible apply Blk.drew) | (with_reducible refine Blk.below ?_ (by with_reducible assumption))))⟩, ?_⟩, by repeat (first | (with_reducible exact Below.refl _ _) | (with_reducible assumption) | (with_reducible apply bel_alloc) | (with_reducible apply bel_drew) | (with_reducible refine bel_set ?_ (by first | exact Nat.le_refl _ | (simp; done) | omega | (simp; omega)) _) | (with_reducible refine bel_trans ?_ (by with_reducible assumption)))⟩
          rw [hml]
          show Blk _ _ _ _
          repeat (first | (with_reducible assumption) | (with_reducible refine Blk.new' ?_; first | rfl | (simp; done) | (simp; omega)) | (with_reducible apply Blk.set01) | (with_reducible apply Blk.set0) | (with_reducible apply Blk.set1) | (with_reducible apply Blk.setOne) | (with_reducible refine Blk.set_other ?_ (by omega) _ _) | (with_reducible apply Blk.alloc) | (with_reducible apply Blk.drew) | (with_reducible refine Blk.below ?_ (by with_reducible assumption)))
      · have hb := hbad hx
        have hxi : (i != m1) = true := by simp; omega
        clear hm1
        by_cases t1 : x.1 < 2
        ·
          have u1 : ¬ (2 : Int) ≤ i := by omega
          have hvt : vis x = true := by rw [hvx]; simp [t1]
          clear hfx hvt hvx hx hgood hbad t1 hi hm 
          gi_wp2_with (first
            | (refine ⟨trivial, ?_⟩; gi_at_call 9; refine (CallsIn.inRound l (callsIn_wide.2 (HO'.out _))).mono ?_; rintro e w4 ⟨rfl, hb_w4⟩; obtain ⟨p1, p2, p3⟩ := (show Blk w4 (N) #[.int .i64 m1] 3 from (by repeat (first | (with_reducible assumption) | (with_reducible refine Blk.new' ?_; first | rfl | (simp; done) | (simp; omega)) | (with_reducible apply Blk.setFive) | (with_reducible apply Blk.set0) | (with_reducible apply Blk.set1) | (with_reducible apply Blk.setOne) | (with_reducible refine Blk.set_other ?_ (by omega) _ _) | (with_reducible apply Blk.alloc) | (with_reducible apply Blk.drew) | (with_reducible refine Blk.below ?_ (by with_reducible assumption))))).one; obtain ⟨q1, q2, q3, q4, q5, q6, q7, q8, q9, q10, q11⟩ := (show Blk w4 (Bx) #[.string nm, .int .i64 tk, .int .i64 ly, .bool nw, .bool on] 24 from (by repeat (first | (with_reducible assumption) | (with_reducible refine Blk.new' ?_; first | rfl | (simp; done) | (simp; omega)) | (with_reducible apply Blk.setFive) | (with_reducible apply Blk.set0) | (with_reducible apply Blk.set1) | (with_reducible apply Blk.setOne) | (with_reducible refine Blk.set_other ?_ (by omega) _ _) | (with_reducible apply Blk.alloc) | (with_reducible apply Blk.drew) | (with_reducible refine Blk.below ?_ (by with_reducible assumption))))).five; obtain ⟨z1, z2, z3⟩ := (show Blk w4 (w.heap.size + 1) #[.bool false] 4 from (by repeat (first | (with_reducible assumption) | (with_reducible refine Blk.new' ?_; first | rfl | (simp; done) | (simp; omega)) | (with_reducible apply Blk.setFive) | (with_reducible apply Blk.set0) | (with_reducible apply Blk.set1) | (with_reducible apply Blk.setOne) | (with_reducible refine Blk.set_other ?_ (by omega) _ _) | (with_reducible apply Blk.alloc) | (with_reducible apply Blk.drew) | (with_reducible refine Blk.below ?_ (by with_reducible assumption))))).one; have hz4 := hb_w4.size; simp only [World.size_alloc, World.size_setCell] at hz4))
          refine ⟨trivial, ?_⟩
          gi_wp2
          refine ⟨by repeat (first | (with_reducible exact KeepsFrom.refl _ _) | (with_reducible refine KeepsFrom.trans ?_ ((KeepsOthers.setCell _ _ _).from _)) | (with_reducible refine KeepsFrom.trans ?_ ((KeepsOthers.alloc _ _).from _)) | (with_reducible refine KeepsFrom.trans ?_ (KeepsFrom.of_grownBy (grown_of_below (by with_reducible assumption)) (fun j e => by cases e)))), rfl, hb⟩
        by_cases t2 : 11 < x.1
        ·
          have u1 : (2 : Int) ≤ i := by omega
          have u2 : ¬ i ≤ (11 : Int) := by omega
          have hvt : vis x = true := by rw [hvx]; simp [t2]
          clear hfx hvt hvx hx hgood hbad t1 hi hm t2
          gi_wp2_with (first
            | (refine ⟨trivial, ?_⟩; gi_at_call 9; refine (CallsIn.inRound l (callsIn_wide.2 (HO'.out _))).mono ?_; rintro e w4 ⟨rfl, hb_w4⟩; obtain ⟨p1, p2, p3⟩ := (show Blk w4 (N) #[.int .i64 m1] 3 from (by repeat (first | (with_reducible assumption) | (with_reducible refine Blk.new' ?_; first | rfl | (simp; done) | (simp; omega)) | (with_reducible apply Blk.setFive) | (with_reducible apply Blk.set0) | (with_reducible apply Blk.set1) | (with_reducible apply Blk.setOne) | (with_reducible refine Blk.set_other ?_ (by omega) _ _) | (with_reducible apply Blk.alloc) | (with_reducible apply Blk.drew) | (with_reducible refine Blk.below ?_ (by with_reducible assumption))))).one; obtain ⟨q1, q2, q3, q4, q5, q6, q7, q8, q9, q10, q11⟩ := (show Blk w4 (Bx) #[.string nm, .int .i64 tk, .int .i64 ly, .bool nw, .bool on] 24 from (by repeat (first | (with_reducible assumption) | (with_reducible refine Blk.new' ?_; first | rfl | (simp; done) | (simp; omega)) | (with_reducible apply Blk.setFive) | (with_reducible apply Blk.set0) | (with_reducible apply Blk.set1) | (with_reducible apply Blk.setOne) | (with_reducible refine Blk.set_other ?_ (by omega) _ _) | (with_reducible apply Blk.alloc) | (with_reducible apply Blk.drew) | (with_reducible refine Blk.below ?_ (by with_reducible assumption))))).five; obtain ⟨z1, z2, z3⟩ := (show Blk w4 (w.heap.size + 1) #[.bool false] 4 from (by repeat (first | (with_reducible assumption) | (with_reducible refine Blk.new' ?_; first | rfl | (simp; done) | (simp; omega)) | (with_reducible apply Blk.setFive) | (with_reducible apply Blk.set0) | (with_reducible apply Blk.set1) | (with_reducible apply Blk.setOne) | (with_reducible refine Blk.set_other ?_ (by omega) _ _) | (with_reducible apply Blk.alloc) | (with_reducible apply Blk.drew) | (with_reducible refine Blk.below ?_ (by with_reducible assumption))))).one; have hz4 := hb_w4.size; simp only [World.size_alloc, World.size_setCell] at hz4))
          refine ⟨trivial, ?_⟩
          gi_wp2
          refine ⟨by repeat (first | (with_reducible exact KeepsFrom.refl _ _) | (with_reducible refine KeepsFrom.trans ?_ ((KeepsOthers.setCell _ _ _).from _)) | (with_reducible refine KeepsFrom.trans ?_ ((KeepsOthers.alloc _ _).from _)) | (with_reducible refine KeepsFrom.trans ?_ (KeepsFrom.of_grownBy (grown_of_below (by with_reducible assumption)) (fun j e => by cases e)))), rfl, hb⟩
        ·
          have u1 : (2 : Int) ≤ i := by omega
          have u2 : i ≤ (11 : Int) := by omega
          have hvt : vis x = false := by rw [hvx]; simp [t1, t2]
          clear hfx hvt hvx hx hgood hbad t1 hi hm t2
          gi_wp2_with (first
            | (refine ⟨trivial, ?_⟩; gi_at_call 9; refine (CallsIn.inRound l (callsIn_wide.2 (HO'.out _))).mono ?_; rintro e w4 ⟨rfl, hb_w4⟩; obtain ⟨p1, p2, p3⟩ := (show Blk w4 (N) #[.int .i64 m1] 3 from (by repeat (first | (with_reducible assumption) | (with_reducible refine Blk.new' ?_; first | rfl | (simp; done) | (simp; omega)) | (with_reducible apply Blk.setFive) | (with_reducible apply Blk.set0) | (with_reducible apply Blk.set1) | (with_reducible apply Blk.setOne) | (with_reducible refine Blk.set_other ?_ (by omega) _ _) | (with_reducible apply Blk.alloc) | (with_reducible apply Blk.drew) | (with_reducible refine Blk.below ?_ (by with_reducible assumption))))).one; obtain ⟨q1, q2, q3, q4, q5, q6, q7, q8, q9, q10, q11⟩ := (show Blk w4 (Bx) #[.string nm, .int .i64 tk, .int .i64 ly, .bool nw, .bool on] 24 from (by repeat (first | (with_reducible assumption) | (with_reducible refine Blk.new' ?_; first | rfl | (simp; done) | (simp; omega)) | (with_reducible apply Blk.setFive) | (with_reducible apply Blk.set0) | (with_reducible apply Blk.set1) | (with_reducible apply Blk.setOne) | (with_reducible refine Blk.set_other ?_ (by omega) _ _) | (with_reducible apply Blk.alloc) | (with_reducible apply Blk.drew) | (with_reducible refine Blk.below ?_ (by with_reducible assumption))))).five; obtain ⟨z1, z2, z3⟩ := (show Blk w4 (w.heap.size + 1) #[.bool false] 4 from (by repeat (first | (with_reducible assumption) | (with_reducible refine Blk.new' ?_; first | rfl | (simp; done) | (simp; omega)) | (with_reducible apply Blk.setFive) | (with_reducible apply Blk.set0) | (with_reducible apply Blk.set1) | (with_reducible apply Blk.setOne) | (with_reducible refine Blk.set_other ?_ (by omega) _ _) | (with_reducible apply Blk.alloc) | (with_reducible apply Blk.drew) | (with_reducible refine Blk.below ?_ (by with_reducible assumption))))).one; have hz4 := hb_w4.size; simp only [World.size_alloc, World.size_setCell] at hz4))
          refine ⟨trivial, ?_⟩
          gi_wp2
          refine ⟨by repeat (first | (with_reducible exact KeepsFrom.refl _ _) | (with_reducible refine KeepsFrom.trans ?_ ((KeepsOthers.setCell _ _ _).from _)) | (with_reducible refine KeepsFrom.trans ?_ ((KeepsOthers.alloc _ _).from _)) | (with_reducible refine KeepsFrom.trans ?_ (KeepsFrom.of_grownBy (grown_of_below (by with_reducible assumption)) (fun j e => by cases e)))), rfl, hb⟩
    case doneB =>
      rintro D2 ys W hD2 rfl ⟨⟨hp, hKD⟩, ⟨⟨b0, b1⟩, bk⟩, hB⟩ hK3
      have ck := bk.cell
      have cr := b1.cell
      have fr := b1.frozen
      rw [allIx_len] at ck
      gi_wp2
      have hne : D ≠ D2 := by omega
      have hKa := (KeepsOthers.setCell W ⟨w.heap.size + 1, 0, none⟩ (.bool true)).same D2 _ hK3 rfl
      have hKb := (KeepsOthers.setCell W ⟨w.heap.size + 1, 0, none⟩ (.bool true)).same D _ hKD rfl
      have hc := (b1.set (.bool true)).cell
      have hBs := hB.setCell (p := ⟨w.heap.size + 1, 0, none⟩) (show w.heap.size ≤ w.heap.size + 1 by omega) (.bool true)
      obtain ⟨W4, hW4⟩ : ∃ W4, W.setCell ⟨w.heap.size + 1, 0, none⟩ (.bool true) = W4 := ⟨_, rfl⟩
      rw [hW4] at hKa hKb hc hBs ⊢
      have hKc : (W4.putObj D2 (.deferred none)).heap[D]? = some (.deferred (some [])) := (World.putObj_heap_other hne).trans hKb
      have hc1 := cell_kept hc (grownBy_putObj' _ D2 (.deferred none)) (fun r e => by cases e; exact ⟨_, hKa, rfl⟩)
      have hc2 := cell_kept hc1 (grownBy_putObj' _ D (.deferred none)) (fun r e => by cases e; exact ⟨_, hKc, rfl⟩)
      refine ⟨by simp, .inl ⟨_, _, rfl, run_takeDeferred hKa, ?_⟩⟩
      refine ⟨by simp, .inl ⟨_, _, rfl, run_takeDeferred hKc, ?_⟩⟩
      refine ⟨.bool true, ?_, rfl, (hBs.trans (belowK_b (w := w) (Nat.le_refl _) W4 D2 _ _ (by omega) hKa rfl rfl)).trans (belowK_b (w := w) (Nat.le_refl _) _ D _ _ (by omega) hKc rfl rfl)⟩
      simp [results, Try.results6, go_sem, hc2]
    case stopB =>
      rintro D2 c pre W hD2 hp ⟨_, hn⟩ _
      exact absurd hp hn
end Go.Proofs.Ytpdjijdgafhmkaa
