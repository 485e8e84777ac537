/- Texts merged: W6 W7 W8 W9 W10. -/
import Derived.Test.YtkcmphjgflbchaaZ9
import Derived.Recover
import Derived.Defers
/- 'Is', 'Do'. -/
namespace Go.Proofs.Ytkcmphjgflbchaa
open Go.RowKit
set_option linter.unusedVariables false
set_option linter.unusedSimpArgs false
attribute [local go_sem ↓] Go.wp_at_zero Go.wp_at_succ
attribute [local go_sem] cell_set set_set m_undef
attribute [local irreducible] cells19 cells20 rowL tabL

def isC (n : Int) : Bool := decide (110 ≤ n ∧ n ≤ 120)
theorem names_are : (List.range 11).all (fun k => (rowL.getD (110 + k) default).1.data.toList == (nmC k).data.toList) = true := by kernel_rfl
theorem name_at (k : Nat) (hk : k < 11) : (rowL.getD (110 + k) default).1 = nmC k := by
  have h := List.all_eq_true.1 names_are k (List.mem_range.2 hk)
  have h := eq_of_beq h
  exact ByteArray.ext (Array.ext' h)
def noneOf (s : ByteArray) : Bool := !(s.toList == [73, 70]) && !(s.toList == [69, 76, 83, 69]) && !(s.toList == [84, 72, 69, 78]) && !(s.toList == [66, 69, 71, 73, 78]) && !(s.toList == [85, 78, 84, 73, 76]) && !(s.toList == [87, 72, 73, 76, 69]) && !(s.toList == [82, 69, 80, 69, 65, 84]) && !(s.toList == [65, 71, 65, 73, 78]) && !(s.toList == [68, 79]) && !(s.toList == [76, 79, 79, 80]) && !(s.toList == [43, 76, 79, 79, 80])
theorem names_not : (List.range 142).all (fun i => (decide (110 ≤ i ∧ i ≤ 120)) || noneOf (rowL.getD i default).1) = true := by kernel_rfl
theorem none_of {s : ByteArray} (h : noneOf s = true) : (s.toList == [73, 70]) = false ∧ (s.toList == [69, 76, 83, 69]) = false ∧ (s.toList == [84, 72, 69, 78]) = false ∧ (s.toList == [66, 69, 71, 73, 78]) = false ∧ (s.toList == [85, 78, 84, 73, 76]) = false ∧ (s.toList == [87, 72, 73, 76, 69]) = false ∧ (s.toList == [82, 69, 80, 69, 65, 84]) = false ∧ (s.toList == [65, 71, 65, 73, 78]) = false ∧ (s.toList == [68, 79]) = false ∧ (s.toList == [76, 79, 79, 80]) = false ∧ (s.toList == [43, 76, 79, 79, 80]) = false := by
  unfold noneOf at h
  simp only [Bool.and_eq_true, Bool.not_eq_true'] at h
  obtain ⟨⟨⟨⟨⟨⟨⟨⟨⟨⟨h0, h1⟩, h2⟩, h3⟩, h4⟩, h5⟩, h6⟩, h7⟩, h8⟩, h9⟩, h10⟩ := h
  exact ⟨h0, h1, h2, h3, h4, h5, h6, h7, h8, h9, h10⟩
theorem name_not (n : Int) (h1 : 1 ≤ n) (h2 : n ≤ 141) (hn : isC n = false) : noneOf (rowL.getD n.toNat default).1 = true := by
  have h := List.all_eq_true.1 names_not n.toNat (List.mem_range.2 (by omega))
  unfold isC at hn
  have hn := of_decide_eq_false hn
  rw [decide_eq_false (by omega), Bool.false_or] at h
  exact h
theorem empty_not : noneOf ⟨#[]⟩ = true := by kernel_rfl
set_option maxRecDepth 100000 in
theorem wIs0 (w : World) : Calls Try.prog 14 #[.int .i64 110] w fun e w' => e = .returned (.bool true) ∧ Below w.heap.size w w' := by
  have hOf := fun (w9 : World) => wOf 110 (by omega) (by omega) w9
  have hn := name_at 0 (by omega)
  rw [show (110 : Int).toNat = 110 + 0 from rfl] at hOf
  generalize rowL.getD (110 + 0) default = ro at *
  obtain ⟨pn, pt, pl, pi, pc⟩ := ro
  replace hn : pn = ⟨#[73, 70]⟩ := hn
  subst hn
  unfold primV at hOf
  dsimp only at hOf
  replace hOf := Lib.hid hOf
  go_enter Try.func14, Try.ntmps14
  go_wp2_with (go_at_call 28; refine (hOf.out _).mono ?_; rintro e w1 ⟨rfl, hb1⟩)
  go_ret
  exact ⟨rfl, bel_alloc hb1 _⟩
set_option maxRecDepth 100000 in
theorem wIs1 (w : World) : Calls Try.prog 14 #[.int .i64 111] w fun e w' => e = .returned (.bool true) ∧ Below w.heap.size w w' := by
  have hOf := fun (w9 : World) => wOf 111 (by omega) (by omega) w9
  have hn := name_at 1 (by omega)
  rw [show (111 : Int).toNat = 110 + 1 from rfl] at hOf
  generalize rowL.getD (110 + 1) default = ro at *
  obtain ⟨pn, pt, pl, pi, pc⟩ := ro
  replace hn : pn = ⟨#[69, 76, 83, 69]⟩ := hn
  subst hn
  unfold primV at hOf
  dsimp only at hOf
  replace hOf := Lib.hid hOf
  go_enter Try.func14, Try.ntmps14
  go_wp2_with (go_at_call 28; refine (hOf.out _).mono ?_; rintro e w1 ⟨rfl, hb1⟩)
  go_ret
  exact ⟨rfl, bel_alloc hb1 _⟩
set_option maxRecDepth 100000 in
theorem wIs2 (w : World) : Calls Try.prog 14 #[.int .i64 112] w fun e w' => e = .returned (.bool true) ∧ Below w.heap.size w w' := by
  have hOf := fun (w9 : World) => wOf 112 (by omega) (by omega) w9
  have hn := name_at 2 (by omega)
  rw [show (112 : Int).toNat = 110 + 2 from rfl] at hOf
  generalize rowL.getD (110 + 2) default = ro at *
  obtain ⟨pn, pt, pl, pi, pc⟩ := ro
  replace hn : pn = ⟨#[84, 72, 69, 78]⟩ := hn
  subst hn
  unfold primV at hOf
  dsimp only at hOf
  replace hOf := Lib.hid hOf
  go_enter Try.func14, Try.ntmps14
  go_wp2_with (go_at_call 28; refine (hOf.out _).mono ?_; rintro e w1 ⟨rfl, hb1⟩)
  go_ret
  exact ⟨rfl, bel_alloc hb1 _⟩
set_option maxRecDepth 100000 in
theorem wIs3 (w : World) : Calls Try.prog 14 #[.int .i64 113] w fun e w' => e = .returned (.bool true) ∧ Below w.heap.size w w' := by
  have hOf := fun (w9 : World) => wOf 113 (by omega) (by omega) w9
  have hn := name_at 3 (by omega)
  rw [show (113 : Int).toNat = 110 + 3 from rfl] at hOf
  generalize rowL.getD (110 + 3) default = ro at *
  obtain ⟨pn, pt, pl, pi, pc⟩ := ro
  replace hn : pn = ⟨#[66, 69, 71, 73, 78]⟩ := hn
  subst hn
  unfold primV at hOf
  dsimp only at hOf
  replace hOf := Lib.hid hOf
  go_enter Try.func14, Try.ntmps14
  go_wp2_with (go_at_call 28; refine (hOf.out _).mono ?_; rintro e w1 ⟨rfl, hb1⟩)
  go_ret
  exact ⟨rfl, bel_alloc hb1 _⟩
set_option maxRecDepth 100000 in
theorem wIs4 (w : World) : Calls Try.prog 14 #[.int .i64 114] w fun e w' => e = .returned (.bool true) ∧ Below w.heap.size w w' := by
  have hOf := fun (w9 : World) => wOf 114 (by omega) (by omega) w9
  have hn := name_at 4 (by omega)
  rw [show (114 : Int).toNat = 110 + 4 from rfl] at hOf
  generalize rowL.getD (110 + 4) default = ro at *
  obtain ⟨pn, pt, pl, pi, pc⟩ := ro
  replace hn : pn = ⟨#[85, 78, 84, 73, 76]⟩ := hn
  subst hn
  unfold primV at hOf
  dsimp only at hOf
  replace hOf := Lib.hid hOf
  go_enter Try.func14, Try.ntmps14
  go_wp2_with (go_at_call 28; refine (hOf.out _).mono ?_; rintro e w1 ⟨rfl, hb1⟩)
  go_ret
  exact ⟨rfl, bel_alloc hb1 _⟩
set_option maxRecDepth 100000 in
theorem wIs5 (w : World) : Calls Try.prog 14 #[.int .i64 115] w fun e w' => e = .returned (.bool true) ∧ Below w.heap.size w w' := by
  have hOf := fun (w9 : World) => wOf 115 (by omega) (by omega) w9
  have hn := name_at 5 (by omega)
  rw [show (115 : Int).toNat = 110 + 5 from rfl] at hOf
  generalize rowL.getD (110 + 5) default = ro at *
  obtain ⟨pn, pt, pl, pi, pc⟩ := ro
  replace hn : pn = ⟨#[87, 72, 73, 76, 69]⟩ := hn
  subst hn
  unfold primV at hOf
  dsimp only at hOf
  replace hOf := Lib.hid hOf
  go_enter Try.func14, Try.ntmps14
  go_wp2_with (go_at_call 28; refine (hOf.out _).mono ?_; rintro e w1 ⟨rfl, hb1⟩)
  go_ret
  exact ⟨rfl, bel_alloc hb1 _⟩
set_option maxRecDepth 100000 in
theorem wIs6 (w : World) : Calls Try.prog 14 #[.int .i64 116] w fun e w' => e = .returned (.bool true) ∧ Below w.heap.size w w' := by
  have hOf := fun (w9 : World) => wOf 116 (by omega) (by omega) w9
  have hn := name_at 6 (by omega)
  rw [show (116 : Int).toNat = 110 + 6 from rfl] at hOf
  generalize rowL.getD (110 + 6) default = ro at *
  obtain ⟨pn, pt, pl, pi, pc⟩ := ro
  replace hn : pn = ⟨#[82, 69, 80, 69, 65, 84]⟩ := hn
  subst hn
  unfold primV at hOf
  dsimp only at hOf
  replace hOf := Lib.hid hOf
  go_enter Try.func14, Try.ntmps14
  go_wp2_with (go_at_call 28; refine (hOf.out _).mono ?_; rintro e w1 ⟨rfl, hb1⟩)
  go_ret
  exact ⟨rfl, bel_alloc hb1 _⟩
set_option maxRecDepth 100000 in
theorem wIs7 (w : World) : Calls Try.prog 14 #[.int .i64 117] w fun e w' => e = .returned (.bool true) ∧ Below w.heap.size w w' := by
  have hOf := fun (w9 : World) => wOf 117 (by omega) (by omega) w9
  have hn := name_at 7 (by omega)
  rw [show (117 : Int).toNat = 110 + 7 from rfl] at hOf
  generalize rowL.getD (110 + 7) default = ro at *
  obtain ⟨pn, pt, pl, pi, pc⟩ := ro
  replace hn : pn = ⟨#[65, 71, 65, 73, 78]⟩ := hn
  subst hn
  unfold primV at hOf
  dsimp only at hOf
  replace hOf := Lib.hid hOf
  go_enter Try.func14, Try.ntmps14
  go_wp2_with (go_at_call 28; refine (hOf.out _).mono ?_; rintro e w1 ⟨rfl, hb1⟩)
  go_ret
  exact ⟨rfl, bel_alloc hb1 _⟩
set_option maxRecDepth 100000 in
theorem wIs8 (w : World) : Calls Try.prog 14 #[.int .i64 118] w fun e w' => e = .returned (.bool true) ∧ Below w.heap.size w w' := by
  have hOf := fun (w9 : World) => wOf 118 (by omega) (by omega) w9
  have hn := name_at 8 (by omega)
  rw [show (118 : Int).toNat = 110 + 8 from rfl] at hOf
  generalize rowL.getD (110 + 8) default = ro at *
  obtain ⟨pn, pt, pl, pi, pc⟩ := ro
  replace hn : pn = ⟨#[68, 79]⟩ := hn
  subst hn
  unfold primV at hOf
  dsimp only at hOf
  replace hOf := Lib.hid hOf
  go_enter Try.func14, Try.ntmps14
  go_wp2_with (go_at_call 28; refine (hOf.out _).mono ?_; rintro e w1 ⟨rfl, hb1⟩)
  go_ret
  exact ⟨rfl, bel_alloc hb1 _⟩
set_option maxRecDepth 100000 in
theorem wIs9 (w : World) : Calls Try.prog 14 #[.int .i64 119] w fun e w' => e = .returned (.bool true) ∧ Below w.heap.size w w' := by
  have hOf := fun (w9 : World) => wOf 119 (by omega) (by omega) w9
  have hn := name_at 9 (by omega)
  rw [show (119 : Int).toNat = 110 + 9 from rfl] at hOf
  generalize rowL.getD (110 + 9) default = ro at *
  obtain ⟨pn, pt, pl, pi, pc⟩ := ro
  replace hn : pn = ⟨#[76, 79, 79, 80]⟩ := hn
  subst hn
  unfold primV at hOf
  dsimp only at hOf
  replace hOf := Lib.hid hOf
  go_enter Try.func14, Try.ntmps14
  go_wp2_with (go_at_call 28; refine (hOf.out _).mono ?_; rintro e w1 ⟨rfl, hb1⟩)
  go_ret
  exact ⟨rfl, bel_alloc hb1 _⟩
set_option maxRecDepth 100000 in
theorem wIs10 (w : World) : Calls Try.prog 14 #[.int .i64 120] w fun e w' => e = .returned (.bool true) ∧ Below w.heap.size w w' := by
  have hOf := fun (w9 : World) => wOf 120 (by omega) (by omega) w9
  have hn := name_at 10 (by omega)
  rw [show (120 : Int).toNat = 110 + 10 from rfl] at hOf
  generalize rowL.getD (110 + 10) default = ro at *
  obtain ⟨pn, pt, pl, pi, pc⟩ := ro
  replace hn : pn = ⟨#[43, 76, 79, 79, 80]⟩ := hn
  subst hn
  unfold primV at hOf
  dsimp only at hOf
  replace hOf := Lib.hid hOf
  go_enter Try.func14, Try.ntmps14
  go_wp2_with (go_at_call 28; refine (hOf.out _).mono ?_; rintro e w1 ⟨rfl, hb1⟩)
  go_ret
  exact ⟨rfl, bel_alloc hb1 _⟩
set_option maxRecDepth 100000 in
theorem wIsNo (n : Int) (hn : isC n = false) (w : World) : Calls Try.prog 14 #[.int .i64 n] w fun e w' => e = .returned (.bool false) ∧ Below w.heap.size w w' := by
  have hOf : ∃ (pn : ByteArray) (pt pl : Int) (pi pc b : Bool), noneOf pn = true ∧ ∀ w9 : World, Calls Try.prog 28 #[.int .i64 n] w9 fun e w' => e = .returned (.tuple #[.agg #[.string pn, .int .i64 pt, .int .i64 pl, .bool pi, .bool pc], .bool b]) ∧ Below w9.heap.size w9 w' := by
    by_cases h : 1 ≤ n ∧ n ≤ 141
    · have h3 := fun (w9 : World) => wOf n h.1 h.2 w9
      have h4 := name_not n h.1 h.2 hn
      generalize rowL.getD n.toNat default = ro at *
      obtain ⟨pn, pt, pl, pi, pc⟩ := ro
      exact ⟨pn, pt, pl, pi, pc, true, h4, h3⟩
    · exact ⟨⟨#[]⟩, 0, 0, false, false, false, empty_not, fun w9 => wOf_no n h w9⟩
  obtain ⟨pn, pt, pl, pi, pc, b, hno, hOf⟩ := hOf
  obtain ⟨q0, q1, q2, q3, q4, q5, q6, q7, q8, q9, q10⟩ := none_of hno
  replace hOf := Lib.hid hOf
  clear hno hn
  go_enter Try.func14, Try.ntmps14
  go_wp2_with (go_at_call 28; refine (hOf.out _).mono ?_; rintro e w1 ⟨rfl, hb1⟩)
  go_ret
  exact ⟨rfl, bel_alloc hb1 _⟩
theorem isC_cases {n : Int} (h : isC n = true) : ∃ k : Nat, k ≤ 10 ∧ n = 110 + (k : Int) := by
  unfold isC at h
  have h := of_decide_eq_true h
  exact ⟨(n - 110).toNat, by omega, by omega⟩
theorem wIsC (n : Int) (w : World) : Calls Try.prog 14 #[.int .i64 n] w fun e w' => e = .returned (.bool (isC n)) ∧ Below w.heap.size w w' := by
  cases h : isC n with
  | false => exact wIsNo n h w
  | true =>
    obtain ⟨k, hk, rfl⟩ := isC_cases h
    have hc : k = 0 ∨ k = 1 ∨ k = 2 ∨ k = 3 ∨ k = 4 ∨ k = 5 ∨ k = 6 ∨ k = 7 ∨ k = 8 ∨ k = 9 ∨ k = 10 := by omega
    rcases hc with rfl | rfl | rfl | rfl | rfl | rfl | rfl | rfl | rfl | rfl | rfl
    · exact wIs0 w
    · exact wIs1 w
    · exact wIs2 w
    · exact wIs3 w
    · exact wIs4 w
    · exact wIs5 w
    · exact wIs6 w
    · exact wIs7 w
    · exact wIs8 w
    · exact wIs9 w
    · exact wIs10 w
end Go.Proofs.Ytkcmphjgflbchaa

/- 'Do'. -/
namespace Go.Proofs.Ytkcmphjgflbchaa
open Go.RowKit
set_option linter.unusedVariables false
set_option linter.unusedSimpArgs false
attribute [local go_sem ↓] Go.wp_at_zero Go.wp_at_succ
attribute [local go_sem] cell_set set_set m_undef
attribute [local irreducible] cells19 cells20 rowL tabL ctE doneV finM isC

theorem bodyPostS_of {P : Program} {fn : Func} {c₀ : Frame} {cs cs' : List Frame} {R : Ending → FrameMode → World → Prop} {u' : FrameMode} (hcs : cs' = { c₀ with mode := u' } :: cs) (e : Exit) (a : Act) (w : World)
    (h : bodyPost P fn (fun e w => R e u' w) e a w) : bodyPostS P fn c₀ cs R e a cs' w := by
  cases e with
  | normal => obtain ⟨h1, v, h2, h3⟩ := h; exact ⟨h1, u', hcs, v, h2, h3⟩
  | ret => obtain ⟨h1, v, h2, h3⟩ := h; exact ⟨h1, u', hcs, v, h2, h3⟩
  | panic chain => exact ⟨h.1, u', hcs, h.2⟩
  | outgrown => exact ⟨u', h⟩
  | _ => exact h
theorem wpS_plain {P : Program} {fn : Func} {c : Code} {c₀ : Frame} {cs cs' : List Frame} {R : Ending → FrameMode → World → Prop} {u' : FrameMode} {a : Act} {w : World} (hcs : cs' = { c₀ with mode := u' } :: cs)
    (h : c.wp P (bodyPost P fn (fun e w => R e u' w)) a w) : c.wpS P (bodyPostS P fn c₀ cs R) a cs' w := by
  exact wpS_of_wp (wp_mono h fun e a w hq => bodyPostS_of hcs e a w hq)
theorem assertW (v : Value) (w : World) : (Instr.typeAssert (.iface 60 v) 20 60 true).run Try.prog w = .ok (.tuple #[v, .bool true]) w := by
  have h := Try.underlying60
  simp [Instr.typeAssert, go_sem, h]
attribute [local go_sem] assertW
theorem ret1_blk {P : Program} {fn : Func} {tmps : Array Value} {w : World} {v : Value} (N : Nat) (x : Value) (t : TypeId) (h0 : Blk w N #[x] t)
    (hres : ∀ w', (w'.cell? ⟨N, 0, none⟩ = some x) → (results fn tmps).run P w' = .ok v w') : (results fn tmps).run P w = .ok v w := hres w (h0.cell 0)
set_option maxHeartbeats 400000 in
theorem catchC {W w : World} {B mb : Nat} {M : List UInt8} {O0 : Nat → Prop} {K : Kp} {N : Nat} {x n : Int} (h : One W w B mb M O0 (K.and (.blk N #[.int .i64 x] 3))) (hN : W.heap.size ≤ N) (hK : ¬ K.S N) :
    CallsD Try.prog 26 #[.pointer (some ⟨N, 0, none⟩)] (.panicking [{ v := .iface 60 (.agg #[.int .i64 n]), recovered := false }]) w fun e u' w' =>
      e = .returned (.tuple #[]) ∧ u' = .panicking [{ v := .iface 60 (.agg #[.int .i64 n]), recovered := true }] ∧ One W w' B mb M O0 (K.and (.blk N #[.int .i64 n] 3)) := by
  have h2 := h.alloc (.cells #[.int .i64 n] 60)
  obtain ⟨a1, a2, a3⟩ := (show Blk _ N _ _ from h.fact.2).one
  obtain ⟨b1, b2, b3⟩ := (show Blk _ N _ _ from h2.fact.2).one
  refine callsD_of_wpS Try.func26 rfl fun c₀ cs hu => ?_
  simp only [Try.ntmps26, List.size_toArray, List.length_cons, List.length_nil, Nat.reduceAdd, Nat.reduceSub, Array.replicate_succ, Array.replicate_zero, List.push_toArray, List.append_toArray, List.nil_append, List.cons_append]
  apply wpS_seq
  apply wpS_region
  simp [wpOpsS, go_sem, recoverD, hu, Exit.thenS]
  refine wpS_plain (u' := .panicking [{ v := .iface 60 (.agg #[.int .i64 n]), recovered := true }]) rfl ?_
  clear hu
  go_wp2_with fail
  refine ⟨rfl, .tuple #[], (by simp [results, Try.results26, go_sem]), rfl, ?_⟩
  exact (h.set hN hK 0 (.int .i64 n)).alloc _
theorem idleC {N : Nat} {w : World} :
    CallsD Try.prog 26 #[.pointer (some ⟨N, 0, none⟩)] .returning w fun e u' w' => e = .returned (.tuple #[]) ∧ u' = .returning ∧ w' = w := by
  refine callsD_of_wpS Try.func26 rfl fun c₀ cs hu => ?_
  simp only [Try.ntmps26, List.size_toArray, List.length_cons, List.length_nil, Nat.reduceAdd, Nat.reduceSub, Array.replicate_succ, Array.replicate_zero, List.push_toArray, List.append_toArray, List.nil_append, List.cons_append]
  apply wpS_seq
  apply wpS_region
  simp [wpOpsS, go_sem, recoverD, hu, Exit.thenS]
  refine wpS_plain (u' := .returning) (by cases c₀; simp_all) ?_
  go_wp2
  go_end0
  first | exact ⟨rfl, rfl, rfl⟩ | simp
theorem One.base {W w : World} {B mb : Nat} {M : List UInt8} {O0 : Nat → Prop} {K : Kp} (h : One W w B mb M O0 K) : B ≤ w.heap.size := by
  obtain ⟨O, h1, h2, h3, h4⟩ := h
  exact Nat.le_trans h4 h2.size
/-- A part of the walk that starts anew. -/
theorem One.join {W w1 : World} {B mb : Nat} {M : List UInt8} {O0 : Nat → Prop} {K : Kp} (h : One W w1 B mb M O0 K) : ∃ O1, MemP w1 B mb M O1 ∧ ∀ w2 M', One w1 w2 B mb M' O1 .emp → One W w2 B mb M' O0 K := by
  obtain ⟨O, h1, h2, h3, h4⟩ := h
  refine ⟨O, h1, fun w2 M' hq => ?_⟩
  obtain ⟨O2, q1, q2, q3, q4⟩ := hq
  exact ⟨O2, q1, h2.trans q2, h3.turn q2, h4⟩
theorem PlS.start {w : World} {B mb : Nat} {M : List UInt8} {O : Nat → Prop} (h : MemP w B mb M O) (hB : B ≤ w.heap.size) (here : Int) :
    PlS w (w.alloc (.cells #[.pointer (some ⟨mb, 0, none⟩), .int .i64 here, .int .i64 0, .slice none 0 0, .slice none 0 0, .int .i64 0, .int .i64 0] 70)) B mb M O w.heap.size here 0 [] [] 0 0 := by
  have hS := (One.start h hB).new #[.pointer (some ⟨mb, 0, none⟩), .int .i64 here, .int .i64 0, .slice none 0 0, .slice none 0 0, .int .i64 0, .int .i64 0] 70
  exact ⟨.slice none 0 0, .slice none 0 0, hS.keep fun O h => ((Keep.vs (Vs.nil _ 0 1) (fun b hb => by cases hb)).and (Keep.vs (Vs.nil _ 0 1) (fun b hb => by cases hb))).and h.right, Nat.le_refl _, (fun b hb => by cases hb), (fun b hb => by cases hb)⟩
/-- The throw of a word, the memory behind it. -/
def ctK (M : List UInt8) (k : Nat) : Int := if ctE M (hereL M) k = 0 then doneV M (hereL M) (tkN k) (plnM M (hereL M) k).cells (plnM M (hereL M) k).lays else ctE M (hereL M) k
def ctlV (M : List UInt8) (n : Int) : Int := if isC n then ctK M (n - 110).toNat else -22
def ctlM (M : List UInt8) (n : Int) : List UInt8 :=
  if isC n then (if ctK M (n - 110).toNat = 0 then finM M (tkN (n - 110).toNat) (plnM M (hereL M) (n - 110).toNat).cells (plnM M (hereL M) (n - 110).toNat).lays (plnM M (hereL M) (n - 110).toNat).hole (plnM M (hereL M) (n - 110).toNat).tgt else M) else M
theorem isI_small {x : Int} (h1 : 0 ≤ x) (h2 : x ≤ 100) : isI x := by unfold isI; omega
theorem isI_two {x y : Int} (hx : isI x) (hy : isI y) : ∀ z ∈ [x, y], isI z := fun z hz => by
  simp only [List.mem_cons, List.not_mem_nil, or_false] at hz
  rcases hz with rfl | rfl
  · exact hx
  · exact hy
theorem isI_one {x : Int} (hx : isI x) : ∀ z ∈ [x], isI z := fun z hz => by rw [List.mem_singleton.1 hz]; exact hx
theorem isI_nil : ∀ z ∈ ([] : List Int), isI z := fun z hz => by cases hz
theorem pln_small (here a b : Int) (k : Nat) (hk : k ≤ 10) (ha : isI a) (hb : isI b) : (ctP here a b k).cells.length ≤ 1000 ∧ (ctP here a b k).lays.length ≤ 1000 ∧ (∀ x ∈ (ctP here a b k).cells, isI x) ∧ isI (ctP here a b k).hole ∧ 0 ≤ tkN k ∧ tkN k ≤ 2 := by
  have hz : isI 0 := isI_small (by omega) (by omega)
  have hc : k = 0 ∨ k = 1 ∨ k = 2 ∨ k = 3 ∨ k = 4 ∨ k = 5 ∨ k = 6 ∨ k = 7 ∨ k = 8 ∨ k = 9 ∨ k = 10 := by omega
  rcases hc with rfl | rfl | rfl | rfl | rfl | rfl | rfl | rfl | rfl | rfl | rfl
  · show ([32, 0] : List Int).length ≤ 1000 ∧ ([here + 8] : List Int).length ≤ 1000 ∧ (∀ x ∈ ([32, 0] : List Int), isI x) ∧ isI 0 ∧ (0 : Int) ≤ 0 ∧ (0 : Int) ≤ 2
    exact ⟨by simp, by simp, (isI_two (isI_small (by omega) (by omega)) (isI_small (by omega) (by omega))), hz, by omega, by omega⟩
  · show ([24, 0] : List Int).length ≤ 1000 ∧ ([here + 8] : List Int).length ≤ 1000 ∧ (∀ x ∈ ([24, 0] : List Int), isI x) ∧ isI a ∧ (0 : Int) ≤ 1 ∧ (1 : Int) ≤ 2
    exact ⟨by simp, by simp, (isI_two (isI_small (by omega) (by omega)) (isI_small (by omega) (by omega))), ha, by omega, by omega⟩
  · show ([] : List Int).length ≤ 1000 ∧ ([] : List Int).length ≤ 1000 ∧ (∀ x ∈ ([] : List Int), isI x) ∧ isI a ∧ (0 : Int) ≤ 1 ∧ (1 : Int) ≤ 2
    exact ⟨by simp, by simp, isI_nil, ha, by omega, by omega⟩
  · show ([] : List Int).length ≤ 1000 ∧ ([here] : List Int).length ≤ 1000 ∧ (∀ x ∈ ([] : List Int), isI x) ∧ isI 0 ∧ (0 : Int) ≤ 0 ∧ (0 : Int) ≤ 2
    exact ⟨by simp, by simp, isI_nil, hz, by omega, by omega⟩
  · show ([32, a] : List Int).length ≤ 1000 ∧ ([] : List Int).length ≤ 1000 ∧ (∀ x ∈ ([32, a] : List Int), isI x) ∧ isI 0 ∧ (0 : Int) ≤ 1 ∧ (1 : Int) ≤ 2
    exact ⟨by simp, by simp, (isI_two (isI_small (by omega) (by omega)) ha), hz, by omega, by omega⟩
  · show ([32, 0] : List Int).length ≤ 1000 ∧ ([here + 8, a] : List Int).length ≤ 1000 ∧ (∀ x ∈ ([32, 0] : List Int), isI x) ∧ isI 0 ∧ (0 : Int) ≤ 1 ∧ (1 : Int) ≤ 2
    exact ⟨by simp, by simp, (isI_two (isI_small (by omega) (by omega)) (isI_small (by omega) (by omega))), hz, by omega, by omega⟩
  · show ([24, a] : List Int).length ≤ 1000 ∧ ([] : List Int).length ≤ 1000 ∧ (∀ x ∈ ([24, a] : List Int), isI x) ∧ isI b ∧ (0 : Int) ≤ 2 ∧ (2 : Int) ≤ 2
    exact ⟨by simp, by simp, (isI_two (isI_small (by omega) (by omega)) ha), hb, by omega, by omega⟩
  · show ([24, a] : List Int).length ≤ 1000 ∧ ([] : List Int).length ≤ 1000 ∧ (∀ x ∈ ([24, a] : List Int), isI x) ∧ isI 0 ∧ (0 : Int) ≤ 1 ∧ (1 : Int) ≤ 2
    exact ⟨by simp, by simp, (isI_two (isI_small (by omega) (by omega)) ha), hz, by omega, by omega⟩
  · show ([40] : List Int).length ≤ 1000 ∧ ([here + 8] : List Int).length ≤ 1000 ∧ (∀ x ∈ ([40] : List Int), isI x) ∧ isI 0 ∧ (0 : Int) ≤ 0 ∧ (0 : Int) ≤ 2
    exact ⟨by simp, by simp, (isI_one (isI_small (by omega) (by omega))), hz, by omega, by omega⟩
  · show ([48, a] : List Int).length ≤ 1000 ∧ ([] : List Int).length ≤ 1000 ∧ (∀ x ∈ ([48, a] : List Int), isI x) ∧ isI 0 ∧ (0 : Int) ≤ 1 ∧ (1 : Int) ≤ 2
    exact ⟨by simp, by simp, (isI_two (isI_small (by omega) (by omega)) ha), hz, by omega, by omega⟩
  · show ([56, a] : List Int).length ≤ 1000 ∧ ([] : List Int).length ≤ 1000 ∧ (∀ x ∈ ([56, a] : List Int), isI x) ∧ isI 0 ∧ (0 : Int) ≤ 1 ∧ (1 : Int) ≤ 2
    exact ⟨by simp, by simp, (isI_two (isI_small (by omega) (by omega)) ha), hz, by omega, by omega⟩
attribute [local irreducible] ctP tkN ctK hereL
theorem ctlV_no {M : List UInt8} {n : Int} (h : isC n = false) : ctlV M n = -22 ∧ ctlM M n = M := by unfold ctlV ctlM; rw [h]; exact ⟨if_neg (by decide), if_neg (by decide)⟩
theorem ctlV_at {M : List UInt8} {n : Int} {k : Nat} (h : isC n = true) (hk : (n - 110).toNat = k) : ctlV M n = ctK M k ∧ ctlM M n = if ctK M k = 0 then finM M (tkN k) (plnM M (hereL M) k).cells (plnM M (hereL M) k).lays (plnM M (hereL M) k).hole (plnM M (hereL M) k).tgt else M := by
  unfold ctlV ctlM
  rw [h, hk]
  exact ⟨if_pos rfl, if_pos rfl⟩
theorem ctK_take {M : List UInt8} {k : Nat} (h : ctE M (hereL M) k ≠ 0) : ctK M k = ctE M (hereL M) k := by delta ctK; exact if_neg h
theorem ctK_done {M : List UInt8} {k : Nat} (h : ctE M (hereL M) k = 0) : ctK M k = doneV M (hereL M) (tkN k) (plnM M (hereL M) k).cells (plnM M (hereL M) k).lays := by delta ctK; exact if_pos h
set_option maxRecDepth 100000 in
set_option maxHeartbeats 1000000 in
theorem kDo {w : World} {B mb : Nat} {M : List UInt8} {O : Nat → Prop} (h : MemP w B mb M O) (hB : B ≤ w.heap.size) (n : Int) :
    Calls Try.prog 12 #[.pointer (some ⟨mb, 0, none⟩), .int .i64 n] w fun e w' => MemQ w w' B mb (ctlM M n) O (.int .i64 (ctlV M n)) e := by
  have hmf : ∀ (fn : Fn) (first cap : Array Value) (w : World), (Instr.makeFunc fn first cap).run Try.prog w = .ok (.func fn first cap) w := fun _ _ _ _ => rfl
  have hIs := Lib.hid (fun (w9 : World) => wIsC n w9)
  obtain ⟨N, hN⟩ : ∃ N, N = w.heap.size := ⟨_, rfl⟩
  have hS := (One.start h hB).new #[.int .i64 0] 3
  obtain ⟨w0, hw0⟩ : ∃ w0, w0 = w.alloc (.cells #[.int .i64 0] 3) := ⟨_, rfl⟩
  rw [← hN, ← hw0] at hS
  have hNl : w.heap.size ≤ N := by omega
  cases hc : isC n with
  | false =>
    obtain ⟨e1, e2⟩ := ctlV_no (M := M) hc
    rw [e1, e2]
    rw [hc] at hIs
    clear h hB e1 e2 hc
    go_enter_defers Try.func12, Try.ntmps12
    go_upto_region 2 with fail
    rw [← hw0, ← hN]
    clear hw0 hN
    go_wp2_with (first
      | (go_at_call 14; refine (hS.still (hIs.out _)).mono ?_; rintro e w1 ⟨rfl, hS2⟩; clear hS; have hS := hS2; clear hS2)
      | (go_at_call_of 27 false; refine (must_no _ _).mono ?_; rintro e _ ⟨rfl, rfl⟩))
    refine leaves_cons (f := 26) (args := #[.pointer (some ⟨N, 0, none⟩)]) (by simp) (by simp [go_sem]) ?_
    refine (catchC hS hNl (fun hk => hk)).mono ?_
    rintro e u' w'' ⟨rfl, rfl, hS3⟩
    refine ⟨.int .i64 (-22), ret1_blk N (.int .i64 (-22)) _ hS3.fact.2 (fun w' c1 => by simp [results, Try.results12, go_sem, c1]), ?_⟩
    exact hS3.memQ _
  | true =>
    obtain ⟨k, hk, hnk⟩ := isC_cases hc
    obtain ⟨e1, e2⟩ := ctlV_at (M := M) (k := k) hc (by omega)
    have hOf := fun (w9 : World) => wOf n (by omega) (by omega) w9
    have hnm := name_at k (by omega)
    rw [show n.toNat = 110 + k by omega] at hOf
    generalize rowL.getD (110 + k) default = ro at *
    obtain ⟨pn, pt, pl, pi, pc⟩ := ro
    replace hnm : pn = nmC k := hnm
    unfold primV at hOf
    dsimp only at hOf
    replace hOf := Lib.hid hOf
    have hHr := fun (w9 : World) (O : Nat → Prop) (h : MemP w9 B mb M O) (hb : B ≤ w9.heap.size) => mHere h hb
    have hps := pln_small (hereL M) (peekV M 32 256 512 0) (peekV M 32 256 512 1) k hk (peekV_isI M 0) (peekV_isI M 1)
    have hin := hereL_in M
    have hte := @ctK_take M k
    have htd := @ctK_done M k
    unfold plnM at e2 htd
    have hDo := fun (w7 w8 : World) (O7 : Nat → Prop) (pb : Nat) (h : PlS w7 w8 B mb M O7 pb (hereL M) 0 [] [] 0 0) => pDo h hin k hk
    unfold PlP plnM at hDo
    rw [← hnm] at hDo
    generalize hereL M = here at *
    generalize ctP here (peekV M 32 256 512 0) (peekV M 32 256 512 1) k = p at *
    obtain ⟨p1, p2, p3, p4⟩ := p
    dsimp only at e2 hps htd hDo
    obtain ⟨s1, s2, s3, s4, s5, s6⟩ := hps
    generalize tkN k = tk at *
    have hDn := fun (w7 w8 : World) (O7 : Nat → Prop) (pb : Nat) (h : PlS w7 w8 B mb M O7 pb here tk p1 p2 p3 p4) => pDone h hin ⟨s5, s6⟩ s1 s2 s3 s4
    rw [hc] at hIs
    rw [e1, e2]
    generalize finM M tk p1 p2 p3 p4 = M' at *
    replace hHr := Lib.hid hHr
    clear h hB e1 e2 hc hnm hnk hk s1 s2 s3 s4 s5 s6 hin
    by_cases c1 : ctE M here k = 0
    · rw [htd c1]
      simp only [if_pos c1] at hDo
      by_cases c2 : doneV M here tk p1 p2 = 0
      · rw [if_pos c2, c2]
        simp only [if_pos c2] at hDn
        replace hDo := Lib.hid hDo
        replace hDn := Lib.hid hDn
        clear hte htd c1 c2
        go_enter_defers Try.func12, Try.ntmps12
        go_upto_region 2 with fail
        rw [← hw0, ← hN]
        clear hw0 hN
        go_upto_region 5 with (first
          | (go_at_call 14; refine (hS.still (hIs.out _)).mono ?_; rintro e w1 ⟨rfl, hS2⟩; clear hS; have hS := hS2; clear hS2)
          | (go_at_call_of 27 true; refine (must_ok _ _).mono ?_; rintro e _ ⟨rfl, rfl⟩)
          | (go_at_call 28; refine (hS.still (hOf.out _)).mono ?_; rintro e w4 ⟨rfl, hS2⟩; clear hS; have hS := hS2; clear hS2))
        have hS2 := hS.new #[.string pn, .int .i64 pt, .int .i64 pl, .bool pi, .bool pc] 64
        obtain ⟨P, hP⟩ : ∃ P, P = w4.heap.size := ⟨_, rfl⟩
        obtain ⟨w8, hw8⟩ : ∃ w8, w8 = w4.alloc (.cells #[.string pn, .int .i64 pt, .int .i64 pl, .bool pi, .bool pc] 64) := ⟨_, rfl⟩
        rw [← hw8, ← hP] at hS2 ⊢
        clear hw8 hP hS
        have hS := hS2
        clear hS2
        go_wp2_with (first
          | (go_at_call 29; refine (hS.mem (fun O h hb => hHr.out _ O h hb)).mono ?_; rintro e w5 ⟨rfl, hS2⟩; clear hS; have hS := hS2; clear hS2; obtain ⟨O5, hP5, hJ⟩ := hS.join; have hPl := PlS.start hP5 hS.base here; replace hJ := Lib.hid hJ; have hPl := Lib.hid hPl; have hQ5 := hS.fact; obtain ⟨x1, x2, x3⟩ := (show Blk _ N _ _ from hQ5.1.2).one; have hy := (hQ5.2.alloc (.cells #[.pointer (some ⟨mb, 0, none⟩), .int .i64 here, .int .i64 0, .slice none 0 0, .slice none 0 0, .int .i64 0, .int .i64 0] 70)); obtain ⟨v1, v2, v3, v4, v5, v6, v7, v8, v9, v10, -⟩ := (show Blk _ _ #[.string pn, .int .i64 pt, .int .i64 pl, .bool pi, .bool pc] _ from hy).five; clear hy)
          | (go_at_call 30; refine (hDo.out _ _ _ _ hPl.out).mono ?_; rintro e w6 ⟨rfl, hPl2⟩)
          | (go_at_call 31; refine (hDn.out _ _ _ _ hPl2).mono ?_; rintro e w7 ⟨rfl, hQ⟩; have hS3 := hJ.out _ _ hQ; obtain ⟨k1, k2, k3⟩ := (show Blk _ N _ _ from hS3.fact.1.2).one))
        refine leaves_cons (f := 26) (args := #[.pointer (some ⟨N, 0, none⟩)]) (by simp) (by simp [go_sem]) ?_
        refine idleC.mono ?_
        rintro e u' w'' ⟨rfl, rfl, rfl⟩
        have hS4 := hS3.weak.set hNl (fun hk => hk) 0 (.int .i64 0)
        refine ⟨.int .i64 0, ret1_blk N (.int .i64 0) _ hS4.fact.2 (fun w' c1 => by simp [results, Try.results12, go_sem, c1]), ?_⟩
        exact hS4.memQ _
      · rw [if_neg c2]
        simp only [if_neg c2] at hDn
        generalize doneV M here tk p1 p2 = t at *
        replace hDo := Lib.hid hDo
        replace hDn := Lib.hid hDn
        clear hte htd c1 c2
        go_enter_defers Try.func12, Try.ntmps12
        go_upto_region 2 with fail
        rw [← hw0, ← hN]
        clear hw0 hN
        go_upto_region 5 with (first
          | (go_at_call 14; refine (hS.still (hIs.out _)).mono ?_; rintro e w1 ⟨rfl, hS2⟩; clear hS; have hS := hS2; clear hS2)
          | (go_at_call_of 27 true; refine (must_ok _ _).mono ?_; rintro e _ ⟨rfl, rfl⟩)
          | (go_at_call 28; refine (hS.still (hOf.out _)).mono ?_; rintro e w4 ⟨rfl, hS2⟩; clear hS; have hS := hS2; clear hS2))
        have hS2 := hS.new #[.string pn, .int .i64 pt, .int .i64 pl, .bool pi, .bool pc] 64
        obtain ⟨P, hP⟩ : ∃ P, P = w4.heap.size := ⟨_, rfl⟩
        obtain ⟨w8, hw8⟩ : ∃ w8, w8 = w4.alloc (.cells #[.string pn, .int .i64 pt, .int .i64 pl, .bool pi, .bool pc] 64) := ⟨_, rfl⟩
        rw [← hw8, ← hP] at hS2 ⊢
        clear hw8 hP hS
        have hS := hS2
        clear hS2
        go_wp2_with (first
          | (go_at_call 29; refine (hS.mem (fun O h hb => hHr.out _ O h hb)).mono ?_; rintro e w5 ⟨rfl, hS2⟩; clear hS; have hS := hS2; clear hS2; obtain ⟨O5, hP5, hJ⟩ := hS.join; have hPl := PlS.start hP5 hS.base here; replace hJ := Lib.hid hJ; have hPl := Lib.hid hPl; have hQ5 := hS.fact; obtain ⟨x1, x2, x3⟩ := (show Blk _ N _ _ from hQ5.1.2).one; have hy := (hQ5.2.alloc (.cells #[.pointer (some ⟨mb, 0, none⟩), .int .i64 here, .int .i64 0, .slice none 0 0, .slice none 0 0, .int .i64 0, .int .i64 0] 70)); obtain ⟨v1, v2, v3, v4, v5, v6, v7, v8, v9, v10, -⟩ := (show Blk _ _ #[.string pn, .int .i64 pt, .int .i64 pl, .bool pi, .bool pc] _ from hy).five; clear hy)
          | (go_at_call 30; refine (hDo.out _ _ _ _ hPl.out).mono ?_; rintro e w6 ⟨rfl, hPl2⟩)
          | (go_at_call 31; refine (hDn.out _ _ _ _ hPl2).mono ?_; rintro e w7 ⟨rfl, hQ⟩; have hS3 := hJ.out _ _ hQ))
        refine leaves_cons (f := 26) (args := #[.pointer (some ⟨N, 0, none⟩)]) (by simp) (by simp [go_sem]) ?_
        refine (catchC hS3.weak hNl (fun hk => hk)).mono ?_
        rintro e u' w'' ⟨rfl, rfl, hS4⟩
        refine ⟨.int .i64 t, ret1_blk N (.int .i64 t) _ hS4.fact.2 (fun w' c1 => by simp [results, Try.results12, go_sem, c1]), ?_⟩
        exact hS4.memQ _
    · rw [hte c1, if_neg c1]
      simp only [if_neg c1] at hDo
      generalize ctE M here k = t at *
      replace hDo := Lib.hid hDo
      clear hte htd c1 hDn
      go_enter_defers Try.func12, Try.ntmps12
      go_upto_region 2 with fail
      rw [← hw0, ← hN]
      clear hw0 hN
      go_upto_region 5 with (first
        | (go_at_call 14; refine (hS.still (hIs.out _)).mono ?_; rintro e w1 ⟨rfl, hS2⟩; clear hS; have hS := hS2; clear hS2)
        | (go_at_call_of 27 true; refine (must_ok _ _).mono ?_; rintro e _ ⟨rfl, rfl⟩)
        | (go_at_call 28; refine (hS.still (hOf.out _)).mono ?_; rintro e w4 ⟨rfl, hS2⟩; clear hS; have hS := hS2; clear hS2))
      have hS2 := hS.new #[.string pn, .int .i64 pt, .int .i64 pl, .bool pi, .bool pc] 64
      obtain ⟨P, hP⟩ : ∃ P, P = w4.heap.size := ⟨_, rfl⟩
      obtain ⟨w8, hw8⟩ : ∃ w8, w8 = w4.alloc (.cells #[.string pn, .int .i64 pt, .int .i64 pl, .bool pi, .bool pc] 64) := ⟨_, rfl⟩
      rw [← hw8, ← hP] at hS2 ⊢
      clear hw8 hP hS
      have hS := hS2
      clear hS2
      go_wp2_with (first
        | (go_at_call 29; refine (hS.mem (fun O h hb => hHr.out _ O h hb)).mono ?_; rintro e w5 ⟨rfl, hS2⟩; clear hS; have hS := hS2; clear hS2; obtain ⟨O5, hP5, hJ⟩ := hS.join; have hPl := PlS.start hP5 hS.base here; replace hJ := Lib.hid hJ; have hPl := Lib.hid hPl; have hQ5 := hS.fact; obtain ⟨x1, x2, x3⟩ := (show Blk _ N _ _ from hQ5.1.2).one; have hy := (hQ5.2.alloc (.cells #[.pointer (some ⟨mb, 0, none⟩), .int .i64 here, .int .i64 0, .slice none 0 0, .slice none 0 0, .int .i64 0, .int .i64 0] 70)); obtain ⟨v1, v2, v3, v4, v5, v6, v7, v8, v9, v10, -⟩ := (show Blk _ _ #[.string pn, .int .i64 pt, .int .i64 pl, .bool pi, .bool pc] _ from hy).five; clear hy)
        | (go_at_call 30; refine (hDo.out _ _ _ _ hPl.out).mono ?_; rintro e w6 ⟨rfl, hQ⟩; have hS3 := hJ.out _ _ hQ))
      refine leaves_cons (f := 26) (args := #[.pointer (some ⟨N, 0, none⟩)]) (by simp) (by simp [go_sem]) ?_
      refine (catchC hS3.weak hNl (fun hk => hk)).mono ?_
      rintro e u' w'' ⟨rfl, rfl, hS4⟩
      refine ⟨.int .i64 t, ret1_blk N (.int .i64 t) _ hS4.fact.2 (fun w' c1 => by simp [results, Try.results12, go_sem, c1]), ?_⟩
      exact hS4.memQ _
end Go.Proofs.Ytkcmphjgflbchaa

/- Plain laws of the words: the stack, the holes. -/
namespace Go.Proofs.Ytkcmphjgflbchaa
open Go.RowKit
set_option linter.unusedVariables false
set_option linter.unusedSimpArgs false

attribute [local irreducible] ctP tkN ctK hereL ctE doneV finM isC
theorem sk32 : Sk 32 256 512 := by unfold Sk; omega
/-- The dictionary goes on at h; the stack is S; what is 0 in the dictionary is one of H. -/
structure CSt (M : List UInt8) (h : Int) (S H : List Int) : Prop where
  here : hereL M = h
  al : h % 8 = 0
  lo : 1536 ≤ h
  hi : h ≤ 5632
  stk : StkIs M 32 256 512 S
  nz : ∀ a : Int, a % 8 = 0 → 1536 ≤ a → a + 8 ≤ h → getM M a = 0 → a ∈ H
theorem CSt.len {M : List UInt8} {h : Int} {S H : List Int} (c : CSt M h S H) : M.length = 8192 := c.stk.len
theorem here_congr {M N : List UInt8} (h : getM N 0 = getM M 0) : hereL N = hereL M := by delta hereL; rw [h]
theorem CSt.pop {M : List UInt8} {h n : Int} {S H : List Int} (c : CSt M h (S ++ [n]) H) : CSt (popM M 32 256 512) h S H ∧ peekV M 32 256 512 0 = n ∧ isI n := by
  obtain ⟨h1, h2, h3⟩ := c.stk.pop sk32
  have hg := fun (b : Int) (hb : b + 8 ≤ 32 ∨ 40 ≤ b) => getM_pop c.len (a := 32) (lo := 256) (hi := 512) b (by omega)
  exact ⟨⟨by rw [here_congr (hg 0 (by omega))]; exact c.here, c.al, c.lo, c.hi, h1, fun a a1 a2 a3 a4 => c.nz a a1 a2 a3 (by rw [← hg a (by omega)]; exact a4)⟩, h2, (c.stk.cell S.length n (by simp)).2⟩
theorem CSt.push {M : List UInt8} {h : Int} {S H : List Int} (c : CSt M h S H) (n : Int) (hn : isI n) (hl : S.length < 32) : CSt (pushM M 32 256 512 n) h (S ++ [n]) H := by
  have hg := fun (b : Int) (h1 : b + 8 ≤ 32 ∨ 32 + 8 ≤ b) (h2 : b + 8 ≤ 256 ∨ 512 ≤ b) => getM_push c.len sk32 n b h1 h2
  exact ⟨by rw [here_congr (hg 0 (by omega) (by omega))]; exact c.here, c.al, c.lo, c.hi, (c.stk.push sk32 n hn hl).1, fun a a1 a2 a3 a4 => c.nz a a1 a2 a3 (by rw [← hg a (by omega) (by omega)]; exact a4)⟩
theorem StkIs.far {M N : List UInt8} {S : List Int} (h : StkIs M 32 256 512 S) (hN : N.length = 8192) (hg : ∀ b : Int, 8 ≤ b → b + 8 ≤ 1536 → getM N b = getM M b) : StkIs N 32 256 512 S :=
  h.other sk32 hN (hg 32 (by omega) (by omega)) (fun b h1 h2 => hg b (by omega) (by omega))
theorem CSt.lay1 {M : List UInt8} {h : Int} {S H : List Int} (c : CSt M h S H) (x : Int) (hx : isI x) (x0 : x ≠ 0) (hr : h + 8 ≤ 5632) : CSt (lyM M (cellsB [x])) (h + 8) S H := by
  have hM := c.len
  have hv : lyV M (cellsB [x]) = 0 := by unfold lyV; rw [c.here, cellsB_len, if_neg (by have := c.al; omega), if_neg (by simp; omega)]
  obtain ⟨A, hA⟩ : ∃ A, A = setM M h x := ⟨_, rfl⟩
  have lA : A.length = 8192 := by rw [hA, setM_len]; exact hM
  have e : lyM M (cellsB [x]) = setM A 0 (h + 8) := by
    unfold lyM
    rw [if_pos hv, c.here, lay_cell1 hM, cellsB_len, ← hA]
    simp
  rw [e]
  have c2 := c.lo
  have gA := fun (b : Int) (hb : b + 8 ≤ h ∨ h + 8 ≤ b) => getM_other hM h b x hb
  have gB := fun (b : Int) (hb : 8 ≤ b) => getM_other lA 0 b (h + 8) (by omega)
  rw [← hA] at gA
  refine ⟨here_at (getM_setM lA 0 _ (by unfold isI; omega) (by omega)) (by omega) (by omega), by have := c.al; omega, by omega, hr, c.stk.far (by rw [setM_len]; exact lA) (fun b b1 b2 => by rw [gB b b1, gA b (by omega)]), fun a a1 a2 a3 a4 => ?_⟩
  rw [gB a (by omega)] at a4
  have := c.al
  by_cases ha : a + 8 ≤ h
  · rw [gA a (.inl ha)] at a4
    exact c.nz a a1 a2 ha a4
  · have ea : a = h := by omega
    rw [ea, hA, getM_setM hM h x hx (by omega)] at a4
    exact absurd a4 x0
theorem CSt.lay2 {M : List UInt8} {h : Int} {S H : List Int} (c : CSt M h S H) (x y : Int) (hx : isI x) (x0 : x ≠ 0) (hy : isI y) (hr : h + 16 ≤ 5632) : CSt (lyM M (cellsB [x, y])) (h + 16) S (if y = 0 then (h + 8) :: H else H) := by
  have hM := c.len
  have hv : lyV M (cellsB [x, y]) = 0 := by unfold lyV; rw [c.here, cellsB_len, if_neg (by have := c.al; omega), if_neg (by simp; omega)]
  obtain ⟨A0, hA0⟩ : ∃ A, A = setM M h x := ⟨_, rfl⟩
  have lA0 : A0.length = 8192 := by rw [hA0, setM_len]; exact hM
  obtain ⟨A, hA⟩ : ∃ A, A = setM A0 (h + 8) y := ⟨_, rfl⟩
  have lA : A.length = 8192 := by rw [hA, setM_len]; exact lA0
  have e : lyM M (cellsB [x, y]) = setM A 0 (h + 16) := by
    unfold lyM
    rw [if_pos hv, c.here, lay_cell2 hM, cellsB_len, ← hA0, ← hA]
    simp
  rw [e]
  have c2 := c.lo
  have gA0 := fun (b : Int) (hb : b + 8 ≤ h ∨ h + 8 ≤ b) => getM_other hM h b x hb
  have gA := fun (b : Int) (hb : b + 8 ≤ h + 8 ∨ h + 8 + 8 ≤ b) => getM_other lA0 (h + 8) b y hb
  have gB := fun (b : Int) (hb : 8 ≤ b) => getM_other lA 0 b (h + 16) (by omega)
  rw [← hA0] at gA0
  rw [← hA] at gA
  refine ⟨here_at (getM_setM lA 0 _ (by unfold isI; omega) (by omega)) (by omega) (by omega), by have := c.al; omega, by omega, hr, c.stk.far (by rw [setM_len]; exact lA) (fun b b1 b2 => by rw [gB b b1, gA b (by omega), gA0 b (by omega)]), fun a a1 a2 a3 a4 => ?_⟩
  rw [gB a (by omega)] at a4
  have := c.al
  by_cases ha : a + 8 ≤ h
  · rw [gA a (by omega), gA0 a (.inl ha)] at a4
    have := c.nz a a1 a2 ha a4
    split
    · exact List.mem_cons_of_mem _ this
    · exact this
  · by_cases eb : a = h
    · rw [eb, gA h (by omega), hA0, getM_setM hM h x hx (by omega)] at a4
      exact absurd a4 x0
    · have ea : a = h + 8 := by omega
      rw [ea, hA, getM_setM lA0 _ y hy (by omega)] at a4
      rw [if_pos a4, ea]
      exact List.mem_cons_self
theorem CSt.fill {M : List UInt8} {h a t : Int} {S H : List Int} (c : CSt M h S (a :: H)) (h1 : 1536 ≤ a) (h2 : a + 8 ≤ h) (h8 : a % 8 = 0) (ht : isI t) (t0 : t ≠ 0) : CSt (setM M a t) h S H := by
  have hM := c.len
  have hh := c.hi
  have g := fun (b : Int) (hb : b + 8 ≤ a ∨ a + 8 ≤ b) => getM_other hM a b t hb
  refine ⟨by rw [here_congr (g 0 (by omega))]; exact c.here, c.al, c.lo, c.hi, c.stk.far (by rw [setM_len]; exact hM) (fun b b1 b2 => g b (by omega)), fun b b1 b2 b3 b4 => ?_⟩
  by_cases e : b = a
  · rw [e, getM_setM hM a t ht (by omega)] at b4
    exact absurd b4 t0
  · rw [g b (by omega)] at b4
    rcases List.mem_cons.1 (c.nz b b1 b2 b3 b4) with h3 | h3
    · exact absurd h3 e
    · exact h3
theorem popN_1 (M : List UInt8) : popN M 1 = popM M 32 256 512 := by rw [popN, popN]
theorem popN_2 (M : List UInt8) : popN M 2 = popM (popM M 32 256 512) 32 256 512 := by rw [popN, popN_1]
theorem takesN_is (n : Nat) : takesN (n : Int) = n := by unfold takesN; omega
theorem takes0 (M : List UInt8) (h : 0 ≤ depL M 32 256 512) : takesM M 0 = M := by
  have e : takesN 0 = 0 := takesN_is 0
  unfold takesM
  rw [if_neg (by omega), e, popN]
theorem takes1 (M : List UInt8) (h : 1 ≤ depL M 32 256 512) : takesM M 1 = popM M 32 256 512 := by
  have e : takesN 1 = 1 := takesN_is 1
  unfold takesM
  rw [if_neg (by omega), e, popN_1]
theorem takes2 (M : List UInt8) (h : 2 ≤ depL M 32 256 512) : takesM M 2 = popM (popM M 32 256 512) 32 256 512 := by
  have e : takesN 2 = 2 := takesN_is 2
  unfold takesM
  rw [if_neg (by omega), e, popN_2]
theorem lays0 (M : List UInt8) (h : depL M 32 256 512 ≤ 32) : laysM M [] = M := by unfold laysM pushAll; rw [if_neg (by rw [List.length_nil]; omega), List.foldl_nil]
theorem lays1 (M : List UInt8) (x : Int) (h : depL M 32 256 512 ≤ 31) : laysM M [x] = pushM M 32 256 512 x := by unfold laysM pushAll; rw [if_neg (by rw [List.length_singleton]; omega), List.foldl_cons, List.foldl_nil]
theorem lays2 (M : List UInt8) (x y : Int) (h : depL M 32 256 512 ≤ 30) : laysM M [x, y] = pushM (pushM M 32 256 512 x) 32 256 512 y := by
  have e : ([x, y] : List Int).length = 2 := by simp
  unfold laysM pushAll
  rw [if_neg (by rw [e]; omega), List.foldl_cons, List.foldl_cons, List.foldl_nil]
theorem CSt.dep {M : List UInt8} {h : Int} {S H : List Int} (c : CSt M h S H) : depL M 32 256 512 = (S.length : Int) := c.stk.dep
theorem take_ok {M : List UInt8} {h tk room a : Int} (h1 : 0 ≤ tk) (h2 : tk < depL M 32 256 512) (hp : peekV M 32 256 512 tk = a) (a8 : a % 8 = 0) (a1 : 1536 ≤ a) (a2 : a ≤ h - room) : takeT M h tk room = 0 := by
  unfold takeT
  rw [if_pos ⟨h1, h2⟩, hp, if_pos ⟨a8, a1, a2⟩]
theorem done_ok {M : List UInt8} {h tk : Int} {cl ll : List Int} (h8 : h % 8 = 0) (hr : 8 * (cl.length : Int) ≤ 5632 - h) (hd : depL M 32 256 512 - tk + (ll.length : Int) ≤ 32) : doneV M h tk cl ll = 0 := by
  delta doneV
  rw [if_neg (fun hq => hq.2 h8), if_neg (by omega), if_neg (by omega)]
theorem isI_pl {x : Int} (h1 : 0 ≤ x) (h2 : x ≤ 100000) : isI x := by unfold isI; omega
/-- A word that goes. -/
def Goes (M : List UInt8) (n : Int) (M' : List UInt8) : Prop := ctlV M n = 0 ∧ ctlM M n = M'
theorem goes_of {M : List UInt8} {k : Nat} (hk : k ≤ 10) {n h : Int} (hn : n = 110 + (k : Int)) (hh : hereL M = h) {p : Pln} (hp : ctP h (peekV M 32 256 512 0) (peekV M 32 256 512 1) k = p) {tk : Int} (ht : tkN k = tk) (h1 : ctE M h k = 0) (h2 : doneV M h tk p.cells p.lays = 0) :
    Goes M n (finM M tk p.cells p.lays p.hole p.tgt) := by
  have hc : isC n = true := by delta isC; rw [decide_eq_true_iff]; omega
  obtain ⟨e1, e2⟩ := ctlV_at (M := M) (k := k) hc (by omega)
  subst hp ht hh
  have hK : ctK M k = 0 := by rw [ctK_done h1]; exact h2
  exact ⟨by rw [e1, hK], by rw [e2, if_pos hK]⟩
end Go.Proofs.Ytkcmphjgflbchaa

/- Plain laws of the words: each one goes. -/
namespace Go.Proofs.Ytkcmphjgflbchaa
open Go.RowKit
set_option linter.unusedVariables false
set_option linter.unusedSimpArgs false
attribute [local irreducible] tkN ctK hereL ctE doneV isC lyM laysM takesM setM cellsB pushM popM

theorem CSt.more {M : List UInt8} {h : Int} {S H H2 : List Int} (c : CSt M h S H) (hs : ∀ x ∈ H, x ∈ H2) : CSt M h S H2 := ⟨c.here, c.al, c.lo, c.hi, c.stk, fun a a1 a2 a3 a4 => hs _ (c.nz a a1 a2 a3 a4)⟩
theorem CSt.top1 {M : List UInt8} {h a g : Int} {S H : List Int} (c : CSt M h ((S ++ [a]) ++ [g]) H) : peekV M 32 256 512 1 = a := by
  have hd := c.dep
  have ht := c.stk.top
  have hc := (c.stk.cell S.length a (by simp)).1
  simp only [List.length_append, List.length_cons, List.length_nil] at hd ht
  unfold peekV
  rw [if_pos (by omega), ht]
  exact (congrArg (getM M) (by omega)).trans hc
theorem com_nil (N : List UInt8) : comM N [] = N := by unfold comM; exact if_pos rfl
theorem com_cons (N : List UInt8) (x : Int) (l : List Int) : comM N (x :: l) = lyM N (cellsB (x :: l)) := by unfold comM; exact if_neg (by simp)
theorem hol_no (N : List UInt8) (t : Int) : holM N 0 t = N := by unfold holM; exact if_pos rfl
theorem hol_at (N : List UInt8) {a : Int} (h : a ≠ 0) (t : Int) : holM N a t = setM N a t := by unfold holM; exact if_neg h
theorem fin_eq (M : List UInt8) (tk : Int) (cl ll : List Int) (hole tgt : Int) : finM M tk cl ll hole tgt = laysM (holM (comM (takesM M tk) cl) hole tgt) ll := by unfold finM; exact Eq.refl _
attribute [local irreducible] finM holM comM
theorem CSt.small {M : List UInt8} {h : Int} {S H : List Int} (c : CSt M h S H) : S.length ≤ 32 := c.stk.small
theorem st_IF {M : List UInt8} {h : Int} {S H : List Int} (c : CSt M h S H) (hl : S.length < 32) (hr : h + 16 ≤ 5632) : ∃ M', Goes M 110 M' ∧ CSt M' (h + 16) (S ++ [h + 8]) ((h + 8) :: H) := by
  have lo := c.lo
  have hd := c.dep
  have c1 := c.lay2 32 0 (isI_pl (by omega) (by omega)) (by omega) (isI_pl (by omega) (by omega)) hr
  rw [if_pos rfl] at c1
  have c2 := c1.push (h + 8) (isI_pl (by omega) (by omega)) hl
  refine ⟨_, goes_of (k := 0) (by omega) rfl c.here (p := ⟨[32, 0], [h + 8], 0, 0⟩) rfl (tk := 0) (by unfold tkN; rfl) (ctE_0 M h) (done_ok c.al (by simp; omega) (by simp; omega)), ?_⟩
  dsimp only
  rw [fin_eq, takes0 M (by omega), com_cons, hol_no, lays1 _ _ (by rw [c1.dep]; omega)]
  exact c2
theorem st_ELSE {M : List UInt8} {h a : Int} {S H : List Int} (c : CSt M h (S ++ [a]) (a :: H)) (a8 : a % 8 = 0) (a1 : 1536 ≤ a) (a2 : a + 8 ≤ h) (hr : h + 16 ≤ 5632) : ∃ M', Goes M 111 M' ∧ CSt M' (h + 16) (S ++ [h + 8]) ((h + 8) :: H) := by
  have lo := c.lo
  have hd := c.dep
  have hs := c.small
  simp only [List.length_append, List.length_cons, List.length_nil] at hd hs
  obtain ⟨c1, p0, pi⟩ := c.pop
  have c2 := c1.lay2 24 0 (isI_pl (by omega) (by omega)) (by omega) (isI_pl (by omega) (by omega)) hr
  rw [if_pos rfl] at c2
  have c3 := (c2.more (H2 := a :: ((h + 8) :: H)) (fun x hx => by
    rcases List.mem_cons.1 hx with e | hx
    · exact List.mem_cons_of_mem _ (e ▸ List.mem_cons_self)
    · rcases List.mem_cons.1 hx with e | hx
      · exact e ▸ List.mem_cons_self
      · exact List.mem_cons_of_mem _ (List.mem_cons_of_mem _ hx))).fill (t := h + 16) a1 (by omega) a8 (isI_pl (by omega) (by omega)) (by omega)
  have c4 := c3.push (h + 8) (isI_pl (by omega) (by omega)) (by omega)
  refine ⟨_, goes_of (k := 1) (by omega) rfl c.here (p := ⟨[24, 0], [h + 8], a, h + 16⟩) (by rw [p0]; rfl) (tk := 1) (by unfold tkN; rfl) (by rw [ctE_1]; exact take_ok (by omega) (by omega) p0 a8 a1 (by omega)) (done_ok c.al (by simp; omega) (by simp; omega)), ?_⟩
  dsimp only
  rw [fin_eq, takes1 M (by omega), com_cons, hol_at _ (by omega), lays1 _ _ (by rw [c3.dep]; omega)]
  exact c4
theorem st_THEN {M : List UInt8} {h a : Int} {S H : List Int} (c : CSt M h (S ++ [a]) (a :: H)) (a8 : a % 8 = 0) (a1 : 1536 ≤ a) (a2 : a + 8 ≤ h) : ∃ M', Goes M 112 M' ∧ CSt M' h S H ∧ getM M' a = h := by
  have lo := c.lo
  have hi := c.hi
  have hd := c.dep
  have hs := c.small
  simp only [List.length_append, List.length_cons, List.length_nil] at hd hs
  obtain ⟨c1, p0, pi⟩ := c.pop
  have c2 := c1.fill (t := h) a1 a2 a8 (isI_pl (by omega) (by omega)) (by omega)
  refine ⟨_, goes_of (k := 2) (by omega) rfl c.here (p := ⟨[], [], a, h⟩) (by rw [p0]; rfl) (tk := 1) (by unfold tkN; rfl) (by rw [ctE_2]; exact take_ok (by omega) (by omega) p0 a8 a1 (by omega)) (done_ok c.al (by simp; omega) (by simp; omega)), ?_⟩
  dsimp only
  rw [fin_eq, takes1 M (by omega), com_nil, hol_at _ (by omega), lays0 _ (by rw [c2.dep]; omega)]
  exact ⟨c2, getM_setM c1.len _ _ (isI_pl (by omega) (by omega)) (by omega)⟩
theorem st_BEGIN {M : List UInt8} {h : Int} {S H : List Int} (c : CSt M h S H) (hl : S.length < 32) : ∃ M', Goes M 113 M' ∧ CSt M' h (S ++ [h]) H := by
  have lo := c.lo
  have hi := c.hi
  have hd := c.dep
  have c2 := c.push h (isI_pl (by omega) (by omega)) hl
  refine ⟨_, goes_of (k := 3) (by omega) rfl c.here (p := ⟨[], [h], 0, 0⟩) rfl (tk := 0) (by unfold tkN; rfl) (ctE_3 M h) (done_ok c.al (by simp; omega) (by simp; omega)), ?_⟩
  dsimp only
  rw [fin_eq, takes0 M (by omega), com_nil, hol_no, lays1 _ _ (by omega)]
  exact c2
theorem st_DO {M : List UInt8} {h : Int} {S H : List Int} (c : CSt M h S H) (hl : S.length < 32) (hr : h + 8 ≤ 5632) : ∃ M', Goes M 118 M' ∧ CSt M' (h + 8) (S ++ [h + 8]) H := by
  have lo := c.lo
  have hd := c.dep
  have c1 := c.lay1 40 (isI_pl (by omega) (by omega)) (by omega) hr
  have c2 := c1.push (h + 8) (isI_pl (by omega) (by omega)) hl
  refine ⟨_, goes_of (k := 8) (by omega) rfl c.here (p := ⟨[40], [h + 8], 0, 0⟩) rfl (tk := 0) (by unfold tkN; rfl) (ctE_8 M h) (done_ok c.al (by simp; omega) (by simp; omega)), ?_⟩
  dsimp only
  rw [fin_eq, takes0 M (by omega), com_cons, hol_no, lays1 _ _ (by rw [c1.dep]; omega)]
  exact c2
theorem st_UNTIL {M : List UInt8} {h g : Int} {S H : List Int} (c : CSt M h (S ++ [g]) H) (g8 : g % 8 = 0) (g1 : 1536 ≤ g) (g2 : g ≤ h) (hr : h + 16 ≤ 5632) : ∃ M', Goes M 114 M' ∧ CSt M' (h + 16) S H := by
  have lo := c.lo
  have hd := c.dep
  have hs := c.small
  simp only [List.length_append, List.length_cons, List.length_nil] at hd hs
  obtain ⟨c1, p0, pi⟩ := c.pop
  have c2 := c1.lay2 32 g (isI_pl (by omega) (by omega)) (by omega) pi hr
  rw [if_neg (show g ≠ 0 by omega)] at c2
  refine ⟨_, goes_of (k := 4) (by omega) rfl c.here (p := ⟨[32, g], [], 0, 0⟩) (by rw [p0]; rfl) (tk := 1) (by unfold tkN; rfl) (by rw [ctE_4]; exact take_ok (by omega) (by omega) p0 g8 g1 (by omega)) (done_ok c.al (by simp; omega) (by simp; omega)), ?_⟩
  dsimp only
  rw [fin_eq, takes1 M (by omega), com_cons, hol_no, lays0 _ (by rw [c2.dep]; omega)]
  exact c2
theorem st_AGAIN {M : List UInt8} {h g : Int} {S H : List Int} (c : CSt M h (S ++ [g]) H) (g8 : g % 8 = 0) (g1 : 1536 ≤ g) (g2 : g ≤ h) (hr : h + 16 ≤ 5632) : ∃ M', Goes M 117 M' ∧ CSt M' (h + 16) S H := by
  have lo := c.lo
  have hd := c.dep
  have hs := c.small
  simp only [List.length_append, List.length_cons, List.length_nil] at hd hs
  obtain ⟨c1, p0, pi⟩ := c.pop
  have c2 := c1.lay2 24 g (isI_pl (by omega) (by omega)) (by omega) pi hr
  rw [if_neg (show g ≠ 0 by omega)] at c2
  refine ⟨_, goes_of (k := 7) (by omega) rfl c.here (p := ⟨[24, g], [], 0, 0⟩) (by rw [p0]; rfl) (tk := 1) (by unfold tkN; rfl) (by rw [ctE_7]; exact take_ok (by omega) (by omega) p0 g8 g1 (by omega)) (done_ok c.al (by simp; omega) (by simp; omega)), ?_⟩
  dsimp only
  rw [fin_eq, takes1 M (by omega), com_cons, hol_no, lays0 _ (by rw [c2.dep]; omega)]
  exact c2
theorem st_LOOP {M : List UInt8} {h g : Int} {S H : List Int} (c : CSt M h (S ++ [g]) H) (g8 : g % 8 = 0) (g1 : 1536 ≤ g) (g2 : g ≤ h) (hr : h + 16 ≤ 5632) : ∃ M', Goes M 119 M' ∧ CSt M' (h + 16) S H := by
  have lo := c.lo
  have hd := c.dep
  have hs := c.small
  simp only [List.length_append, List.length_cons, List.length_nil] at hd hs
  obtain ⟨c1, p0, pi⟩ := c.pop
  have c2 := c1.lay2 48 g (isI_pl (by omega) (by omega)) (by omega) pi hr
  rw [if_neg (show g ≠ 0 by omega)] at c2
  refine ⟨_, goes_of (k := 9) (by omega) rfl c.here (p := ⟨[48, g], [], 0, 0⟩) (by rw [p0]; rfl) (tk := 1) (by unfold tkN; rfl) (by rw [ctE_9]; exact take_ok (by omega) (by omega) p0 g8 g1 (by omega)) (done_ok c.al (by simp; omega) (by simp; omega)), ?_⟩
  dsimp only
  rw [fin_eq, takes1 M (by omega), com_cons, hol_no, lays0 _ (by rw [c2.dep]; omega)]
  exact c2
theorem st_PLOOP {M : List UInt8} {h g : Int} {S H : List Int} (c : CSt M h (S ++ [g]) H) (g8 : g % 8 = 0) (g1 : 1536 ≤ g) (g2 : g ≤ h) (hr : h + 16 ≤ 5632) : ∃ M', Goes M 120 M' ∧ CSt M' (h + 16) S H := by
  have lo := c.lo
  have hd := c.dep
  have hs := c.small
  simp only [List.length_append, List.length_cons, List.length_nil] at hd hs
  obtain ⟨c1, p0, pi⟩ := c.pop
  have c2 := c1.lay2 56 g (isI_pl (by omega) (by omega)) (by omega) pi hr
  rw [if_neg (show g ≠ 0 by omega)] at c2
  refine ⟨_, goes_of (k := 10) (by omega) rfl c.here (p := ⟨[56, g], [], 0, 0⟩) (by rw [p0]; rfl) (tk := 1) (by unfold tkN; rfl) (by rw [ctE_10]; exact take_ok (by omega) (by omega) p0 g8 g1 (by omega)) (done_ok c.al (by simp; omega) (by simp; omega)), ?_⟩
  dsimp only
  rw [fin_eq, takes1 M (by omega), com_cons, hol_no, lays0 _ (by rw [c2.dep]; omega)]
  exact c2
theorem st_WHILE {M : List UInt8} {h g : Int} {S H : List Int} (c : CSt M h (S ++ [g]) H) (g8 : g % 8 = 0) (g1 : 1536 ≤ g) (g2 : g ≤ h) (hl : S.length < 31) (hr : h + 16 ≤ 5632) : ∃ M', Goes M 115 M' ∧ CSt M' (h + 16) ((S ++ [h + 8]) ++ [g]) ((h + 8) :: H) := by
  have lo := c.lo
  have hd := c.dep
  have hs := c.small
  simp only [List.length_append, List.length_cons, List.length_nil] at hd hs
  obtain ⟨c1, p0, pi⟩ := c.pop
  have c2 := c1.lay2 32 0 (isI_pl (by omega) (by omega)) (by omega) (isI_pl (by omega) (by omega)) hr
  rw [if_pos rfl] at c2
  have c3 := c2.push (h + 8) (isI_pl (by omega) (by omega)) (by omega)
  have c4 := c3.push g pi (by simp; omega)
  refine ⟨_, goes_of (k := 5) (by omega) rfl c.here (p := ⟨[32, 0], [h + 8, g], 0, 0⟩) (by rw [p0]; rfl) (tk := 1) (by unfold tkN; rfl) (by rw [ctE_5]; exact take_ok (by omega) (by omega) p0 g8 g1 (by omega)) (done_ok c.al (by simp; omega) (by simp; omega)), ?_⟩
  dsimp only
  rw [fin_eq, takes1 M (by omega), com_cons, hol_no, lays2 _ _ _ (by rw [c2.dep]; omega)]
  exact c4
theorem st_REPEAT {M : List UInt8} {h a g : Int} {S H : List Int} (c : CSt M h ((S ++ [a]) ++ [g]) (a :: H)) (g8 : g % 8 = 0) (g1 : 1536 ≤ g) (g2 : g ≤ h) (a8 : a % 8 = 0) (a1 : 1536 ≤ a) (a2 : a + 8 ≤ h) (hr : h + 16 ≤ 5632) : ∃ M', Goes M 116 M' ∧ CSt M' (h + 16) S H := by
  have lo := c.lo
  have hd := c.dep
  have hs := c.small
  simp only [List.length_append, List.length_cons, List.length_nil] at hd hs
  have p1 := c.top1
  obtain ⟨c1, p0, pi⟩ := c.pop
  obtain ⟨c1b, -, -⟩ := c1.pop
  have c2 := c1b.lay2 24 g (isI_pl (by omega) (by omega)) (by omega) pi hr
  rw [if_neg (show g ≠ 0 by omega)] at c2
  have c3 := c2.fill (t := h + 16) a1 (by omega) a8 (isI_pl (by omega) (by omega)) (by omega)
  refine ⟨_, goes_of (k := 6) (by omega) rfl c.here (p := ⟨[24, g], [], a, h + 16⟩) (by rw [p0, p1]; rfl) (tk := 2) (by unfold tkN; rfl) (by
    rw [ctE_6, if_neg (by omega), if_pos (take_ok (by omega) (by omega) p0 g8 g1 (by omega))]
    exact take_ok (by omega) (by omega) p1 a8 a1 (by omega)) (done_ok c.al (by simp; omega) (by simp; omega)), ?_⟩
  dsimp only
  rw [fin_eq, takes2 M (by omega), com_cons, hol_at _ (by omega), lays0 _ (by rw [c3.dep]; omega)]
  exact c3
/-- Words, one behind the other, that all go. -/
def runM (M : List UInt8) (ws : List Int) : List UInt8 := ws.foldl ctlM M
def runOk : List Int → List UInt8 → Prop
  | [], _ => True
  | n :: ws, M => ctlV M n = 0 ∧ runOk ws (ctlM M n)
theorem runM_app (M : List UInt8) (a b : List Int) : runM M (a ++ b) = runM (runM M a) b := List.foldl_append
theorem runM_one (M : List UInt8) (n : Int) : runM M [n] = ctlM M n := by unfold runM; rw [List.foldl_cons, List.foldl_nil]
theorem runM_cons (M : List UInt8) (n : Int) (ws : List Int) : runM M (n :: ws) = runM (ctlM M n) ws := by unfold runM; rw [List.foldl_cons]
theorem runOk_app : ∀ (a b : List Int) (M : List UInt8), runOk a M → runOk b (runM M a) → runOk (a ++ b) M
  | [], b, M, _, h => h
  | n :: a, b, M, h1, h2 => ⟨h1.1, runOk_app a b _ h1.2 (by rw [runM_cons] at h2; exact h2)⟩
theorem Goes.run {M M' : List UInt8} {n : Int} (h : Goes M n M') : runOk [n] M ∧ runM M [n] = M' := ⟨⟨h.1, trivial⟩, by rw [runM_one]; exact h.2⟩
theorem Goes.cons {M M1 : List UInt8} {n : Int} {ws : List Int} (h : Goes M n M1) (h2 : runOk ws M1) : runOk (n :: ws) M ∧ runM M (n :: ws) = runM M1 ws := by
  obtain ⟨h1, rfl⟩ := h
  exact ⟨⟨h1, h2⟩, runM_cons _ _ _⟩
/-- A structure's words. -/
def pieceN (n : Int) : List Int := if n = 0 then [110, 112] else if n = 1 then [110, 111, 112] else if n = 2 then [113, 114] else if n = 3 then [113, 115, 116] else if n = 4 then [113, 117] else if n = 5 then [118, 119] else [118, 120]
def nestN : List Int → List Int
  | [] => []
  | n :: l => (pieceN n).dropLast ++ nestN l ++ [(pieceN n).getLastD 0]
theorem nest_ok : ∀ (l : List Int) (M : List UInt8) (h : Int) (S H : List Int), CSt M h S H → S.length + 2 * l.length ≤ 32 → h + 48 * (l.length : Int) ≤ 5632 →
    runOk (nestN l) M ∧ ∃ h', CSt (runM M (nestN l)) h' S H ∧ h ≤ h' ∧ h' ≤ h + 48 * (l.length : Int)
  | [], M, h, S, H, c, _, _ => ⟨trivial, h, c, by omega, by simp⟩
  | n :: l, M, h, S, H, c, hS, hr => by
    simp only [List.length_cons] at hS hr
    have h8 := c.al
    have lo := c.lo
    have fin : ∀ (i : List Int) (z : Int) (M1 : List UInt8) (h1 : Int) (S1 H1 : List Int), runOk i M → runM M i = M1 → CSt M1 h1 S1 H1 → h ≤ h1 → h1 ≤ h + 32 → S1.length ≤ S.length + 2 →
        (∀ (M2 : List UInt8) (h2 : Int), CSt M2 h2 S1 H1 → h1 ≤ h2 → h2 + 16 ≤ 5632 → ∃ M3 h3, Goes M2 z M3 ∧ CSt M3 h3 S H ∧ h2 ≤ h3 ∧ h3 ≤ h2 + (h + 48 - h1)) →
        runOk (i ++ nestN l ++ [z]) M ∧ ∃ h', CSt (runM M (i ++ nestN l ++ [z])) h' S H ∧ h ≤ h' ∧ h' ≤ h + 48 * ((l.length + 1 : Nat) : Int) := by
      intro i z M1 h1 S1 H1 r1 e1 c1 b1 b2 bS hz
      obtain ⟨r2, h2, c2, b3, b4⟩ := nest_ok l M1 h1 S1 H1 c1 (by omega) (by omega)
      obtain ⟨M3, h3, g3, c3, b5, b6⟩ := hz _ h2 c2 b3 (by omega)
      obtain ⟨r3, e3⟩ := g3.run
      have q1 := runOk_app i (nestN l) M r1 (by rw [e1]; exact r2)
      have em : runM M (i ++ nestN l) = runM M1 (nestN l) := by rw [runM_app, e1]
      refine ⟨runOk_app _ _ _ q1 (by rw [em]; exact r3), h3, ?_, by omega, by omega⟩
      rw [runM_app, em, e3]
      exact c3
    unfold nestN pieceN
    split
    · obtain ⟨M1, g1, c1⟩ := st_IF c (by omega) (by omega)
      obtain ⟨r1, e1⟩ := g1.run
      exact fin [110] 112 M1 _ _ _ r1 e1 c1 (by omega) (by omega) (by simp) (fun M2 h2 c2 b1 b2 => by
        obtain ⟨M3, g3, c3, -⟩ := st_THEN c2 (by omega) (by omega) (by omega)
        exact ⟨M3, h2, g3, c3, by omega, by omega⟩)
    split
    · obtain ⟨M1, g1, c1⟩ := st_IF c (by omega) (by omega)
      obtain ⟨M2, g2, c2⟩ := st_ELSE c1 (by omega) (by omega) (by omega) (by omega)
      obtain ⟨r2, e2⟩ := g2.run
      obtain ⟨r1, e1⟩ := g1.cons r2
      exact fin [110, 111] 112 M2 _ _ _ r1 (e1.trans e2) c2 (by omega) (by omega) (by simp) (fun M2 h2 c2 b1 b2 => by
        obtain ⟨M3, g3, c3, -⟩ := st_THEN c2 (by omega) (by omega) (by omega)
        exact ⟨M3, h2, g3, c3, by omega, by omega⟩)
    split
    · obtain ⟨M1, g1, c1⟩ := st_BEGIN c (by omega)
      obtain ⟨r1, e1⟩ := g1.run
      exact fin [113] 114 M1 _ _ _ r1 e1 c1 (by omega) (by omega) (by simp) (fun M2 h2 c2 b1 b2 => by
        obtain ⟨M3, g3, c3⟩ := st_UNTIL c2 (by omega) (by omega) (by omega) (by omega)
        exact ⟨M3, _, g3, c3, by omega, by omega⟩)
    split
    · obtain ⟨M1, g1, c1⟩ := st_BEGIN c (by omega)
      obtain ⟨M2, g2, c2⟩ := st_WHILE c1 (by omega) (by omega) (by omega) (by omega) (by omega)
      obtain ⟨r2, e2⟩ := g2.run
      obtain ⟨r1, e1⟩ := g1.cons r2
      exact fin [113, 115] 116 M2 _ _ _ r1 (e1.trans e2) c2 (by omega) (by omega) (by simp) (fun M2 h2 c2 b1 b2 => by
        obtain ⟨M3, g3, c3⟩ := st_REPEAT c2 (by omega) (by omega) (by omega) (by omega) (by omega) (by omega) (by omega)
        exact ⟨M3, _, g3, c3, by omega, by omega⟩)
    split
    · obtain ⟨M1, g1, c1⟩ := st_BEGIN c (by omega)
      obtain ⟨r1, e1⟩ := g1.run
      exact fin [113] 117 M1 _ _ _ r1 e1 c1 (by omega) (by omega) (by simp) (fun M2 h2 c2 b1 b2 => by
        obtain ⟨M3, g3, c3⟩ := st_AGAIN c2 (by omega) (by omega) (by omega) (by omega)
        exact ⟨M3, _, g3, c3, by omega, by omega⟩)
    split
    · obtain ⟨M1, g1, c1⟩ := st_DO c (by omega) (by omega)
      obtain ⟨r1, e1⟩ := g1.run
      exact fin [118] 119 M1 _ _ _ r1 e1 c1 (by omega) (by omega) (by simp) (fun M2 h2 c2 b1 b2 => by
        obtain ⟨M3, g3, c3⟩ := st_LOOP c2 (by omega) (by omega) (by omega) (by omega)
        exact ⟨M3, _, g3, c3, by omega, by omega⟩)
    · obtain ⟨M1, g1, c1⟩ := st_DO c (by omega) (by omega)
      obtain ⟨r1, e1⟩ := g1.run
      exact fin [118] 120 M1 _ _ _ r1 e1 c1 (by omega) (by omega) (by simp) (fun M2 h2 c2 b1 b2 => by
        obtain ⟨M3, g3, c3⟩ := st_PLOOP c2 (by omega) (by omega) (by omega) (by omega)
        exact ⟨M3, _, g3, c3, by omega, by omega⟩)
end Go.Proofs.Ytkcmphjgflbchaa

/- 'awake', 'ControlFails'. -/
namespace Go.Proofs.Ytkcmphjgflbchaa
open Go.RowKit
set_option linter.unusedVariables false
set_option linter.unusedSimpArgs false
attribute [local go_sem] cell_set set_set m_undef
attribute [local irreducible] cells19 cells20 rowL tabL

theorem num_IF : numOf (large ⟨#[73, 70]⟩).data.toList = 110 := by kernel_rfl
theorem num_THEN : numOf (large ⟨#[84, 72, 69, 78]⟩).data.toList = 112 := by kernel_rfl
theorem rFindIF (w : World) : Calls Try.prog 18 #[.string ⟨#[73, 70]⟩] w fun e w' => e = .returned (.int .i64 110) ∧ Below w.heap.size w w' := by
  have h := rFind ⟨#[73, 70]⟩ (by decide) w
  rw [num_IF] at h
  exact h
theorem rFindTHEN (w : World) : Calls Try.prog 18 #[.string ⟨#[84, 72, 69, 78]⟩] w fun e w' => e = .returned (.int .i64 112) ∧ Below w.heap.size w w' := by
  have h := rFind ⟨#[84, 72, 69, 78]⟩ (by decide) w
  rw [num_THEN] at h
  exact h
theorem zero_CSt : CSt (flatL []) 1536 [] [] := ⟨cz_here, by omega, by omega, by omega, stk_zero.1, fun a a1 a2 a3 a4 => by omega⟩
theorem awake_law : ∃ M1 M2, Goes (flatL []) 110 M1 ∧ getM M1 504 = 1544 ∧ Goes M1 112 M2 ∧ getM M2 1544 = 1552 := by
  obtain ⟨M1, g1, c1⟩ := st_IF zero_CSt (by simp) (by omega)
  have e1 := (c1.stk.cell 0 _ rfl).1
  obtain ⟨M2, g2, -, e2⟩ := st_THEN c1 (by omega) (by omega) (by omega)
  exact ⟨M1, M2, g1, e1, g2, e2⟩
theorem ctl_same {M : List UInt8} {n : Int} (h : ctlV M n ≠ 0) : ctlM M n = M := by
  unfold ctlV ctlM at *
  cases hc : isC n with
  | false => exact if_neg (by decide)
  | true =>
    rw [hc, if_pos rfl] at h
    rw [if_pos rfl, if_neg h]
attribute [local irreducible] ctlV ctlM
set_option maxRecDepth 100000 in
set_option maxHeartbeats 1000000 in
theorem wAwakeC (w : World) : Calls Try.prog 6 #[] w fun e w' => e = .returned (.bool true) ∧ Below w.heap.size w w' := by
  obtain ⟨M1, M2, ⟨v1, m1⟩, g1, ⟨v2, m2⟩, g2⟩ := awake_law
  have hF1 := fun (w9 : World) => wFlat w9 0 (.slice none 0 0) [] (Bs.nil _ _)
  unfold FlatQ at hF1
  generalize flatL [] = M0 at *
  have hD1 := fun (w9 : World) (B mb : Nat) (O : Nat → Prop) (h : MemP w9 B mb M0 O) (hb : B ≤ w9.heap.size) => kDo h hb 110
  rw [v1, m1] at hD1
  have hG1 := fun (w9 : World) (B mb : Nat) (O : Nat → Prop) (h : MemP w9 B mb M1 O) (hb : B ≤ w9.heap.size) => mGet h hb 504 (by unfold isI; omega)
  rw [g1] at hG1
  have hD2 := fun (w9 : World) (B mb : Nat) (O : Nat → Prop) (h : MemP w9 B mb M1 O) (hb : B ≤ w9.heap.size) => kDo h hb 112
  rw [v2, m2] at hD2
  have hG2 := fun (w9 : World) (B mb : Nat) (O : Nat → Prop) (h : MemP w9 B mb M2 O) (hb : B ≤ w9.heap.size) => mGet h hb 1544 (by unfold isI; omega)
  rw [g2] at hG2
  have hIs := fun (w9 : World) => wIsC 110 w9
  rw [show isC 110 = true from rfl] at hIs
  have hf1 := Lib.hid (fun (w9 : World) => rFindIF w9)
  have hf2 := Lib.hid (fun (w9 : World) => rFindTHEN w9)
  replace hF1 := Lib.hid hF1
  replace hD1 := Lib.hid hD1
  replace hD2 := Lib.hid hD2
  replace hG1 := Lib.hid hG1
  replace hG2 := Lib.hid hG2
  replace hIs := Lib.hid hIs
  clear v1 m1 v2 m2 g1 g2
  go_enter Try.func6, Try.ntmps6
  go_wp2_with (first
    | (go_at_call 7; refine (hF1.out _).mono ?_; rintro e w2 ⟨mb, O2, rfl, hP2, hb2⟩; have hT := Uno.make (Below.refl _ _) (Keep.emp _ _) hP2 hb2; clear hP2 hb2)
    | (go_at_call_of 18 (⟨#[73, 70]⟩ : ByteArray); refine (hT.still (hf1.out _)).mono ?_; rintro e w3 ⟨rfl, hT2⟩; clear hT; have hT := hT2; clear hT2)
    | (go_at_call_of 18 (⟨#[84, 72, 69, 78]⟩ : ByteArray); refine (hT.still (hf2.out _)).mono ?_; rintro e w3 ⟨rfl, hT2⟩; clear hT; have hT := hT2; clear hT2)
    | (go_at_call_of 12 (110 : Int); refine (hT.mem (fun B O h hb => hD1.out _ _ _ _ h hb)).mono ?_; rintro e w4 ⟨rfl, hT2⟩; clear hT; have hT := hT2; clear hT2)
    | (go_at_call_of 12 (112 : Int); refine (hT.mem (fun B O h hb => hD2.out _ _ _ _ h hb)).mono ?_; rintro e w4 ⟨rfl, hT2⟩; clear hT; have hT := hT2; clear hT2)
    | (go_at_call_of 19 (504 : Int); refine (hT.mem (fun B O h hb => hG1.out _ _ _ _ h hb)).mono ?_; rintro e w5 ⟨rfl, hT2⟩; clear hT; have hT := hT2; clear hT2)
    | (go_at_call_of 19 (1544 : Int); refine (hT.mem (fun B O h hb => hG2.out _ _ _ _ h hb)).mono ?_; rintro e w5 ⟨rfl, hT2⟩; clear hT; have hT := hT2; clear hT2)
    | (go_at_call 14; refine (hT.still (hIs.out _)).mono ?_; rintro e w6 ⟨rfl, hT2⟩; clear hT; have hT := hT2; clear hT2))
  go_ret
  exact ⟨rfl, hT.bel⟩
theorem bs_strC {w : World} {v : Value} {l : List UInt8} (h : Bs w 0 v l) : (convert 22 9 v).run Try.prog w = .ok (.string ⟨l.toArray⟩) w := h.str Try.underlying22 Try.underlying5 Try.underlying9
set_option maxRecDepth 100000 in
set_option maxHeartbeats 1000000 in
theorem controlFails {w : World} (v : Value) (l : List UInt8) (h : Rb w v l) (n : Int) (_ : isI n) : Calls Try.prog 5 #[v, .int .i64 n] w fun e w' => e = .returned (.bool true) ∧ Below w.heap.size w w' := by
  obtain ⟨ad, cap, rfl⟩ := h.form
  have hA := Lib.hid (fun w9 => wAwakeC w9)
  by_cases hl : 9000 < l.length
  · clear h
    have t1 : ((9000 : Int) < (l.length : Int)) = True := by simp; omega
    go_enter Try.func5, Try.ntmps5
    go_wp2_with (go_at_call 6; refine (hA.out _).mono ?_; rintro e w1 ⟨rfl, hb1⟩)
    go_ret
    exact ⟨rfl, hb1⟩
  have t1 : ((9000 : Int) < (l.length : Int)) = False := by simp; omega
  have hF1 := fun (w9 : World) (h9 : Rb w9 (.slice ad l.length cap) l) => wFlatR w9 _ l h9
  unfold FlatQ at hF1
  generalize flatL l = M at *
  have hD := fun (w9 : World) (B mb : Nat) (O : Nat → Prop) (h : MemP w9 B mb M O) (hb : B ≤ w9.heap.size) => kDo h hb n
  have hsm := @ctl_same M n
  generalize ctlV M n = t at *
  generalize ctlM M n = M' at *
  replace h := Lib.hid h
  replace hF1 := Lib.hid hF1
  clear hl
  by_cases ht : t = 0
  · subst ht
    replace hD := Lib.hid hD
    clear hsm
    go_enter Try.func5, Try.ntmps5
    go_wp2_with (first
      | (go_at_call 6; refine (hA.out _).mono ?_; rintro e w1 ⟨rfl, hb1⟩; have h1 := Lib.hid (h.out.below hb1); replace hb1 := Lib.hid hb1)
      | (go_at_call 7; refine (hF1.out _ h1.out).mono ?_; rintro e w2 ⟨mb, O2, rfl, hP2, hb2⟩; have hT := Uno.make hb1.out (Keep.emp _ _) hP2 hb2; clear hP2 hb2)
      | (go_at_call 16; refine (hT.load (fun B O h hb => mBytes h hb)).mono ?_; rintro e w3 ⟨v3, rfl, hT2⟩; clear hT; have hT := hT2; clear hT2; have hst := bs_strC hT.fact.2; replace hT := hT.weak)
      | (go_at_call 12; refine (hT.mem (fun B O h hb => hD.out _ _ _ _ h hb)).mono ?_; rintro e w4 ⟨rfl, hT2⟩; clear hT; have hT := hT2; clear hT2))
    go_ret
    exact ⟨rfl, hT.bel⟩
  · have t2 : (t == 0) = false := by simp; exact ht
    rw [hsm ht] at hD
    replace hD := Lib.hid hD
    clear hsm ht
    go_enter Try.func5, Try.ntmps5
    go_wp2_with (first
      | (go_at_call 6; refine (hA.out _).mono ?_; rintro e w1 ⟨rfl, hb1⟩; have h1 := Lib.hid (h.out.below hb1); replace hb1 := Lib.hid hb1)
      | (go_at_call 7; refine (hF1.out _ h1.out).mono ?_; rintro e w2 ⟨mb, O2, rfl, hP2, hb2⟩; have hT := Uno.make hb1.out (Keep.emp _ _) hP2 hb2; clear hP2 hb2)
      | (go_at_call 16; refine (hT.load (fun B O h hb => mBytes h hb)).mono ?_; rintro e w3 ⟨v3, rfl, hT2⟩; clear hT; have hT := hT2; clear hT2; have hst := bs_strC hT.fact.2; replace hT := hT.weak)
      | (go_at_call 12; refine (hT.mem (fun B O h hb => hD.out _ _ _ _ h hb)).mono ?_; rintro e w4 ⟨rfl, hT2⟩; clear hT; have hT := hT2; clear hT2))
    go_ret
    exact ⟨rfl, hT.bel⟩
end Go.Proofs.Ytkcmphjgflbchaa
