/- Throws are caught: the deferred function, and what runs under it. -/
import Derived.Test.YtmanjadnagfhpaaA13
namespace Go.Proofs.Ytmanjadnagfhpaa
open Go.RowKit
set_option linter.unusedVariables false
set_option linter.unusedSimpArgs false
attribute [local go_sem ↓] Go.wp_at_zero Go.wp_at_succ
attribute [local go_sem] cell_set set_set
attribute [local go_sem high] eql24 neq24 grd24

theorem bel_setN {N : Nat} {W w : World} (h : Below N W w) {b o : Nat} (hb : N ≤ b) (v : Value) : Below N W (w.setCell ⟨b, o, none⟩ v) := h.setCell (p := ⟨b, o, none⟩) hb v
theorem assert62 (v : Value) (w : World) : (Instr.typeAssert (.iface 62 v) 20 62 true).run Try.prog w = .ok (.tuple #[v, .bool true]) w := by
  have h := Try.underlying62
  simp [Instr.typeAssert, go_sem, h]
attribute [local go_sem] assert62
theorem bodyPostS_of {P : Program} {fn : Func} {c₀ : Frame} {cs cs' : List Frame} {R : Ending → FrameMode → World → Prop} {u' : FrameMode} (hcs : cs' = { c₀ with mode := u' } :: cs) (e : Exit) (a : Act) (w : World)
    (h : bodyPost P fn (fun e w => R e u' w) e a w) : bodyPostS P fn c₀ cs R e a cs' w := by
  cases e with
  | normal => obtain ⟨h1, v, h2, h3⟩ := h; exact ⟨h1, u', hcs, v, h2, h3⟩
  | ret => obtain ⟨h1, v, h2, h3⟩ := h; exact ⟨h1, u', hcs, v, h2, h3⟩
  | panic chain => exact ⟨h.1, u', hcs, h.2⟩
  | outgrown => exact ⟨u', h⟩
  | _ => exact h
theorem wpS_plain {P : Program} {fn : Func} {c : Code} {c₀ : Frame} {cs cs' : List Frame} {R : Ending → FrameMode → World → Prop} {u' : FrameMode} {a : Act} {w : World} (hcs : cs' = { c₀ with mode := u' } :: cs)
    (h : c.wp P (bodyPost P fn (fun e w => R e u' w)) a w) : c.wpS P (bodyPostS P fn c₀ cs R) a cs' w := by
  exact wpS_of_wp (wp_mono h fun e a w hq => bodyPostS_of hcs e a w hq)
set_option maxHeartbeats 200000 in
theorem catch_u (N : Nat) (x y z n : Int) (w : World) (h0 : Blk w N #[.int .u64 x] 22) (h1 : Blk w (N + 1) #[.int .u64 y] 22) (h2 : Blk w (N + 1 + 1) #[.int .i64 z] 3) :
    CallsD Try.prog 49 #[.pointer (some ⟨N, 0, none⟩), .pointer (some ⟨N + 1, 0, none⟩), .pointer (some ⟨N + 1 + 1, 0, none⟩)] (.panicking [{ v := TV n, recovered := false }]) w fun e u' w' =>
      e = .returned (.tuple #[]) ∧ u' = .panicking [{ v := TV n, recovered := true }] ∧ (Blk w' N #[.int .u64 0] 22 ∧ Blk w' (N + 1) #[.int .u64 0] 22 ∧ Blk w' (N + 1 + 1) #[.int .i64 n] 3) ∧ Below N w w' := by
  obtain ⟨a1, a2, a3⟩ := h0.one
  obtain ⟨b1, b2, b3⟩ := h1.one
  obtain ⟨c1, c2, c3⟩ := h2.one
  refine callsD_of_wpS Try.func49 rfl fun c₀ cs hu => ?_
  simp only [Try.ntmps49, List.size_toArray, List.length_cons, List.length_nil, Nat.reduceAdd, Nat.reduceSub, Array.replicate_succ, Array.replicate_zero, List.push_toArray, List.append_toArray, List.nil_append, List.cons_append]
  apply wpS_seq
  apply wpS_region
  simp [wpOpsS, go_sem, recoverD, hu, Exit.thenS]
  refine wpS_plain (u' := .panicking [{ v := TV n, recovered := true }]) rfl ?_
  clear hu
  go_wp2_with fail
  go_region
  all_goals
    go_wp2
    go_end0
    refine ⟨rfl, ⟨by repeat (first | (with_reducible assumption) | (with_reducible refine Blk.new' ?_; first | rfl | (simp; done) | (simp; omega)) | (with_reducible apply Blk.set01) | (with_reducible apply Blk.set0) | (with_reducible apply Blk.set1) | (with_reducible apply Blk.setOne) | (with_reducible refine Blk.set_other ?_ (by omega) _ _) | (with_reducible apply Blk.alloc) | (with_reducible apply Blk.drew) | (with_reducible refine Blk.below ?_ (by with_reducible assumption))), by repeat (first | (with_reducible assumption) | (with_reducible refine Blk.new' ?_; first | rfl | (simp; done) | (simp; omega)) | (with_reducible apply Blk.set01) | (with_reducible apply Blk.set0) | (with_reducible apply Blk.set1) | (with_reducible apply Blk.setOne) | (with_reducible refine Blk.set_other ?_ (by omega) _ _) | (with_reducible apply Blk.alloc) | (with_reducible apply Blk.drew) | (with_reducible refine Blk.below ?_ (by with_reducible assumption))), by repeat (first | (with_reducible assumption) | (with_reducible refine Blk.new' ?_; first | rfl | (simp; done) | (simp; omega)) | (with_reducible apply Blk.set01) | (with_reducible apply Blk.set0) | (with_reducible apply Blk.set1) | (with_reducible apply Blk.setOne) | (with_reducible refine Blk.set_other ?_ (by omega) _ _) | (with_reducible apply Blk.alloc) | (with_reducible apply Blk.drew) | (with_reducible refine Blk.below ?_ (by with_reducible assumption)))⟩, by repeat (first | (with_reducible exact Below.refl _ _) | (with_reducible apply Below.drew) | (with_reducible refine Below.alloc ?_ (by simp; omega) _) | (with_reducible refine bel_setN ?_ (by first | exact Nat.le_refl _ | omega) _))⟩
theorem idle_u (N : Nat) (w : World) :
    CallsD Try.prog 49 #[.pointer (some ⟨N, 0, none⟩), .pointer (some ⟨N + 1, 0, none⟩), .pointer (some ⟨N + 1 + 1, 0, none⟩)] .returning w fun e u' w' => e = .returned (.tuple #[]) ∧ u' = .returning ∧ w' = w := by
  refine callsD_of_wpS Try.func49 rfl fun c₀ cs hu => ?_
  simp only [Try.ntmps49, List.size_toArray, List.length_cons, List.length_nil, Nat.reduceAdd, Nat.reduceSub, Array.replicate_succ, Array.replicate_zero, List.push_toArray, List.append_toArray, List.nil_append, List.cons_append]
  apply wpS_seq
  apply wpS_region
  simp [wpOpsS, go_sem, recoverD, hu, Exit.thenS]
  refine wpS_plain (u' := .returning) (by cases c₀; simp_all) ?_
  go_wp2
  go_end0
  first | exact ⟨rfl, rfl, rfl⟩ | simp
set_option maxHeartbeats 200000 in
theorem catch_i (N : Nat) (x y z n : Int) (w : World) (h0 : Blk w N #[.int .i64 x] 2) (h1 : Blk w (N + 1) #[.int .i64 y] 2) (h2 : Blk w (N + 1 + 1) #[.int .i64 z] 3) :
    CallsD Try.prog 52 #[.pointer (some ⟨N, 0, none⟩), .pointer (some ⟨N + 1, 0, none⟩), .pointer (some ⟨N + 1 + 1, 0, none⟩)] (.panicking [{ v := TV n, recovered := false }]) w fun e u' w' =>
      e = .returned (.tuple #[]) ∧ u' = .panicking [{ v := TV n, recovered := true }] ∧ (Blk w' N #[.int .i64 0] 2 ∧ Blk w' (N + 1) #[.int .i64 0] 2 ∧ Blk w' (N + 1 + 1) #[.int .i64 n] 3) ∧ Below N w w' := by
  obtain ⟨a1, a2, a3⟩ := h0.one
  obtain ⟨b1, b2, b3⟩ := h1.one
  obtain ⟨c1, c2, c3⟩ := h2.one
  refine callsD_of_wpS Try.func52 rfl fun c₀ cs hu => ?_
  simp only [Try.ntmps52, List.size_toArray, List.length_cons, List.length_nil, Nat.reduceAdd, Nat.reduceSub, Array.replicate_succ, Array.replicate_zero, List.push_toArray, List.append_toArray, List.nil_append, List.cons_append]
  apply wpS_seq
  apply wpS_region
  simp [wpOpsS, go_sem, recoverD, hu, Exit.thenS]
  refine wpS_plain (u' := .panicking [{ v := TV n, recovered := true }]) rfl ?_
  clear hu
  go_wp2_with fail
  go_region
  all_goals
    go_wp2
    go_end0
    refine ⟨rfl, ⟨by repeat (first | (with_reducible assumption) | (with_reducible refine Blk.new' ?_; first | rfl | (simp; done) | (simp; omega)) | (with_reducible apply Blk.set01) | (with_reducible apply Blk.set0) | (with_reducible apply Blk.set1) | (with_reducible apply Blk.setOne) | (with_reducible refine Blk.set_other ?_ (by omega) _ _) | (with_reducible apply Blk.alloc) | (with_reducible apply Blk.drew) | (with_reducible refine Blk.below ?_ (by with_reducible assumption))), by repeat (first | (with_reducible assumption) | (with_reducible refine Blk.new' ?_; first | rfl | (simp; done) | (simp; omega)) | (with_reducible apply Blk.set01) | (with_reducible apply Blk.set0) | (with_reducible apply Blk.set1) | (with_reducible apply Blk.setOne) | (with_reducible refine Blk.set_other ?_ (by omega) _ _) | (with_reducible apply Blk.alloc) | (with_reducible apply Blk.drew) | (with_reducible refine Blk.below ?_ (by with_reducible assumption))), by repeat (first | (with_reducible assumption) | (with_reducible refine Blk.new' ?_; first | rfl | (simp; done) | (simp; omega)) | (with_reducible apply Blk.set01) | (with_reducible apply Blk.set0) | (with_reducible apply Blk.set1) | (with_reducible apply Blk.setOne) | (with_reducible refine Blk.set_other ?_ (by omega) _ _) | (with_reducible apply Blk.alloc) | (with_reducible apply Blk.drew) | (with_reducible refine Blk.below ?_ (by with_reducible assumption)))⟩, by repeat (first | (with_reducible exact Below.refl _ _) | (with_reducible apply Below.drew) | (with_reducible refine Below.alloc ?_ (by simp; omega) _) | (with_reducible refine bel_setN ?_ (by first | exact Nat.le_refl _ | omega) _))⟩
theorem idle_i (N : Nat) (w : World) :
    CallsD Try.prog 52 #[.pointer (some ⟨N, 0, none⟩), .pointer (some ⟨N + 1, 0, none⟩), .pointer (some ⟨N + 1 + 1, 0, none⟩)] .returning w fun e u' w' => e = .returned (.tuple #[]) ∧ u' = .returning ∧ w' = w := by
  refine callsD_of_wpS Try.func52 rfl fun c₀ cs hu => ?_
  simp only [Try.ntmps52, List.size_toArray, List.length_cons, List.length_nil, Nat.reduceAdd, Nat.reduceSub, Array.replicate_succ, Array.replicate_zero, List.push_toArray, List.append_toArray, List.nil_append, List.cons_append]
  apply wpS_seq
  apply wpS_region
  simp [wpOpsS, go_sem, recoverD, hu, Exit.thenS]
  refine wpS_plain (u' := .returning) (by cases c₀; simp_all) ?_
  go_wp2
  go_end0
  first | exact ⟨rfl, rfl, rfl⟩ | simp
end Go.Proofs.Ytmanjadnagfhpaa
