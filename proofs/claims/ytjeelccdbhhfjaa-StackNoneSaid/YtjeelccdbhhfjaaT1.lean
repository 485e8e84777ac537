/- One stack: its top. -/
import Derived.Test.YtjeelccdbhhfjaaSP
import Derived.Test.YtjeelccdbhhfjaaVS
namespace Go.Proofs.Ytjeelccdbhhfjaa
open Go.RowKit
set_option linter.unusedVariables false
set_option linter.unusedSimpArgs false
attribute [local go_sem] cell_set set_set m_undef

theorem Blk.c6 {w : World} {b : Nat} {x y z u v s : Value} {t : TypeId} (h : Blk w b #[x, y, z, u, v, s] t) : w.cell? ⟨b, 0, none⟩ = some x ∧ w.cell? ⟨b, 1, none⟩ = some y ∧ w.cell? ⟨b, 2, none⟩ = some z ∧ w.cell? ⟨b, 3, none⟩ = some u ∧ w.cell? ⟨b, 4, none⟩ = some v ∧ w.cell? ⟨b, 5, none⟩ = some s :=
  ⟨h.cell 0, h.cell 1, h.cell 2, h.cell 3, h.cell 4, h.cell 5⟩
/-- The struct of a stack, by value. -/
def skC (mb : Nat) (a lo hi ov un : Int) : Array Value := #[.pointer (some ⟨mb, 0, none⟩), .int .i64 a, .int .i64 lo, .int .i64 hi, .int .i64 ov, .int .i64 un]
theorem skEnter {w : World} {B mb : Nat} {M : List UInt8} {O : Nat → Prop} (h : MemP w B mb M O) (hB : B ≤ w.heap.size) (a lo hi ov un : Int) :
    ∃ w0, w0 = w.alloc (.cells #[.pointer (some ⟨mb, 0, none⟩), .int .i64 a, .int .i64 lo, .int .i64 hi, .int .i64 ov, .int .i64 un] 60) ∧ One w w0 B mb M O (.blk w.heap.size #[.pointer (some ⟨mb, 0, none⟩), .int .i64 a, .int .i64 lo, .int .i64 hi, .int .i64 ov, .int .i64 un] 60) :=
  ⟨_, rfl, ((One.start h hB).new _ _).last⟩
set_option maxHeartbeats 1000000 in
theorem mTop {w : World} {B mb : Nat} {M : List UInt8} {O : Nat → Prop} (h : MemP w B mb M O) (hB : B ≤ w.heap.size) (a lo hi ov un : Int) (hk : Sk a lo hi) :
    Calls Try.prog 60 #[.agg #[.pointer (some ⟨mb, 0, none⟩), .int .i64 a, .int .i64 lo, .int .i64 hi, .int .i64 ov, .int .i64 un]] w fun e w' => MemQ w w' B mb M O (.int .i64 (topL M a lo hi)) e := by
  obtain ⟨b1, b2, b3, b4, b5, b6, b7, b8, b9⟩ := topL_bd (M := M) hk
  have hai : isI a := by unfold isI; omega
  obtain ⟨w0, hw0, hS0⟩ := skEnter h hB a lo hi ov un
  have hG := Lib.hid (hS0.mem (fun O h hb => mGet h hb a hai))
  unfold topL
  obtain ⟨g, hg⟩ : ∃ g, g = getM M a := ⟨_, rfl⟩
  have hgi : isI g := by rw [hg]; unfold getM cellL isI; rw [IntKind.wrap_i64]; omega
  rw [← hg] at hG ⊢
  have hrm : g.tmod 8 = 0 ↔ g % 8 = 0 := ⟨fun h => Int.emod_eq_zero_of_dvd (Int.dvd_of_tmod_eq_zero h), fun h => Int.tmod_eq_zero_of_dvd (Int.dvd_of_emod_eq_zero h)⟩
  obtain ⟨y1, y2, y3, y4, y5, y6⟩ := hS0.fact.c6
  clear hS0
  have k1 : isI lo := by unfold isI; omega
  unfold isI at hgi
  by_cases c1 : g % 8 = 0
  · have t1 : (g.tmod 8 != 0) = false := by rw [hrm.2 c1]; rfl
    by_cases c2 : lo ≤ g
    · have t2 : (g < lo) = False := by simp; omega
      by_cases c3 : g ≤ hi
      · have t3 : (hi < g) = False := by simp; omega
        rw [if_pos ⟨c1, c2, c3⟩]
        have w1 : IntKind.i64.wrap g = g := by rw [IntKind.wrap_i64]; omega
        clear c1 c2 c3 hrm b1 b2 b3 b4 b5 b6 b7 b8 b9 hg hgi k1 h
        go_enter Try.func60, Try.ntmps60
        go_upto_region 1 with fail
        rw [← hw0]
        clear hw0
        go_wp2_with (go_at_call 30; refine hG.out.mono ?_; rintro e w1 ⟨rfl, hS1⟩; clear y1 y2 y3 y4 y5 y6; obtain ⟨y1, y2, y3, y4, y5, y6⟩ := hS1.fact.c6)
        go_ret
        exact hS1.memQ _
      · have t3 : (hi < g) = True := by simp; omega
        rw [if_neg (fun h => c3 h.2.2)]
        clear c1 c2 c3 hrm b1 b2 b3 b4 b5 b6 b7 b8 b9 hg hgi k1 h
        go_enter Try.func60, Try.ntmps60
        go_upto_region 1 with fail
        rw [← hw0]
        clear hw0
        go_wp2_with (go_at_call 30; refine hG.out.mono ?_; rintro e w1 ⟨rfl, hS1⟩; clear y1 y2 y3 y4 y5 y6; obtain ⟨y1, y2, y3, y4, y5, y6⟩ := hS1.fact.c6)
        go_ret
        exact hS1.memQ _
    · have t2 : (g < lo) = True := by simp; omega
      rw [if_neg (fun h => c2 h.2.1)]
      clear c1 c2 hrm b1 b2 b3 b4 b5 b6 b7 b8 b9 hg hgi k1 h
      go_enter Try.func60, Try.ntmps60
      go_upto_region 1 with fail
      rw [← hw0]
      clear hw0
      go_wp2_with (go_at_call 30; refine hG.out.mono ?_; rintro e w1 ⟨rfl, hS1⟩; clear y1 y2 y3 y4 y5 y6; obtain ⟨y1, y2, y3, y4, y5, y6⟩ := hS1.fact.c6)
      go_ret
      exact hS1.memQ _
  · have t1 : (g.tmod 8 != 0) = true := by rw [bne_iff_ne]; exact fun e => c1 (hrm.1 e)
    rw [if_neg (fun h => c1 h.1)]
    clear c1 hrm b1 b2 b3 b4 b5 b6 b7 b8 b9 hg hgi k1 h
    go_enter Try.func60, Try.ntmps60
    go_upto_region 1 with fail
    rw [← hw0]
    clear hw0
    go_wp2_with (go_at_call 30; refine hG.out.mono ?_; rintro e w1 ⟨rfl, hS1⟩; clear y1 y2 y3 y4 y5 y6; obtain ⟨y1, y2, y3, y4, y5, y6⟩ := hS1.fact.c6)
    go_ret
    exact hS1.memQ _
end Go.Proofs.Ytjeelccdbhhfjaa
