/- 'has', 'change'. -/
import Derived.Test.YtekfceolignihaaDoorS1
namespace Go.Proofs.YtekfceolignihaaDoor
open Go.RowKit
set_option linter.unusedVariables false
set_option linter.unusedSimpArgs false
attribute [local go_sem] cell_set set_set m_undef

theorem MapB.cells {w : World} {mb cb fb cc fc : Nat} {C F : List Int} {T U : List Value} {mk : Bool} (h : (MapB mb cb fb C F cc fc T U mk).P w) :
    w.cell? ⟨mb, 0, none⟩ = some (.slice (some ⟨cb, 0, none⟩) C.length cc) ∧ w.cell? ⟨mb, 1, none⟩ = some (.slice (some ⟨fb, 0, none⟩) F.length fc) ∧ w.cell? ⟨mb, 2, none⟩ = some (.bool mk) :=
  ⟨Blk.cell h.2 0, Blk.cell h.2 1, Blk.cell h.2 2⟩
theorem MapB.cnt {w : World} {mb cb fb cc fc : Nat} {C F : List Int} {T U : List Value} {mk : Bool} (h : (MapB mb cb fb C F cc fc T U mk).P w) (n : Nat) (x : Int) (hx : C[n]? = some x) :
    w.cell? ⟨cb, n, none⟩ = some (.int .i64 x) ∧ w.frozen? ⟨cb, n, none⟩ = false := ⟨(Blk.cell h.1.1 n).trans (ints_at C T n x hx), Blk.frozen h.1.1 n⟩
theorem MapB.wrd {w : World} {mb cb fb cc fc : Nat} {C F : List Int} {T U : List Value} {mk : Bool} (h : (MapB mb cb fb C F cc fc T U mk).P w) (n : Nat) (x : Int) (hx : F[n]? = some x) :
    w.cell? ⟨fb, n, none⟩ = some (.int .u64 x) ∧ w.frozen? ⟨fb, n, none⟩ = false := ⟨(Blk.cell h.1.2 n).trans (words_at F U n x hx), Blk.frozen h.1.2 n⟩
theorem kHas {w : World} {mb cb fb cc fc : Nat} {C F : List Int} {T U : List Value} {mk : Bool} (h : (MapB mb cb fb C F cc fc T U mk).P w) (n : Int) :
    Calls Tryd.prog 19 #[.pointer (some ⟨mb, 0, none⟩), .int .i64 n] w fun e w' => e = .returned (.bool (decide (2 ≤ n ∧ n < (C.length : Int)))) ∧ w' = w := by
  obtain ⟨y1, y2, y3⟩ := MapB.cells h
  clear h
  by_cases h1 : 2 ≤ n
  · have t1 : (2 ≤ n) = True := eq_true h1
    by_cases h2 : n < (C.length : Int)
    · have t2 : (n < (C.length : Int)) = True := eq_true h2
      rw [decide_eq_true ⟨h1, h2⟩]
      clear h1 h2
      go_enter Tryd.func19, Tryd.ntmps19
      go_wp2
      go_ret
      exact ⟨rfl, rfl⟩
    · have t2 : (n < (C.length : Int)) = False := eq_false h2
      rw [decide_eq_false (fun h => h2 h.2)]
      clear h1 h2
      go_enter Tryd.func19, Tryd.ntmps19
      go_wp2
      go_ret
      exact ⟨rfl, rfl⟩
  · have t1 : (2 ≤ n) = False := eq_false h1
    rw [decide_eq_false (fun h => h1 h.1)]
    clear h1
    go_enter Tryd.func19, Tryd.ntmps19
    go_wp2
    go_ret
    exact ⟨rfl, rfl⟩
theorem nHas {w : World} (n : Int) :
    Calls Tryd.prog 19 #[.pointer none, .int .i64 n] w fun e w' => e = .returned (.bool false) ∧ w' = w := by
  go_enter Tryd.func19, Tryd.ntmps19
  go_wp2
  go_ret
  exact ⟨rfl, rfl⟩
/-- The word with the sector's bit as it is to be. -/
def bitV (n : Nat) : Int := IntKind.u64.wrap (2 ^ (n % 64))
def newW (f : Int) (n : Nat) (x : Int) : Int := if x = 0 then bits .or .u64 (bits .andNot .u64 f (bitV n)) (bitV n) else bits .andNot .u64 f (bitV n)
set_option maxHeartbeats 1000000 in
theorem kChange {W w : World} {K : Kp} {mb cb fb cc fc : Nat} {C F : List Int} {T U : List Value} {mk : Bool} (h : Pls W w (K.and (MapB mb cb fb C F cc fc T U mk))) (ha : Apart K mb cb fb) (n : Nat) (by_ x x2 f : Int) (hx : C[n]? = some x) (hf : F[n / 64]? = some f)
    (hn : C.length ≤ 1000000) (hx2 : IntKind.i64.wrap (x + by_) = x2) :
    Calls Tryd.prog 20 #[.pointer (some ⟨mb, 0, none⟩), .int .i64 (n : Int), .int .i64 by_] w fun e w' => e = .returned (.tuple #[]) ∧ Pls W w' (K.and (MapB mb cb fb (C.set n x2) (F.set (n / 64) (newW f n x2)) cc fc T U mk)) := by
  have hnl := (List.getElem?_eq_some_iff.1 hx).1
  have hfl := (List.getElem?_eq_some_iff.1 hf).1
  obtain ⟨y1, y2, y3⟩ := MapB.cells h.fact.2
  obtain ⟨c1, c2⟩ := MapB.cnt h.fact.2 n x hx
  have i1 : (0 : Int) ≤ (n : Int) := by omega
  have i2 : (n : Int) < (C.length : Int) := by omega
  have i3 : (0 : Int) ≤ ((n / 64 : Nat) : Int) := by omega
  have i4 : ((n / 64 : Nat) : Int) < (F.length : Int) := by omega
  have hS2 := MapB.setC h ha n x2 hnl
  go_enter Tryd.func20, Tryd.ntmps20
  go_upto_region 1 with fail
  obtain ⟨w2, hw2⟩ : ∃ w2, w2 = w.setCell ⟨cb, n, none⟩ (.int .i64 x2) := ⟨_, rfl⟩
  rw [← hw2] at hS2 ⊢
  clear hw2 y1 y2 y3 c1 c2 h
  obtain ⟨y1, y2, y3⟩ := MapB.cells hS2.fact.2
  obtain ⟨d1, d2⟩ := MapB.wrd hS2.fact.2 (n / 64) f hf
  have hS3 := MapB.setF hS2 ha (n / 64) (bits .andNot .u64 f (IntKind.u64.wrap (2 ^ (n % 64)))) hfl
  go_upto_region 3 with fail
  obtain ⟨f1, hf1⟩ : ∃ f1, f1 = bits .andNot .u64 f (IntKind.u64.wrap (2 ^ (n % 64))) := ⟨_, rfl⟩
  rw [← hf1] at hS3 ⊢
  obtain ⟨w3, hw3⟩ : ∃ w3, w3 = w2.setCell ⟨fb, n / 64, none⟩ (.int .u64 f1) := ⟨_, rfl⟩
  rw [← hw3] at hS3 ⊢
  clear hw3 y1 y2 y3 d1 d2 hS2
  obtain ⟨y1, y2, y3⟩ := MapB.cells hS3.fact.2
  obtain ⟨c1, c2⟩ := MapB.cnt hS3.fact.2 n x2 (List.getElem?_set_self hnl)
  obtain ⟨d1, d2⟩ := MapB.wrd hS3.fact.2 (n / 64) f1 (List.getElem?_set_self hfl)
  by_cases h0 : x2 = 0
  · have t0 : (x2 == 0) = true := by simp; exact h0
    have hS4 := MapB.setF hS3 ha (n / 64) (bits .or .u64 f1 (IntKind.u64.wrap (2 ^ (n % 64)))) (by rw [List.length_set]; exact hfl)
    rw [List.set_set] at hS4
    have hnw : newW f n x2 = bits .or .u64 f1 (IntKind.u64.wrap (2 ^ (n % 64))) := by unfold newW bitV; rw [if_pos h0, hf1]
    replace hnw := Lib.hid hnw
    clear h0 hf1
    go_wp2
    go_end0
    exact ⟨rfl, by rw [hnw.out]; exact hS4⟩
  · have t0 : (x2 == 0) = false := by simp; exact h0
    have hnw : newW f n x2 = f1 := by unfold newW bitV; rw [if_neg h0, hf1]
    replace hnw := Lib.hid hnw
    clear h0 hf1
    go_wp2
    go_end0
    exact ⟨rfl, by rw [hnw.out]; exact hS3⟩
end Go.Proofs.YtekfceolignihaaDoor
