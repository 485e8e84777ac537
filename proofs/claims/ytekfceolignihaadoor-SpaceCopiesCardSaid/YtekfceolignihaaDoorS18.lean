/- The reference. -/
import Derived.Test.YtekfceolignihaaDoorS16
namespace Go.Proofs.YtekfceolignihaaDoor
open Go.RowKit
set_option linter.unusedVariables false
set_option linter.unusedSimpArgs false
attribute [local go_sem] cell_set set_set m_undef
attribute [local irreducible] freeW cnt freeL

/-- The reference's map: its counts. -/
def RefB (rb hb : Nat) (C : List Int) (cc : Nat) (T : List Value) : Kp := (Kp.blk hb (ints C ++ T).toArray 3).and (.blk rb #[.slice (some ⟨hb, 0, none⟩) C.length cc] 52)
def ApartR (K : Kp) (rb hb : Nat) : Prop := rb ≠ hb ∧ ¬ K.S rb ∧ ¬ K.S hb
theorem RefB.cells {w : World} {rb hb cc : Nat} {C : List Int} {T : List Value} (h : (RefB rb hb C cc T).P w) : w.cell? ⟨rb, 0, none⟩ = some (.slice (some ⟨hb, 0, none⟩) C.length cc) := Blk.cell h.2 0
theorem RefB.cnt {w : World} {rb hb cc : Nat} {C : List Int} {T : List Value} (h : (RefB rb hb C cc T).P w) (n : Nat) (x : Int) (hx : C[n]? = some x) :
    w.cell? ⟨hb, n, none⟩ = some (.int .i64 x) ∧ w.frozen? ⟨hb, n, none⟩ = false := ⟨(Blk.cell h.1 n).trans (ints_at C T n x hx), Blk.frozen h.1 n⟩
theorem RefB.setC {W w : World} {K : Kp} {rb hb cc : Nat} {C : List Int} {T : List Value} (h : Pls W w (K.and (RefB rb hb C cc T))) (ha : ApartR K rb hb) (n : Nat) (x : Int) (hn : n < C.length) :
    Pls W (w.setCell ⟨hb, n, none⟩ (.int .i64 x)) (K.and (RefB rb hb (C.set n x) cc T)) := by
  obtain ⟨a1, a2, a3⟩ := ha
  have h1 : Pls W w ((K.and (.blk rb #[.slice (some ⟨hb, 0, none⟩) C.length cc] 52)).and (.blk hb (ints C ++ T).toArray 3)) :=
    h.keep (fun h => ⟨⟨h.1, h.2.2⟩, h.2.1⟩) (fun k hk => by
      rcases hk with (hk | hk) | hk
      · exact .inl hk
      · exact .inr (.inr hk)
      · exact .inr (.inl hk))
  have h2 := h1.set (fun hk => by
    rcases hk with hk | hk
    · exact a3 hk
    · exact a1 (Eq.symm hk)) n (.int .i64 x)
  rw [ints_set C T n x hn] at h2
  refine h2.keep (fun h => ⟨h.1.1, h.2, by rw [List.length_set]; exact h.1.2⟩) (fun k hk => ?_)
  rcases hk with hk | (hk | hk)
  · exact .inl (.inl hk)
  · exact .inr hk
  · exact .inl (.inr hk)
section
variable {W w : World} {K : Kp} {rb hb cc : Nat} {C : List Int} {T : List Value}
theorem rHas (h : (RefB rb hb C cc T).P w) (n : Int) :
    Calls Tryd.prog 31 #[.pointer (some ⟨rb, 0, none⟩), .int .i64 n] w fun e w' => e = .returned (.bool (decide (inC C n))) ∧ w' = w := by
  have y1 := RefB.cells h
  clear h
  by_cases h1 : 2 ≤ n
  · have t1 : (2 ≤ n) = True := eq_true h1
    by_cases h2 : n < (C.length : Int)
    · have t2 : (n < (C.length : Int)) = True := eq_true h2
      rw [decide_eq_true (show inC C n from ⟨h1, h2⟩)]
      clear h1 h2
      go_enter Tryd.func31, Tryd.ntmps31
      go_wp2
      go_ret
      exact ⟨rfl, rfl⟩
    · have t2 : (n < (C.length : Int)) = False := eq_false h2
      rw [decide_eq_false (show ¬ inC C n from fun h => h2 h.2)]
      clear h1 h2
      go_enter Tryd.func31, Tryd.ntmps31
      go_wp2
      go_ret
      exact ⟨rfl, rfl⟩
  · have t1 : (2 ≤ n) = False := eq_false h1
    rw [decide_eq_false (show ¬ inC C n from fun h => h1 h.1)]
    clear h1
    go_enter Tryd.func31, Tryd.ntmps31
    go_wp2
    go_ret
    exact ⟨rfl, rfl⟩
theorem rHoldF (h : Pls W w (K.and (RefB rb hb C cc T))) (ha : ApartR K rb hb) {b : Int} (hg : Good b C) (hb1 : b ≤ 9223372036854775806) (n : Int) :
    Calls Tryd.prog 23 #[.pointer (some ⟨rb, 0, none⟩), .int .i64 n] w fun e w' => e = .returned (.int .i64 (holdR C n)) ∧ Pls W w' (K.and (RefB rb hb (holdC C n) cc T)) := by
  have hH := rHas h.fact.2 n
  unfold holdR holdC
  by_cases hc : inC C n
  · rw [if_pos hc, if_pos hc]
    rw [decide_eq_true hc] at hH
    obtain ⟨k, rfl, h2, hl, hx⟩ := in_nat hc
    have hgx := hg.1 k _ hx
    have y1 := RefB.cells h.fact.2
    obtain ⟨c1, c2⟩ := RefB.cnt h.fact.2 k _ hx
    have hS := RefB.setC h ha k (atC C (k : Int) + 1) hl
    have wq : IntKind.i64.wrap (atC C (k : Int) + 1) = atC C (k : Int) + 1 := by rw [IntKind.wrap_i64]; omega
    have i1 : (0 : Int) ≤ (k : Int) := by omega
    have i2 : (k : Int) < (C.length : Int) := by omega
    rw [Int.toNat_natCast]
    generalize atC C (k : Int) = x at *
    replace hH := Lib.hid hH
    clear hc hx hgx h
    go_enter Tryd.func23, Tryd.ntmps23
    go_wp2_with (go_at_call 31; refine hH.out.mono ?_; rintro e w' ⟨rfl, rfl⟩)
    go_ret
    exact ⟨rfl, hS⟩
  · rw [if_neg hc, if_neg hc]
    rw [decide_eq_false hc] at hH
    replace hH := Lib.hid hH
    go_enter Tryd.func23, Tryd.ntmps23
    go_wp2_with (go_at_call 31; refine hH.out.mono ?_; rintro e w' ⟨rfl, rfl⟩)
    go_ret
    exact ⟨rfl, h⟩
theorem rDropF (h : Pls W w (K.and (RefB rb hb C cc T))) (ha : ApartR K rb hb) {b : Int} (hg : Good b C) (hb1 : b ≤ 9223372036854775806) (n : Int) :
    Calls Tryd.prog 24 #[.pointer (some ⟨rb, 0, none⟩), .int .i64 n] w fun e w' => e = .returned (.int .i64 (dropR C n)) ∧ Pls W w' (K.and (RefB rb hb (dropC C n) cc T)) := by
  have hH := rHas h.fact.2 n
  unfold dropR dropC
  by_cases hc : inC C n
  · rw [if_pos hc, if_pos hc]
    rw [decide_eq_true hc] at hH
    obtain ⟨k, rfl, h2, hl, hx⟩ := in_nat hc
    have hgx := hg.1 k _ hx
    have y1 := RefB.cells h.fact.2
    obtain ⟨c1, c2⟩ := RefB.cnt h.fact.2 k _ hx
    have i1 : (0 : Int) ≤ (k : Int) := by omega
    have i2 : (k : Int) < (C.length : Int) := by omega
    replace hH := Lib.hid hH
    by_cases h0 : atC C (k : Int) = 0
    · rw [if_pos h0, if_pos h0]
      rw [h0] at c1
      clear hc hx hgx
      go_enter Tryd.func24, Tryd.ntmps24
      go_wp2_with (go_at_call 31; refine hH.out.mono ?_; rintro e w' ⟨rfl, rfl⟩)
      go_ret
      exact ⟨rfl, h⟩
    · rw [if_neg h0, if_neg h0]
      have t0 : (atC C (k : Int) == 0) = false := by simp; exact h0
      have hS := RefB.setC h ha k (atC C (k : Int) - 1) hl
      have wq : IntKind.i64.wrap (atC C (k : Int) - 1) = atC C (k : Int) - 1 := by rw [IntKind.wrap_i64]; omega
      rw [Int.toNat_natCast]
      generalize atC C (k : Int) = x at *
      clear hc hx hgx h h0
      go_enter Tryd.func24, Tryd.ntmps24
      go_wp2_with (go_at_call 31; refine hH.out.mono ?_; rintro e w' ⟨rfl, rfl⟩)
      go_ret
      exact ⟨rfl, hS⟩
  · rw [if_neg hc, if_neg hc]
    rw [decide_eq_false hc] at hH
    replace hH := Lib.hid hH
    go_enter Tryd.func24, Tryd.ntmps24
    go_wp2_with (go_at_call 31; refine hH.out.mono ?_; rintro e w' ⟨rfl, rfl⟩)
    go_ret
    exact ⟨rfl, h⟩
theorem rCountF (h : (RefB rb hb C cc T).P w) (n : Int) :
    Calls Tryd.prog 26 #[.pointer (some ⟨rb, 0, none⟩), .int .i64 n] w fun e w' => e = .returned (.int .i64 (countR C n)) ∧ w' = w := by
  have hH := rHas h n
  unfold countR
  by_cases hc : inC C n
  · rw [if_pos hc]
    rw [decide_eq_true hc] at hH
    obtain ⟨k, rfl, h2, hl, hx⟩ := in_nat hc
    have y1 := RefB.cells h
    obtain ⟨c1, c2⟩ := RefB.cnt h k _ hx
    have i1 : (0 : Int) ≤ (k : Int) := by omega
    have i2 : (k : Int) < (C.length : Int) := by omega
    replace hH := Lib.hid hH
    clear hc hx h
    go_enter Tryd.func26, Tryd.ntmps26
    go_wp2_with (go_at_call 31; refine hH.out.mono ?_; rintro e w' ⟨rfl, rfl⟩)
    go_ret
    exact ⟨rfl, rfl⟩
  · rw [if_neg hc]
    rw [decide_eq_false hc] at hH
    replace hH := Lib.hid hH
    clear h
    go_enter Tryd.func26, Tryd.ntmps26
    go_wp2_with (go_at_call 31; refine hH.out.mono ?_; rintro e w' ⟨rfl, rfl⟩)
    go_ret
    exact ⟨rfl, rfl⟩
end
end Go.Proofs.YtekfceolignihaaDoor
