/- What each call answers, and what it makes of the counts. -/
import Derived.Test.YtekfceolignihaaDoorS15
namespace Go.Proofs.YtekfceolignihaaDoor
open Go.RowKit
set_option linter.unusedVariables false
set_option linter.unusedSimpArgs false
attribute [local irreducible] freeW cnt freeL

def inC (C : List Int) (n : Int) : Prop := 2 ≤ n ∧ n < (C.length : Int)
instance (C : List Int) (n : Int) : Decidable (inC C n) := by unfold inC; infer_instance
def atC (C : List Int) (n : Int) : Int := C.getD n.toNat 0
def holdR (C : List Int) (n : Int) : Int := if inC C n then 0 else 1
def holdC (C : List Int) (n : Int) : List Int := if inC C n then C.set n.toNat (atC C n + 1) else C
def dropR (C : List Int) (n : Int) : Int := if inC C n then (if atC C n = 0 then 3 else 0) else 1
def dropC (C : List Int) (n : Int) : List Int := if inC C n then (if atC C n = 0 then C else C.set n.toNat (atC C n - 1)) else C
def takeO (C : List Int) : Option Nat := (List.range C.length).find? (isFree C)
def takeR (C : List Int) : Value := match takeO C with
  | some n => .tuple #[.int .i64 (n : Int), .int .i64 0]
  | none => .tuple #[.int .i64 0, .int .i64 50]
def takeC (C : List Int) : List Int := match takeO C with
  | some n => C.set n 1
  | none => C
def countR (C : List Int) (n : Int) : Int := if inC C n then atC C n else 0
theorem in_nat {C : List Int} {n : Int} (h : inC C n) : ∃ k : Nat, n = (k : Int) ∧ 2 ≤ k ∧ k < C.length ∧ C[k]? = some (atC C n) := by
  obtain ⟨h1, h2⟩ := h
  have hl : n.toNat < C.length := by omega
  refine ⟨n.toNat, by omega, by omega, hl, ?_⟩
  rw [atC, List.getD, List.getElem?_eq_getElem hl]; rfl
theorem takeO_some {C : List Int} {n : Nat} (h : isFree C n = true) (hl : ∀ k, k < n → isFree C k = false) : takeO C = some n := by
  unfold takeO
  rw [List.find?_range_eq_some]
  exact ⟨h, List.mem_range.2 (isFree_lt h).2.2, fun j hj => by rw [hl j hj]; rfl⟩
theorem takeO_none {C : List Int} (h : ∀ k, isFree C k = false) : takeO C = none := by
  unfold takeO
  rw [List.find?_eq_none]
  intro x _
  rw [h x]; decide
theorem takeO_free {C : List Int} {n : Nat} (h : takeO C = some n) : isFree C n = true := by
  unfold takeO at h
  exact List.find?_some h
section
variable {W w : World} {K : Kp} {mb cb fb cc fc : Nat} {C : List Int} {T U : List Value} {mk : Bool}
theorem kHoldF (h : Pls W w (K.and (MapC mb cb fb C cc fc T U mk))) (ha : Apart K mb cb fb) (hn : C.length ≤ 1000000) {b : Int} (hg : Good b C) (hb : b ≤ 9223372036854775806) (n : Int) :
    Calls Tryd.prog 9 #[.pointer (some ⟨mb, 0, none⟩), .int .i64 n] w fun e w' => e = .returned (.int .i64 (holdR C n)) ∧ Pls W w' (K.and (MapC mb cb fb (holdC C n) cc fc T U mk)) := by
  unfold holdR holdC
  by_cases hc : inC C n
  · rw [if_pos hc, if_pos hc]
    obtain ⟨k, rfl, h2, hl, hx⟩ := in_nat hc
    have hgx := hg.1 k _ hx
    exact kHoldC h ha hn k h2 _ _ hx (by rw [IntKind.wrap_i64]; omega)
  · rw [if_neg hc, if_neg hc]
    exact (kHold_no h.fact.2 n hc).mono fun e w' ⟨he, hw⟩ => ⟨he, by rw [hw]; exact h⟩
theorem kDropF (h : Pls W w (K.and (MapC mb cb fb C cc fc T U mk))) (ha : Apart K mb cb fb) (hn : C.length ≤ 1000000) {b : Int} (hg : Good b C) (hb : b ≤ 9223372036854775806) (n : Int) :
    Calls Tryd.prog 10 #[.pointer (some ⟨mb, 0, none⟩), .int .i64 n] w fun e w' => e = .returned (.int .i64 (dropR C n)) ∧ Pls W w' (K.and (MapC mb cb fb (dropC C n) cc fc T U mk)) := by
  unfold dropR dropC
  by_cases hc : inC C n
  · rw [if_pos hc, if_pos hc]
    obtain ⟨k, rfl, h2, hl, hx⟩ := in_nat hc
    have hgx := hg.1 k _ hx
    by_cases h0 : atC C (k : Int) = 0
    · rw [if_pos h0, if_pos h0]
      rw [h0] at hx
      exact (kDrop_zero h.fact.2 k h2 hx).mono fun e w' ⟨he, hw⟩ => ⟨he, by rw [hw]; exact h⟩
    · rw [if_neg h0, if_neg h0]
      exact kDropC h ha hn k h2 _ _ hx h0 (by rw [IntKind.wrap_i64]; omega)
  · rw [if_neg hc, if_neg hc]
    exact (kDrop_no h.fact.2 n hc).mono fun e w' ⟨he, hw⟩ => ⟨he, by rw [hw]; exact h⟩
theorem kTakeF (h : Pls W w (K.and (MapC mb cb fb C cc fc T U mk))) (ha : Apart K mb cb fb) (hT : TabAt 0 Lib.deBruijn64tab w) (hn : C.length ≤ 1000000) :
    Calls Tryd.prog 11 #[.pointer (some ⟨mb, 0, none⟩)] w fun e w' => e = .returned (takeR C) ∧ Pls W w' (K.and (MapC mb cb fb (takeC C) cc fc T U mk)) := by
  refine (kTakeC h ha hT hn).mono fun e w' hq => ?_
  unfold takeR takeC
  rcases hq with ⟨h1, he, hw⟩ | ⟨n, hf, hl, he, hS⟩
  · rw [takeO_none h1]
    exact ⟨he, by rw [hw]; exact h⟩
  · rw [takeO_some hf hl]
    exact ⟨he, hS⟩
theorem kCountF (h : (MapC mb cb fb C cc fc T U mk).P w) (n : Int) :
    Calls Tryd.prog 18 #[.pointer (some ⟨mb, 0, none⟩), .int .i64 n] w fun e w' => e = .returned (.int .i64 (countR C n)) ∧ w' = w := by
  unfold countR
  by_cases hc : inC C n
  · rw [if_pos hc]
    obtain ⟨k, rfl, h2, hl, hx⟩ := in_nat hc
    exact kCount h k h2 _ hx
  · rw [if_neg hc]
    exact kCount_no h n hc
end
theorem holdC_len (C : List Int) (n : Int) : (holdC C n).length = C.length := by unfold holdC; split <;> simp
theorem dropC_len (C : List Int) (n : Int) : (dropC C n).length = C.length := by unfold dropC; split <;> (try split) <;> simp
theorem takeC_len (C : List Int) : (takeC C).length = C.length := by unfold takeC; split <;> simp
theorem Good.hold {b : Int} {C : List Int} (h : Good b C) (n : Int) : Good (b + 1) (holdC C n) := by
  unfold holdC
  split
  · rename_i hc
    obtain ⟨k, rfl, h2, hl, hx⟩ := in_nat hc
    have := h.1 k _ hx
    exact h.set (by omega) _ _ (by omega) (by omega)
  · exact h.mono (by omega)
theorem Good.drop {b : Int} {C : List Int} (h : Good b C) (n : Int) : Good (b + 1) (dropC C n) := by
  unfold dropC
  split
  · rename_i hc
    obtain ⟨k, rfl, h2, hl, hx⟩ := in_nat hc
    have := h.1 k _ hx
    split
    · exact h.mono (by omega)
    · exact h.set (by omega) _ _ (by omega) (by omega)
  · exact h.mono (by omega)
theorem Good.take {b : Int} {C : List Int} (h : Good b C) (hb : 0 ≤ b) : Good (b + 1) (takeC C) := by
  unfold takeC
  split
  · rename_i n hn
    exact h.set (by omega) _ _ (isFree_lt (takeO_free hn)).1 (by omega)
  · exact h.mono (by omega)
end Go.Proofs.YtekfceolignihaaDoor
