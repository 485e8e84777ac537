/- A map's turns, told over its counts alone. -/
import Derived.Test.YtekfceolignihaaDoorS14
namespace Go.Proofs.YtekfceolignihaaDoor
open Go.RowKit
set_option linter.unusedVariables false
set_option linter.unusedSimpArgs false
attribute [local irreducible] freeW cnt freeL

/-- A map: its counts C; the words follow from them. -/
abbrev MapC (mb cb fb : Nat) (C : List Int) (cc fc : Nat) (T U : List Value) (mk : Bool) : Kp := MapB mb cb fb C (freeL C) cc fc T U mk
theorem wrap1 : IntKind.i64.wrap (0 + 1) = ((1 : Nat) : Int) := by decide
section
variable {W w : World} {K : Kp} {mb cb fb cc fc : Nat} {C : List Int} {T U : List Value} {mk : Bool}
theorem kTakeC (h : Pls W w (K.and (MapC mb cb fb C cc fc T U mk))) (ha : Apart K mb cb fb) (hT : TabAt 0 Lib.deBruijn64tab w) (hn : C.length ≤ 1000000) :
    Calls Tryd.prog 11 #[.pointer (some ⟨mb, 0, none⟩)] w fun e w' => ((∀ k, isFree C k = false) ∧ e = .returned (.tuple #[.int .i64 0, .int .i64 50]) ∧ w' = w) ∨
      ∃ n : Nat, isFree C n = true ∧ (∀ k, k < n → isFree C k = false) ∧ e = .returned (.tuple #[.int .i64 (n : Int), .int .i64 0]) ∧ Pls W w' (K.and (MapC mb cb fb (C.set n 1) cc fc T U mk)) := by
  rcases take_spec C with ⟨h1, h2⟩ | ⟨i0, f, _, hf, hf0, hf64, hz, hfr, hlow, hfw⟩
  · exact (kTake_full h.fact.2 h1 (by rw [freeL_len]; omega)).mono fun e w' ⟨he, hw⟩ => .inl ⟨h2, he, hw⟩
  · obtain ⟨g1, g2, g3⟩ := isFree_lt hfr
    have hct := (ctz_bits f hf0 hf64).2.2
    have hs := freeL_set C (64 * i0 + Lib.ctz 64 f) 1 g3 g1
    rw [show (64 * i0 + Lib.ctz 64 f) / 64 = i0 by omega, ← hfw] at hs
    refine (kTake h ha hT i0 f 1 0 hf hf0 hf64 hz g2 hn wrap1).mono fun e w' ⟨he, hS⟩ => .inr ⟨_, hfr, hlow, he, ?_⟩
    unfold MapC
    rw [hs]
    exact hS
theorem kHoldC (h : Pls W w (K.and (MapC mb cb fb C cc fc T U mk))) (ha : Apart K mb cb fb) (hn : C.length ≤ 1000000) (n : Nat) (h2 : 2 ≤ n) (x x2 : Int) (hx : C[n]? = some x) (hx2 : IntKind.i64.wrap (x + 1) = x2) :
    Calls Tryd.prog 9 #[.pointer (some ⟨mb, 0, none⟩), .int .i64 (n : Int)] w fun e w' => e = .returned (.int .i64 0) ∧ Pls W w' (K.and (MapC mb cb fb (C.set n x2) cc fc T U mk)) := by
  have hl := (List.getElem?_eq_some_iff.1 hx).1
  unfold MapC
  rw [freeL_set C n x2 hl h2]
  exact kHold h ha n x x2 _ h2 hx (freeL_at C (n / 64) (by omega)) hn hx2
theorem kDropC (h : Pls W w (K.and (MapC mb cb fb C cc fc T U mk))) (ha : Apart K mb cb fb) (hn : C.length ≤ 1000000) (n : Nat) (h2 : 2 ≤ n) (x x2 : Int) (hx : C[n]? = some x) (hx0 : x ≠ 0) (hx2 : IntKind.i64.wrap (x + -1) = x2) :
    Calls Tryd.prog 10 #[.pointer (some ⟨mb, 0, none⟩), .int .i64 (n : Int)] w fun e w' => e = .returned (.int .i64 0) ∧ Pls W w' (K.and (MapC mb cb fb (C.set n x2) cc fc T U mk)) := by
  have hl := (List.getElem?_eq_some_iff.1 hx).1
  unfold MapC
  rw [freeL_set C n x2 hl h2]
  exact kDrop h ha n x x2 _ h2 hx hx0 (freeL_at C (n / 64) (by omega)) hn hx2
theorem kNewC (W : World) (s : Int) (n : Nat) (hn : (n : Int) = min (max s 0) 2000) :
    Calls Tryd.prog 8 #[.int .i64 s] W fun e w' => ∃ mb cb fb, e = .returned (.pointer (some ⟨mb, 0, none⟩)) ∧ Apart .emp mb cb fb ∧ Pls W w' (Kp.emp.and (MapC mb cb fb (List.replicate n 0) n (n / 64 + 1) [] [] true)) := by
  have := kNew W s n hn
  rw [newF_free] at this
  exact this
end
/-- Where the sectors' counts stand: none below 0, none of the roots'. -/
def Good (b : Int) (C : List Int) : Prop := (∀ (k : Nat) (x : Int), C[k]? = some x → 0 ≤ x ∧ x ≤ b) ∧ (∀ (k : Nat) (x : Int), k < 2 → C[k]? = some x → x = 0)
theorem Good.zeros (n : Nat) : Good 0 (List.replicate n 0) := by
  refine ⟨fun k x hx => ?_, fun k x hk hx => ?_⟩ <;>
    (rw [List.getElem?_replicate] at hx; split at hx <;> simp at hx; subst hx; simp)
theorem Good.mono {b b' : Int} {C : List Int} (h : Good b C) (hb : b ≤ b') : Good b' C := ⟨fun k x hx => ⟨(h.1 k x hx).1, Int.le_trans (h.1 k x hx).2 hb⟩, h.2⟩
theorem Good.set {b b' : Int} {C : List Int} (h : Good b C) (hb : b ≤ b') (n : Nat) (x : Int) (h2 : 2 ≤ n) (hx : 0 ≤ x ∧ x ≤ b') : Good b' (C.set n x) := by
  refine ⟨fun k y hy => ?_, fun k y hk hy => ?_⟩
  · by_cases hkn : k = n
    · subst hkn
      have hl : k < C.length := by have := (List.getElem?_eq_some_iff.1 hy).1; rwa [List.length_set] at this
      rw [List.getElem?_set_self hl] at hy
      cases hy; exact hx
    · rw [List.getElem?_set_ne (fun e => hkn e.symm)] at hy
      exact ⟨(h.1 k y hy).1, Int.le_trans (h.1 k y hy).2 hb⟩
  · rw [List.getElem?_set_ne (by omega)] at hy
    exact h.2 k y hk hy
/-- Free ones and held ones are all of them. -/
theorem free_used {b : Int} {C : List Int} (h : Good b C) : freeN C + (usedL C).length = C.length - 2 := by
  have key : ∀ m, m ≤ C.length → cnt (isFree C) m + (usedTo C m).length = m - 2 := by
    intro m
    induction m with
    | zero => intro _; simp [usedTo, cnt_zero]
    | succ m ih =>
      intro hm
      have hx : C[m]? = some C[m] := List.getElem?_eq_getElem (by omega)
      have hg := h.1 m _ hx
      have hs : cnt (isFree C) (m + 1) = cnt (isFree C) m + cnt (fun j => isFree C (m + j)) 1 := cnt_add _ m 1
      have h1 : cnt (fun j => isFree C (m + j)) 1 = if isFree C m then 1 else 0 := by
        unfold cnt; simp [cnt_zero]
      rw [hs, h1]
      have ih' := ih (by omega)
      by_cases h2 : m < 2
      · have h0 := h.2 m _ h2 hx
        have hf : isFree C m = false := by
          cases e : isFree C m with
          | false => rfl
          | true => have := (isFree_lt e).1; omega
        rw [hf, usedTo_no C m _ hx (by omega)]
        simp only [Bool.false_eq_true, if_false]
        omega
      · by_cases h0 : C[m] = 0
        · have hf : isFree C m = true := by unfold isFree; rw [hx, h0]; simp; omega
          rw [hf, usedTo_no C m _ hx (by omega)]
          simp only [if_true]
          omega
        · have hf : isFree C m = false := by unfold isFree; rw [hx]; simp [h0]
          rw [hf, usedTo_yes C m _ hx (by omega), List.length_append]
          simp only [Bool.false_eq_true, if_false, List.length_cons, List.length_nil]
          omega
  exact key C.length (Nat.le_refl _)
end Go.Proofs.YtekfceolignihaaDoor
