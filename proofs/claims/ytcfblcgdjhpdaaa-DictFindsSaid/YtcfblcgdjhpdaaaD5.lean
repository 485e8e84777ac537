/- 'Kind'. -/
import Derived.Test.YtcfblcgdjhpdaaaD4
namespace Go.Proofs.Ytcfblcgdjhpdaaa
open Go.RowKit
set_option linter.unusedVariables false
set_option linter.unusedSimpArgs false
attribute [local go_sem] cell_set set_set m_undef

/-- A word's kind. -/
def kindN (n : Int) : Int := if 1 ≤ n ∧ n ≤ 3 then n else 0
def kindL (M : List UInt8) (xt : Int) : Int := if insL M xt then kindN (getM M xt) else 0
theorem kindL_f {M : List UInt8} {a : Int} (h : insL M a = false) : kindL M a = 0 := by unfold kindL; rw [h]; exact if_neg (by decide)
theorem kindN_t {n : Int} (h : 1 ≤ n ∧ n ≤ 3) : kindN n = n := if_pos h
theorem kindN_z {n : Int} (h : ¬ (1 ≤ n ∧ n ≤ 3)) : kindN n = 0 := if_neg h
theorem kindL_n {M : List UInt8} {a n : Int} (h : insL M a = true) (hn : n = getM M a) : kindL M a = kindN n := by unfold kindL; rw [h, ← hn]; exact if_pos rfl
theorem insL_far {M : List UInt8} {a : Int} (h : 8192 < a) : insL M a = false := by
  have : hereL M ≤ 5632 := hereL_le M
  unfold insL
  generalize hereL M = x at *
  rw [decide_eq_false_iff_not]
  omega
set_option maxHeartbeats 1000000 in
theorem kCell {w : World} {B mb : Nat} {M : List UInt8} {O : Nat → Prop} (h : MemP w B mb M O) (hB : B ≤ w.heap.size) (a : Int) (ha : isI a) (ha8 : a ≤ 8192) :
    Calls Try.prog 53 #[.pointer (some ⟨mb, 0, none⟩), .int .i64 a] w fun e w' => MemQ w w' B mb M O (.bool (insL M a)) e := by
  have hS := One.start h hB
  have hH := Lib.hid (fun (w9 : World) (O : Nat → Prop) (h : MemP w9 B mb M O) (hb : B ≤ w9.heap.size) => mHere h hb)
  have hl : 1536 ≤ hereL M ∧ hereL M ≤ 5632 := by unfold hereL; split <;> omega
  have e7 := and7 a ha
  unfold insL
  generalize hereL M = here at *
  unfold isI at ha
  have wh : IntKind.i64.wrap (a + 8) = a + 8 := by rw [IntKind.wrap_i64]; omega
  obtain ⟨r, hr⟩ : ∃ r, r = a % 8 := ⟨_, rfl⟩
  rw [← hr] at e7 ⊢
  obtain ⟨s, hs⟩ : ∃ s, s = a + 8 := ⟨_, rfl⟩
  rw [← hs] at wh ⊢
  rw [hs] at wh
  have ws : IntKind.i64.wrap (a + 8) = s := by rw [hs]; exact wh
  clear h hB hr wh hs
  by_cases g1 : r = 0
  · have t1 : (r == 0) = true := by simp; exact g1
    by_cases g2 : 1536 ≤ a
    · have t2 : ((1536 : Int) ≤ a) = True := by simp; exact g2
      have e : decide (r = 0 ∧ 1536 ≤ a ∧ s ≤ here) = decide (s ≤ here) := by rw [decide_eq_decide]; omega
      rw [e]
      clear g1 g2 e hl ha ha8
      go_enter Try.func53, Try.ntmps53
      go_wp2_with (go_at_call 42; refine (hS.mem (fun O h hb => hH.out _ O h hb)).mono ?_; rintro e w1 ⟨rfl, hS2⟩; clear hS; have hS := hS2; clear hS2)
      go_ret
      exact hS.memQ _
    · have t2 : ((1536 : Int) ≤ a) = False := by simp; omega
      have e : decide (r = 0 ∧ 1536 ≤ a ∧ s ≤ here) = false := by rw [decide_eq_false_iff_not]; omega
      rw [e]
      clear g1 g2 e hl ha ha8
      go_enter Try.func53, Try.ntmps53
      go_wp2
      go_ret
      exact hS.memQ _
  · have t1 : (r == 0) = false := by simp; exact g1
    have e : decide (r = 0 ∧ 1536 ≤ a ∧ s ≤ here) = false := by rw [decide_eq_false_iff_not]; omega
    rw [e]
    clear g1 e hl ha ha8
    go_enter Try.func53, Try.ntmps53
    go_wp2
    go_ret
    exact hS.memQ _
set_option maxHeartbeats 1000000 in
theorem kKind {w : World} {B mb : Nat} {M : List UInt8} {O : Nat → Prop} (h : MemP w B mb M O) (hB : B ≤ w.heap.size) (a : Int) (ha : isI a) :
    Calls Try.prog 25 #[.pointer (some ⟨mb, 0, none⟩), .int .i64 a] w fun e w' => MemQ w w' B mb M O (.int .i64 (kindL M a)) e := by
  have hS := One.start h hB
  by_cases t : 8192 < a
  · have e : kindL M a = 0 := kindL_f (insL_far t)
    rw [e]
    clear e h hB ha
    go_enter Try.func25, Try.ntmps25
    go_wp2
    go_ret
    exact hS.memQ _
  · have hC := Lib.hid (fun (w9 : World) (O : Nat → Prop) (h : MemP w9 B mb M O) (hb : B ≤ w9.heap.size) => kCell h hb a ha (by omega))
    have hG := Lib.hid (fun (w9 : World) (O : Nat → Prop) (h : MemP w9 B mb M O) (hb : B ≤ w9.heap.size) => mGet h hb a ha)
    obtain ⟨i, hi⟩ : ∃ i, i = insL M a := ⟨_, rfl⟩
    obtain ⟨n, hn⟩ : ∃ n, n = getM M a := ⟨_, rfl⟩
    rw [← hi] at hC
    rw [← hn] at hG
    clear h hB ha
    cases i with
    | false =>
      rw [kindL_f hi.symm]
      clear hi hn
      go_enter Try.func25, Try.ntmps25
      go_wp2_with (go_at_call 53; refine (hS.mem (fun O h hb => hC.out _ O h hb)).mono ?_; rintro e w1 ⟨rfl, hS2⟩; clear hS; have hS := hS2; clear hS2)
      go_ret
      exact hS.memQ _
    | true =>
      rw [kindL_n hi.symm hn]
      clear hi hn
      by_cases t1 : 1 ≤ n
      · by_cases t2 : n ≤ 3
        · rw [kindN_t ⟨t1, t2⟩]
          go_enter Try.func25, Try.ntmps25
          go_wp2_with (first
            | (go_at_call 53; refine (hS.mem (fun O h hb => hC.out _ O h hb)).mono ?_; rintro e w1 ⟨rfl, hS2⟩; clear hS; have hS := hS2; clear hS2)
            | (go_at_call 54; refine (hS.mem (fun O h hb => hG.out _ O h hb)).mono ?_; rintro e w2 ⟨rfl, hS2⟩; clear hS; have hS := hS2; clear hS2))
          go_ret
          exact hS.memQ _
        · rw [kindN_z (fun h => t2 h.2)]
          go_enter Try.func25, Try.ntmps25
          go_wp2_with (first
            | (go_at_call 53; refine (hS.mem (fun O h hb => hC.out _ O h hb)).mono ?_; rintro e w1 ⟨rfl, hS2⟩; clear hS; have hS := hS2; clear hS2)
            | (go_at_call 54; refine (hS.mem (fun O h hb => hG.out _ O h hb)).mono ?_; rintro e w2 ⟨rfl, hS2⟩; clear hS; have hS := hS2; clear hS2))
          go_ret
          exact hS.memQ _
      · rw [kindN_z (fun h => t1 h.1)]
        go_enter Try.func25, Try.ntmps25
        go_wp2_with (first
          | (go_at_call 53; refine (hS.mem (fun O h hb => hC.out _ O h hb)).mono ?_; rintro e w1 ⟨rfl, hS2⟩; clear hS; have hS := hS2; clear hS2)
          | (go_at_call 54; refine (hS.mem (fun O h hb => hG.out _ O h hb)).mono ?_; rintro e w2 ⟨rfl, hS2⟩; clear hS; have hS := hS2; clear hS2))
        go_ret
        exact hS.memQ _
set_option maxHeartbeats 1000000 in
theorem rKind {w : World} {B rb : Nat} {M : List UInt8} {R : Nat → Prop} (h : RefP w B rb M R) (a : Int) (ha : isI a) :
    Calls Try.prog 26 #[.pointer (some ⟨rb, 0, none⟩), .int .i64 a] w fun e w' => e = .returned (.int .i64 (kindL M a)) ∧ Below w.heap.size w w' := by
  have hC := Lib.hid (rInside h a ha)
  have hG := Lib.hid (fun (w9 : World) (h9 : RefP w9 B rb M R) => rGet h9 a ha)
  replace h := Lib.hid h
  obtain ⟨i, hi⟩ : ∃ i, i = insL M a := ⟨_, rfl⟩
  obtain ⟨n, hn⟩ : ∃ n, n = getM M a := ⟨_, rfl⟩
  rw [← hi] at hC
  rw [← hn] at hG
  clear ha
  cases i with
  | false =>
    rw [kindL_f hi.symm]
    clear hi hn
    go_enter Try.func26, Try.ntmps26
    go_wp2_with (go_at_call 55; refine hC.out.mono ?_; rintro e w1 ⟨rfl, hb1⟩)
    go_ret
    exact ⟨rfl, hb1⟩
  | true =>
    rw [kindL_n hi.symm hn]
    clear hi hn
    by_cases t1 : n < 1
    · rw [kindN_z (by omega)]
      go_enter Try.func26, Try.ntmps26
      go_wp2_with (first
        | (go_at_call 55; refine hC.out.mono ?_; rintro e w1 ⟨rfl, hb1⟩; have hM1 := Lib.hid (h.out.below hb1); replace hb1 := Lib.hid hb1)
        | (go_at_call 47; refine (hG.out _ hM1.out).mono ?_; rintro e w2 ⟨rfl, hb2⟩; have hb3 := Lib.hid (bel_trans hb1.out hb2); clear hb2))
      go_ret
      exact ⟨rfl, hb3.out⟩
    · by_cases t2 : 3 < n
      · rw [kindN_z (by omega)]
        go_enter Try.func26, Try.ntmps26
        go_wp2_with (first
          | (go_at_call 55; refine hC.out.mono ?_; rintro e w1 ⟨rfl, hb1⟩; have hM1 := Lib.hid (h.out.below hb1); replace hb1 := Lib.hid hb1)
          | (go_at_call 47; refine (hG.out _ hM1.out).mono ?_; rintro e w2 ⟨rfl, hb2⟩; have hb3 := Lib.hid (bel_trans hb1.out hb2); clear hb2))
        go_ret
        exact ⟨rfl, hb3.out⟩
      · rw [kindN_t (by omega)]
        go_enter Try.func26, Try.ntmps26
        go_wp2_with (first
          | (go_at_call 55; refine hC.out.mono ?_; rintro e w1 ⟨rfl, hb1⟩; have hM1 := Lib.hid (h.out.below hb1); replace hb1 := Lib.hid hb1)
          | (go_at_call 47; refine (hG.out _ hM1.out).mono ?_; rintro e w2 ⟨rfl, hb2⟩; have hb3 := Lib.hid (bel_trans hb1.out hb2); clear hb2))
        go_ret
        exact ⟨rfl, hb3.out⟩
end Go.Proofs.Ytcfblcgdjhpdaaa
