/- 'word'. -/
import Derived.Test.YtfmlbnkmckkjnaaE5
namespace Go.Proofs.Ytfmlbnkmckkjnaa
open Go.RowKit
set_option linter.unusedVariables false
set_option linter.unusedSimpArgs false
attribute [local go_sem] cell_set set_set m_undef

theorem bel_drewN {W w : World} (h : Below W.heap.size W w) (n : Nat) : Below W.heap.size W (w.drewN n) := h.trans ⟨rfl, rfl, rfl, Nat.le_refl _, fun _ _ => rfl⟩
/-- How many bytes at the beginning are blanks (b), or none (not b). -/
def runN (r : List UInt8) (b : Bool) : Nat := (r.takeWhile (fun c => (c == 32) == b)).length
def wordN (A : List UInt8) : Nat := runN A.reverse true + runN (A.reverse.drop (runN A.reverse true)) false
theorem runN_le (r : List UInt8) (b : Bool) : runN r b ≤ r.length := (List.takeWhile_sublist _).length_le
theorem runN_nil (b : Bool) : runN [] b = 0 := rfl
theorem runN_yes {R : List UInt8} {k : Nat} {b : Bool} (hk : k < R.length) (h : ((R[k] == 32) == b) = true) : runN (R.drop k) b = 1 + runN (R.drop (k + 1)) b := by
  rw [List.drop_eq_getElem_cons hk]
  unfold runN
  rw [List.takeWhile_cons_of_pos (p := fun c => (c == 32) == b) h, List.length_cons, Nat.add_comm]
theorem runN_no {R : List UInt8} {k : Nat} {b : Bool} (hk : k < R.length) (h : ((R[k] == 32) == b) = false) : runN (R.drop k) b = 0 := by
  rw [List.drop_eq_getElem_cons hk]
  unfold runN
  rw [List.takeWhile_cons_of_neg (p := fun c => (c == 32) == b) (by rw [h]; simp)]
  rfl
theorem wordN_le (A : List UInt8) : wordN A ≤ A.length := by
  unfold wordN
  have h1 := runN_le A.reverse true
  have h2 := runN_le (A.reverse.drop (runN A.reverse true)) false
  rw [List.length_drop, List.length_reverse] at h2
  rw [List.length_reverse] at h1
  omega

set_option maxHeartbeats 1600000 in
theorem wWord (w : World) (base Lb : Nat) (A Z : List UInt8) (va vz : Value) (h : LineV w base Lb va vz A Z) (hA : A.length ≤ 5000) :
    Calls Try.prog 26 #[.pointer (some ⟨Lb, 0, none⟩)] w fun e w' => e = .returned (.int .i64 (wordN A : Int)) ∧ Below w.heap.size w w' := by
  have hB := h.1
  have ha := h.2.1
  obtain ⟨aa, ca, rfl, hca⟩ := ha.len
  have hRl : A.reverse.length = A.length := List.length_reverse
  obtain ⟨R, hR⟩ : ∃ R, R = A.reverse := ⟨_, rfl⟩
  go_enter Try.func26, Try.ntmps26
  go_wp2
  go_loopw [3, 8] (fun n i wr => ∃ j : Nat, j ≤ 2 ∧ i = .int .i64 (j : Int) ∧ n = .int .i64 ((if j = 0 then 0 else if j = 1 then runN R true else wordN A : Nat) : Int) ∧ Blk wr w.heap.size #[.bool true, .bool false] 4 ∧ Below w.heap.size w wr) (fun n i _ => (2 - (intOf i).toNat))
  case atStart =>
    exact ⟨0, by omega, rfl, rfl, by repeat (first | (with_reducible assumption) | (with_reducible refine Blk.new' ?_; first | rfl | (simp; done) | (simp; omega)) | (with_reducible apply Blk.set01) | (with_reducible apply Blk.set0) | (with_reducible apply Blk.set1) | (with_reducible apply Blk.setOne) | (with_reducible refine Blk.set_other ?_ (by omega) _ _) | (with_reducible apply Blk.alloc) | (with_reducible apply Blk.drew) | (with_reducible refine Blk.below ?_ (by with_reducible assumption))), by repeat (first | (with_reducible exact Below.refl _ _) | (with_reducible assumption) | (with_reducible apply bel_alloc) | (with_reducible apply bel_drew) | (with_reducible refine bel_set ?_ (by first | exact Nat.le_refl _ | (simp; done) | omega | (simp; omega)) _) | (with_reducible refine bel_trans ?_ (by with_reducible assumption)))⟩
  case round =>
    obtain ⟨j, hj, rfl, rfl, hbb, hbel⟩ := hrel
    have hR0 := hR
    by_cases hj0 : j = 0
    · subst hj0
      have HS := Lib.hid (show 0 ≤ A.length ∧ 0 + runN (R.drop 0) true = runN R true by simp)
      obtain ⟨y0, y1, y2, y3, y4⟩ := hbb.two
      go_wp2

      go_loopw [3] (fun n wr2 => ∃ k : Nat, k ≤ A.length ∧ n = .int .i64 (k : Int) ∧ k + runN (R.drop k) true = runN R true ∧ Blk wr2 w.heap.size #[.bool true, .bool false] 4 ∧ Below w.heap.size w wr2) (fun n _ => (A.length - (intOf n).toNat))
      case atStart => exact ⟨0, HS.out.1, rfl, HS.out.2, hbb, hbel⟩
      case round =>
        obtain ⟨k, hk, rfl, hT, hbb2, hbel2⟩ := hrel
        obtain ⟨z0, z1, z2, z3, z4⟩ := (hB.below hbel2).two
        by_cases hkl : k < A.length
        · have ha2 := ha.below hbel2
          rcases ha2 with ⟨_, h0⟩ | ⟨b0, o0, cap0, he, g1, g2, g3, g4, g5⟩
          · rw [h0] at hkl; exact absurd hkl (Nat.not_lt_zero _)
          cases he
          have hp : A.length - 1 - k < A.length := by omega
          obtain ⟨p, hpe⟩ : ∃ p, p = A.length - 1 - k := ⟨_, rfl⟩
          have gc := g4 p (by omega)
          have gf := (g5 p (by omega)).2
          have hRk : k < R.length := by rw [hR, hRl]; exact hkl
          have eR : R[k] = A[p]'(by omega) := by simp only [hR, List.getElem_reverse, hpe]
          have hy := fun h => runN_yes (b := true) hRk h
          have hno := fun h => runN_no (b := true) hRk h
          rw [eR] at hy hno
          have hx32 : ((A[p]'(by omega)) == (32 : UInt8)) = (((A[p]'(by omega)).toNat : Int) == 32) := by
            by_cases e : A[p]'(by omega) = 32
            · rw [e]; rfl
            · have : ¬ ((A[p]'(by omega)).toNat : Int) = 32 := fun h => e (UInt8.toNat_inj.1 (by have h2 : (32 : UInt8).toNat = 32 := rfl; omega))
              rw [beq_eq_false_iff_ne.2 e, beq_eq_false_iff_ne.2 this]
          rw [hx32] at hy hno
          obtain ⟨x, hx⟩ : ∃ x : Int, x = ((A[p]'(by omega)).toNat : Int) := ⟨_, rfl⟩
          rw [← hx] at gc hy hno
          have t1 : (k : Int) < (A.length : Int) := by omega
          have w1 : IntKind.i64.wrap ((A.length : Int) - 1) = ((A.length - 1 : Nat) : Int) := by rw [IntKind.wrap_i64]; omega
          obtain ⟨l1, hl1⟩ : ∃ l1 : Int, l1 = ((A.length - 1 : Nat) : Int) := ⟨_, rfl⟩
          rw [← hl1] at w1
          have w2 : IntKind.i64.wrap (l1 - (k : Int)) = (p : Int) := by rw [IntKind.wrap_i64]; omega
          have w3 : IntKind.i64.wrap ((k : Int) + 1) = ((k + 1 : Nat) : Int) := by rw [IntKind.wrap_i64]; omega
          have t2 : (p : Int) < (A.length : Int) := by omega
          by_cases hx2 : (x == 32) = true
          · have hT2 := Lib.hid (show (k + 1) + runN (R.drop (k + 1)) true = runN R true by have := hy (by rw [hx2]; rfl); omega)
            clear hT hy hno hx hx32 eR hpe hp hl1
            go_upto_region 5 with fail
            go_quiet (fail)
            go_wp2
            go_roundw
            case rel => exact ⟨k + 1, by omega, rfl, hT2.out, Blk.drewN hbb2 _, bel_drewN hbel2 _⟩
            case measure => simp [intOf]; omega
          · have hx3 : (x == 32) = false := by cases h : (x == 32) <;> simp_all
            have hkT : k = runN R true := by have := hno (by rw [hx3]; rfl); omega
            have hkT2 := Lib.hid hkT
            clear hT hy hno hx hx32 eR hpe hp hl1 hx2 hkT
            go_upto_region 5 with fail
            go_quiet (fail)
            go_wp2
            go_roundw
            case rel => exact ⟨1, by omega, rfl, by rw [hkT2.out]; rfl, Blk.drewN hbb2 _, bel_drewN hbel2 _⟩
            case measure => simp [intOf]
        · have hkT : k = runN R true := by
            have : runN (R.drop k) true = 0 := by rw [List.drop_eq_nil_of_le (by rw [hR, hRl]; omega)]; rfl
            omega
          have hkT2 := Lib.hid hkT
          have t1 : ¬ (k : Int) < (A.length : Int) := by omega
          clear hT hkT
          go_upto_region 5 with fail
          go_quiet (fail)
          go_wp2
          go_roundw
          case rel => exact ⟨1, by omega, rfl, by rw [hkT2.out]; rfl, Blk.drewN hbb2 _, bel_drewN hbel2 _⟩
          case measure => simp [intOf]
    by_cases hj1 : j = 1
    · subst hj1
      have HS := Lib.hid (show runN R true ≤ A.length ∧ runN R true + runN (R.drop (runN R true)) false = wordN A by
        refine ⟨?_, ?_⟩
        · have := runN_le R true
          rw [hR, hRl] at this
          rw [hR]; exact this
        · rw [hR]; rfl)
      obtain ⟨y0, y1, y2, y3, y4⟩ := hbb.two
      simp only [Nat.one_ne_zero, if_false, if_true]
      go_wp2

      go_loopw [3] (fun n wr2 => ∃ k : Nat, k ≤ A.length ∧ n = .int .i64 (k : Int) ∧ k + runN (R.drop k) false = wordN A ∧ Blk wr2 w.heap.size #[.bool true, .bool false] 4 ∧ Below w.heap.size w wr2) (fun n _ => (A.length - (intOf n).toNat))
      case atStart => exact ⟨runN R true, HS.out.1, rfl, HS.out.2, hbb, hbel⟩
      case round =>
        obtain ⟨k, hk, rfl, hT, hbb2, hbel2⟩ := hrel
        obtain ⟨z0, z1, z2, z3, z4⟩ := (hB.below hbel2).two
        by_cases hkl : k < A.length
        · have ha2 := ha.below hbel2
          rcases ha2 with ⟨_, h0⟩ | ⟨b0, o0, cap0, he, g1, g2, g3, g4, g5⟩
          · rw [h0] at hkl; exact absurd hkl (Nat.not_lt_zero _)
          cases he
          have hp : A.length - 1 - k < A.length := by omega
          obtain ⟨p, hpe⟩ : ∃ p, p = A.length - 1 - k := ⟨_, rfl⟩
          have gc := g4 p (by omega)
          have gf := (g5 p (by omega)).2
          have hRk : k < R.length := by rw [hR, hRl]; exact hkl
          have eR : R[k] = A[p]'(by omega) := by simp only [hR, List.getElem_reverse, hpe]
          have hy := fun h => runN_yes (b := false) hRk h
          have hno := fun h => runN_no (b := false) hRk h
          rw [eR] at hy hno
          have hx32 : ((A[p]'(by omega)) == (32 : UInt8)) = (((A[p]'(by omega)).toNat : Int) == 32) := by
            by_cases e : A[p]'(by omega) = 32
            · rw [e]; rfl
            · have : ¬ ((A[p]'(by omega)).toNat : Int) = 32 := fun h => e (UInt8.toNat_inj.1 (by have h2 : (32 : UInt8).toNat = 32 := rfl; omega))
              rw [beq_eq_false_iff_ne.2 e, beq_eq_false_iff_ne.2 this]
          rw [hx32] at hy hno
          obtain ⟨x, hx⟩ : ∃ x : Int, x = ((A[p]'(by omega)).toNat : Int) := ⟨_, rfl⟩
          rw [← hx] at gc hy hno
          have t1 : (k : Int) < (A.length : Int) := by omega
          have w1 : IntKind.i64.wrap ((A.length : Int) - 1) = ((A.length - 1 : Nat) : Int) := by rw [IntKind.wrap_i64]; omega
          obtain ⟨l1, hl1⟩ : ∃ l1 : Int, l1 = ((A.length - 1 : Nat) : Int) := ⟨_, rfl⟩
          rw [← hl1] at w1
          have w2 : IntKind.i64.wrap (l1 - (k : Int)) = (p : Int) := by rw [IntKind.wrap_i64]; omega
          have w3 : IntKind.i64.wrap ((k : Int) + 1) = ((k + 1 : Nat) : Int) := by rw [IntKind.wrap_i64]; omega
          have t2 : (p : Int) < (A.length : Int) := by omega
          by_cases hx2 : (x == 32) = false
          · have hT2 := Lib.hid (show (k + 1) + runN (R.drop (k + 1)) false = wordN A by have := hy (by rw [hx2]; rfl); omega)
            clear hT hy hno hx hx32 eR hpe hp hl1
            go_upto_region 5 with fail
            go_quiet (fail)
            go_wp2
            go_roundw
            case rel => exact ⟨k + 1, by omega, rfl, hT2.out, Blk.drewN hbb2 _, bel_drewN hbel2 _⟩
            case measure => simp [intOf]; omega
          · have hx3 : (x == 32) = true := by cases h : (x == 32) <;> simp_all
            have hkT : k = wordN A := by have := hno (by rw [hx3]; rfl); omega
            have hkT2 := Lib.hid hkT
            clear hT hy hno hx hx32 eR hpe hp hl1 hx2 hkT
            go_upto_region 5 with fail
            go_quiet (fail)
            go_wp2
            go_roundw
            case rel => exact ⟨2, by omega, rfl, by rw [hkT2.out]; rfl, Blk.drewN hbb2 _, bel_drewN hbel2 _⟩
            case measure => simp [intOf]
        · have hkT : k = wordN A := by
            have : runN (R.drop k) false = 0 := by rw [List.drop_eq_nil_of_le (by rw [hR, hRl]; omega)]; rfl
            omega
          have hkT2 := Lib.hid hkT
          have t1 : ¬ (k : Int) < (A.length : Int) := by omega
          clear hT hkT
          go_upto_region 5 with fail
          go_quiet (fail)
          go_wp2
          go_roundw
          case rel => exact ⟨2, by omega, rfl, by rw [hkT2.out]; rfl, Blk.drewN hbb2 _, bel_drewN hbel2 _⟩
          case measure => simp [intOf]
    · obtain rfl : j = 2 := by omega
      simp only [show ¬ (2 : Nat) = 0 by omega, show ¬ (2 : Nat) = 1 by omega, if_false]
      go_wp2
      go_ret
      exact ⟨rfl, by repeat (first | (with_reducible exact Below.refl _ _) | (with_reducible assumption) | (with_reducible apply bel_alloc) | (with_reducible apply bel_drew) | (with_reducible refine bel_set ?_ (by first | exact Nat.le_refl _ | (simp; done) | omega | (simp; omega)) _) | (with_reducible refine bel_trans ?_ (by with_reducible assumption)))⟩
end Go.Proofs.Ytfmlbnkmckkjnaa
