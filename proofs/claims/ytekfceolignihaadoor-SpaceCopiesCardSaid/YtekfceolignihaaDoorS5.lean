/- 'awake'. -/
import Derived.Test.YtekfceolignihaaDoorS4
namespace Go.Proofs.YtekfceolignihaaDoor
open Go.RowKit
set_option linter.unusedVariables false
set_option linter.unusedSimpArgs false
attribute [local go_sem] cell_set set_set m_undef

theorem ones0 (w : World) : Calls Tryd.prog 22 #[.int .u64 0] w fun e w' => e = .returned (.int .i64 0) ∧ w' = w := by
  go_enter Tryd.func22, Tryd.ntmps22
  go_wp2
  go_ret
  exact ⟨by kernel_rfl, rfl⟩
theorem kFree_zero {w : World} {mb cb fb cc fc : Nat} {C F : List Int} {T U : List Value} {mk : Bool} (h : (MapB mb cb fb C F cc fc T U mk).P w) (hF : ∀ f ∈ F, f = 0) (hl : F.length ≤ 1000000) :
    Calls Tryd.prog 13 #[.pointer (some ⟨mb, 0, none⟩)] w fun e w' => e = .returned (.int .i64 0) ∧ w' = w := by
  obtain ⟨y1, y2, y3⟩ := MapB.cells h
  have hW := Lib.hid (fun (n : Nat) (x : Int) (hx : F[n]? = some x) => MapB.wrd h n x hx)
  have hO := Lib.hid (fun w9 => ones0 w9)
  clear h
  go_enter Tryd.func13, Tryd.ntmps13
  go_wp2
  go_loopw [3, 13] (fun p i wr => ∃ k : Nat, p = .int .i64 0 ∧ i = .int .i64 (k : Int) ∧ k ≤ F.length ∧ wr = w) (fun p i wr => F.length - (intOf i).toNat)
  case atStart => exact ⟨0, rfl, rfl, Nat.zero_le _, rfl⟩
  case round =>
    obtain ⟨k, rfl, rfl, hk, rfl⟩ := hrel
    by_cases hlt : k < F.length
    · have t1 : ((k : Int) < (F.length : Int)) = True := eq_true (by omega)
      have i1 : (0 : Int) ≤ (k : Int) := by omega
      have i2 : (k : Int) < (F.length : Int) := by omega
      have wk : IntKind.i64.wrap ((k : Int) + 1) = ((k + 1 : Nat) : Int) := by rw [IntKind.wrap_i64]; omega
      obtain ⟨d1, d2⟩ := hW.out k 0 (by rw [List.getElem?_eq_getElem hlt, hF _ (List.getElem_mem hlt)])
      replace hlt := Lib.hid hlt
      clear hk hl hF
      go_wp2_with (go_at_call 22; refine (hO.out _).mono ?_; rintro e w' ⟨rfl, rfl⟩)
      go_roundw
      case rel => exact ⟨k + 1, rfl, rfl, hlt.out, by trivial⟩
      case measure => have := hlt.out; simp [intOf]; omega
    · have t1 : ((k : Int) < (F.length : Int)) = False := eq_false (by omega)
      clear hlt hk
      go_wp2
      go_ret
      exact ⟨rfl, rfl⟩
theorem new4 : newFk 4 (max 4 2) = [12] := by decide
theorem ct12 : Lib.ctz 64 12 = 2 := by decide
theorem ct8 : Lib.ctz 64 8 = 3 := by decide
theorem ct4 : Lib.ctz 64 4 = 2 := by decide
theorem nw1 : newW 12 2 1 = 8 := by decide
theorem nw2 : newW 8 3 1 = 0 := by decide
theorem nw3 : newW 0 2 0 = 4 := by decide
theorem nw4 : newW 4 2 1 = 0 := by decide
section
variable {W w : World} {mb cb fb : Nat}
abbrev M4 (mb cb fb : Nat) (C F : List Int) : Kp := Kp.emp.and (MapB mb cb fb C F 4 1 [] [] true)
theorem take1 (h : Pls W w (M4 mb cb fb [0, 0, 0, 0] [12])) (ha : Apart .emp mb cb fb) (hT : TabAt 0 Lib.deBruijn64tab w) :
    Calls Tryd.prog 11 #[.pointer (some ⟨mb, 0, none⟩)] w fun e w' => e = .returned (.tuple #[.int .i64 2, .int .i64 0]) ∧ Pls W w' (M4 mb cb fb [0, 0, 1, 0] [8]) := by
  have := kTake h ha hT 0 12 1 0 rfl (by decide) (by decide) (fun j hj => by omega) (by rw [ct12]; rfl) (by decide) (by decide)
  rw [ct12] at this
  exact this
theorem take2 (h : Pls W w (M4 mb cb fb [0, 0, 1, 0] [8])) (ha : Apart .emp mb cb fb) (hT : TabAt 0 Lib.deBruijn64tab w) :
    Calls Tryd.prog 11 #[.pointer (some ⟨mb, 0, none⟩)] w fun e w' => e = .returned (.tuple #[.int .i64 3, .int .i64 0]) ∧ Pls W w' (M4 mb cb fb [0, 0, 1, 1] [0]) := by
  have := kTake h ha hT 0 8 1 0 rfl (by decide) (by decide) (fun j hj => by omega) (by rw [ct8]; rfl) (by decide) (by decide)
  rw [ct8] at this
  exact this
theorem drop2 (h : Pls W w (M4 mb cb fb [0, 0, 1, 1] [0])) (ha : Apart .emp mb cb fb) :
    Calls Tryd.prog 10 #[.pointer (some ⟨mb, 0, none⟩), .int .i64 2] w fun e w' => e = .returned (.int .i64 0) ∧ Pls W w' (M4 mb cb fb [0, 0, 0, 1] [4]) :=
  kDrop h ha 2 1 0 0 (by decide) rfl (by decide) rfl (by decide) (by decide)
theorem take3 (h : Pls W w (M4 mb cb fb [0, 0, 0, 1] [4])) (ha : Apart .emp mb cb fb) (hT : TabAt 0 Lib.deBruijn64tab w) :
    Calls Tryd.prog 11 #[.pointer (some ⟨mb, 0, none⟩)] w fun e w' => e = .returned (.tuple #[.int .i64 2, .int .i64 0]) ∧ Pls W w' (M4 mb cb fb [0, 0, 1, 1] [0]) := by
  have := kTake h ha hT 0 4 1 0 rfl (by decide) (by decide) (fun j hj => by omega) (by rw [ct4]; rfl) (by decide) (by decide)
  rw [ct4] at this
  exact this
end
set_option maxHeartbeats 1000000 in
theorem wAwake (w : World) (hT : TabAt 0 Lib.deBruijn64tab w) : Calls Tryd.prog 7 #[] w fun e w' => e = .returned (.bool true) ∧ Below w.heap.size w w' := by
  have hN := Lib.hid (kNew w 4 4 (by decide))
  rw [new4] at hN
  replace hT := Lib.hid hT
  go_enter Tryd.func7, Tryd.ntmps7
  go_upto_region 5 with (first
    | (go_at_call 8; refine hN.out.mono ?_; rintro e w1 ⟨mb, cb, fb, rfl, ha, hS1⟩; replace ha := Lib.hid ha; have hS : Pls w w1 (M4 mb cb fb [0, 0, 0, 0] [12]) := hS1; clear hS1)
    | (go_at_call 11; refine (take1 hS ha.out (TabAt.below hT.out hS.bel)).mono ?_; rintro e w2 ⟨rfl, hS2⟩; clear hS; have hS := hS2; clear hS2))
  go_upto_region 6 with (go_at_call 11; refine (take2 hS ha.out (TabAt.below hT.out hS.bel)).mono ?_; rintro e w2 ⟨rfl, hS2⟩; clear hS; have hS := hS2; clear hS2)
  go_upto_region 7 with (go_at_call 11; refine (kTake_full hS.fact.2 (by simp) (by decide)).mono ?_; rintro e w2 ⟨rfl, rfl⟩)
  go_upto_region 8 with (go_at_call 10; refine (drop2 hS ha.out).mono ?_; rintro e w2 ⟨rfl, hS2⟩; clear hS; have hS := hS2; clear hS2)
  go_upto_region 9 with (go_at_call 11; refine (take3 hS ha.out (TabAt.below hT.out hS.bel)).mono ?_; rintro e w2 ⟨rfl, hS2⟩; clear hS; have hS := hS2; clear hS2)
  go_wp2_with (go_at_call 13; refine (kFree_zero hS.fact.2 (by simp) (by decide)).mono ?_; rintro e w2 ⟨rfl, rfl⟩)
  go_ret
  exact ⟨rfl, hS.bel⟩
end Go.Proofs.YtekfceolignihaaDoor
