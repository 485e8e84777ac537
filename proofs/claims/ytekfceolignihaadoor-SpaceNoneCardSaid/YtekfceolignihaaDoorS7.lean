/- 'SpaceNone'. -/
import Derived.Test.YtekfceolignihaaDoorS6
namespace Go.Proofs.YtekfceolignihaaDoor
open Go.RowKit
set_option linter.unusedVariables false
set_option linter.unusedSimpArgs false
attribute [local go_sem] cell_set set_set m_undef

set_option maxRecDepth 100000 in
set_option maxHeartbeats 2000000 in
theorem spaceNone (n : Int) (hn : isI n) (w : World) (hT : TabAt 0 Lib.deBruijn64tab w) : Calls Tryd.prog 6 #[.int .i64 n] w fun e w' => e = .returned (.bool true) ∧ Below w.heap.size w w' := by
  have hA := Lib.hid (wAwake w hT)
  clear hT hn
  go_enter Tryd.func6, Tryd.ntmps6
  go_wp2_with (go_at_call 7; refine hA.out.mono ?_; rintro e w1 ⟨rfl, hb1⟩; have hS : Pls w w1 .emp := ⟨hb1, trivial, fun _ h => h.elim⟩; clear hb1)
  have hS2 := (hS.new Zc 44).new #[.pointer none, .pointer (some ⟨w1.heap.size, 0, none⟩)] 24
  simp only [World.size_alloc] at hS2
  obtain ⟨zb, hzb⟩ : ∃ zb, zb = w1.heap.size := ⟨_, rfl⟩
  obtain ⟨sb, hsb⟩ : ∃ sb, sb = w1.heap.size + 1 := ⟨_, rfl⟩
  obtain ⟨w2, hw2⟩ : ∃ w2, w2 = (w1.alloc (.cells Zc 44)).alloc (.cells #[.pointer none, .pointer (some ⟨w1.heap.size, 0, none⟩)] 24) := ⟨_, rfl⟩
  rw [← hw2] at hS2 ⊢
  rw [← hsb, ← hzb] at hS2 ⊢
  clear hw2 hsb hzb hS
  have hB := hS2.fact.1.2
  have s0 : w2.cell? ⟨sb, 0, none⟩ = some (.pointer none) := Blk.cell hS2.fact.2 0
  have s1 : w2.cell? ⟨sb, 1, none⟩ = some (.pointer (some ⟨zb, 0, none⟩)) := Blk.cell hS2.fact.2 1
  have hbel := hS2.bel
  replace hB := Lib.hid hB
  clear hS2
  go_loopw [15] (fun i wr => ∃ k : Nat, i = .int .i64 (k : Int) ∧ k ≤ 2 ∧ wr = w2) (fun i wr => 2 - (intOf i).toNat)
  case atStart => exact ⟨0, rfl, by omega, rfl⟩
  case round =>
    obtain ⟨k, rfl, hk, rfl⟩ := hrel
    match k, hk with
    | 0, _ =>
      go_wp2_with (first
        | (go_at_call 11; refine (nTake ).mono ?_; rintro e w' ⟨rfl, rfl⟩)
        | (go_at_call 9; refine (nHold n).mono ?_; rintro e w' ⟨rfl, rfl⟩)
        | (go_at_call 10; refine (nDrop n).mono ?_; rintro e w' ⟨rfl, rfl⟩)
        | (go_at_call 13; refine (nFree ).mono ?_; rintro e w' ⟨rfl, rfl⟩)
        | (go_at_call 12; refine (nUsed ).mono ?_; rintro e w' ⟨rfl, rfl⟩)
        | (go_at_call 18; refine (nCount n).mono ?_; rintro e w' ⟨rfl, rfl⟩)
        | (go_at_call 17; refine (nCopy ).mono ?_; rintro e w' ⟨rfl, rfl⟩))
      go_roundw
      case rel => exact ⟨1, rfl, by omega, by trivial⟩
      case measure => simp [intOf]
    | 1, _ =>
      go_wp2_with (first
        | (go_at_call 11; refine (zTake hB.out).mono ?_; rintro e w' ⟨rfl, rfl⟩)
        | (go_at_call 9; refine (zHold hB.out n).mono ?_; rintro e w' ⟨rfl, rfl⟩)
        | (go_at_call 10; refine (zDrop hB.out n).mono ?_; rintro e w' ⟨rfl, rfl⟩)
        | (go_at_call 13; refine (zFree hB.out).mono ?_; rintro e w' ⟨rfl, rfl⟩)
        | (go_at_call 12; refine (zUsed hB.out).mono ?_; rintro e w' ⟨rfl, rfl⟩)
        | (go_at_call 18; refine (zCount hB.out n).mono ?_; rintro e w' ⟨rfl, rfl⟩)
        | (go_at_call 17; refine (zCopy hB.out).mono ?_; rintro e w' ⟨rfl, rfl⟩))
      go_roundw
      case rel => exact ⟨2, rfl, by omega, by trivial⟩
      case measure => simp [intOf]
    | 2, _ =>
      go_wp2
      go_ret
      exact ⟨rfl, hbel⟩
end Go.Proofs.YtekfceolignihaaDoor
