/- Maps that nobody made. -/
import Derived.Test.YtekfceolignihaaDoorS5
namespace Go.Proofs.YtekfceolignihaaDoor
open Go.RowKit
set_option linter.unusedVariables false
set_option linter.unusedSimpArgs false
attribute [local go_sem] cell_set set_set m_undef

abbrev Zc : Array Value := #[.slice none 0 0, .slice none 0 0, .bool false]
theorem zCells {w : World} {zb : Nat} (h : Blk w zb Zc 44) : w.cell? ⟨zb, 0, none⟩ = some (.slice none 0 0) ∧ w.cell? ⟨zb, 1, none⟩ = some (.slice none 0 0) ∧ w.cell? ⟨zb, 2, none⟩ = some (.bool false) := ⟨h.cell 0, h.cell 1, h.cell 2⟩
theorem zHas {w : World} {zb : Nat} (h : Blk w zb Zc 44) (n : Int) :
    Calls Tryd.prog 19 #[.pointer (some ⟨zb, 0, none⟩), .int .i64 n] w fun e w' => e = .returned (.bool false) ∧ w' = w := by
  obtain ⟨y1, y2, y3⟩ := zCells h
  clear h
  by_cases h1 : 2 ≤ n
  · have t1 : (2 ≤ n) = True := eq_true h1
    have t2 : (n < 0) = False := eq_false (by omega)
    clear h1
    go_enter Tryd.func19, Tryd.ntmps19
    go_wp2
    go_ret
    exact ⟨rfl, rfl⟩
  · have t1 : (2 ≤ n) = False := eq_false h1
    clear h1
    go_enter Tryd.func19, Tryd.ntmps19
    go_wp2
    go_ret
    exact ⟨rfl, rfl⟩
theorem nHold {w : World} (n : Int) : Calls Tryd.prog 9 #[.pointer none, .int .i64 n] w fun e w' => e = .returned (.int .i64 1) ∧ w' = w := by
  have hH := Lib.hid (nHas (w := w) n)
  go_enter Tryd.func9, Tryd.ntmps9
  go_wp2_with (go_at_call 19; refine hH.out.mono ?_; rintro e w' ⟨rfl, rfl⟩)
  go_ret
  exact ⟨rfl, rfl⟩
theorem zHold {w : World} {zb : Nat} (h : Blk w zb Zc 44) (n : Int) : Calls Tryd.prog 9 #[.pointer (some ⟨zb, 0, none⟩), .int .i64 n] w fun e w' => e = .returned (.int .i64 1) ∧ w' = w := by
  have hH := Lib.hid (zHas h n)
  clear h
  go_enter Tryd.func9, Tryd.ntmps9
  go_wp2_with (go_at_call 19; refine hH.out.mono ?_; rintro e w' ⟨rfl, rfl⟩)
  go_ret
  exact ⟨rfl, rfl⟩
theorem nDrop {w : World} (n : Int) : Calls Tryd.prog 10 #[.pointer none, .int .i64 n] w fun e w' => e = .returned (.int .i64 1) ∧ w' = w := by
  have hH := Lib.hid (nHas (w := w) n)
  go_enter Tryd.func10, Tryd.ntmps10
  go_wp2_with (go_at_call 19; refine hH.out.mono ?_; rintro e w' ⟨rfl, rfl⟩)
  go_ret
  exact ⟨rfl, rfl⟩
theorem zDrop {w : World} {zb : Nat} (h : Blk w zb Zc 44) (n : Int) : Calls Tryd.prog 10 #[.pointer (some ⟨zb, 0, none⟩), .int .i64 n] w fun e w' => e = .returned (.int .i64 1) ∧ w' = w := by
  have hH := Lib.hid (zHas h n)
  clear h
  go_enter Tryd.func10, Tryd.ntmps10
  go_wp2_with (go_at_call 19; refine hH.out.mono ?_; rintro e w' ⟨rfl, rfl⟩)
  go_ret
  exact ⟨rfl, rfl⟩
theorem nCount {w : World} (n : Int) : Calls Tryd.prog 18 #[.pointer none, .int .i64 n] w fun e w' => e = .returned (.int .i64 0) ∧ w' = w := by
  have hH := Lib.hid (nHas (w := w) n)
  go_enter Tryd.func18, Tryd.ntmps18
  go_wp2_with (go_at_call 19; refine hH.out.mono ?_; rintro e w' ⟨rfl, rfl⟩)
  go_ret
  exact ⟨rfl, rfl⟩
theorem zCount {w : World} {zb : Nat} (h : Blk w zb Zc 44) (n : Int) : Calls Tryd.prog 18 #[.pointer (some ⟨zb, 0, none⟩), .int .i64 n] w fun e w' => e = .returned (.int .i64 0) ∧ w' = w := by
  have hH := Lib.hid (zHas h n)
  clear h
  go_enter Tryd.func18, Tryd.ntmps18
  go_wp2_with (go_at_call 19; refine hH.out.mono ?_; rintro e w' ⟨rfl, rfl⟩)
  go_ret
  exact ⟨rfl, rfl⟩
theorem nFree {w : World} : Calls Tryd.prog 13 #[.pointer none] w fun e w' => e = .returned (.int .i64 0) ∧ w' = w := by
  go_enter Tryd.func13, Tryd.ntmps13
  go_wp2
  go_ret
  exact ⟨rfl, rfl⟩
theorem zFree {w : World} {zb : Nat} (h : Blk w zb Zc 44) : Calls Tryd.prog 13 #[.pointer (some ⟨zb, 0, none⟩)] w fun e w' => e = .returned (.int .i64 0) ∧ w' = w := by
  obtain ⟨y1, y2, y3⟩ := zCells h
  clear h
  go_enter Tryd.func13, Tryd.ntmps13
  go_wp2
  go_loopw [3, 13] (fun p i wr => i = .int .i64 0 ∧ p = .int .i64 0 ∧ wr = w) (fun p i wr => 0)
  case atStart => exact ⟨rfl, rfl, rfl⟩
  case round =>
    obtain ⟨rfl, rfl, rfl⟩ := hrel
    go_wp2
    go_ret
    exact ⟨rfl, rfl⟩
theorem nUsed {w : World} : Calls Tryd.prog 12 #[.pointer none] w fun e w' => e = .returned (.slice none 0 0) ∧ w' = w := by
  go_enter Tryd.func12, Tryd.ntmps12
  go_wp2
  go_ret
  exact ⟨rfl, rfl⟩
theorem zUsed {w : World} {zb : Nat} (h : Blk w zb Zc 44) : Calls Tryd.prog 12 #[.pointer (some ⟨zb, 0, none⟩)] w fun e w' => e = .returned (.slice none 0 0) ∧ w' = w := by
  obtain ⟨y1, y2, y3⟩ := zCells h
  clear h
  go_enter Tryd.func12, Tryd.ntmps12
  go_wp2
  go_loopw [3, 12] (fun p i wr => i = .int .i64 0 ∧ p = .slice none 0 0 ∧ wr = w) (fun p i wr => 0)
  case atStart => exact ⟨rfl, rfl, rfl⟩
  case round =>
    obtain ⟨rfl, rfl, rfl⟩ := hrel
    go_wp2
    go_ret
    exact ⟨rfl, rfl⟩
theorem nCopy {w : World} : Calls Tryd.prog 17 #[.pointer none] w fun e w' => e = .returned (.pointer none) ∧ w' = w := by
  go_enter Tryd.func17, Tryd.ntmps17
  go_wp2
  go_ret
  exact ⟨rfl, rfl⟩
theorem zCopy {w : World} {zb : Nat} (h : Blk w zb Zc 44) : Calls Tryd.prog 17 #[.pointer (some ⟨zb, 0, none⟩)] w fun e w' => e = .returned (.pointer none) ∧ w' = w := by
  obtain ⟨y1, y2, y3⟩ := zCells h
  clear h
  go_enter Tryd.func17, Tryd.ntmps17
  go_wp2
  go_ret
  exact ⟨rfl, rfl⟩
theorem nTake {w : World} : Calls Tryd.prog 11 #[.pointer none] w fun e w' => e = .returned (.tuple #[.int .i64 0, .int .i64 50]) ∧ w' = w := by
  go_enter Tryd.func11, Tryd.ntmps11
  go_wp2
  refine wp_scope_straight ?_
  go_wp2
  simp only [Exit.noGoto]
  go_ret2
  exact ⟨rfl, rfl⟩
theorem zTake {w : World} {zb : Nat} (h : Blk w zb Zc 44) : Calls Tryd.prog 11 #[.pointer (some ⟨zb, 0, none⟩)] w fun e w' => e = .returned (.tuple #[.int .i64 0, .int .i64 50]) ∧ w' = w := by
  obtain ⟨y1, y2, y3⟩ := zCells h
  clear h
  go_enter Tryd.func11, Tryd.ntmps11
  go_wp2
  refine wp_scope_straight ?_
  go_wp2
  refine wp_label ?_
  go_wp2
  go_loopw [4, 14] (fun p i wr => i = .int .i64 0 ∧ p = .int .i64 (-1) ∧ wr = w) (fun p i wr => 0)
  case atStart => exact ⟨rfl, rfl, rfl⟩
  case round =>
    obtain ⟨rfl, rfl, rfl⟩ := hrel
    go_wp2
    simp only [Exit.noGoto]
    go_ret2
    exact ⟨rfl, rfl⟩
end Go.Proofs.YtekfceolignihaaDoor
