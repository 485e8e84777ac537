/- The laws' own example. -/
import Derived.Test.YtfmlbnkmckkjnaaE12
namespace Go.Proofs.Ytfmlbnkmckkjnaa
open Go.RowKit
set_option linter.unusedVariables false
set_option linter.unusedSimpArgs false
attribute [local go_sem] cell_set set_set m_undef ba_get field0 field1 field2

theorem str_list (s : ByteArray) : (⟨s.data.toList.toArray⟩ : ByteArray) = s := by
  cases s; simp
theorem str_len (s : ByteArray) : s.data.toList.length = s.size := by
  show s.data.toList.length = s.data.size
  simp
theorem aw1 : editL [] [97, 98, 2, 99, 13] = (⟨[97, 99, 98], 2, true⟩, 5) := by kernel_rfl
theorem aw2 : editL [[111, 108, 100]] [120, 16] = (⟨[111, 108, 100], 3, false⟩, 2) := by kernel_rfl
theorem aw3 : typedL [97] = [97] := by kernel_rfl
theorem wEdit1 (w : World) : Calls Try.prog 12 #[.slice none 0 0, .string ⟨#[97, 98, 2, 99, 13]⟩] w fun e w' => e = .returned (.tuple #[.agg #[.string ⟨#[97, 99, 98]⟩, .int .i64 2, .bool true], .int .i64 5]) ∧ Below w.heap.size w w' := by
  have h := wEdit w (.slice none 0 0) [] [97, 98, 2, 99, 13] (by simp) (.inl ⟨rfl, rfl⟩) (by simp) (by simp)
  rw [aw1] at h
  exact h
theorem wEdit2 (w : World) : Calls Try.prog 12 #[.slice (some ⟨w.heap.size, 0, none⟩) 1 1, .string ⟨#[120, 16]⟩] (w.alloc (.cells #[.string ⟨#[111, 108, 100]⟩] 9)) fun e w' => e = .returned (.tuple #[.agg #[.string ⟨#[111, 108, 100]⟩, .int .i64 3, .bool false], .int .i64 2]) ∧ Below w.heap.size w w' := by
  have h := wEdit (w.alloc (.cells #[.string ⟨#[111, 108, 100]⟩] 9)) (.slice (some ⟨w.heap.size, 0, none⟩) 1 1) [[111, 108, 100]] [120, 16] (by simp) ((.inr ⟨⟨w.heap.size, 0, none⟩, 1, rfl, fun j hj => by
    have : j = 0 := by simp at hj; omega
    subst this
    exact (Blk.new w #[.string ⟨#[111, 108, 100]⟩] 9).one.1⟩)) (by simp) (by simp)
  rw [aw2] at h
  exact h.mono fun e w' h => ⟨h.1, bel_trans (bel_alloc (Below.refl _ _) _) h.2⟩
theorem wKeys1 (w : World) : Calls Try.prog 11 #[.string ⟨#[97]⟩] w fun e w' => e = .returned (.string ⟨#[97, 13]⟩) ∧ Below w.heap.size w w' := by
  have h := wKeys w [97] (by simp)
  rw [aw3] at h
  exact h
/-- Views are equal. -/
theorem eqlV (x y : ByteArray) (a b : Int) (d e : Bool) (w : World) : (binOp .eql 23 (.agg #[.string x, .int .i64 a, .bool d]) (.agg #[.string y, .int .i64 b, .bool e])).run Try.prog w = .ok (.bool ((x.toList == y.toList) && (a == b) && (d == e))) w := by
  go_simp
  by_cases h1 : x.toList = y.toList <;> by_cases h2 : a = b <;> by_cases h3 : d = e <;> simp [h1, h2, h3]
attribute [local go_sem high] eqlV
set_option maxHeartbeats 1000000 in
theorem wAwake (w : World) : Calls Try.prog 8 #[] w fun e w' => e = .returned (.bool true) ∧ Below w.heap.size w w' := by
  go_enter Try.func8, Try.ntmps8
  go_upto_region 2 with (go_at_call 12; refine (wEdit1 w).mono ?_; rintro e w1 ⟨rfl, hb1⟩)
  have B1 : Blk (w1.alloc (.cells #[.string ⟨#[97, 99, 98]⟩, .int .i64 2, .bool true] 23)) w1.heap.size #[.string ⟨#[97, 99, 98]⟩, .int .i64 2, .bool true] 23 := Blk.new _ _ _
  have hb2 : Below w.heap.size w (w1.alloc (.cells #[.string ⟨#[97, 99, 98]⟩, .int .i64 2, .bool true] 23)) := bel_alloc hb1 _
  clear hb1
  generalize w1.alloc (.cells #[.string ⟨#[97, 99, 98]⟩, .int .i64 2, .bool true] 23) = w2 at *
  generalize w1.heap.size = b1 at *
  go_upto_region 3 with (go_at_call 12; refine (wEdit2 w2).mono ?_; rintro e w3 ⟨rfl, hb3⟩)
  have B1' := B1.below hb3
  have B2 : Blk (w3.alloc (.cells #[.string ⟨#[111, 108, 100]⟩, .int .i64 3, .bool false] 23)) w3.heap.size #[.string ⟨#[111, 108, 100]⟩, .int .i64 3, .bool false] 23 := Blk.new _ _ _
  have B3 := B1'.alloc (.cells #[.string ⟨#[111, 108, 100]⟩, .int .i64 3, .bool false] 23)
  have hb4 : Below w.heap.size w (w3.alloc (.cells #[.string ⟨#[111, 108, 100]⟩, .int .i64 3, .bool false] 23)) := bel_alloc (bel_trans hb2 hb3) _
  clear hb2 hb3 B1 B1'
  generalize w3.alloc (.cells #[.string ⟨#[111, 108, 100]⟩, .int .i64 3, .bool false] 23) = w4 at *
  generalize w3.heap.size = b2 at *
  obtain ⟨d1, d2, d3, g1, g2, g3, l2⟩ := B2.three
  obtain ⟨c1, c2, c3, f1, f2, f3, l1⟩ := B3.three
  go_wp2_with (go_at_call 11; refine (wKeys1 w4).mono ?_; rintro e w5 ⟨rfl, hb5⟩)
  go_ret
  exact ⟨rfl, bel_trans hb4 hb5⟩
end Go.Proofs.Ytfmlbnkmckkjnaa
