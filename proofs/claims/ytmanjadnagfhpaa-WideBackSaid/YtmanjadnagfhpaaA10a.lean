/- Plain facts on the division of 128 bits by 64, digit by digit (Div64): no program. -/
import Derived.Test.YtmanjadnagfhpaaA9
namespace Go.Proofs.Ytmanjadnagfhpaa
open Go.RowKit
set_option linter.unusedVariables false

/-- A divisor of two digits, the upper one great; a dividend of three digits below it. -/
structure Dig (Y y1 y0 u v : Int) : Prop where
  hY : Y = y1 * 4294967296 + y0
  a1 : 2147483648 ≤ y1
  a2 : y1 < 4294967296
  b1 : 0 ≤ y0
  b2 : y0 < 4294967296
  c1 : 0 ≤ u
  c2 : u < Y
  d1 : 0 ≤ v
  d2 : v < 4294967296

def qt (Y u v : Int) : Int := (u * 4294967296 + v) / Y
/-- What holds at each round's head. -/
def DInv (Y y1 u v q r : Int) : Prop := r = u - q * y1 ∧ 0 ≤ r ∧ r < 4294967296 ∧ qt Y u v ≤ q ∧ 0 ≤ q ∧ q ≤ 4294967297

variable {Y y1 y0 u v q r : Int}
theorem Dig.pos (h : Dig Y y1 y0 u v) : 0 < Y := by have := h.hY; have := h.a1; have := h.b1; omega
theorem Dig.bound (h : Dig Y y1 y0 u v) : Y < 18446744073709551616 := by have := h.hY; have := h.a2; have := h.b2; omega
theorem qt_lt (h : Dig Y y1 y0 u v) : qt Y u v < 4294967296 := by
  have hp := h.pos
  unfold qt
  apply Int.ediv_lt_of_lt_mul hp
  have := h.c2; have := h.d2
  omega
theorem qt_nonneg (h : Dig Y y1 y0 u v) : 0 ≤ qt Y u v := Int.ediv_nonneg (by have := h.c1; have := h.d1; omega) (Int.le_of_lt h.pos)
theorem qt_over (h : Dig Y y1 y0 u v) : (qt Y u v < q ↔ u * 4294967296 + v < q * Y) := by
  unfold qt
  exact Int.ediv_lt_iff_lt_mul h.pos
theorem expand (h : Dig Y y1 y0 u v) (hr : r = u - q * y1) : (u * 4294967296 + v < q * Y ↔ 4294967296 * r + v < q * y0) := by
  rw [h.hY, Int.mul_add, ← Int.mul_assoc, hr, Int.mul_sub, ← Int.mul_assoc]
  have e : 4294967296 * q * y1 = q * y1 * 4294967296 := by rw [Int.mul_comm, Int.mul_comm 4294967296 q, ← Int.mul_assoc, Int.mul_comm y1 q]
  rw [e]
  generalize q * y1 * 4294967296 = A
  generalize q * y0 = B
  omega
theorem DInv.big (h : Dig Y y1 y0 u v) (hi : DInv Y y1 u v q r) (hq : 4294967296 ≤ q) : qt Y u v < q := by have := qt_lt h; omega
/-- Below 2^32 the test asks just whether the digit is too great. -/
theorem DInv.test (h : Dig Y y1 y0 u v) (hi : DInv Y y1 u v q r) : (4294967296 * r + v < q * y0 ↔ qt Y u v < q) := by
  rw [qt_over h, expand h hi.1]
theorem prod_lt {a b : Int} (h1 : 0 ≤ a) (h2 : a < 4294967296) (h3 : 0 ≤ b) (h4 : b < 4294967296) : 0 ≤ a * b ∧ a * b < 18446744073709551616 := by
  refine ⟨Int.mul_nonneg h1 h3, ?_⟩
  have := Int.mul_le_mul (a := a) (b := b) (c := 4294967295) (d := 4294967295) (by omega) (by omega) h3 (by omega)
  omega
theorem DInv.wraps (h : Dig Y y1 y0 u v) (hi : DInv Y y1 u v q r) (hq : q < 4294967296) : IntKind.u64.wrap (q * y0) = q * y0 ∧ IntKind.u64.wrap (4294967296 * r) = 4294967296 * r ∧ IntKind.u64.wrap (4294967296 * r + v) = 4294967296 * r + v := by
  have h1 := prod_lt hi.2.2.2.2.1 hq h.b1 h.b2
  have h2 := hi.2.1; have h3 := hi.2.2.1; have h4 := h.d1; have h5 := h.d2
  rw [IntKind.wrap_u64, IntKind.wrap_u64, IntKind.wrap_u64]
  generalize q * y0 = p at *
  omega
theorem DInv.step (h : Dig Y y1 y0 u v) (hi : DInv Y y1 u v q r) (ht : qt Y u v < q) : r + y1 = u - (q - 1) * y1 ∧ qt Y u v ≤ q - 1 ∧ 0 ≤ q - 1 ∧ q - 1 ≤ 4294967296 ∧ 0 ≤ r + y1 ∧ r + y1 < 8589934592 := by
  obtain ⟨h1, h2, h3, h4, h5, h6⟩ := hi
  have h7 := qt_nonneg h
  have h8 := h.a1; have h9 := h.a2
  refine ⟨by rw [h1, Int.sub_mul]; omega, by omega, by omega, by omega, by omega, by omega⟩
theorem DInv.next (h : Dig Y y1 y0 u v) (hi : DInv Y y1 u v q r) (ht : qt Y u v < q) (hr : r + y1 < 4294967296) : DInv Y y1 u v (q - 1) (r + y1) := by
  obtain ⟨h1, h2, h3, h4, h5, h6⟩ := hi.step h ht
  exact ⟨h1, h5, hr, h2, h3, by omega⟩
/-- The loop is left by its break: the digit is right. -/
theorem DInv.brk (h : Dig Y y1 y0 u v) (hi : DInv Y y1 u v q r) (ht : qt Y u v < q) (hr : 4294967296 ≤ r + y1) : q - 1 = qt Y u v := by
  obtain ⟨h1, h2, h3, h4, h5, h6⟩ := hi.step h ht
  have : ¬ qt Y u v < q - 1 := by
    rw [qt_over h, expand h h1]
    have h7 := Int.mul_le_mul (a := q - 1) (b := y0) (c := 4294967296) (d := 4294967296) h4 (by have := h.b2; omega) h.b1 (by omega)
    have := h.d1
    generalize (q - 1) * y0 = p at *
    omega
  omega
theorem DInv.done (hi : DInv Y y1 u v q r) (ht : ¬ qt Y u v < q) : q = qt Y u v := by
  have := hi.2.2.2.1; omega
theorem start (h : Dig Y y1 y0 u v) : DInv Y y1 u v (u / y1) (u - u / y1 * y1) ∧ IntKind.u64.wrap (u.tdiv y1) = u / y1 ∧ IntKind.u64.wrap (u / y1 * y1) = u / y1 * y1 ∧ IntKind.u64.wrap (u - u / y1 * y1) = u - u / y1 * y1 := by
  have hp := h.pos; have hb := h.bound
  have h1 := h.a1; have h2 := h.c1; have h3 := h.c2; have h4 := h.hY; have h5 := h.b2; have h6 := h.b1; have h7 := h.a2; have h8 := h.d1; have h9 := h.d2
  have hm := Int.emod_nonneg u (b := y1) (by omega)
  have hm2 := Int.emod_lt_of_pos u (b := y1) (by omega)
  have he : u - u / y1 * y1 = u % y1 := by rw [Int.emod_def, Int.mul_comm]
  have hq0 : 0 ≤ u / y1 := Int.ediv_nonneg h2 (by omega)
  have hqu : u / y1 * y1 ≤ u := Int.ediv_mul_le u (by omega)
  have hq1 : u / y1 ≤ 4294967297 := by
    have : u / y1 < 4294967298 := by
      apply Int.ediv_lt_of_lt_mul (by omega)
      omega
    omega
  have hqn : 0 ≤ u / y1 * y1 := Int.mul_nonneg hq0 (by omega)
  refine ⟨⟨rfl, by omega, by omega, ?_, hq0, hq1⟩, ?_, ?_, ?_⟩
  · -- the first guess isn't below
    have : ¬ u / y1 < qt Y u v := by
      intro hlt
      have hle : u / y1 + 1 ≤ qt Y u v := hlt
      have h10 : (u / y1 + 1) * Y ≤ u * 4294967296 + v := by
        unfold qt at hle
        exact (Int.le_ediv_iff_mul_le hp).1 hle
      have h11 : (u / y1 + 1) * y1 * 4294967296 ≤ (u / y1 + 1) * Y := by
        rw [h4, Int.mul_assoc]
        exact Int.mul_le_mul_of_nonneg_left (by omega) (by omega)
      have h12 : (u / y1 + 1) * y1 = u / y1 * y1 + y1 := by rw [Int.add_mul, Int.one_mul]
      rw [h12] at h11
      omega
    omega
  · rw [Int.tdiv_eq_ediv_of_nonneg h2, IntKind.wrap_u64]; omega
  · rw [IntKind.wrap_u64]; generalize u / y1 * y1 = p at *; omega
  · rw [IntKind.wrap_u64, he]; omega
/-- The rest behind a digit. -/
theorem rest (h : Dig Y y1 y0 u v) : IntKind.u64.wrap (IntKind.u64.wrap (IntKind.u64.wrap (u * 4294967296) + v) - IntKind.u64.wrap (qt Y u v * Y)) = (u * 4294967296 + v) % Y := by
  have hp := h.pos; have hb := h.bound
  have h1 := Int.emod_nonneg (u * 4294967296 + v) (b := Y) (by omega)
  have h2 := Int.emod_lt_of_pos (u * 4294967296 + v) hp
  have h3 : (u * 4294967296 + v) % Y = u * 4294967296 + v - qt Y u v * Y := by rw [Int.emod_def]; unfold qt; rw [Int.mul_comm Y]
  rw [h3] at h1 h2 ⊢
  simp only [IntKind.wrap_u64]
  generalize qt Y u v * Y = p at *
  omega
/-- Both digits together. -/
theorem digits (u v1 v0 : Int) (hp : 0 < Y) : (u * 18446744073709551616 + (v1 * 4294967296 + v0)) / Y = qt Y u v1 * 4294967296 + qt Y ((u * 4294967296 + v1) % Y) v0 ∧ (u * 18446744073709551616 + (v1 * 4294967296 + v0)) % Y = ((u * 4294967296 + v1) % Y * 4294967296 + v0) % Y := by
  have e : u * 18446744073709551616 + (v1 * 4294967296 + v0) = ((u * 4294967296 + v1) % Y * 4294967296 + v0) + Y * (qt Y u v1 * 4294967296) := by
    have h := Int.mul_ediv_add_emod (u * 4294967296 + v1) Y
    have h2 : Y * (qt Y u v1 * 4294967296) = Y * ((u * 4294967296 + v1) / Y) * 4294967296 := by unfold qt; rw [Int.mul_assoc]
    rw [h2]
    omega
  rw [e]
  constructor
  · rw [Int.add_mul_ediv_left _ _ (by omega)]
    unfold qt; omega
  · rw [Int.add_mul_emod_self_left]

theorem shifted (h l y : Int) (s : Nat) (hs : s ≤ 63) (hh : is64 h) (hl : is64 l) (hlt : h < y) (hy1 : 9223372036854775808 ≤ y * 2 ^ s) (hy2 : y * 2 ^ s < 18446744073709551616) :
    IntKind.u64.wrap (y * 2 ^ s) = y * 2 ^ s ∧ bits .or .u64 (IntKind.u64.wrap (h * 2 ^ s)) (l / 2 ^ (64 - s)) = h * 2 ^ s + l / 2 ^ (64 - s) ∧ h * 2 ^ s + l / 2 ^ (64 - s) < y * 2 ^ s ∧ 0 ≤ h * 2 ^ s + l / 2 ^ (64 - s) ∧
    (h * 2 ^ s + l / 2 ^ (64 - s)) * 18446744073709551616 + IntKind.u64.wrap (l * 2 ^ s) = (h * 18446744073709551616 + l) * 2 ^ s := by
  obtain ⟨hh1, hh2⟩ := hh
  obtain ⟨hl1, hl2⟩ := hl
  have hp : (0 : Int) < 2 ^ s := Int.pow_pos (by omega)
  have hp2 : (0 : Int) < 2 ^ (64 - s) := Int.pow_pos (by omega)
  have hpp : (2 : Int) ^ s * 2 ^ (64 - s) = 18446744073709551616 := by rw [← Int.pow_add, show s + (64 - s) = 64 by omega]; rfl
  have hl3 : 0 ≤ l / 2 ^ (64 - s) := Int.ediv_nonneg hl1 (by omega)
  have hl4 : l / 2 ^ (64 - s) < 2 ^ s := Int.ediv_lt_of_lt_mul hp2 (by rw [hpp]; omega)
  have hh3 : (h + 1) * 2 ^ s ≤ y * 2 ^ s := Int.mul_le_mul_of_nonneg_right (by omega) (by omega)
  rw [Int.add_mul, Int.one_mul] at hh3
  have hh4 : 0 ≤ h * 2 ^ s := Int.mul_nonneg hh1 (by omega)
  have e1 : IntKind.u64.wrap (h * 2 ^ s) = h * 2 ^ s := by rw [IntKind.wrap_u64]; generalize h * 2 ^ s = p at *; omega
  refine ⟨by rw [IntKind.wrap_u64]; omega, ?_, by omega, by omega, ?_⟩
  · rw [e1]
    obtain ⟨H, rfl⟩ := Int.eq_ofNat_of_zero_le hh1
    obtain ⟨L, hL⟩ := Int.eq_ofNat_of_zero_le hl3
    have hn : ((2 : Int) ^ s) = ((2 ^ s : Nat) : Int) := by rw [Int.natCast_pow]; rfl
    have hL2 : l / 2 ^ (64 - s) ≤ l := Int.ediv_le_self _ hl1
    have hH : H * 2 ^ s < 18446744073709551616 := by
      have h5 : (H : Int) * 2 ^ s < 18446744073709551616 := by omega
      rw [hn, ← Int.natCast_mul] at h5; omega
    have hL3 : L < 2 ^ s := by rw [hL, hn] at hl4; omega
    have hL4 : L < 18446744073709551616 := by omega
    rw [hL, hn, ← Int.natCast_mul]
    have := Nat.two_pow_add_eq_or_of_lt (i := s) (b := L) hL3 H
    rw [bits_or_u64_nat _ _ hH hL4, Nat.mul_comm H, ← this]
    rw [Int.natCast_add]
  · rw [IntKind.wrap_u64]
    have e2 : l * 2 ^ s / 18446744073709551616 = l / 2 ^ (64 - s) := by
      rw [← hpp, Int.mul_comm l, Int.mul_ediv_mul_of_pos _ _ hp]
    have e3 := Int.mul_ediv_add_emod (l * 2 ^ s) 18446744073709551616
    rw [e2] at e3
    have e4 : (h * 18446744073709551616 + l) * 2 ^ s = h * 2 ^ s * 18446744073709551616 + l * 2 ^ s := by rw [Int.add_mul, Int.mul_right_comm]
    rw [e4]
    generalize l * 2 ^ s = p at *
    generalize h * 2 ^ s = p2 at *
    omega
end Go.Proofs.Ytmanjadnagfhpaa
