/- 'Mark'. -/
import Derived.Test.YtcfblcgdjhpdaaaH8
namespace Go.Proofs.Ytcfblcgdjhpdaaa
open Go.RowKit
set_option linter.unusedVariables false
set_option linter.unusedSimpArgs false
attribute [local go_sem] cell_set set_set m_undef

theorem rmark (w : World) (n : Nat) (now hides : Bool) (hn : n < 32) : Calls Try.prog 52 #[.int .i64 (n : Int), .bool now, .bool hides] w fun e w' => e = .returned (.int .u8 (markN n now hides : Int)) ∧ w = w' := by
  have w1 : IntKind.u8.wrap (n : Int) = (n : Int) := by rw [IntKind.wrap_u8]; omega
  have w2 : IntKind.u8.wrap ((n : Int) + 128) = ((n + 128 : Nat) : Int) := by rw [IntKind.wrap_u8]; omega
  have w3 : IntKind.u8.wrap ((n : Int) + 64) = ((n + 64 : Nat) : Int) := by rw [IntKind.wrap_u8]; omega
  have w4 : IntKind.u8.wrap (((n + 128 : Nat) : Int) + 64) = ((n + 128 + 64 : Nat) : Int) := by rw [IntKind.wrap_u8]; omega
  obtain ⟨a1, ha1⟩ : ∃ a1 : Int, a1 = ((n + 128 : Nat) : Int) := ⟨_, rfl⟩
  obtain ⟨a2, ha2⟩ : ∃ a2 : Int, a2 = ((n + 64 : Nat) : Int) := ⟨_, rfl⟩
  obtain ⟨a3, ha3⟩ : ∃ a3 : Int, a3 = ((n + 128 + 64 : Nat) : Int) := ⟨_, rfl⟩
  rw [← ha1] at w2 w4
  rw [← ha2] at w3
  rw [← ha3] at w4
  obtain ⟨a0, ha0⟩ : ∃ a0 : Int, a0 = (n : Int) := ⟨_, rfl⟩
  rw [← ha0] at w1 w2 w3 ⊢
  have ha := Lib.hid (And.intro ha0 (And.intro ha1 (And.intro ha2 ha3)))
  clear ha0 ha1 ha2 ha3
  go_enter Try.func52, Try.ntmps52
  cases now <;> cases hides
  all_goals
    go_wp2
    go_ret
    have ha' := ha.out
    refine ⟨?_, rfl⟩
    unfold markN
    simp
    omega
theorem or32 (x y : Nat) (hx : x < 256) (hy : y < 256) : bits .or .u8 (x : Int) (y : Int) = ((x ||| y : Nat) : Int) := u8_or_nat x y hx hy
/-- The new length byte. -/
def newB (M : List UInt8) (a : Int) (now hides : Bool) : Nat := (rdB M a &&& 32) ||| markN (rdN M a) now hides
theorem newB_lt (M : List UInt8) (a : Int) (now hides : Bool) : newB M a now hides < 256 := by
  unfold newB
  have h1 : rdB M a < 256 := UInt8.toNat_lt _
  have h2 : rdN M a < 32 := Nat.mod_lt _ (by omega)
  have h3 := (markN_lt (rdN M a) now hides h2).1
  have h4 : rdB M a &&& 32 ≤ 32 := Nat.and_le_right
  exact Nat.or_lt_two_pow (n := 8) (by omega) h3
/-- What 'Mark' makes of the memory. -/
def markM (M : List UInt8) (a : Int) (now hides : Bool) : List UInt8 := if rdOk M a then layL M (a + 8) [UInt8.ofNat (newB M a now hides)] else M
theorem rdV_good (M : List UInt8) (a : Int) (h : rdOk M a = true) : ∃ K S I H X, rdV M a = .agg #[.int .i64 a, .int .i64 K, .string S, .bool I, .bool H, .int .i64 X] ∧ S.size = rdN M a ∧ 1536 ≤ a ∧ a ≤ 5632 := by
  unfold rdV
  rw [h]
  have h2 : a % 8 = 0 ∧ 1536 ≤ a ∧ a < hereL M ∧ rdN M a ≠ 0 ∧ rdXt M a + 8 ≤ hereL M := of_decide_eq_true h
  have h3 := hereL_le M
  have h4 : rdN M a < 32 := Nat.mod_lt _ (by omega)
  obtain ⟨n, hn⟩ : ∃ n, n = rdN M a := ⟨_, rfl⟩
  obtain ⟨e, he⟩ : ∃ e, e = hereL M := ⟨_, rfl⟩
  rw [← hn] at h4 ⊢
  rw [← he] at h3
  have h5 : a < e := by rw [he]; exact h2.2.2.1
  refine ⟨_, _, _, _, _, rfl, ?_, h2.2.1, by clear h2; omega⟩
  have e40 : (loadL M a 40).length = 40 := by rw [loadL_len]; rfl
  show ((((loadL M a 40).drop 9).take n).toArray).size = n
  rw [List.size_toArray, List.length_take, List.length_drop, e40]
  clear h2; omega
theorem load1 (M : List UInt8) (a : Int) : loadL M (a + 8) 1 = [memAt M (a + 8)] := by
  have h1 : (loadL M (a + 8) 1).length = 1 := by rw [loadL_len]; rfl
  apply List.ext_getElem
  · rw [h1]; rfl
  · intro i i1 i2
    rw [h1] at i1
    have e : i = 0 := by omega
    subst e
    rw [loadL_get]
    simp
theorem rdB_at (M : List UInt8) (a : Int) : rdB M a = (memAt M (a + 8)).toNat := by
  unfold rdB
  rw [loadL_getD M a 40 8 (by omega) (by omega)]
  rfl
end Go.Proofs.Ytcfblcgdjhpdaaa
