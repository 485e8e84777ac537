/- 'Here', 'Align', 'byteOf'. -/
import Derived.Test.YtcfblcgdjhpdaaaM7
namespace Go.Proofs.Ytcfblcgdjhpdaaa
open Go.RowKit
set_option linter.unusedVariables false
set_option linter.unusedSimpArgs false
attribute [local go_sem] cell_set set_set m_undef

theorem and7 (n : Int) (hn : isI n) : bits .and .i64 n 7 = n % 8 := by
  unfold isI at hn
  show IntKind.i64.wrap ((BitVec.ofInt 64 n &&& BitVec.ofInt 64 7).toNat : Int) = _
  rw [BitVec.toNat_and, BitVec.toNat_ofInt, BitVec.toNat_ofInt]
  have e : ((7 : Int) % ((2 ^ 64 : Nat) : Int)).toNat = 2 ^ 3 - 1 := by decide
  rw [e, Nat.and_two_pow_sub_one_eq_mod, IntKind.wrap_i64]
  omega
theorem andm8 (n : Int) (hn : isI n) : bits .and .i64 n (-8) = n - n % 8 := by
  unfold isI at hn
  show IntKind.i64.wrap ((BitVec.ofInt 64 n &&& BitVec.ofInt 64 (-8)).toNat : Int) = _
  rw [BitVec.toNat_and, BitVec.toNat_ofInt, BitVec.toNat_ofInt]
  have e : ((-8 : Int) % ((2 ^ 64 : Nat) : Int)).toNat = 18446744073709551608 := by decide
  rw [e, nat_hi64_3, IntKind.wrap_i64]
  omega
/-- The next multiple of eight. -/
def alignZ (n : Int) : Int := if n % 8 = 0 then n else IntKind.i64.wrap (n + (8 - n % 8))
theorem wAlign (w : World) (n : Int) (hn : isI n) : Calls Try.prog 41 #[.int .i64 n] w fun e w' => e = .returned (.int .i64 (alignZ n)) ∧ w = w' := by
  have h7 := and7 n hn
  unfold alignZ
  obtain ⟨r, hr⟩ : ∃ r, r = n % 8 := ⟨_, rfl⟩
  rw [← hr] at h7 ⊢
  by_cases h0 : r = 0
  · have t1 : ((0 : Int) < r) = False := by simp; omega
    rw [if_pos h0]
    clear h0 hr
    go_enter Try.func41, Try.ntmps41
    go_wp2
    go_ret
    exact ⟨rfl, rfl⟩
  · have t1 : ((0 : Int) < r) = True := by simp; omega
    rw [if_neg h0]
    have w1 : IntKind.i64.wrap (8 - r) = 8 - r := by rw [IntKind.wrap_i64]; omega
    obtain ⟨z, hz⟩ : ∃ z, IntKind.i64.wrap (n + (8 - r)) = z := ⟨_, rfl⟩
    rw [hz]
    clear h0 hr
    go_enter Try.func41, Try.ntmps41
    go_wp2
    go_ret
    exact ⟨rfl, rfl⟩
theorem rAlign (w : World) (n : Int) (hn : isI n) : Calls Try.prog 45 #[.int .i64 n] w fun e w' => e = .returned (.int .i64 (alignZ n)) ∧ w = w' := by
  have hw := IntKind.wrap_i64 (n + 7)
  obtain ⟨m, hm⟩ : ∃ m, IntKind.i64.wrap (n + 7) = m := ⟨_, rfl⟩
  have hmi : isI m := by unfold isI; rw [← hm, hw]; omega
  have h8 := andm8 m hmi
  have e : alignZ n = m - m % 8 := by
    unfold alignZ
    unfold isI at hn
    have h2 := IntKind.wrap_i64 (n + (8 - n % 8))
    split <;> omega
  rw [e]
  obtain ⟨z, hz⟩ : ∃ z, m - m % 8 = z := ⟨_, rfl⟩
  rw [hz] at h8 ⊢
  clear hw hmi e hz
  go_enter Try.func45, Try.ntmps45
  go_wp2
  go_ret
  exact ⟨rfl, rfl⟩
/-- Where the dictionary goes on. -/
def hereL (M : List UInt8) : Int := if 1536 ≤ getM M 0 ∧ getM M 0 ≤ 5632 then getM M 0 else 1536
theorem mHere {w : World} {base mb : Nat} {M : List UInt8} {O : Nat → Prop} (h : MemP w base mb M O) (hbase : base ≤ w.heap.size) :
    Calls Try.prog 42 #[.pointer (some ⟨mb, 0, none⟩)] w fun e w' => MemQ w w' base mb M O (.int .i64 (hereL M)) e := by
  have hG := Lib.hid (mGet h hbase 0 (by unfold isI; omega))
  unfold hereL
  generalize getM M 0 = n at *
  go_enter Try.func42, Try.ntmps42
  by_cases h1 : 1536 ≤ n
  · have t1 : ((1536 : Int) ≤ n) = True := by simp; exact h1
    by_cases h2 : n ≤ 5632
    · have t2 : (n ≤ 5632) = True := by simp; exact h2
      rw [if_pos ⟨h1, h2⟩]
      clear h1 h2
      go_wp2_with (go_at_call 54; refine hG.out.mono ?_; rintro e w1 ⟨rfl, O1, hM1, hT1⟩; replace hM1 := Lib.hid hM1; replace hT1 := Lib.hid hT1)
      go_ret
      exact ⟨rfl, O1, hM1.out, hT1.out⟩
    · have t2 : (n ≤ 5632) = False := by simp; omega
      rw [if_neg (fun h => h2 h.2)]
      clear h1 h2
      go_wp2_with (go_at_call 54; refine hG.out.mono ?_; rintro e w1 ⟨rfl, O1, hM1, hT1⟩; replace hM1 := Lib.hid hM1; replace hT1 := Lib.hid hT1)
      go_ret
      exact ⟨rfl, O1, hM1.out, hT1.out⟩
  · have t1 : ((1536 : Int) ≤ n) = False := by simp; omega
    rw [if_neg (fun h => h1 h.1)]
    clear h1
    go_wp2_with (go_at_call 54; refine hG.out.mono ?_; rintro e w1 ⟨rfl, O1, hM1, hT1⟩; replace hM1 := Lib.hid hM1; replace hT1 := Lib.hid hT1)
    go_ret
    exact ⟨rfl, O1, hM1.out, hT1.out⟩
/-- The byte of a length and marks. -/
def markN (n : Nat) (now hides : Bool) : Nat := n + (if now then 128 else 0) + (if hides then 64 else 0)
theorem wByteOf (w : World) (n : Nat) (now hides : Bool) (hn : n < 32) : Calls Try.prog 62 #[.int .i64 (n : Int), .bool now, .bool hides] w fun e w' => e = .returned (.int .u8 (markN n now hides : Int)) ∧ w = w' := by
  have w1 : IntKind.u8.wrap (n : Int) = (n : Int) := by rw [IntKind.wrap_u8]; omega
  have o1 : bits .or .u8 (n : Int) 128 = ((n + 128 : Nat) : Int) := by
    rw [u8_or128_right _ (by omega) (by omega)]; omega
  have h64 : ∀ m : Nat, m < 64 → bits .or .u8 (m : Int) 64 = ((m + 64 : Nat) : Int) := fun m hm => by
    have h := u8_or_nat m 64 (by omega) (by omega)
    have e := Nat.two_pow_add_eq_or_of_lt (i := 6) (b := m) hm 1
    simp at e
    rw [Nat.or_comm] at e
    rw [← e, Nat.add_comm] at h
    exact h
  have o2 := h64 n (by omega)
  have o3 : bits .or .u8 ((n + 128 : Nat) : Int) 64 = ((n + 128 + 64 : Nat) : Int) := by
    have h := u8_or_nat (n + 128) 64 (by omega) (by omega)
    have e1 := Nat.two_pow_add_eq_or_of_lt (i := 7) (b := n) (by omega) 1
    have e2 := Nat.two_pow_add_eq_or_of_lt (i := 7) (b := n + 64) (by omega) 1
    have e3 := Nat.two_pow_add_eq_or_of_lt (i := 6) (b := n) (by omega) 1
    simp at e1 e2 e3
    have e4 : (n + 128) ||| 64 = n + 128 + 64 := by
      rw [Nat.add_comm n 128, e1, Nat.or_assoc, Nat.or_comm n 64, ← e3, Nat.add_comm 64 n, ← e2]; omega
    rw [e4] at h
    exact h
  obtain ⟨a1, ha1⟩ : ∃ a1 : Int, a1 = ((n + 128 : Nat) : Int) := ⟨_, rfl⟩
  obtain ⟨a2, ha2⟩ : ∃ a2 : Int, a2 = ((n + 64 : Nat) : Int) := ⟨_, rfl⟩
  obtain ⟨a3, ha3⟩ : ∃ a3 : Int, a3 = ((n + 128 + 64 : Nat) : Int) := ⟨_, rfl⟩
  rw [← ha1] at o1 o3
  rw [← ha2] at o2
  rw [← ha3] at o3
  obtain ⟨a0, ha0⟩ : ∃ a0 : Int, a0 = (n : Int) := ⟨_, rfl⟩
  rw [← ha0] at w1 o1 o2 ⊢
  have ha := Lib.hid (And.intro ha0 (And.intro ha1 (And.intro ha2 ha3)))
  clear ha0 ha1 ha2 ha3 h64
  go_enter Try.func62, Try.ntmps62
  cases now <;> cases hides
  all_goals
    go_wp2
    go_ret
    have ha' := ha.out
    refine ⟨?_, rfl⟩
    unfold markN
    simp
    omega
end Go.Proofs.Ytcfblcgdjhpdaaa
