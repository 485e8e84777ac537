/- 'Here', 'Align', 'byteOf'. -/
import Derived.Test.YtjihhojlakapnaaDoorM7
namespace Go.Proofs.YtjihhojlakapnaaDoor
open Go.RowKit
set_option linter.unusedVariables false
set_option linter.unusedSimpArgs false
attribute [local go_sem] cell_set set_set m_undef

theorem and7 (n : Int) (hn : isI n) : bits .and .i64 n 7 = n % 8 := by
  unfold isI at hn
  show IntKind.i64.wrap ((BitVec.ofInt 64 n &&& BitVec.ofInt 64 7).toNat : Int) = _
  rw [BitVec.toNat_and, BitVec.toNat_ofInt, BitVec.toNat_ofInt]
  have e : ((7 : Int) % ((2 ^ 64 : Nat) : Int)).toNat = 2 ^ 3 - 1 := by decide
  rw [e, Nat.and_two_pow_sub_one_eq_mod, IntKind.wrap_i64]
  omega
theorem andm8 (n : Int) (hn : isI n) : bits .and .i64 n (-8) = n - n % 8 := by
  unfold isI at hn
  show IntKind.i64.wrap ((BitVec.ofInt 64 n &&& BitVec.ofInt 64 (-8)).toNat : Int) = _
  rw [BitVec.toNat_and, BitVec.toNat_ofInt, BitVec.toNat_ofInt]
  have e : ((-8 : Int) % ((2 ^ 64 : Nat) : Int)).toNat = 18446744073709551608 := by decide
  rw [e, nat_hi64_3, IntKind.wrap_i64]
  omega
/-- The next multiple of eight. -/
def alignZ (n : Int) : Int := if n % 8 = 0 then n else IntKind.i64.wrap (n + (8 - n % 8))
theorem wAlign (w : World) (n : Int) (hn : isI n) : Calls Tryd.prog 27 #[.int .i64 n] w fun e w' => e = .returned (.int .i64 (alignZ n)) ∧ w = w' := by
  have h7 := and7 n hn
  unfold alignZ
  obtain ⟨r, hr⟩ : ∃ r, r = n % 8 := ⟨_, rfl⟩
  rw [← hr] at h7 ⊢
  by_cases h0 : r = 0
  · have t1 : ((0 : Int) < r) = False := by simp; omega
    rw [if_pos h0]
    clear h0 hr
    go_enter Tryd.func27, Tryd.ntmps27
    go_wp2
    go_ret
    exact ⟨rfl, rfl⟩
  · have t1 : ((0 : Int) < r) = True := by simp; omega
    rw [if_neg h0]
    have w1 : IntKind.i64.wrap (8 - r) = 8 - r := by rw [IntKind.wrap_i64]; omega
    obtain ⟨z, hz⟩ : ∃ z, IntKind.i64.wrap (n + (8 - r)) = z := ⟨_, rfl⟩
    rw [hz]
    clear h0 hr
    go_enter Tryd.func27, Tryd.ntmps27
    go_wp2
    go_ret
    exact ⟨rfl, rfl⟩
theorem rAlign (w : World) (n : Int) (hn : isI n) : Calls Tryd.prog 16 #[.int .i64 n] w fun e w' => e = .returned (.int .i64 (alignZ n)) ∧ w = w' := by
  have hw := IntKind.wrap_i64 (n + 7)
  obtain ⟨m, hm⟩ : ∃ m, IntKind.i64.wrap (n + 7) = m := ⟨_, rfl⟩
  have hmi : isI m := by unfold isI; rw [← hm, hw]; omega
  have h8 := andm8 m hmi
  have e : alignZ n = m - m % 8 := by
    unfold alignZ
    unfold isI at hn
    have h2 := IntKind.wrap_i64 (n + (8 - n % 8))
    split <;> omega
  rw [e]
  obtain ⟨z, hz⟩ : ∃ z, m - m % 8 = z := ⟨_, rfl⟩
  rw [hz] at h8 ⊢
  clear hw hmi e hz
  go_enter Tryd.func16, Tryd.ntmps16
  go_wp2
  go_ret
  exact ⟨rfl, rfl⟩
/-- Where the dictionary goes on. -/
def hereL (M : List UInt8) : Int := if 1536 ≤ getM M 0 ∧ getM M 0 ≤ 5632 then getM M 0 else 1536
theorem mHere {w : World} {base mb : Nat} {M : List UInt8} {O : Nat → Prop} (h : MemP w base mb M O) (hbase : base ≤ w.heap.size) :
    Calls Tryd.prog 26 #[.pointer (some ⟨mb, 0, none⟩)] w fun e w' => MemQ w w' base mb M O (.int .i64 (hereL M)) e := by
  have hG := Lib.hid (mGet h hbase 0 (by unfold isI; omega))
  unfold hereL
  generalize getM M 0 = n at *
  go_enter Tryd.func26, Tryd.ntmps26
  by_cases h1 : 1536 ≤ n
  · have t1 : ((1536 : Int) ≤ n) = True := by simp; exact h1
    by_cases h2 : n ≤ 5632
    · have t2 : (n ≤ 5632) = True := by simp; exact h2
      rw [if_pos ⟨h1, h2⟩]
      clear h1 h2
      go_wp2_with (go_at_call 17; refine hG.out.mono ?_; rintro e w1 ⟨rfl, O1, hM1, hT1⟩; replace hM1 := Lib.hid hM1; replace hT1 := Lib.hid hT1)
      go_ret
      exact ⟨rfl, O1, hM1.out, hT1.out⟩
    · have t2 : (n ≤ 5632) = False := by simp; omega
      rw [if_neg (fun h => h2 h.2)]
      clear h1 h2
      go_wp2_with (go_at_call 17; refine hG.out.mono ?_; rintro e w1 ⟨rfl, O1, hM1, hT1⟩; replace hM1 := Lib.hid hM1; replace hT1 := Lib.hid hT1)
      go_ret
      exact ⟨rfl, O1, hM1.out, hT1.out⟩
  · have t1 : ((1536 : Int) ≤ n) = False := by simp; omega
    rw [if_neg (fun h => h1 h.1)]
    clear h1
    go_wp2_with (go_at_call 17; refine hG.out.mono ?_; rintro e w1 ⟨rfl, O1, hM1, hT1⟩; replace hM1 := Lib.hid hM1; replace hT1 := Lib.hid hT1)
    go_ret
    exact ⟨rfl, O1, hM1.out, hT1.out⟩
/-- The byte of a length and marks. -/
def markN (n : Nat) (now hides : Bool) : Nat := n + (if now then 128 else 0) + (if hides then 64 else 0)
end Go.Proofs.YtjihhojlakapnaaDoor
