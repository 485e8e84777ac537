/- 'Num', 'PutNum', 'Cell', 'PutCell' of the reference. -/
import Derived.Test.YtjkpapkjlmglbaaDoorL3
namespace Go.Proofs.YtjkpapkjlmglbaaDoor
open Go.RowKit
set_option linter.unusedVariables false
set_option linter.unusedSimpArgs false
attribute [local go_sem] cell_set set_set m_undef

set_option maxHeartbeats 1000000 in
theorem rNum (w : World) (B : Nat) (v : Value) (l : List UInt8) (a : Int) (h : Bs w B v l) (ha : isI a) (hl : l.length ≤ 1000000000000000) :
    Calls Tryd.prog 32 #[v, .int .i64 a, .int .i64 8] w fun e w' => e = .returned (.int .u64 (leN l a 8 : Int)) ∧ Below w.heap.size w w' := by
  unfold isI at ha
  obtain ⟨ad, cap, rfl, hcap⟩ := h.len
  replace h := Lib.hid h
  go_enter Tryd.func32, Tryd.ntmps32
  go_wp2
  go_loopw [7, 8] (fun n i wr => Below w.heap.size w wr ∧ ∃ k : Nat, k ≤ 8 ∧ i = .int .i64 (k : Int) ∧ n = .int .u64 (leN l a k : Int)) (fun n i _ => (8 - (intOf i).toNat))
  case atStart => exact ⟨Below.refl _ _, 0, by omega, rfl, rfl⟩
  case round =>
    obtain ⟨hbel, k, hk, rfl, rfl⟩ := hrel
    have hb := h.out.below hbel
    replace hbel := Lib.hid hbel
    have hlt := leN_lt l a k
    obtain ⟨m, hm⟩ : ∃ m, leN l a k = m := ⟨_, rfl⟩
    rw [hm] at hlt ⊢
    by_cases hk8 : k < 8
    · have w1 : IntKind.i64.wrap ((k : Int) + 1) = ((k + 1 : Nat) : Int) := by rw [IntKind.wrap_i64]; omega
      have t1 : ((k : Int) < 8) = True := by simp; omega
      obtain ⟨kz, hkz⟩ : ∃ kz : Int, kz = (k : Int) := ⟨_, rfl⟩
      rw [← hkz] at w1 t1
      rw [← hkz]
      by_cases hin : 0 ≤ a + k ∧ a + k < l.length
      · obtain ⟨hz1, hz2⟩ := hin
        obtain ⟨b, o, c, he⟩ := hb.some_of (by intro e; rw [e] at hz2; simp at hz2; omega)
        cases he
        obtain ⟨j, hj⟩ : ∃ j : Nat, (a + k) = (j : Int) := ⟨(a + k).toNat, by omega⟩
        have hjl : j < l.length := by omega
        obtain ⟨g1, g2⟩ := hb.at j hjl
        have e1 : leN l a (k + 1) = m + l[j].toNat * 2 ^ (8 * k) := by
          rw [leN, byteZ, if_pos ⟨hz1, hz2⟩, List.getD_eq_getElem?_getD, hj, Int.toNat_natCast, List.getElem?_eq_getElem hjl, hm]; rfl
        have hx := UInt8.toNat_lt l[j]
        generalize l[j].toNat = x at *
        have t2 : (a ≤ (l.length : Int)) = True := by simp; omega
        have w2 : IntKind.i64.wrap (a + kz) = (j : Int) := by rw [IntKind.wrap_i64]; omega
        have t4 : ((j : Int) < (l.length : Int)) = True := by simp; omega
        have hsh := shl8 .u64 x k hx hk8
        have hor := or8 m x k hx hk8 hlt
        obtain ⟨z, hz⟩ : ∃ z : Nat, z = x * 2 ^ (8 * k) := ⟨_, rfl⟩
        rw [← hz] at hor hsh
        obtain ⟨q, hq⟩ : ∃ q : Int, q = 8 * (k : Int) := ⟨_, rfl⟩
        rw [← hq] at hsh
        have w3 : IntKind.i64.wrap (8 * kz) = q := by rw [IntKind.wrap_i64]; omega
        have w4 : IntKind.u64.wrap q = q := by rw [IntKind.wrap_u64]; omega
        have w5 : IntKind.u64.wrap (x : Int) = (x : Int) := by rw [IntKind.wrap_u64]; omega
        have e2 : ((m + z : Nat) : Int) = (leN l a (k + 1) : Int) := by rw [e1, hz]
        replace e2 := Lib.hid e2
        replace hkz := Lib.hid hkz
        replace hb := Lib.hid hb
        clear hz hq e1 hj hz1 hz2 hm hlt
        go_wp2
        go_roundw
        case rel => exact ⟨hbel.out, k + 1, by omega, rfl, by rw [← e2.out]; rfl⟩
        case measure => have := hkz.out; simp [intOf]; omega
      · have e1 : leN l a (k + 1) = m := by rw [leN, byteZ, if_neg hin, hm]; omega
        replace e1 := Lib.hid e1
        clear hm hlt
        by_cases hle : a ≤ l.length
        · have t2 : (a ≤ (l.length : Int)) = True := by simp; omega
          obtain ⟨i, hi⟩ : ∃ i : Int, i = a + k := ⟨_, rfl⟩
          have w2 : IntKind.i64.wrap (a + kz) = i := by rw [IntKind.wrap_i64]; omega
          by_cases h0 : 0 ≤ i
          · have t3 : ((0 : Int) ≤ i) = True := by simp; exact h0
            have t4 : (i < (l.length : Int)) = False := by simp; omega
            replace hkz := Lib.hid hkz
            clear hi hin hle h0
            replace hb := Lib.hid hb
            go_wp2
            go_roundw
            case rel => exact ⟨hbel.out, k + 1, by omega, rfl, by rw [e1.out]⟩
            case measure => have := hkz.out; simp [intOf]; omega
          · have t3 : ((0 : Int) ≤ i) = False := by simp; omega
            replace hkz := Lib.hid hkz
            clear hi hin hle h0
            replace hb := Lib.hid hb
            go_wp2
            go_roundw
            case rel => exact ⟨hbel.out, k + 1, by omega, rfl, by rw [e1.out]⟩
            case measure => have := hkz.out; simp [intOf]; omega
        · have t2 : (a ≤ (l.length : Int)) = False := by simp; omega
          obtain ⟨i, hi⟩ : ∃ i : Int, IntKind.i64.wrap (a + kz) = i := ⟨_, rfl⟩
          replace hkz := Lib.hid hkz
          clear hin hle
          replace hb := Lib.hid hb
          go_wp2
          go_roundw
          case rel => exact ⟨hbel.out, k + 1, by omega, rfl, by rw [e1.out]⟩
          case measure => have := hkz.out; simp [intOf]; omega
    · have hk0 : k = 8 := by omega
      subst hk0
      replace hm := Lib.hid hm
      clear hlt
      replace hb := Lib.hid hb
      go_wp2
      go_ret
      exact ⟨by rw [hm.out]; rfl, hbel.out⟩
end Go.Proofs.YtjkpapkjlmglbaaDoor
