/- 'Num', 'PutNum', 'Cell', 'PutCell' of the reference. -/
import Derived.Test.YtcfblcgdjhpdaaaL3
namespace Go.Proofs.Ytcfblcgdjhpdaaa
open Go.RowKit
set_option linter.unusedVariables false
set_option linter.unusedSimpArgs false
attribute [local go_sem] cell_set set_set m_undef

set_option maxHeartbeats 1000000 in
theorem rNum (w : World) (B : Nat) (v : Value) (l : List UInt8) (a : Int) (h : Bs w B v l) (ha : isI a) (hl : l.length ≤ 1000000000000000) :
    Calls Try.prog 72 #[v, .int .i64 a, .int .i64 8] w fun e w' => e = .returned (.int .u64 (leN l a 8 : Int)) ∧ Below w.heap.size w w' := by
  unfold isI at ha
  obtain ⟨ad, cap, rfl, hcap⟩ := h.len
  replace h := Lib.hid h
  go_enter Try.func72, Try.ntmps72
  go_wp2
  go_loopw [7, 8] (fun n i wr => Below w.heap.size w wr ∧ ∃ k : Nat, k ≤ 8 ∧ i = .int .i64 (k : Int) ∧ n = .int .u64 (leN l a k : Int)) (fun n i _ => (8 - (intOf i).toNat))
  case atStart => exact ⟨Below.refl _ _, 0, by omega, rfl, rfl⟩
  case round =>
    obtain ⟨hbel, k, hk, rfl, rfl⟩ := hrel
    have hb := h.out.below hbel
    replace hbel := Lib.hid hbel
    have hlt := leN_lt l a k
    obtain ⟨m, hm⟩ : ∃ m, leN l a k = m := ⟨_, rfl⟩
    rw [hm] at hlt ⊢
    by_cases hk8 : k < 8
    · have w1 : IntKind.i64.wrap ((k : Int) + 1) = ((k + 1 : Nat) : Int) := by rw [IntKind.wrap_i64]; omega
      have t1 : ((k : Int) < 8) = True := by simp; omega
      obtain ⟨kz, hkz⟩ : ∃ kz : Int, kz = (k : Int) := ⟨_, rfl⟩
      rw [← hkz] at w1 t1
      rw [← hkz]
      by_cases hin : 0 ≤ a + k ∧ a + k < l.length
      · obtain ⟨hz1, hz2⟩ := hin
        obtain ⟨b, o, c, he⟩ := hb.some_of (by intro e; rw [e] at hz2; simp at hz2; omega)
        cases he
        obtain ⟨j, hj⟩ : ∃ j : Nat, (a + k) = (j : Int) := ⟨(a + k).toNat, by omega⟩
        have hjl : j < l.length := by omega
        obtain ⟨g1, g2⟩ := hb.at j hjl
        have e1 : leN l a (k + 1) = m + l[j].toNat * 2 ^ (8 * k) := by
          rw [leN, byteZ, if_pos ⟨hz1, hz2⟩, List.getD_eq_getElem?_getD, hj, Int.toNat_natCast, List.getElem?_eq_getElem hjl, hm]; rfl
        have hx := UInt8.toNat_lt l[j]
        generalize l[j].toNat = x at *
        have t2 : (a ≤ (l.length : Int)) = True := by simp; omega
        have w2 : IntKind.i64.wrap (a + kz) = (j : Int) := by rw [IntKind.wrap_i64]; omega
        have t4 : ((j : Int) < (l.length : Int)) = True := by simp; omega
        have hsh := shl8 .u64 x k hx hk8
        have hor := or8 m x k hx hk8 hlt
        obtain ⟨z, hz⟩ : ∃ z : Nat, z = x * 2 ^ (8 * k) := ⟨_, rfl⟩
        rw [← hz] at hor hsh
        obtain ⟨q, hq⟩ : ∃ q : Int, q = 8 * (k : Int) := ⟨_, rfl⟩
        rw [← hq] at hsh
        have w3 : IntKind.i64.wrap (8 * kz) = q := by rw [IntKind.wrap_i64]; omega
        have w4 : IntKind.u64.wrap q = q := by rw [IntKind.wrap_u64]; omega
        have w5 : IntKind.u64.wrap (x : Int) = (x : Int) := by rw [IntKind.wrap_u64]; omega
        have e2 : ((m + z : Nat) : Int) = (leN l a (k + 1) : Int) := by rw [e1, hz]
        replace e2 := Lib.hid e2
        replace hkz := Lib.hid hkz
        replace hb := Lib.hid hb
        clear hz hq e1 hj hz1 hz2 hm hlt
        go_wp2
        go_roundw
        case rel => exact ⟨hbel.out, k + 1, by omega, rfl, by rw [← e2.out]; rfl⟩
        case measure => have := hkz.out; simp [intOf]; omega
      · have e1 : leN l a (k + 1) = m := by rw [leN, byteZ, if_neg hin, hm]; omega
        replace e1 := Lib.hid e1
        clear hm hlt
        by_cases hle : a ≤ l.length
        · have t2 : (a ≤ (l.length : Int)) = True := by simp; omega
          obtain ⟨i, hi⟩ : ∃ i : Int, i = a + k := ⟨_, rfl⟩
          have w2 : IntKind.i64.wrap (a + kz) = i := by rw [IntKind.wrap_i64]; omega
          by_cases h0 : 0 ≤ i
          · have t3 : ((0 : Int) ≤ i) = True := by simp; exact h0
            have t4 : (i < (l.length : Int)) = False := by simp; omega
            replace hkz := Lib.hid hkz
            clear hi hin hle h0
            replace hb := Lib.hid hb
            go_wp2
            go_roundw
            case rel => exact ⟨hbel.out, k + 1, by omega, rfl, by rw [e1.out]⟩
            case measure => have := hkz.out; simp [intOf]; omega
          · have t3 : ((0 : Int) ≤ i) = False := by simp; omega
            replace hkz := Lib.hid hkz
            clear hi hin hle h0
            replace hb := Lib.hid hb
            go_wp2
            go_roundw
            case rel => exact ⟨hbel.out, k + 1, by omega, rfl, by rw [e1.out]⟩
            case measure => have := hkz.out; simp [intOf]; omega
        · have t2 : (a ≤ (l.length : Int)) = False := by simp; omega
          obtain ⟨i, hi⟩ : ∃ i : Int, IntKind.i64.wrap (a + kz) = i := ⟨_, rfl⟩
          replace hkz := Lib.hid hkz
          clear hin hle
          replace hb := Lib.hid hb
          go_wp2
          go_roundw
          case rel => exact ⟨hbel.out, k + 1, by omega, rfl, by rw [e1.out]⟩
          case measure => have := hkz.out; simp [intOf]; omega
    · have hk0 : k = 8 := by omega
      subst hk0
      replace hm := Lib.hid hm
      clear hlt
      replace hb := Lib.hid hb
      go_wp2
      go_ret
      exact ⟨by rw [hm.out]; rfl, hbel.out⟩
/-- 'Cell' -/
theorem rCell (w : World) (B : Nat) (v : Value) (l : List UInt8) (a : Int) (h : Bs w B v l) (ha : isI a) (hl : l.length ≤ 1000000000000000) :
    Calls Try.prog 65 #[v, .int .i64 a] w fun e w' => e = .returned (.int .i64 (cellL l a)) ∧ Below w.heap.size w w' := by
  have hN := Lib.hid (rNum w B v l a h ha hl)
  unfold cellL
  generalize leN l a 8 = n at *
  obtain ⟨ad, cap, rfl, hcap⟩ := h.len
  obtain ⟨z, hz⟩ : ∃ z : Int, IntKind.i64.wrap (n : Int) = z := ⟨_, rfl⟩
  rw [hz]
  replace h := Lib.hid h
  go_enter Try.func65, Try.ntmps65
  go_wp2_with (go_at_call 72; refine hN.out.mono ?_; rintro e w1 ⟨rfl, h4⟩)
  go_ret
  exact ⟨rfl, h4⟩
set_option maxHeartbeats 1000000 in
theorem rPutNum (w : World) (B : Nat) (v : Value) (l : List UInt8) (a : Int) (n : Nat) (h : Bs w B v l) (ha : isI a) (hl : l.length ≤ 1000000) :
    Calls Try.prog 67 #[v, .int .i64 a, .int .i64 8, .int .u64 (n : Int)] w fun e w' => PutP w w' e (putL l a n 8) := by
  unfold isI at ha
  obtain ⟨ad, cap, rfl, hcap⟩ := h.len
  obtain ⟨v2, w2, hr, hv2, hg2, ho2⟩ := Bs.append (P := Try.prog) (ty := 22) (Bs.nil w w.heap.size) h Try.underlying22 info5 (by simpa using hl) (Nat.le_refl _)
  simp only [List.nil_append] at hv2
  obtain ⟨ad2, cap2, rfl, hcap2⟩ := hv2.len
  have hbel2 : Below w.heap.size w w2 := (Below.refl w.heap.size w).grown hg2 (Nat.le_refl _) (fun k e => by cases e)
  replace h := Lib.hid h
  replace hv2 := Lib.hid hv2
  replace hbel2 := Lib.hid hbel2
  clear hg2 ho2
  go_enter Try.func67, Try.ntmps67
  go_upto_region 3 with (at_builtin; refine wpList_append_bs rfl _ _ 22 rfl hr rfl rfl ?_)
  go_wp2
  go_loopw [10] (fun i wr => Below w.heap.size w wr ∧ ∃ k : Nat, k ≤ 8 ∧ i = .int .i64 (k : Int) ∧ Bs wr w.heap.size (.slice ad2 l.length cap2) (putL l a n k)) (fun i _ => (8 - (intOf i).toNat))
  case atStart => exact ⟨hbel2.out, 0, by omega, rfl, hv2.out⟩
  case round =>
    obtain ⟨hbel, k, hk, rfl, hb⟩ := hrel
    have hpl := putL_len l a n k
    by_cases hk8 : k < 8
    · have w1 : IntKind.i64.wrap ((k : Int) + 1) = ((k + 1 : Nat) : Int) := by rw [IntKind.wrap_i64]; omega
      have t1 : ((k : Int) < 8) = True := by simp; omega
      obtain ⟨kz, hkz⟩ : ∃ kz : Int, kz = (k : Int) := ⟨_, rfl⟩
      rw [← hkz] at w1 t1
      rw [← hkz]
      by_cases hin : 0 ≤ a + k ∧ a + k < l.length
      · obtain ⟨hz1, hz2⟩ := hin
        obtain ⟨b, o, c, he⟩ := hb.some_of (by intro e; rw [e] at hpl; simp at hpl; omega)
        rw [hpl] at he
        cases he
        obtain ⟨j, hj⟩ : ∃ j : Nat, (a + k) = (j : Int) := ⟨(a + k).toNat, by omega⟩
        have hjl : j < (putL l a n k).length := by omega
        obtain ⟨g1, g2⟩ := hb.at j hjl
        have e1 : putL l a n (k + 1) = (putL l a n k).set j (UInt8.ofNat (n / 2 ^ (8 * k))) := by
          rw [putL, if_pos ⟨hz1, hz2⟩, hj, Int.toNat_natCast]
        have hbl : w.heap.size ≤ b := by
          rcases hb.lt with e | ⟨j, e, hj1, hj2⟩
          · cases e
          · cases e; exact hj1
        have hb2 := hb.setAt j (UInt8.ofNat (n / 2 ^ (8 * k))) hjl
        rw [← e1] at hb2
        have t2 : (a ≤ (l.length : Int)) = True := by simp; omega
        have w2 : IntKind.i64.wrap (a + kz) = (j : Int) := by rw [IntKind.wrap_i64]; omega
        have t4 : ((j : Int) < (l.length : Int)) = True := by simp; omega
        have hsh := shr8 .u64 n k hk8
        obtain ⟨z, hz⟩ : ∃ z : Nat, z = n / 2 ^ (8 * k) := ⟨_, rfl⟩
        rw [← hz] at hsh hb2
        have w6 : IntKind.u8.wrap (z : Int) = (((UInt8.ofNat z).toNat : Nat) : Int) := by rw [IntKind.wrap_u8, UInt8.toNat_ofNat']; omega
        obtain ⟨y, hy⟩ : ∃ y : Int, y = (((UInt8.ofNat z).toNat : Nat) : Int) := ⟨_, rfl⟩
        rw [← hy] at w6 hb2
        obtain ⟨q, hq⟩ : ∃ q : Int, q = 8 * (k : Int) := ⟨_, rfl⟩
        rw [← hq] at hsh
        have w3 : IntKind.i64.wrap (8 * kz) = q := by rw [IntKind.wrap_i64]; omega
        have w4 : IntKind.u64.wrap q = q := by rw [IntKind.wrap_u64]; omega
        have hbel3 := Lib.hid (bel_set hbel hbl (o := o + j) (.int .u8 y))
        replace hb2 := Lib.hid hb2
        replace hkz := Lib.hid hkz
        clear hz hq e1 hj hz1 hz2 hb hbel hpl hbl hy
        go_wp2
        go_roundw
        case rel => exact ⟨hbel3.out, k + 1, by omega, rfl, hb2.out⟩
        case measure => have := hkz.out; simp [intOf]; omega
      · have e1 : putL l a n (k + 1) = putL l a n k := by rw [putL, if_neg hin]
        rw [← e1] at hb
        replace hb := Lib.hid hb
        replace hbel := Lib.hid hbel
        clear e1
        by_cases hle : a ≤ l.length
        · have t2 : (a ≤ (l.length : Int)) = True := by simp; omega
          obtain ⟨i, hi⟩ : ∃ i : Int, i = a + k := ⟨_, rfl⟩
          have w2 : IntKind.i64.wrap (a + kz) = i := by rw [IntKind.wrap_i64]; omega
          by_cases h0 : 0 ≤ i
          · have t3 : ((0 : Int) ≤ i) = True := by simp; exact h0
            have t4 : (i < (l.length : Int)) = False := by simp; omega
            replace hkz := Lib.hid hkz
            clear hi hin hle h0 hpl
            go_wp2
            go_roundw
            case rel => exact ⟨hbel.out, k + 1, by omega, rfl, hb.out⟩
            case measure => have := hkz.out; simp [intOf]; omega
          · have t3 : ((0 : Int) ≤ i) = False := by simp; omega
            replace hkz := Lib.hid hkz
            clear hi hin hle h0 hpl
            go_wp2
            go_roundw
            case rel => exact ⟨hbel.out, k + 1, by omega, rfl, hb.out⟩
            case measure => have := hkz.out; simp [intOf]; omega
        · have t2 : (a ≤ (l.length : Int)) = False := by simp; omega
          obtain ⟨i, hi⟩ : ∃ i : Int, IntKind.i64.wrap (a + kz) = i := ⟨_, rfl⟩
          replace hkz := Lib.hid hkz
          clear hin hle hpl
          go_wp2
          go_roundw
          case rel => exact ⟨hbel.out, k + 1, by omega, rfl, hb.out⟩
          case measure => have := hkz.out; simp [intOf]; omega
    · have hk0 : k = 8 := by omega
      subst hk0
      replace hb := Lib.hid hb
      replace hbel := Lib.hid hbel
      clear hpl
      go_wp2
      go_ret
      exact ⟨_, rfl, hb.out, hbel.out⟩
/-- 'PutCell' -/
theorem rPutCell (w : World) (B : Nat) (v : Value) (l : List UInt8) (a n : Int) (h : Bs w B v l) (ha : isI a) (hl : l.length ≤ 1000000) :
    Calls Try.prog 49 #[v, .int .i64 a, .int .i64 n] w fun e w' => PutP w w' e (putCellL l a n) := by
  have hw := IntKind.wrap_u64 n
  obtain ⟨m, hm⟩ : ∃ m : Nat, IntKind.u64.wrap n = (m : Int) := ⟨(IntKind.u64.wrap n).toNat, by rw [hw]; omega⟩
  have hN := Lib.hid (rPutNum w B v l a m h ha hl)
  have e1 : putCellL l a n = putL l a m 8 := by unfold putCellL; rw [hm]; rfl
  rw [e1]
  generalize putL l a m 8 = L at *
  obtain ⟨ad, cap, rfl, hcap⟩ := h.len
  clear e1 hw
  replace h := Lib.hid h
  go_enter Try.func49, Try.ntmps49
  go_wp2_with (go_at_call 67; refine hN.out.mono ?_; rintro e w1 ⟨v', rfl, hb1, h4⟩)
  go_ret
  exact ⟨_, rfl, hb1, h4⟩
end Go.Proofs.Ytcfblcgdjhpdaaa
