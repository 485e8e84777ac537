/- The reference's 'cut'. -/
import Derived.Test.YtfmlbnkmckkjnaaE12
namespace Go.Proofs.Ytfmlbnkmckkjnaa
open Go.RowKit
set_option linter.unusedVariables false
set_option linter.unusedSimpArgs false
attribute [local go_sem] cell_set set_set m_undef ba_get field0 field1 field2

set_option maxHeartbeats 1000000 in
theorem rCut (w : World) (t : List UInt8) (i j : Nat) (ht : t.length ≤ 5000) (hi : i ≤ t.length) (hj : j ≤ t.length) :
    Calls Try.prog 19 #[.string ⟨t.toArray⟩, .int .i64 (i : Int), .int .i64 (j : Int)] w fun e w' => e = .returned (.string ⟨(t.take i ++ t.drop j).toArray⟩) ∧ Below w.heap.size w w' := by
  have hx1 := ba_take t i
  have hx2 := ba_drop t j
  have hx3 := ba_append (t.take i) (t.drop j)
  have hi1 : ((i : Int) ≤ (t.length : Int)) = True := by simp; omega
  have hj1 : ((j : Int) ≤ (t.length : Int)) = True := by simp; omega
  have hbig : ¬ (9223372036854775807 : Int) < (((t.take i).length + (t.drop j).length : Nat) : Int) := by simp only [List.length_take, List.length_drop]; omega
  go_enter Try.func19, Try.ntmps19
  go_upto_region 1 with fail
  go_quiet (fail)
  go_wp2
  go_ret
  exact ⟨rfl, bel_drewN (Below.refl _ _) _⟩
/-- Bytes that are passed over, from a place backwards. -/
theorem run_back_yes (t : List UInt8) (m : Nat) (b : Bool) (h : m < t.length) (hc : ((t[m] == 32) == b) = true) : runN (t.take (m + 1)).reverse b = 1 + runN (t.take m).reverse b := by
  rw [List.take_succ_eq_append_getElem h, List.reverse_append, List.reverse_cons, List.reverse_nil, List.nil_append, List.singleton_append]
  unfold runN
  rw [List.takeWhile_cons_of_pos (p := fun c => (c == 32) == b) hc, List.length_cons, Nat.add_comm]
theorem run_back_no (t : List UInt8) (m : Nat) (b : Bool) (h : m < t.length) (hc : ((t[m] == 32) == b) = false) : runN (t.take (m + 1)).reverse b = 0 := by
  rw [List.take_succ_eq_append_getElem h, List.reverse_append, List.reverse_cons, List.reverse_nil, List.nil_append, List.singleton_append]
  unfold runN
  rw [List.takeWhile_cons_of_neg (p := fun c => (c == 32) == b) (by rw [hc]; simp)]
  rfl
theorem word_back (t : List UInt8) (k : Nat) (hk : k ≤ t.length) :
    (k - runN (t.take k).reverse true) - runN (t.take (k - runN (t.take k).reverse true)).reverse false = k - wordN (t.take k) := by
  have h1 := runN_le (t.take k).reverse true
  have hl : (t.take k).reverse.length = k := by simp; omega
  rw [hl] at h1
  have e : (t.take k).reverse.drop (runN (t.take k).reverse true) = (t.take (k - runN (t.take k).reverse true)).reverse := by
    rw [List.drop_reverse, List.length_take, Nat.min_eq_left hk, List.take_take, Nat.min_eq_left (by omega)]
  unfold wordN
  rw [e]
  omega
theorem c32 (c : UInt8) (x : Int) (hx : x = (c.toNat : Int)) : (c == 32) = (x == 32) := by
  by_cases e : c = 32
  · subst hx; rw [e]; rfl
  · have : ¬ x = 32 := fun h => e (UInt8.toNat_inj.1 (by have h2 : (32 : UInt8).toNat = 32 := rfl; omega))
    rw [beq_eq_false_iff_ne.2 e, beq_eq_false_iff_ne.2 this]

set_option maxHeartbeats 1000000 in
theorem rWord (w : World) (t : List UInt8) (k : Nat) (ht : t.length ≤ 5000) (hk : k ≤ t.length) :
    Calls Try.prog 20 #[.string ⟨t.toArray⟩, .int .i64 (k : Int)] w fun e w' => e = .returned (.int .i64 ((k - wordN (t.take k) : Nat) : Int)) ∧ Below w.heap.size w w' := by
  have hW := Lib.hid (word_back t k hk)
  obtain ⟨p1, hp1⟩ : ∃ p1, k - runN (t.take k).reverse true = p1 := ⟨_, rfl⟩
  rw [hp1] at hW
  have hp1k : p1 ≤ k := by omega
  go_enter Try.func20, Try.ntmps20
  go_wp2
  go_loopw [1] (fun p wr => Below w.heap.size w wr ∧ ∃ m : Nat, m ≤ k ∧ p = .int .i64 (m : Int) ∧ m - runN (t.take m).reverse true = p1) (fun p _ => (intOf p).toNat)
  case atStart => exact ⟨Below.refl _ _, k, Nat.le_refl _, rfl, hp1⟩
  case round =>
    obtain ⟨hwr, m, hm, rfl, hT⟩ := hrel
    replace hwr := Lib.hid hwr
    rcases Nat.eq_zero_or_pos m with rfl | hpos
    · have hp0 : p1 = 0 := by rw [← hT]; simp
      clear hT
      go_wp2
      go_loopw [1] (fun p wr => Below w.heap.size w wr ∧ ∃ m : Nat, m ≤ p1 ∧ p = .int .i64 (m : Int) ∧ m - runN (t.take m).reverse false = k - wordN (t.take k)) (fun p _ => (intOf p).toNat)
      case atStart => exact ⟨hwr.out, p1, Nat.le_refl _, by rw [hp0], hW.out⟩
      case round =>
        obtain ⟨hwr, m, hm, rfl, hT⟩ := hrel
        replace hwr := Lib.hid hwr
        rcases Nat.eq_zero_or_pos m with rfl | hpos
        · have hz : 0 = k - wordN (t.take k) := by rw [← hT]; simp
          replace hz := Lib.hid hz
          clear hT
          go_wp2
          go_ret
          exact ⟨by rw [← hz.out]; rfl, hwr.out⟩
        ·
          obtain ⟨m, rfl⟩ : ∃ n, m = n + 1 := ⟨m - 1, by omega⟩
          have hml : m < t.length := by omega
          obtain ⟨c, hc⟩ : ∃ c, t[m] = c := ⟨_, rfl⟩
          have hy := run_back_yes t m false hml
          have hn := run_back_no t m false hml
          rw [hc, c32 c _ rfl] at hy hn
          have t1 : ((0 : Int) < ((m + 1 : Nat) : Int)) = True := by simp only [eq_iff_iff, iff_true]; omega
          have w2 : IntKind.i64.wrap (m : Int) = (m : Int) := by rw [IntKind.wrap_i64]; omega
          have w2' : IntKind.i64.wrap (((m + 1 : Nat) : Int) - 1) = (m : Int) := by rw [IntKind.wrap_i64]; omega
          have hi1 : ((m : Int) < (t.length : Int)) = True := by simp; omega
          cases h32 : ((c.toNat : Int) == 32)

          · have hT2 := Lib.hid (show m - runN (t.take m).reverse false = k - wordN (t.take k) by have := hy (by rw [h32]; rfl); omega)
            have n32 : ((c.toNat : Int) != 32) = true := by rw [bne, h32]; rfl
            clear hT hy hn
            go_wp2
            go_roundw
            case rel => exact ⟨hwr.out, m, by omega, rfl, hT2.out⟩
            case measure => simp [intOf]
          · have hz : m + 1 = k - wordN (t.take k) := by have := hn (by rw [h32]; rfl); omega
            have n32 : ((c.toNat : Int) != 32) = false := by rw [bne, h32]; rfl
            replace hz := Lib.hid hz
            clear hT hy hn
            go_wp2
            go_ret
            exact ⟨by rw [← hz.out]; rfl, hwr.out⟩
    ·
      obtain ⟨m, rfl⟩ : ∃ n, m = n + 1 := ⟨m - 1, by omega⟩
      have hml : m < t.length := by omega
      obtain ⟨c, hc⟩ : ∃ c, t[m] = c := ⟨_, rfl⟩
      have hy := run_back_yes t m true hml
      have hn := run_back_no t m true hml
      rw [hc, c32 c _ rfl] at hy hn
      have t1 : ((0 : Int) < ((m + 1 : Nat) : Int)) = True := by simp only [eq_iff_iff, iff_true]; omega
      have w2 : IntKind.i64.wrap (m : Int) = (m : Int) := by rw [IntKind.wrap_i64]; omega
      have w2' : IntKind.i64.wrap (((m + 1 : Nat) : Int) - 1) = (m : Int) := by rw [IntKind.wrap_i64]; omega
      have hi1 : ((m : Int) < (t.length : Int)) = True := by simp; omega
      cases h32 : ((c.toNat : Int) == 32)

      · have hpe : p1 = m + 1 := by have := hn (by rw [h32]; rfl); omega
        clear hT hy hn
        go_wp2
        go_loopw [1] (fun p wr => Below w.heap.size w wr ∧ ∃ m : Nat, m ≤ p1 ∧ p = .int .i64 (m : Int) ∧ m - runN (t.take m).reverse false = k - wordN (t.take k)) (fun p _ => (intOf p).toNat)
        case atStart => exact ⟨hwr.out, p1, Nat.le_refl _, by rw [hpe], hW.out⟩
        case round =>
          obtain ⟨hwr, m, hm, rfl, hT⟩ := hrel
          replace hwr := Lib.hid hwr
          rcases Nat.eq_zero_or_pos m with rfl | hpos
          · have hz : 0 = k - wordN (t.take k) := by rw [← hT]; simp
            replace hz := Lib.hid hz
            clear hT
            go_wp2
            go_ret
            exact ⟨by rw [← hz.out]; rfl, hwr.out⟩
          ·
            obtain ⟨m, rfl⟩ : ∃ n, m = n + 1 := ⟨m - 1, by omega⟩
            have hml : m < t.length := by omega
            obtain ⟨c, hc⟩ : ∃ c, t[m] = c := ⟨_, rfl⟩
            have hy := run_back_yes t m false hml
            have hn := run_back_no t m false hml
            rw [hc, c32 c _ rfl] at hy hn
            have t1 : ((0 : Int) < ((m + 1 : Nat) : Int)) = True := by simp only [eq_iff_iff, iff_true]; omega
            have w2 : IntKind.i64.wrap (m : Int) = (m : Int) := by rw [IntKind.wrap_i64]; omega
            have w2' : IntKind.i64.wrap (((m + 1 : Nat) : Int) - 1) = (m : Int) := by rw [IntKind.wrap_i64]; omega
            have hi1 : ((m : Int) < (t.length : Int)) = True := by simp; omega
            cases h32 : ((c.toNat : Int) == 32)

            · have hT2 := Lib.hid (show m - runN (t.take m).reverse false = k - wordN (t.take k) by have := hy (by rw [h32]; rfl); omega)
              have n32 : ((c.toNat : Int) != 32) = true := by rw [bne, h32]; rfl
              clear hT hy hn
              go_wp2
              go_roundw
              case rel => exact ⟨hwr.out, m, by omega, rfl, hT2.out⟩
              case measure => simp [intOf]
            · have hz : m + 1 = k - wordN (t.take k) := by have := hn (by rw [h32]; rfl); omega
              have n32 : ((c.toNat : Int) != 32) = false := by rw [bne, h32]; rfl
              replace hz := Lib.hid hz
              clear hT hy hn
              go_wp2
              go_ret
              exact ⟨by rw [← hz.out]; rfl, hwr.out⟩
      · have hT2 := Lib.hid (show m - runN (t.take m).reverse true = p1 by have := hy (by rw [h32]; rfl); omega)
        clear hT hy hn
        go_wp2
        go_roundw
        case rel => exact ⟨hwr.out, m, by omega, rfl, hT2.out⟩
        case measure => simp [intOf]
end Go.Proofs.Ytfmlbnkmckkjnaa
