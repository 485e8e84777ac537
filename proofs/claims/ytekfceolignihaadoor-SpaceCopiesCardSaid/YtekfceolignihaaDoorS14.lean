/- 'Free' over the counts; the turns of a map over its counts. -/
import Derived.Test.YtekfceolignihaaDoorS13
namespace Go.Proofs.YtekfceolignihaaDoor
open Go.RowKit
set_option linter.unusedVariables false
set_option linter.unusedSimpArgs false
attribute [local go_sem] cell_set set_set m_undef

theorem cnt_word (C : List Int) (i : Nat) : cnt (freeW C i).testBit 64 = cnt (fun j => isFree C (64 * i + j)) 64 :=
  cnt_congr 64 (fun j hj => by rw [freeW_bit]; simp [hj])
theorem cnt_none {p : Nat → Bool} (h : ∀ j, p j = false) : ∀ m, cnt p m = 0
  | 0 => rfl
  | m + 1 => by rw [cnt, cnt_none h m, h m]; rfl
theorem cnt_beyond (p : Nat → Bool) (a b : Nat) (hab : a ≤ b) (h : ∀ j, a ≤ j → p j = false) : cnt p b = cnt p a := by
  obtain ⟨d, rfl⟩ := Nat.le.dest hab
  rw [cnt_add, cnt_none (fun j => h (a + j) (by omega)), Nat.add_zero]
def freeN (C : List Int) : Nat := cnt (isFree C) C.length
theorem freeN_words (C : List Int) : cnt (isFree C) (64 * (C.length / 64 + 1)) = freeN C :=
  cnt_beyond _ _ _ (by omega) (fun j hj => by
    cases h : isFree C j with
    | false => rfl
    | true => have := (isFree_lt h).2.2; omega)
theorem cnt_zero (p : Nat → Bool) : cnt p 0 = 0 := rfl
attribute [local irreducible] freeW cnt
section
variable {W w : World} {K : Kp} {mb cb fb cc fc : Nat} {C : List Int} {T U : List Value} {mk : Bool}
set_option maxHeartbeats 1000000 in
theorem kFree (h : (MapB mb cb fb C (freeL C) cc fc T U mk).P w) (hn : C.length ≤ 1000000) :
    Calls Tryd.prog 13 #[.pointer (some ⟨mb, 0, none⟩)] w fun e w' => e = .returned (.int .i64 (freeN C : Int)) ∧ w' = w := by
  obtain ⟨y1, y2, y3⟩ := MapB.cells h
  rw [freeL_len] at y2
  have hW := Lib.hid (fun (n : Nat) (hx : n < C.length / 64 + 1) => (MapB.wrd h n _ (freeL_at C n hx)).1)
  have hO := Lib.hid (fun (i : Nat) (w9 : World) => kOnes (freeW C i) (freeW_lt C i) w9)
  have hce := freeN_words C
  have hcl := cnt_le (isFree C)
  have hadd := fun k => cnt_add (isFree C) (64 * k) 64
  have hcw := cnt_word C
  clear h
  obtain ⟨m, hm⟩ : ∃ m, m = C.length / 64 + 1 := ⟨_, rfl⟩
  have hmm : m ≤ 1000000 := by omega
  rw [← hm] at y2 hW hce
  clear hm hn
  go_enter Tryd.func13, Tryd.ntmps13
  go_wp2
  go_loopw [3, 13] (fun p i wr => ∃ k : Nat, p = .int .i64 (cnt (isFree C) (64 * k) : Int) ∧ i = .int .i64 (k : Int) ∧ k ≤ m ∧ wr = w) (fun p i wr => m - (intOf i).toNat)
  case atStart => exact ⟨0, by rw [Nat.mul_zero, cnt_zero]; rfl, rfl, Nat.zero_le _, rfl⟩
  case round =>
    obtain ⟨k, rfl, rfl, hk, rfl⟩ := hrel
    by_cases hlt : k < m
    · have t1 : ((k : Int) < (m : Int)) = True := eq_true (by omega)
      have i1 : (0 : Int) ≤ (k : Int) := by omega
      have i2 : (k : Int) < (m : Int) := by omega
      have wk : IntKind.i64.wrap ((k : Int) + 1) = ((k + 1 : Nat) : Int) := by rw [IntKind.wrap_i64]; omega
      have d1 := hW.out k hlt
      have hOk := Lib.hid (hO.out k)
      have hnx : cnt (isFree C) (64 * (k + 1)) = cnt (isFree C) (64 * k) + cnt (freeW C k).testBit 64 := by rw [hcw k, Nat.mul_succ]; exact hadd k
      have hb := hcl (64 * (k + 1))
      rw [hnx] at hb
      generalize cnt (isFree C) (64 * k) = s at *
      generalize cnt (freeW C k).testBit 64 = d at *
      generalize freeW C k = f at *
      have ws : IntKind.i64.wrap ((s : Int) + (d : Int)) = ((s + d : Nat) : Int) := by rw [IntKind.wrap_i64]; omega
      rw [← hnx] at ws
      replace hlt := Lib.hid hlt
      clear hk hmm hce hcl hadd hcw hnx hb
      go_wp2_with (go_at_call 22; refine (hOk.out _).mono ?_; rintro e w' ⟨rfl, rfl⟩)
      go_roundw
      case rel => exact ⟨k + 1, rfl, rfl, hlt.out, by trivial⟩
      case measure => have := hlt.out; simp [intOf]; omega
    · have t1 : ((k : Int) < (m : Int)) = False := eq_false (by omega)
      have hkm : k = m := by omega
      subst hkm
      clear hlt hk
      go_wp2
      go_ret
      exact ⟨by rw [← hce]; rfl, rfl⟩
end
end Go.Proofs.YtekfceolignihaaDoor
