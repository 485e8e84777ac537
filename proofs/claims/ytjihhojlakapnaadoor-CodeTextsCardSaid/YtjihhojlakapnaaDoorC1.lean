/- A cell's bytes. -/
import Derived.Test.YtjihhojlakapnaaDoorH3
import Derived.Test.YtjihhojlakapnaaDoorQ2
namespace Go.Proofs.YtjihhojlakapnaaDoor
open Go.RowKit
set_option linter.unusedVariables false
set_option linter.unusedSimpArgs false
attribute [local go_sem] cell_set set_set m_undef

/-- What is left of a number behind k bytes; its byte there. -/
def restK (n : Int) (k : Nat) : Int := n / 256 ^ k
def byteK (n : Int) (k : Nat) : UInt8 := UInt8.ofNat ((restK n k) % 256).toNat
def bytesB (n : Int) (k : Nat) : List UInt8 := (List.range k).map (byteK n)
theorem bytesB_succ (n : Int) (k : Nat) : bytesB n (k + 1) = bytesB n k ++ [byteK n k] := by simp [bytesB, List.range_succ]
theorem bytesB_len (n : Int) (k : Nat) : (bytesB n k).length = k := by simp [bytesB]
theorem restK_succ (n : Int) (k : Nat) : restK n k / 256 = restK n (k + 1) := by
  unfold restK
  rw [Int.ediv_ediv_of_nonneg (by exact Int.pow_nonneg (by decide)), Int.pow_succ]
set_option maxHeartbeats 1000000 in
theorem wBytesOf (w : World) (n : Int) (hn : isI n) :
    Calls Tryd.prog 37 #[.int .i64 n] w fun e w' => ∃ v, e = .returned v ∧ Bs w' w.heap.size v (bytesB n 8) ∧ Below w.heap.size w w' := by
  go_enter Tryd.func37, Tryd.ntmps37
  go_wp2
  go_loopw [0, 3, 4] (fun r v i wr => ∃ k : Nat, r = .int .i64 (restK n k) ∧ i = .int .i64 (k : Int) ∧ k ≤ 8 ∧ isI (restK n k) ∧ Bs wr w.heap.size v (bytesB n k) ∧ Below w.heap.size w wr) (fun r v i wr => 8 - (intOf i).toNat)
  case atStart => exact ⟨0, by simp [restK], rfl, by omega, by simpa [restK] using hn, Bs.nil _ _, Below.refl _ _⟩
  case round =>
    obtain ⟨k, rfl, rfl, hk, hr, hb, hbel⟩ := hrel
    obtain ⟨a5, cc5, rfl, hcap5⟩ := hb.len
    rw [bytesB_len] at hcap5 ⊢
    by_cases hlt : k < 8
    · have t1 : ((k : Int) < 8) = True := eq_true (by omega)
      have wk : IntKind.i64.wrap ((k : Int) + 1) = ((k + 1 : Nat) : Int) := by rw [IntKind.wrap_i64]; omega
      have hs := restK_succ n k
      have hA5 := hb.alloc (.cells #[.int .u8 ((byteK n k).toNat : Int)] 5)
      obtain ⟨v6, w6, hr6, hv6, hg6, ho6⟩ := Bs.append (P := Tryd.prog) (ty := 22) hA5 (Bs.lit1 wr (byteK n k)) Tryd.underlying22 info5 (by rw [bytesB_len]; simp only [List.length_cons, List.length_nil]; omega) (by have := hbel.size; simp; omega)
      have hbl6 := Lib.hid ((bel_alloc hbel (.cells #[.int .u8 ((byteK n k).toNat : Int)] 5)).grown hg6 (by have := hbel.size; simp; omega) (fun k e => hA5.ge (Nat.le_refl _) e))
      obtain ⟨a6, cc6, rfl, hcap6⟩ := hv6.len
      rw [← bytesB_succ] at hv6 hr6
      rw [bytesB_len] at hr6 hv6
      rw [bytesB_len] at hr6
      have wb : IntKind.u8.wrap (restK n k) = ((byteK n k).toNat : Int) := by
        rw [IntKind.wrap_u8]; unfold byteK; rw [UInt8.toNat_ofNat']; omega
      replace hv6 := Lib.hid hv6
      have hkp' := Lib.hid hlt
      obtain ⟨r2, er2⟩ : ∃ r2, r2 = restK n (k + 1) := ⟨_, rfl⟩
      rw [← er2] at hs
      have hr2 := Lib.hid (show isI r2 by rw [← hs]; unfold isI at hr ⊢; omega)
      replace er2 := Lib.hid er2
      clear hg6 ho6 hA5 hb hbel hcap6 hlt hcap5 hk
      generalize restK n k = r at *
      generalize byteK n k = bk at *
      go_wp2_with (at_builtin; refine wpList_append_bs rfl _ _ 22 rfl hr6 rfl rfl ?_)
      go_roundw
      case rel => exact ⟨k + 1, by rw [er2.out], rfl, by have := hkp'.out; omega, by rw [← er2.out]; exact hr2.out, hv6.out, hbl6.out⟩
      case measure => have := hkp'.out; simp [intOf]; omega
    · have hk8 : k = 8 := by omega
      subst hk8
      have t1 : (((8 : Nat) : Int) < 8) = False := eq_false (by omega)
      go_wp2
      go_ret
      exact ⟨_, rfl, by simpa [bytesB_len] using hb, hbel⟩
end Go.Proofs.YtjihhojlakapnaaDoor
