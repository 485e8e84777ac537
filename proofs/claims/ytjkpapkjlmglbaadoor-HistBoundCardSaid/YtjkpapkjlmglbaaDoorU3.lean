/- The text of the log. -/
import Derived.Test.YtjkpapkjlmglbaaDoorU2
namespace Go.Proofs.YtjkpapkjlmglbaaDoor
open Go.RowKit
set_option linter.unusedVariables false
set_option linter.unusedSimpArgs false
attribute [local go_sem] cell_set set_set m_undef

/-- How long the log says that it is. -/
def logN (M : List UInt8) : Nat := leN (loadL M 5632 2) 0 2
/-- The text of the log. -/
def textV (M : List UInt8) : List UInt8 := if 510 < logN M then [] else if Lib.hasSuffix (loadL M 5634 (logN M : Int)) [10] then loadL M 5634 (logN M : Int) else []
theorem logN_lt (M : List UInt8) : logN M < 65536 := by
  have := leN_lt (loadL M 5632 2) 0 2
  unfold logN
  omega
theorem textV_ended (M : List UInt8) : Ended (textV M) := by
  unfold textV
  split
  · exact Ended.nil
  · split
    · rename_i h; exact ended_of_suffix h
    · exact Ended.nil
theorem textV_len (M : List UInt8) : (textV M).length ≤ 510 := by
  unfold textV
  split
  · simp
  · split
    · rw [loadL_len]; omega
    · simp
theorem bs_strH {w : World} {v : Value} {l : List UInt8} (h : Bs w 0 v l) : (convert 22 9 v).run Tryd.prog w = .ok (.string ⟨l.toArray⟩) w := h.str Tryd.underlying22 Tryd.underlying5 Tryd.underlying9
set_option maxRecDepth 100000 in
set_option maxHeartbeats 1000000 in
theorem wText {w : World} {B mb : Nat} {M : List UInt8} {O : Nat → Prop} (h : MemP w B mb M O) (hB : B ≤ w.heap.size) :
    Calls Tryd.prog 19 #[.pointer (some ⟨mb, 0, none⟩)] w fun e w' => MemQ w w' B mb M O (.string ⟨(textV M).toArray⟩) e := by
  have hS := One.start h hB
  have hl := logN_lt M
  have hNum := fun (w9 : World) (v9 : Value) (hb : Bs w9 0 v9 (loadL M 5632 2)) => wNum2 w9 0 v9 (loadL M 5632 2) 0 hb (by unfold isI; omega) (by rw [loadL_len]; omega)
  have ht : textV M = if 510 < logN M then [] else if Lib.hasSuffix (loadL M 5634 (logN M : Int)) [10] then loadL M 5634 (logN M : Int) else [] := rfl
  unfold logN at hl ht
  generalize leN (loadL M 5632 2) 0 2 = n at *
  have wn : IntKind.i64.wrap (n : Int) = (n : Int) := by rw [IntKind.wrap_i64]; omega
  by_cases c1 : 510 < n
  · have t1 : ((510 : Int) < (n : Int)) = True := eq_true (by omega)
    have m1 : min (n : Int) 510 = 510 := by omega
    have m2 : ((n : Int) ≤ 510) = False := eq_false (by omega)
    have m3 : ((n : Int) < 510) = False := eq_false (by omega)
    rw [if_pos c1] at ht
    rw [ht]
    clear c1 ht hl h hB
    replace hNum := Lib.hid hNum
    go_enter Tryd.func19, Tryd.ntmps19
    go_wp2_with (first
      | (go_at_call_of 28 (5632 : Int); refine (hS.load (fun O h hb => mLoad h hb 5632 2 (by unfold isI; omega))).mono ?_; rintro e w2 ⟨v2, rfl, hS2⟩; clear hS; have hS := hS2; clear hS2)
      | (go_at_call_of 28 (5634 : Int); refine (hS.load (fun O h hb => mLoad h hb 5634 _ (by unfold isI; omega))).mono ?_; rintro e w4 ⟨v4, rfl, hS2⟩; clear hS; have hS := hS2; clear hS2; have hst := bs_strH hS.fact.2)
      | (go_at_call 30; refine (hS.still (hNum.out _ _ hS.fact.2)).mono ?_; rintro e w3 ⟨rfl, hS2⟩; clear hS; have hS := hS2; clear hS2))
    go_ret
    exact hS.memQ _
  · have t1 : ((510 : Int) < (n : Int)) = False := eq_false (by omega)
    have m1 : min (n : Int) 510 = n := by omega
    have m2 : ((n : Int) ≤ 510) = True := eq_true (by omega)
    rw [if_neg c1] at ht
    have hsz : (⟨(loadL M 5634 (n : Int)).toArray⟩ : ByteArray).size ≤ 1000000 := by rw [str_size, loadL_len]; omega
    have hsf := fun (w9 : World) => hasSuffix_ ⟨(loadL M 5634 (n : Int)).toArray⟩ w9 hsz
    have hLd := fun (w9 : World) (O : Nat → Prop) (h : MemP w9 B mb M O) (hb : B ≤ w9.heap.size) => mLoad h hb 5634 (n : Int) (by unfold isI; omega)
    rw [show (⟨(loadL M 5634 (n : Int)).toArray⟩ : ByteArray).data.toList = loadL M 5634 (n : Int) from by simp] at hsf
    generalize loadL M 5634 (n : Int) = s at *
    obtain ⟨b, hb⟩ : ∃ b, b = Lib.hasSuffix s [10] := ⟨_, rfl⟩
    rw [← hb] at hsf ht
    clear hb hsz c1 hl h hB
    replace hNum := Lib.hid hNum
    replace hLd := Lib.hid hLd
    replace hsf := Lib.hid hsf
    cases b with
    | true =>
      rw [if_pos rfl] at ht
      rw [ht]
      clear ht
      go_enter Tryd.func19, Tryd.ntmps19
      go_wp2_with (first
        | (go_at_call_of 28 (5632 : Int); refine (hS.load (fun O h hb => mLoad h hb 5632 2 (by unfold isI; omega))).mono ?_; rintro e w2 ⟨v2, rfl, hS2⟩; clear hS; have hS := hS2; clear hS2)
        | (go_at_call_of 28 (5634 : Int); refine (hS.load (fun O h hb => hLd.out _ _ h hb)).mono ?_; rintro e w4 ⟨v4, rfl, hS2⟩; clear hS; have hS := hS2; clear hS2; have hst := bs_strH hS.fact.2)
        | (go_at_call 30; refine (hS.still (hNum.out _ _ hS.fact.2)).mono ?_; rintro e w3 ⟨rfl, hS2⟩; clear hS; have hS := hS2; clear hS2)
        | (go_at_call 31; refine (hsf.out _).mono ?_; rintro e w5 ⟨rfl, rfl⟩))
      go_ret
      exact hS.memQ _
    | false =>
      rw [if_neg (by decide)] at ht
      rw [ht]
      clear ht
      go_enter Tryd.func19, Tryd.ntmps19
      go_wp2_with (first
        | (go_at_call_of 28 (5632 : Int); refine (hS.load (fun O h hb => mLoad h hb 5632 2 (by unfold isI; omega))).mono ?_; rintro e w2 ⟨v2, rfl, hS2⟩; clear hS; have hS := hS2; clear hS2)
        | (go_at_call_of 28 (5634 : Int); refine (hS.load (fun O h hb => hLd.out _ _ h hb)).mono ?_; rintro e w4 ⟨v4, rfl, hS2⟩; clear hS; have hS := hS2; clear hS2; have hst := bs_strH hS.fact.2)
        | (go_at_call 30; refine (hS.still (hNum.out _ _ hS.fact.2)).mono ?_; rintro e w3 ⟨rfl, hS2⟩; clear hS; have hS := hS2; clear hS2)
        | (go_at_call 31; refine (hsf.out _).mono ?_; rintro e w5 ⟨rfl, rfl⟩))
      go_ret
      exact hS.memQ _
end Go.Proofs.YtjkpapkjlmglbaaDoor
