/- The reference's text of the log. -/
import Derived.Test.YtjkpapkjlmglbaaDoorU3
import Derived.Test.YtjkpapkjlmglbaaDoorN2
namespace Go.Proofs.YtjkpapkjlmglbaaDoor
open Go.RowKit
set_option linter.unusedVariables false
set_option linter.unusedSimpArgs false
attribute [local go_sem] cell_set set_set m_undef

theorem suffix_last (l : List UInt8) (j : Nat) (S : ByteArray) (hS : S = ⟨l.toArray⟩) (hl : l.length = j + 1) (hj : j < S.size) : Lib.hasSuffix l [10] = decide (((S[j]'hj).toNat : Int) = 10) := by
  subst hS
  have e : (⟨l.toArray⟩ : ByteArray)[j]'hj = l[j]'(by omega) := rfl
  rw [e]
  apply Bool.eq_iff_iff.2
  rw [suffix_iff, decide_eq_true_iff]
  constructor
  · rintro ⟨a, rfl⟩
    have : a.length = j := by simpa using hl
    subst this
    simp
  · intro h
    have h2 : l[j]'(by omega) = 10 := UInt8.toNat_inj.1 (by have := Int.ofNat_inj.1 h; exact this)
    refine ⟨l.take j, ?_⟩
    have := List.take_succ_eq_append_getElem (l := l) (i := j) (by omega)
    rw [List.take_of_length_le (by omega)] at this
    rw [h2] at this
    exact this
set_option maxRecDepth 100000 in
set_option maxHeartbeats 1000000 in
theorem rText {w : World} {B rb : Nat} {M : List UInt8} {R : Nat → Prop} (h : RefP w B rb M R) (hB : B ≤ w.heap.size) :
    Calls Tryd.prog 20 #[.pointer (some ⟨rb, 0, none⟩)] w fun e w' => RefQ w w' B rb M R (.string ⟨(textV M).toArray⟩) e := by
  have hS := Onr.start h hB
  have hl := logN_lt M
  have hNum := fun (w9 : World) (v9 : Value) (hb : Bs w9 0 v9 (loadL M 5632 2)) => rNum2 w9 0 v9 (loadL M 5632 2) 0 hb (by unfold isI; omega) (by rw [loadL_len]; omega)
  have ht : textV M = if 510 < logN M then [] else if Lib.hasSuffix (loadL M 5634 (logN M : Int)) [10] then loadL M 5634 (logN M : Int) else [] := rfl
  unfold logN at hl ht
  generalize leN (loadL M 5632 2) 0 2 = n at *
  have wn : IntKind.i64.wrap (n : Int) = (n : Int) := by rw [IntKind.wrap_i64]; omega
  by_cases c0 : n < 1
  · have hn0 : n = 0 := by omega
    subst hn0
    have hz : loadL M 5634 ((0 : Nat) : Int) = [] := by apply List.eq_nil_of_length_eq_zero; rw [loadL_len]; rfl
    rw [if_neg (by omega), hz, show Lib.hasSuffix [] [10] = false from rfl, if_neg (by decide)] at ht
    rw [ht]
    clear ht hz hl h hB c0
    replace hNum := Lib.hid hNum
    go_enter Tryd.func20, Tryd.ntmps20
    go_wp2_with (first
      | (go_at_call_of 16 (5632 : Int); refine (hS.load (fun O h hb => rLoad h 5632 2 (by unfold isI; omega))).mono ?_; rintro e w2 ⟨v2, rfl, hS2⟩; clear hS; have hS := hS2; clear hS2)
      | (go_at_call 32; refine (hS.still (hNum.out _ _ hS.fact.2)).mono ?_; rintro e w3 ⟨rfl, hS2⟩; clear hS; have hS := hS2; clear hS2))
    go_ret
    exact hS.refQ _
  have t0 : ((n : Int) < 1) = False := eq_false (by omega)
  by_cases c1 : 510 < n
  · have t1 : ((510 : Int) < (n : Int)) = True := eq_true (by omega)
    rw [if_pos c1] at ht
    rw [ht]
    clear c0 c1 ht hl h hB
    replace hNum := Lib.hid hNum
    go_enter Tryd.func20, Tryd.ntmps20
    go_wp2_with (first
      | (go_at_call_of 16 (5632 : Int); refine (hS.load (fun O h hb => rLoad h 5632 2 (by unfold isI; omega))).mono ?_; rintro e w2 ⟨v2, rfl, hS2⟩; clear hS; have hS := hS2; clear hS2)
      | (go_at_call 32; refine (hS.still (hNum.out _ _ hS.fact.2)).mono ?_; rintro e w3 ⟨rfl, hS2⟩; clear hS; have hS := hS2; clear hS2))
    go_ret
    exact hS.refQ _
  · have t1 : ((510 : Int) < (n : Int)) = False := eq_false (by omega)
    rw [if_neg c1] at ht
    have hll : (loadL M 5634 (n : Int)).length = n := by rw [loadL_len]; omega
    have hLd := fun (w9 : World) (O : Nat → Prop) (h : RefP w9 B rb M O) => rLoad h 5634 (n : Int) (by unfold isI; omega)
    generalize loadL M 5634 (n : Int) = s at *
    obtain ⟨j, hj⟩ : ∃ j, n = j + 1 := ⟨n - 1, by omega⟩
    obtain ⟨S, hSs⟩ : ∃ S : ByteArray, S = ⟨s.toArray⟩ := ⟨_, rfl⟩
    have hsz : S.size = n := by rw [hSs, str_size]; exact hll
    have hjs : j < S.size := by omega
    have hsf := suffix_last s j S hSs (by omega) hjs
    have wj : IntKind.i64.wrap ((n : Int) - 1) = (j : Int) := by rw [IntKind.wrap_i64]; omega
    have i1 : (0 : Int) ≤ (j : Int) := by omega
    have i2 : (j : Int) < (S.size : Int) := by omega
    have hcv := fun (w9 : World) (v9 : Value) (hb : Bs w9 0 v9 s) => bs_strH hb
    rw [← hSs] at hcv
    replace hcv := Lib.hid hcv
    replace hNum := Lib.hid hNum
    replace hLd := Lib.hid hLd
    by_cases cb : ((S[j]'hjs).toNat : Int) = 10
    · have t5 : ((((S[j]'hjs).toNat : Int)) != 10) = false := by simp [cb]
      have t5' : (((S[j]'hjs).toNat : Int) = 10) = True := eq_true cb
      rw [hsf, decide_eq_true cb, if_pos rfl] at ht
      rw [ht, ← hSs]
      clear ht hSs hsz hsf hj hll c0 c1 hl h hB cb
      go_enter Tryd.func20, Tryd.ntmps20
      go_wp2_with (first
        | (go_at_call_of 16 (5632 : Int); refine (hS.load (fun O h hb => rLoad h 5632 2 (by unfold isI; omega))).mono ?_; rintro e w2 ⟨v2, rfl, hS2⟩; clear hS; have hS := hS2; clear hS2)
        | (go_at_call_of 16 (5634 : Int); refine (hS.load (fun O h hb => hLd.out _ _ h)).mono ?_; rintro e w4 ⟨v4, rfl, hS2⟩; clear hS; have hS := hS2; clear hS2; have hst := hcv.out _ _ hS.fact.2)
        | (go_at_call 32; refine (hS.still (hNum.out _ _ hS.fact.2)).mono ?_; rintro e w3 ⟨rfl, hS2⟩; clear hS; have hS := hS2; clear hS2))
      go_ret
      exact hS.refQ _
    · have t5 : ((((S[j]'hjs).toNat : Int)) != 10) = true := by simp [cb]
      have t5' : (((S[j]'hjs).toNat : Int) = 10) = False := eq_false cb
      rw [hsf, decide_eq_false cb, if_neg (by decide)] at ht
      rw [ht]
      clear ht hSs hsz hsf hj hll c0 c1 hl h hB cb
      go_enter Tryd.func20, Tryd.ntmps20
      go_wp2_with (first
        | (go_at_call_of 16 (5632 : Int); refine (hS.load (fun O h hb => rLoad h 5632 2 (by unfold isI; omega))).mono ?_; rintro e w2 ⟨v2, rfl, hS2⟩; clear hS; have hS := hS2; clear hS2)
        | (go_at_call_of 16 (5634 : Int); refine (hS.load (fun O h hb => hLd.out _ _ h)).mono ?_; rintro e w4 ⟨v4, rfl, hS2⟩; clear hS; have hS := hS2; clear hS2; have hst := hcv.out _ _ hS.fact.2)
        | (go_at_call 32; refine (hS.still (hNum.out _ _ hS.fact.2)).mono ?_; rintro e w3 ⟨rfl, hS2⟩; clear hS; have hS := hS2; clear hS2))
      go_ret
      exact hS.refQ _
end Go.Proofs.YtjkpapkjlmglbaaDoor
