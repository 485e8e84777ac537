/- 'Create'. -/
import Derived.Test.YtcfblcgdjhpdaaaD5
import Derived.Test.YtcfblcgdjhpdaaaH12
import Derived.Test.YtcfblcgdjhpdaaaN4
namespace Go.Proofs.Ytcfblcgdjhpdaaa
open Go.RowKit
set_option linter.unusedVariables false
set_option linter.unusedSimpArgs false
attribute [local go_sem] cell_set set_set m_undef

theorem One.memK {W w : World} {B mb : Nat} {M : List UInt8} {O0 : Nat → Prop} {K : Kp} (h : One W w B mb M O0 K) {f : Nat} {args : Array Value} {M' : List UInt8} {v : Value} (c : ∀ O, MemP w B mb M O → B ≤ w.heap.size → Keep w O K → Calls Try.prog f args w fun e w' => MemQ w w' B mb M' O v e) :
    Calls Try.prog f args w fun e w' => e = .returned v ∧ One W w' B mb M' O0 K := by
  obtain ⟨O, h1, h2, h3, h4⟩ := h
  refine (c O h1 (Nat.le_trans h4 h2.size) h3).mono fun e w' ⟨he, O', h5, h6⟩ => ⟨he, O', h5, h2.trans h6, h3.turn h6, h4⟩
theorem Onr.refK {W w : World} {B rb : Nat} {M : List UInt8} {O0 : Nat → Prop} {K : Kp} (h : Onr W w B rb M O0 K) {f : Nat} {args : Array Value} {M' : List UInt8} {v : Value} (c : ∀ O, RefP w B rb M O → B ≤ w.heap.size → Keep w O K → Calls Try.prog f args w fun e w' => RefQ w w' B rb M' O v e) :
    Calls Try.prog f args w fun e w' => e = .returned v ∧ Onr W w' B rb M' O0 K := by
  obtain ⟨O, h1, h2, h3, h4⟩ := h
  refine (c O h1 (Nat.le_trans h4 h2.size) h3).mono fun e w' ⟨he, O', h5, h6⟩ => ⟨he, O', h5, h2.trans h6, h3.turn h6, h4⟩
/-- Where a header goes, and where its code cell lies. -/
def crAt (M : List UInt8) : Int := alignZ (hereL M)
def crXt (M : List UInt8) (nm : List UInt8) : Int := crAt M + ((bytesL (latestL M) nm false false).length : Int)
def crOk (M : List UInt8) (nm : List UInt8) : Bool := decide (nm ≠ [] ∧ nm.length ≤ 31 ∧ crXt M nm + 8 ≤ 5632)
/-- The memory behind 'Create'. -/
def crM (M : List UInt8) (nm : List UInt8) : List UInt8 := if crOk M nm then setM (setM (layL M (crAt M) (bytesL (latestL M) nm false false)) 0 (crXt M nm)) 8 (crAt M) else M
/-- Its throw. -/
def crT (M : List UInt8) (nm : List UInt8) : Int := if crOk M nm then 0 else if nm = [] then -16 else if 31 < nm.length then -19 else -8
def crV (M : List UInt8) (nm : List UInt8) : Value := .tuple #[.int .i64 (if crOk M nm then crXt M nm else 0), .int .i64 (crT M nm)]
theorem crAt_in (M : List UInt8) : 1536 ≤ crAt M ∧ crAt M ≤ 5640 ∧ crAt M % 8 = 0 := by
  have hl : 1536 ≤ hereL M ∧ hereL M ≤ 5632 := by unfold hereL; split <;> omega
  unfold crAt
  generalize hereL M = here at *
  have := alignZ_small here (by omega)
  omega
theorem crV_no {M nm : List UInt8} (h : crOk M nm = false) : crV M nm = .tuple #[.int .i64 0, .int .i64 (if nm = [] then -16 else if 31 < nm.length then -19 else -8)] ∧ crM M nm = M := by
  unfold crV crT crM
  rw [h]
  exact ⟨by rw [if_neg (by decide), if_neg (by decide)], if_neg (by decide)⟩
theorem crV_yes {M nm : List UInt8} (h : crOk M nm = true) : crV M nm = .tuple #[.int .i64 (crXt M nm), .int .i64 0] ∧ crM M nm = setM (setM (layL M (crAt M) (bytesL (latestL M) nm false false)) 0 (crXt M nm)) 8 (crAt M) := by
  unfold crV crT crM
  rw [h]
  exact ⟨by rw [if_pos rfl, if_pos rfl], if_pos rfl⟩
theorem crOk_nil (M : List UInt8) : crOk M [] = false := by
  unfold crOk
  rw [decide_eq_false_iff_not]
  exact fun h => h.1 rfl
theorem crOk_long (M : List UInt8) {nm : List UInt8} (h : 31 < nm.length) : crOk M nm = false := by
  unfold crOk
  rw [decide_eq_false_iff_not]
  exact fun h2 => by have := h2.2.1; omega
theorem bytes_le (link : Int) (nm : List UInt8) (im hd : Bool) (h : nm.length ≤ 31) : (bytesL link nm im hd).length ≤ 48 := by rw [bytesL_len]; omega

set_option maxHeartbeats 1000000 in
theorem kCreate {w : World} {B mb : Nat} {M : List UInt8} {O : Nat → Prop} (h : MemP w B mb M O) (hB : B ≤ w.heap.size) (nm : List UInt8) :
    Calls Try.prog 16 #[.pointer (some ⟨mb, 0, none⟩), .string ⟨nm.toArray⟩] w fun e w' => MemQ w w' B mb (crM M nm) O (crV M nm) e := by
  have hS := One.start h hB
  have hLt := Lib.hid (fun (w9 : World) (O : Nat → Prop) (h : MemP w9 B mb M O) (hb : B ≤ w9.heap.size) => mLatest h hb)
  have hHr := Lib.hid (fun (w9 : World) (O : Nat → Prop) (h : MemP w9 B mb M O) (hb : B ≤ w9.heap.size) => mHere h hb)
  have hl : isI (hereL M) := by
    have : 1536 ≤ hereL M ∧ hereL M ≤ 5632 := by unfold hereL; split <;> omega
    unfold isI; omega
  have hAl := Lib.hid (fun (w9 : World) => wAlign w9 (hereL M) hl)
  clear h hB
  by_cases h0 : nm = []
  · subst h0
    have hBy := fun (w9 : World) => bytes_nil w9 0 (latestL M) 0 false false
    obtain ⟨e1, e2⟩ := crV_no (crOk_nil M)
    rw [e1, e2, if_pos rfl]
    clear e1 e2 hl
    generalize latestL M = lt at *
    unfold hdV at hBy
    replace hBy := Lib.hid hBy
    go_enter Try.func16, Try.ntmps16
    go_wp2_with (first
      | (go_at_call 29; refine (hS.mem (fun O h hb => hLt.out _ O h hb)).mono ?_; rintro e w1 ⟨rfl, hS2⟩; clear hS; have hS := hS2; clear hS2)
      | (go_at_call 40; refine (hS.still (hBy.out _)).mono ?_; rintro e w4 ⟨rfl, hS2⟩; clear hS; have hS := hS2; clear hS2))
    go_ret2
    exact hS.memQ _
  by_cases h31 : 31 < nm.length
  · have hBy := fun (w9 : World) => bytes_long w9 0 (latestL M) 0 nm false false h0 h31
    obtain ⟨e1, e2⟩ := crV_no (crOk_long M h31)
    rw [e1, e2, if_neg h0, if_pos h31]
    clear e1 e2 hl h0 h31
    generalize latestL M = lt at *
    unfold hdV at hBy
    replace hBy := Lib.hid hBy
    generalize (⟨nm.toArray⟩ : ByteArray) = s at *
    go_enter Try.func16, Try.ntmps16
    go_wp2_with (first
      | (go_at_call 29; refine (hS.mem (fun O h hb => hLt.out _ O h hb)).mono ?_; rintro e w1 ⟨rfl, hS2⟩; clear hS; have hS := hS2; clear hS2)
      | (go_at_call 40; refine (hS.still (hBy.out _)).mono ?_; rintro e w4 ⟨rfl, hS2⟩; clear hS; have hS := hS2; clear hS2))
    go_ret2
    exact hS.memQ _
  have hBy := fun (w9 : World) => bytes_good w9 0 (latestL M) 0 nm false false h0 (by omega)
  have hble := bytes_le (latestL M) nm false false (by omega)
  have hat := crAt_in M
  have hxd : crXt M nm = crAt M + ((bytesL (latestL M) nm false false).length : Int) := rfl
  have hcy := @crV_yes M nm
  have hcn := @crV_no M nm
  have hcd : crOk M nm = decide (crXt M nm + 8 ≤ 5632) := by
    unfold crOk
    rw [decide_eq_decide]
    exact ⟨fun h => h.2.2, fun h => ⟨h0, by omega, h⟩⟩
  rw [show alignZ (hereL M) = crAt M from rfl] at hAl
  generalize latestL M = lt at *
  generalize crAt M = at_ at *
  generalize crXt M nm = xt at *
  generalize hereL M = here at *
  generalize bytesL lt nm false false = bs at *
  have hbl : bs.length ≤ 1000000 := by omega
  have hati : isI at_ := by unfold isI; omega
  have wx : IntKind.i64.wrap (at_ + (bs.length : Int)) = xt := by rw [IntKind.wrap_i64]; omega
  obtain ⟨x8, hx8⟩ : ∃ x8, x8 = xt + 8 := ⟨_, rfl⟩
  have w8 : IntKind.i64.wrap (xt + 8) = x8 := by rw [IntKind.wrap_i64]; omega
  rw [← hx8] at hcd
  unfold hdV at hBy
  replace hBy := Lib.hid hBy
  replace hati := Lib.hid hati
  replace hbl := Lib.hid hbl
  rw [if_neg h0, if_neg h31] at hcn
  clear hl hx8 hble hat hxd h0 h31
  generalize (⟨nm.toArray⟩ : ByteArray) = s at *
  by_cases hc : 5632 < x8
  · have hc0 : crOk M nm = false := by rw [hcd, decide_eq_false_iff_not]; omega
    obtain ⟨e1, e2⟩ := hcn hc0
    rw [e1, e2]
    clear e1 e2 hcy hcn hcd hc0
    go_enter Try.func16, Try.ntmps16
    go_wp2_with (first
      | (go_at_call 29; refine (hS.mem (fun O h hb => hLt.out _ O h hb)).mono ?_; rintro e w1 ⟨rfl, hS2⟩; clear hS; have hS := hS2; clear hS2)
      | (go_at_call 42; refine (hS.mem (fun O h hb => hHr.out _ O h hb)).mono ?_; rintro e w2 ⟨rfl, hS2⟩; clear hS; have hS := hS2; clear hS2)
      | (go_at_call 41; refine (hAl.out _).mono ?_; rintro e w3 ⟨rfl, rfl⟩)
      | (go_at_call 40; refine (hBy.out _).mono ?_; rintro e w4 ⟨⟨v, rfl, hbv⟩, hbb⟩; obtain ⟨ab, cb_, rfl, hcb⟩ := hbv.len; clear hcb; have hS2 := hS.newBs hbb hbv; clear hbv hbb; clear hS; have hS := hS2; clear hS2))
    go_ret2
    exact (hS.weak).memQ _
  · have hc0 : crOk M nm = true := by rw [hcd, decide_eq_true_iff]; omega
    obtain ⟨e1, e2⟩ := hcy hc0
    rw [e1, e2]
    clear e1 e2 hcy hcn hcd hc0
    go_enter Try.func16, Try.ntmps16
    go_upto_region 9 with (first
      | (go_at_call 29; refine (hS.mem (fun O h hb => hLt.out _ O h hb)).mono ?_; rintro e w1 ⟨rfl, hS2⟩; clear hS; have hS := hS2; clear hS2)
      | (go_at_call 42; refine (hS.mem (fun O h hb => hHr.out _ O h hb)).mono ?_; rintro e w2 ⟨rfl, hS2⟩; clear hS; have hS := hS2; clear hS2)
      | (go_at_call 41; refine (hAl.out _).mono ?_; rintro e w3 ⟨rfl, rfl⟩)
      | (go_at_call 40; refine (hBy.out _).mono ?_; rintro e w4 ⟨⟨v, rfl, hbv⟩, hbb⟩; obtain ⟨ab, cb_, rfl, hcb⟩ := hbv.len; clear hcb; have hS2 := hS.newBs hbb hbv; clear hbv hbb; clear hS; have hS := hS2; clear hS2)
      | (go_at_call 43; refine (hS.memK (fun O h hb hk => mLay h hb at_ hati.out (show Bs _ 0 _ _ from hk.1.2) hbl.out (fun k hk2 => (hk.2 k (.inr hk2)).2))).mono ?_; rintro e w5 ⟨rfl, hS2⟩; clear hS; have hS := hS2; clear hS2))
    go_upto_region 10 with (go_at_call 19; refine (hS.mem (fun O h hb => mSet h hb 0 xt (by unfold isI; omega))).mono ?_; rintro e w6 ⟨rfl, hS2⟩; clear hS; have hS := hS2; clear hS2)
    go_wp2_with (go_at_call 19; refine (hS.mem (fun O h hb => mSet h hb 8 at_ (by unfold isI; omega))).mono ?_; rintro e w7 ⟨rfl, hS2⟩; clear hS; have hS := hS2; clear hS2)
    go_ret2
    exact (hS.weak).memQ _
set_option maxHeartbeats 1000000 in
theorem rCreate {w : World} {B rb : Nat} {M : List UInt8} {R : Nat → Prop} (h : RefP w B rb M R) (nm : List UInt8) :
    Calls Try.prog 17 #[.pointer (some ⟨rb, 0, none⟩), .string ⟨nm.toArray⟩] w fun e w' => RefQ w w' B rb (crM M nm) R (crV M nm) e := by
  have hS := Onr.start h h.base_le'
  have hLt := Lib.hid (fun (w9 : World) (O : Nat → Prop) (h : RefP w9 B rb M O) => rLatest h)
  have hHr := Lib.hid (fun (w9 : World) (O : Nat → Prop) (h : RefP w9 B rb M O) => rHere h)
  have hl : isI (hereL M) := by
    have : 1536 ≤ hereL M ∧ hereL M ≤ 5632 := by unfold hereL; split <;> omega
    unfold isI; omega
  have hAl := Lib.hid (fun (w9 : World) => rAlign w9 (hereL M) hl)
  clear h
  by_cases h0 : nm = []
  · subst h0
    have hBy := fun (w9 : World) => rbytes_nil w9 0 (latestL M) 0 false false
    obtain ⟨e1, e2⟩ := crV_no (crOk_nil M)
    rw [e1, e2, if_pos rfl]
    clear e1 e2 hl
    generalize latestL M = lt at *
    unfold hdV at hBy
    replace hBy := Lib.hid hBy
    go_enter Try.func17, Try.ntmps17
    go_wp2_with (first
      | (go_at_call 24; refine (hS.read (fun O h => hLt.out _ O h)).mono ?_; rintro e w1 ⟨rfl, hS2⟩; clear hS; have hS := hS2; clear hS2)
      | (go_at_call 44; refine (hS.still (hBy.out _)).mono ?_; rintro e w4 ⟨rfl, hS2⟩; clear hS; have hS := hS2; clear hS2))
    go_ret2
    exact hS.refQ _
  by_cases h31 : 31 < nm.length
  · have hBy := fun (w9 : World) => rbytes_long w9 0 (latestL M) 0 nm false false h0 h31
    obtain ⟨e1, e2⟩ := crV_no (crOk_long M h31)
    rw [e1, e2, if_neg h0, if_pos h31]
    clear e1 e2 hl h0 h31
    generalize latestL M = lt at *
    unfold hdV at hBy
    replace hBy := Lib.hid hBy
    generalize (⟨nm.toArray⟩ : ByteArray) = s at *
    go_enter Try.func17, Try.ntmps17
    go_wp2_with (first
      | (go_at_call 24; refine (hS.read (fun O h => hLt.out _ O h)).mono ?_; rintro e w1 ⟨rfl, hS2⟩; clear hS; have hS := hS2; clear hS2)
      | (go_at_call 44; refine (hS.still (hBy.out _)).mono ?_; rintro e w4 ⟨rfl, hS2⟩; clear hS; have hS := hS2; clear hS2))
    go_ret2
    exact hS.refQ _
  have hBy := fun (w9 : World) => rbytes_good w9 0 (latestL M) 0 nm false false h0 (by omega)
  have hble := bytes_le (latestL M) nm false false (by omega)
  have hat := crAt_in M
  have hxd : crXt M nm = crAt M + ((bytesL (latestL M) nm false false).length : Int) := rfl
  have hcy := @crV_yes M nm
  have hcn := @crV_no M nm
  have hcd : crOk M nm = decide (crXt M nm + 8 ≤ 5632) := by
    unfold crOk
    rw [decide_eq_decide]
    exact ⟨fun h => h.2.2, fun h => ⟨h0, by omega, h⟩⟩
  rw [show alignZ (hereL M) = crAt M from rfl] at hAl
  generalize latestL M = lt at *
  generalize crAt M = at_ at *
  generalize crXt M nm = xt at *
  generalize hereL M = here at *
  generalize bytesL lt nm false false = bs at *
  have hbl : bs.length ≤ 1000000 := by omega
  have hati : isI at_ := by unfold isI; omega
  have wx : IntKind.i64.wrap (at_ + (bs.length : Int)) = xt := by rw [IntKind.wrap_i64]; omega
  obtain ⟨x8, hx8⟩ : ∃ x8, x8 = xt + 8 := ⟨_, rfl⟩
  have w8 : IntKind.i64.wrap (xt + 8) = x8 := by rw [IntKind.wrap_i64]; omega
  rw [← hx8] at hcd
  unfold hdV at hBy
  replace hBy := Lib.hid hBy
  replace hati := Lib.hid hati
  replace hbl := Lib.hid hbl
  rw [if_neg h0, if_neg h31] at hcn
  clear hl hx8 hble hat hxd h0 h31
  generalize (⟨nm.toArray⟩ : ByteArray) = s at *
  by_cases hc : 5632 < x8
  · have hc0 : crOk M nm = false := by rw [hcd, decide_eq_false_iff_not]; omega
    obtain ⟨e1, e2⟩ := hcn hc0
    rw [e1, e2]
    clear e1 e2 hcy hcn hcd hc0
    go_enter Try.func17, Try.ntmps17
    go_wp2_with (first
      | (go_at_call 24; refine (hS.read (fun O h => hLt.out _ O h)).mono ?_; rintro e w1 ⟨rfl, hS2⟩; clear hS; have hS := hS2; clear hS2)
      | (go_at_call 18; refine (hS.read (fun O h => hHr.out _ O h)).mono ?_; rintro e w2 ⟨rfl, hS2⟩; clear hS; have hS := hS2; clear hS2)
      | (go_at_call 45; refine (hAl.out _).mono ?_; rintro e w3 ⟨rfl, rfl⟩)
      | (go_at_call 44; refine (hBy.out _).mono ?_; rintro e w4 ⟨⟨v, rfl, hbv⟩, hbb⟩; obtain ⟨ab, cb_, rfl, hcb⟩ := hbv.len; clear hcb; have hS2 := hS.newBs hbb hbv; clear hbv hbb; clear hS; have hS := hS2; clear hS2))
    go_ret2
    exact (hS.weak).refQ _
  · have hc0 : crOk M nm = true := by rw [hcd, decide_eq_true_iff]; omega
    obtain ⟨e1, e2⟩ := hcy hc0
    rw [e1, e2]
    clear e1 e2 hcy hcn hcd hc0
    go_enter Try.func17, Try.ntmps17
    go_upto_region 8 with (first
      | (go_at_call 24; refine (hS.read (fun O h => hLt.out _ O h)).mono ?_; rintro e w1 ⟨rfl, hS2⟩; clear hS; have hS := hS2; clear hS2)
      | (go_at_call 18; refine (hS.read (fun O h => hHr.out _ O h)).mono ?_; rintro e w2 ⟨rfl, hS2⟩; clear hS; have hS := hS2; clear hS2)
      | (go_at_call 45; refine (hAl.out _).mono ?_; rintro e w3 ⟨rfl, rfl⟩)
      | (go_at_call 44; refine (hBy.out _).mono ?_; rintro e w4 ⟨⟨v, rfl, hbv⟩, hbb⟩; obtain ⟨ab, cb_, rfl, hcb⟩ := hbv.len; clear hcb; have hS2 := hS.newBs hbb hbv; clear hbv hbb; clear hS; have hS := hS2; clear hS2)
      | (go_at_call 46; refine (hS.refK (fun O h hb hk => rLay h at_ hati.out (show Bs _ 0 _ _ from hk.1.2) hbl.out (fun k hk2 => (hk.2 k (.inr hk2)).2))).mono ?_; rintro e w5 ⟨rfl, hS2⟩; clear hS; have hS := hS2; clear hS2))
    go_upto_region 9 with (go_at_call 20; refine (hS.ref (fun O h hb => rSet h 0 xt (by unfold isI; omega))).mono ?_; rintro e w6 ⟨rfl, hS2⟩; clear hS; have hS := hS2; clear hS2)
    go_wp2_with (go_at_call 20; refine (hS.ref (fun O h hb => rSet h 8 at_ (by unfold isI; omega))).mono ?_; rintro e w7 ⟨rfl, hS2⟩; clear hS; have hS := hS2; clear hS2)
    go_ret2
    exact (hS.weak).refQ _
end Go.Proofs.Ytcfblcgdjhpdaaa
