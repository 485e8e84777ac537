/- Texts merged: D6 D7 D8 D9 D10 D11 D12 D13 D14 D15 D16. -/
import Derived.Test.YtcfblcgdjhpdaaaZ7
import Derived.Recover
import Derived.Defers
/- 'Create'. -/
namespace Go.Proofs.Ytcfblcgdjhpdaaa
open Go.RowKit
set_option linter.unusedVariables false
set_option linter.unusedSimpArgs false
attribute [local go_sem] cell_set set_set m_undef

theorem One.memK {W w : World} {B mb : Nat} {M : List UInt8} {O0 : Nat → Prop} {K : Kp} (h : One W w B mb M O0 K) {f : Nat} {args : Array Value} {M' : List UInt8} {v : Value} (c : ∀ O, MemP w B mb M O → B ≤ w.heap.size → Keep w O K → Calls Try.prog f args w fun e w' => MemQ w w' B mb M' O v e) :
    Calls Try.prog f args w fun e w' => e = .returned v ∧ One W w' B mb M' O0 K := by
  obtain ⟨O, h1, h2, h3, h4⟩ := h
  refine (c O h1 (Nat.le_trans h4 h2.size) h3).mono fun e w' ⟨he, O', h5, h6⟩ => ⟨he, O', h5, h2.trans h6, h3.turn h6, h4⟩
theorem Onr.refK {W w : World} {B rb : Nat} {M : List UInt8} {O0 : Nat → Prop} {K : Kp} (h : Onr W w B rb M O0 K) {f : Nat} {args : Array Value} {M' : List UInt8} {v : Value} (c : ∀ O, RefP w B rb M O → B ≤ w.heap.size → Keep w O K → Calls Try.prog f args w fun e w' => RefQ w w' B rb M' O v e) :
    Calls Try.prog f args w fun e w' => e = .returned v ∧ Onr W w' B rb M' O0 K := by
  obtain ⟨O, h1, h2, h3, h4⟩ := h
  refine (c O h1 (Nat.le_trans h4 h2.size) h3).mono fun e w' ⟨he, O', h5, h6⟩ => ⟨he, O', h5, h2.trans h6, h3.turn h6, h4⟩
/-- Where a header goes, and where its code cell lies. -/
def crAt (M : List UInt8) : Int := alignZ (hereL M)
def crXt (M : List UInt8) (nm : List UInt8) : Int := crAt M + ((bytesL (latestL M) nm false false).length : Int)
def crOk (M : List UInt8) (nm : List UInt8) : Bool := decide (nm ≠ [] ∧ nm.length ≤ 31 ∧ crXt M nm + 8 ≤ 5632)
/-- The memory behind 'Create'. -/
def crM (M : List UInt8) (nm : List UInt8) : List UInt8 := if crOk M nm then setM (setM (layL M (crAt M) (bytesL (latestL M) nm false false)) 0 (crXt M nm)) 8 (crAt M) else M
/-- Its throw. -/
def crT (M : List UInt8) (nm : List UInt8) : Int := if crOk M nm then 0 else if nm = [] then -16 else if 31 < nm.length then -19 else -8
def crV (M : List UInt8) (nm : List UInt8) : Value := .tuple #[.int .i64 (if crOk M nm then crXt M nm else 0), .int .i64 (crT M nm)]
theorem crAt_in (M : List UInt8) : 1536 ≤ crAt M ∧ crAt M ≤ 5640 ∧ crAt M % 8 = 0 := by
  have hl : 1536 ≤ hereL M ∧ hereL M ≤ 5632 := by unfold hereL; split <;> omega
  unfold crAt
  generalize hereL M = here at *
  have := alignZ_small here (by omega)
  omega
theorem crV_no {M nm : List UInt8} (h : crOk M nm = false) : crV M nm = .tuple #[.int .i64 0, .int .i64 (if nm = [] then -16 else if 31 < nm.length then -19 else -8)] ∧ crM M nm = M := by
  unfold crV crT crM
  rw [h]
  exact ⟨by rw [if_neg (by decide), if_neg (by decide)], if_neg (by decide)⟩
theorem crV_yes {M nm : List UInt8} (h : crOk M nm = true) : crV M nm = .tuple #[.int .i64 (crXt M nm), .int .i64 0] ∧ crM M nm = setM (setM (layL M (crAt M) (bytesL (latestL M) nm false false)) 0 (crXt M nm)) 8 (crAt M) := by
  unfold crV crT crM
  rw [h]
  exact ⟨by rw [if_pos rfl, if_pos rfl], if_pos rfl⟩
theorem crOk_nil (M : List UInt8) : crOk M [] = false := by
  unfold crOk
  rw [decide_eq_false_iff_not]
  exact fun h => h.1 rfl
theorem crOk_long (M : List UInt8) {nm : List UInt8} (h : 31 < nm.length) : crOk M nm = false := by
  unfold crOk
  rw [decide_eq_false_iff_not]
  exact fun h2 => by have := h2.2.1; omega
theorem bytes_le (link : Int) (nm : List UInt8) (im hd : Bool) (h : nm.length ≤ 31) : (bytesL link nm im hd).length ≤ 48 := by rw [bytesL_len]; omega

set_option maxHeartbeats 1000000 in
theorem kCreate {w : World} {B mb : Nat} {M : List UInt8} {O : Nat → Prop} (h : MemP w B mb M O) (hB : B ≤ w.heap.size) (nm : List UInt8) :
    Calls Try.prog 16 #[.pointer (some ⟨mb, 0, none⟩), .string ⟨nm.toArray⟩] w fun e w' => MemQ w w' B mb (crM M nm) O (crV M nm) e := by
  have hS := One.start h hB
  have hLt := Lib.hid (fun (w9 : World) (O : Nat → Prop) (h : MemP w9 B mb M O) (hb : B ≤ w9.heap.size) => mLatest h hb)
  have hHr := Lib.hid (fun (w9 : World) (O : Nat → Prop) (h : MemP w9 B mb M O) (hb : B ≤ w9.heap.size) => mHere h hb)
  have hl : isI (hereL M) := by
    have : 1536 ≤ hereL M ∧ hereL M ≤ 5632 := by unfold hereL; split <;> omega
    unfold isI; omega
  have hAl := Lib.hid (fun (w9 : World) => wAlign w9 (hereL M) hl)
  clear h hB
  by_cases h0 : nm = []
  · subst h0
    have hBy := fun (w9 : World) => bytes_nil w9 0 (latestL M) 0 false false
    obtain ⟨e1, e2⟩ := crV_no (crOk_nil M)
    rw [e1, e2, if_pos rfl]
    clear e1 e2 hl
    generalize latestL M = lt at *
    unfold hdV at hBy
    replace hBy := Lib.hid hBy
    go_enter Try.func16, Try.ntmps16
    go_wp2_with (first
      | (go_at_call 29; refine (hS.mem (fun O h hb => hLt.out _ O h hb)).mono ?_; rintro e w1 ⟨rfl, hS2⟩; clear hS; have hS := hS2; clear hS2)
      | (go_at_call 40; refine (hS.still (hBy.out _)).mono ?_; rintro e w4 ⟨rfl, hS2⟩; clear hS; have hS := hS2; clear hS2))
    go_ret2
    exact hS.memQ _
  by_cases h31 : 31 < nm.length
  · have hBy := fun (w9 : World) => bytes_long w9 0 (latestL M) 0 nm false false h0 h31
    obtain ⟨e1, e2⟩ := crV_no (crOk_long M h31)
    rw [e1, e2, if_neg h0, if_pos h31]
    clear e1 e2 hl h0 h31
    generalize latestL M = lt at *
    unfold hdV at hBy
    replace hBy := Lib.hid hBy
    generalize (⟨nm.toArray⟩ : ByteArray) = s at *
    go_enter Try.func16, Try.ntmps16
    go_wp2_with (first
      | (go_at_call 29; refine (hS.mem (fun O h hb => hLt.out _ O h hb)).mono ?_; rintro e w1 ⟨rfl, hS2⟩; clear hS; have hS := hS2; clear hS2)
      | (go_at_call 40; refine (hS.still (hBy.out _)).mono ?_; rintro e w4 ⟨rfl, hS2⟩; clear hS; have hS := hS2; clear hS2))
    go_ret2
    exact hS.memQ _
  have hBy := fun (w9 : World) => bytes_good w9 0 (latestL M) 0 nm false false h0 (by omega)
  have hble := bytes_le (latestL M) nm false false (by omega)
  have hat := crAt_in M
  have hxd : crXt M nm = crAt M + ((bytesL (latestL M) nm false false).length : Int) := rfl
  have hcy := @crV_yes M nm
  have hcn := @crV_no M nm
  have hcd : crOk M nm = decide (crXt M nm + 8 ≤ 5632) := by
    unfold crOk
    rw [decide_eq_decide]
    exact ⟨fun h => h.2.2, fun h => ⟨h0, by omega, h⟩⟩
  rw [show alignZ (hereL M) = crAt M from rfl] at hAl
  generalize latestL M = lt at *
  generalize crAt M = at_ at *
  generalize crXt M nm = xt at *
  generalize hereL M = here at *
  generalize bytesL lt nm false false = bs at *
  have hbl : bs.length ≤ 1000000 := by omega
  have hati : isI at_ := by unfold isI; omega
  have wx : IntKind.i64.wrap (at_ + (bs.length : Int)) = xt := by rw [IntKind.wrap_i64]; omega
  obtain ⟨x8, hx8⟩ : ∃ x8, x8 = xt + 8 := ⟨_, rfl⟩
  have w8 : IntKind.i64.wrap (xt + 8) = x8 := by rw [IntKind.wrap_i64]; omega
  rw [← hx8] at hcd
  unfold hdV at hBy
  replace hBy := Lib.hid hBy
  replace hati := Lib.hid hati
  replace hbl := Lib.hid hbl
  rw [if_neg h0, if_neg h31] at hcn
  clear hl hx8 hble hat hxd h0 h31
  generalize (⟨nm.toArray⟩ : ByteArray) = s at *
  by_cases hc : 5632 < x8
  · have hc0 : crOk M nm = false := by rw [hcd, decide_eq_false_iff_not]; omega
    obtain ⟨e1, e2⟩ := hcn hc0
    rw [e1, e2]
    clear e1 e2 hcy hcn hcd hc0
    go_enter Try.func16, Try.ntmps16
    go_wp2_with (first
      | (go_at_call 29; refine (hS.mem (fun O h hb => hLt.out _ O h hb)).mono ?_; rintro e w1 ⟨rfl, hS2⟩; clear hS; have hS := hS2; clear hS2)
      | (go_at_call 42; refine (hS.mem (fun O h hb => hHr.out _ O h hb)).mono ?_; rintro e w2 ⟨rfl, hS2⟩; clear hS; have hS := hS2; clear hS2)
      | (go_at_call 41; refine (hAl.out _).mono ?_; rintro e w3 ⟨rfl, rfl⟩)
      | (go_at_call 40; refine (hBy.out _).mono ?_; rintro e w4 ⟨⟨v, rfl, hbv⟩, hbb⟩; obtain ⟨ab, cb_, rfl, hcb⟩ := hbv.len; clear hcb; have hS2 := hS.newBs hbb hbv; clear hbv hbb; clear hS; have hS := hS2; clear hS2))
    go_ret2
    exact (hS.weak).memQ _
  · have hc0 : crOk M nm = true := by rw [hcd, decide_eq_true_iff]; omega
    obtain ⟨e1, e2⟩ := hcy hc0
    rw [e1, e2]
    clear e1 e2 hcy hcn hcd hc0
    go_enter Try.func16, Try.ntmps16
    go_upto_region 9 with (first
      | (go_at_call 29; refine (hS.mem (fun O h hb => hLt.out _ O h hb)).mono ?_; rintro e w1 ⟨rfl, hS2⟩; clear hS; have hS := hS2; clear hS2)
      | (go_at_call 42; refine (hS.mem (fun O h hb => hHr.out _ O h hb)).mono ?_; rintro e w2 ⟨rfl, hS2⟩; clear hS; have hS := hS2; clear hS2)
      | (go_at_call 41; refine (hAl.out _).mono ?_; rintro e w3 ⟨rfl, rfl⟩)
      | (go_at_call 40; refine (hBy.out _).mono ?_; rintro e w4 ⟨⟨v, rfl, hbv⟩, hbb⟩; obtain ⟨ab, cb_, rfl, hcb⟩ := hbv.len; clear hcb; have hS2 := hS.newBs hbb hbv; clear hbv hbb; clear hS; have hS := hS2; clear hS2)
      | (go_at_call 43; refine (hS.memK (fun O h hb hk => mLay h hb at_ hati.out (show Bs _ 0 _ _ from hk.1.2) hbl.out (fun k hk2 => (hk.2 k (.inr hk2)).2))).mono ?_; rintro e w5 ⟨rfl, hS2⟩; clear hS; have hS := hS2; clear hS2))
    go_upto_region 10 with (go_at_call 19; refine (hS.mem (fun O h hb => mSet h hb 0 xt (by unfold isI; omega))).mono ?_; rintro e w6 ⟨rfl, hS2⟩; clear hS; have hS := hS2; clear hS2)
    go_wp2_with (go_at_call 19; refine (hS.mem (fun O h hb => mSet h hb 8 at_ (by unfold isI; omega))).mono ?_; rintro e w7 ⟨rfl, hS2⟩; clear hS; have hS := hS2; clear hS2)
    go_ret2
    exact (hS.weak).memQ _
set_option maxHeartbeats 1000000 in
theorem rCreate {w : World} {B rb : Nat} {M : List UInt8} {R : Nat → Prop} (h : RefP w B rb M R) (nm : List UInt8) :
    Calls Try.prog 17 #[.pointer (some ⟨rb, 0, none⟩), .string ⟨nm.toArray⟩] w fun e w' => RefQ w w' B rb (crM M nm) R (crV M nm) e := by
  have hS := Onr.start h h.base_le'
  have hLt := Lib.hid (fun (w9 : World) (O : Nat → Prop) (h : RefP w9 B rb M O) => rLatest h)
  have hHr := Lib.hid (fun (w9 : World) (O : Nat → Prop) (h : RefP w9 B rb M O) => rHere h)
  have hl : isI (hereL M) := by
    have : 1536 ≤ hereL M ∧ hereL M ≤ 5632 := by unfold hereL; split <;> omega
    unfold isI; omega
  have hAl := Lib.hid (fun (w9 : World) => rAlign w9 (hereL M) hl)
  clear h
  by_cases h0 : nm = []
  · subst h0
    have hBy := fun (w9 : World) => rbytes_nil w9 0 (latestL M) 0 false false
    obtain ⟨e1, e2⟩ := crV_no (crOk_nil M)
    rw [e1, e2, if_pos rfl]
    clear e1 e2 hl
    generalize latestL M = lt at *
    unfold hdV at hBy
    replace hBy := Lib.hid hBy
    go_enter Try.func17, Try.ntmps17
    go_wp2_with (first
      | (go_at_call 24; refine (hS.read (fun O h => hLt.out _ O h)).mono ?_; rintro e w1 ⟨rfl, hS2⟩; clear hS; have hS := hS2; clear hS2)
      | (go_at_call 44; refine (hS.still (hBy.out _)).mono ?_; rintro e w4 ⟨rfl, hS2⟩; clear hS; have hS := hS2; clear hS2))
    go_ret2
    exact hS.refQ _
  by_cases h31 : 31 < nm.length
  · have hBy := fun (w9 : World) => rbytes_long w9 0 (latestL M) 0 nm false false h0 h31
    obtain ⟨e1, e2⟩ := crV_no (crOk_long M h31)
    rw [e1, e2, if_neg h0, if_pos h31]
    clear e1 e2 hl h0 h31
    generalize latestL M = lt at *
    unfold hdV at hBy
    replace hBy := Lib.hid hBy
    generalize (⟨nm.toArray⟩ : ByteArray) = s at *
    go_enter Try.func17, Try.ntmps17
    go_wp2_with (first
      | (go_at_call 24; refine (hS.read (fun O h => hLt.out _ O h)).mono ?_; rintro e w1 ⟨rfl, hS2⟩; clear hS; have hS := hS2; clear hS2)
      | (go_at_call 44; refine (hS.still (hBy.out _)).mono ?_; rintro e w4 ⟨rfl, hS2⟩; clear hS; have hS := hS2; clear hS2))
    go_ret2
    exact hS.refQ _
  have hBy := fun (w9 : World) => rbytes_good w9 0 (latestL M) 0 nm false false h0 (by omega)
  have hble := bytes_le (latestL M) nm false false (by omega)
  have hat := crAt_in M
  have hxd : crXt M nm = crAt M + ((bytesL (latestL M) nm false false).length : Int) := rfl
  have hcy := @crV_yes M nm
  have hcn := @crV_no M nm
  have hcd : crOk M nm = decide (crXt M nm + 8 ≤ 5632) := by
    unfold crOk
    rw [decide_eq_decide]
    exact ⟨fun h => h.2.2, fun h => ⟨h0, by omega, h⟩⟩
  rw [show alignZ (hereL M) = crAt M from rfl] at hAl
  generalize latestL M = lt at *
  generalize crAt M = at_ at *
  generalize crXt M nm = xt at *
  generalize hereL M = here at *
  generalize bytesL lt nm false false = bs at *
  have hbl : bs.length ≤ 1000000 := by omega
  have hati : isI at_ := by unfold isI; omega
  have wx : IntKind.i64.wrap (at_ + (bs.length : Int)) = xt := by rw [IntKind.wrap_i64]; omega
  obtain ⟨x8, hx8⟩ : ∃ x8, x8 = xt + 8 := ⟨_, rfl⟩
  have w8 : IntKind.i64.wrap (xt + 8) = x8 := by rw [IntKind.wrap_i64]; omega
  rw [← hx8] at hcd
  unfold hdV at hBy
  replace hBy := Lib.hid hBy
  replace hati := Lib.hid hati
  replace hbl := Lib.hid hbl
  rw [if_neg h0, if_neg h31] at hcn
  clear hl hx8 hble hat hxd h0 h31
  generalize (⟨nm.toArray⟩ : ByteArray) = s at *
  by_cases hc : 5632 < x8
  · have hc0 : crOk M nm = false := by rw [hcd, decide_eq_false_iff_not]; omega
    obtain ⟨e1, e2⟩ := hcn hc0
    rw [e1, e2]
    clear e1 e2 hcy hcn hcd hc0
    go_enter Try.func17, Try.ntmps17
    go_wp2_with (first
      | (go_at_call 24; refine (hS.read (fun O h => hLt.out _ O h)).mono ?_; rintro e w1 ⟨rfl, hS2⟩; clear hS; have hS := hS2; clear hS2)
      | (go_at_call 18; refine (hS.read (fun O h => hHr.out _ O h)).mono ?_; rintro e w2 ⟨rfl, hS2⟩; clear hS; have hS := hS2; clear hS2)
      | (go_at_call 45; refine (hAl.out _).mono ?_; rintro e w3 ⟨rfl, rfl⟩)
      | (go_at_call 44; refine (hBy.out _).mono ?_; rintro e w4 ⟨⟨v, rfl, hbv⟩, hbb⟩; obtain ⟨ab, cb_, rfl, hcb⟩ := hbv.len; clear hcb; have hS2 := hS.newBs hbb hbv; clear hbv hbb; clear hS; have hS := hS2; clear hS2))
    go_ret2
    exact (hS.weak).refQ _
  · have hc0 : crOk M nm = true := by rw [hcd, decide_eq_true_iff]; omega
    obtain ⟨e1, e2⟩ := hcy hc0
    rw [e1, e2]
    clear e1 e2 hcy hcn hcd hc0
    go_enter Try.func17, Try.ntmps17
    go_upto_region 8 with (first
      | (go_at_call 24; refine (hS.read (fun O h => hLt.out _ O h)).mono ?_; rintro e w1 ⟨rfl, hS2⟩; clear hS; have hS := hS2; clear hS2)
      | (go_at_call 18; refine (hS.read (fun O h => hHr.out _ O h)).mono ?_; rintro e w2 ⟨rfl, hS2⟩; clear hS; have hS := hS2; clear hS2)
      | (go_at_call 45; refine (hAl.out _).mono ?_; rintro e w3 ⟨rfl, rfl⟩)
      | (go_at_call 44; refine (hBy.out _).mono ?_; rintro e w4 ⟨⟨v, rfl, hbv⟩, hbb⟩; obtain ⟨ab, cb_, rfl, hcb⟩ := hbv.len; clear hcb; have hS2 := hS.newBs hbb hbv; clear hbv hbb; clear hS; have hS := hS2; clear hS2)
      | (go_at_call 46; refine (hS.refK (fun O h hb hk => rLay h at_ hati.out (show Bs _ 0 _ _ from hk.1.2) hbl.out (fun k hk2 => (hk.2 k (.inr hk2)).2))).mono ?_; rintro e w5 ⟨rfl, hS2⟩; clear hS; have hS := hS2; clear hS2))
    go_upto_region 9 with (go_at_call 20; refine (hS.ref (fun O h hb => rSet h 0 xt (by unfold isI; omega))).mono ?_; rintro e w6 ⟨rfl, hS2⟩; clear hS; have hS := hS2; clear hS2)
    go_wp2_with (go_at_call 20; refine (hS.ref (fun O h hb => rSet h 8 at_ (by unfold isI; omega))).mono ?_; rintro e w7 ⟨rfl, hS2⟩; clear hS; have hS := hS2; clear hS2)
    go_ret2
    exact (hS.weak).refQ _
end Go.Proofs.Ytcfblcgdjhpdaaa

/- What a dictionary holds behind a header that is laid, and behind its mark. -/
namespace Go.Proofs.Ytcfblcgdjhpdaaa
open Go.RowKit
set_option linter.unusedVariables false
set_option linter.unusedSimpArgs false

theorem rdOk_iff {M : List UInt8} {a : Int} : rdOk M a = true ↔ (a % 8 = 0 ∧ 1536 ≤ a ∧ a < hereL M ∧ rdN M a ≠ 0 ∧ rdXt M a + 8 ≤ hereL M) := decide_eq_true_iff
theorem rdXt_ge {M : List UInt8} {a : Int} (h1 : 1536 ≤ a) (h2 : a ≤ 5632) : a + 9 + (rdN M a : Int) ≤ rdXt M a := by
  have hnn : rdN M a < 32 := Nat.mod_lt _ (by omega)
  unfold rdXt
  have := alignZ_small (a + 9 + (rdN M a : Int)) (by omega)
  omega
theorem rdB_congr {M N : List UInt8} {a : Int} (h : memAt N (a + 8) = memAt M (a + 8)) : rdB N a = rdB M a := by rw [rdB_at, rdB_at, h]
theorem link_congr {M N : List UInt8} {a : Int} (h : ∀ i : Nat, i < 8 → memAt N (a + i) = memAt M (a + i)) : linkL N a = linkL M a := by
  unfold linkL cellL
  have e : leN (loadL N a 40) 0 8 = leN (loadL M a 40) 0 8 := leN_congr 8 (fun i hi => by
    have e1 := byteZ_load N a 40 (0 + (i : Int)) (by omega) (by omega) (by omega)
    have e2 := byteZ_load M a 40 (0 + (i : Int)) (by omega) (by omega) (by omega)
    rw [e1, e2, Int.zero_add, h i hi])
  rw [e]
theorem name_congr {M N : List UInt8} {a : Int} (hn : rdN N a = rdN M a) (h : ∀ i : Nat, i < rdN M a → memAt N (a + 9 + i) = memAt M (a + 9 + i)) : nameL N a = nameL M a := by
  have e1 : (loadL M a 40).length = 40 := by rw [loadL_len]; rfl
  have e2 : (loadL N a 40).length = 40 := by rw [loadL_len]; rfl
  unfold nameL
  rw [hn]
  apply List.ext_getElem
  · rw [List.length_take, List.length_take, List.length_drop, List.length_drop, e1, e2]
  · intro i h1 h2
    rw [List.length_take, List.length_drop, e1] at h2
    rw [List.getElem_take, List.getElem_drop, List.getElem_take, List.getElem_drop, loadL_get, loadL_get]
    have := h i (by omega)
    rw [show a + ((9 + i : Nat) : Int) = a + 9 + (i : Int) by omega]
    exact this
/-- A header reads alike in N, where its bytes are as they were and the dictionary is no shorter. -/
theorem read_congr {M N : List UInt8} {a : Int} (hok : rdOk M a = true) (hh : hereL M ≤ hereL N) (hb : ∀ z, a ≤ z → z < rdXt M a → memAt N z = memAt M z) :
    rdOk N a = true ∧ linkL N a = linkL M a ∧ nameL N a = nameL M a ∧ immL N a = immL M a ∧ hidL N a = hidL M a ∧ rdXt N a = rdXt M a := by
  obtain ⟨h1, h2, h3, h4, h5⟩ := rdOk_iff.1 hok
  have hl := hereL_le M
  have hx := rdXt_ge (M := M) h2 (by omega)
  have hB : rdB N a = rdB M a := rdB_congr (hb _ (by omega) (by omega))
  have hN : rdN N a = rdN M a := by unfold rdN; rw [hB]
  have hX : rdXt N a = rdXt M a := by unfold rdXt; rw [hN]
  refine ⟨rdOk_iff.2 ⟨h1, h2, by omega, by rw [hN]; exact h4, by rw [hX]; omega⟩, link_congr (fun i hi => hb _ (by omega) (by omega)), name_congr hN (fun i hi => hb _ (by omega) (by omega)), by unfold immL; rw [hB], by unfold hidL; rw [hB], hX⟩
/-- N holds M's dictionary, and goes on behind it. -/
def Agree (M N : List UInt8) : Prop := hereL M ≤ hereL N ∧ ∀ z, 16 ≤ z → z < hereL M → memAt N z = memAt M z
theorem Agree.read {M N : List UInt8} (h : Agree M N) {a : Int} (hok : rdOk M a = true) : rdOk N a = true ∧ linkL N a = linkL M a ∧ nameL N a = nameL M a ∧ immL N a = immL M a ∧ hidL N a = hidL M a ∧ rdXt N a = rdXt M a := by
  obtain ⟨h1, h2, h3, h4, h5⟩ := rdOk_iff.1 hok
  exact read_congr hok h.1 (fun z hz1 hz2 => h.2 z (by omega) (by omega))
/-- Where the chain of links ends. -/
def endL (M : List UInt8) (last at_ : Int) : Int := if h : rdOk M at_ = true ∧ at_ < last then endL M at_ (linkL M at_) else at_
termination_by last.toNat
decreasing_by have := rdOk_lo h.1; omega
theorem endL_yes {M : List UInt8} {last at_ : Int} (h : rdOk M at_ = true ∧ at_ < last) : endL M last at_ = endL M at_ (linkL M at_) := by rw [endL]; exact dif_pos h
theorem endL_no {M : List UInt8} {last at_ : Int} (h : ¬ (rdOk M at_ = true ∧ at_ < last)) : endL M last at_ = at_ := by rw [endL]; exact dif_neg h
theorem rdOk_zero (M : List UInt8) : rdOk M 0 = false := by
  cases h : rdOk M 0 with
  | false => rfl
  | true => have := rdOk_lo h; omega
theorem Agree.words {M N : List UInt8} (h : Agree M N) : ∀ (n : Nat) (last at_ : Int), last.toNat ≤ n → endL M last at_ = 0 → wordsW N last at_ = wordsW M last at_ := by
  intro n
  induction n with
  | zero =>
    intro last at_ hn _
    rw [wordsW_no (fun h => by have := rdOk_lo h.1; omega), wordsW_no (fun h => by have := rdOk_lo h.1; omega)]
  | succ n ih =>
    intro last at_ hn he
    by_cases hc : rdOk M at_ = true ∧ at_ < last
    · obtain ⟨r1, r2, _⟩ := h.read hc.1
      rw [endL_yes hc] at he
      rw [wordsW_yes hc.1 hc.2, wordsW_yes r1 hc.2, r2, ih _ _ (by have := rdOk_lo hc.1; omega) he]
    · rw [endL_no hc] at he
      subst he
      rw [wordsW_no hc, wordsW_no (fun h2 => by rw [rdOk_zero] at h2; exact absurd h2.1 (by decide))]
theorem words_last {M : List UInt8} {l1 l2 at_ : Int} (h : rdOk M at_ = true → at_ < l1 ∧ at_ < l2) : wordsW M l1 at_ = wordsW M l2 at_ := by
  by_cases hc : rdOk M at_ = true
  · rw [wordsW_yes hc (h hc).1, wordsW_yes hc (h hc).2]
  · rw [wordsW_no (fun h2 => hc h2.1), wordsW_no (fun h2 => hc h2.1)]
theorem end_last {M : List UInt8} {l1 l2 at_ : Int} (h : rdOk M at_ = true → at_ < l1 ∧ at_ < l2) : endL M l1 at_ = endL M l2 at_ := by
  by_cases hc : rdOk M at_ = true
  · rw [endL_yes ⟨hc, (h hc).1⟩, endL_yes ⟨hc, (h hc).2⟩]
  · rw [endL_no (fun h2 => hc h2.1), endL_no (fun h2 => hc h2.1)]
theorem latest_lt (M : List UInt8) : latestL M < hereL M := by
  have hl : 1536 ≤ hereL M ∧ hereL M ≤ 5632 := by unfold hereL; split <;> omega
  unfold latestL
  split
  · rename_i h
    exact (rdOk_iff.1 h).2.2.1
  · omega
theorem latest_of {M : List UInt8} (h : rdOk M (getM M 8) = true) : latestL M = getM M 8 := if_pos h
/-- A new header ahead of N's dictionary. -/
theorem words_cons {M N : List UInt8} (hA : Agree M N) (he : endL M 8192 (latestL M) = 0) {a : Int} (ha : hereL M ≤ a) (hg : getM N 8 = a) (hok : rdOk N a = true) (hlk : linkL N a = latestL M) :
    wordsL N = a :: wordsL M := by
  have hl := hereL_le M
  have hl2 := latest_lt M
  have hlo := rdOk_lo hok
  have hlt : latestL N = a := by rw [← hg]; exact latest_of (by rw [hg]; exact hok)
  unfold wordsL
  rw [hlt, wordsW_yes hok (by omega), hlk]
  have hll : rdOk M (latestL M) = true → latestL M < a ∧ latestL M < 8192 := fun _ => by omega
  rw [hA.words _ a (latestL M) (Nat.le_refl _) (by rw [end_last hll]; exact he), words_last hll]
theorem find_congr {α : Type} {p q : α → Bool} : ∀ {l : List α}, (∀ x ∈ l, p x = q x) → l.find? p = l.find? q
  | [], _ => rfl
  | x :: l, h => by rw [List.find?_cons, List.find?_cons, h x (by simp), find_congr (fun y hy => h y (by simp [hy]))]
theorem words_mem {M : List UInt8} {x : Int} (h : x ∈ wordsL M) : rdOk M x = true := wordsW_ok _ _ _ (Nat.le_refl _) x h
end Go.Proofs.Ytcfblcgdjhpdaaa

/- A header that 'Create' laid. -/
namespace Go.Proofs.Ytcfblcgdjhpdaaa
open Go.RowKit
set_option linter.unusedVariables false
set_option linter.unusedSimpArgs false

/-- The memory behind 'Create', its code cell taken in. -/
def madeM (M nm : List UInt8) : List UInt8 := setM (crM M nm) 0 (crXt M nm + 8)
theorem crOk_iff {M nm : List UInt8} : crOk M nm = true ↔ (nm ≠ [] ∧ nm.length ≤ 31 ∧ crXt M nm + 8 ≤ 5632) := decide_eq_true_iff
theorem crM_len {M : List UInt8} (hM : M.length = 8192) (nm : List UInt8) : (crM M nm).length = 8192 := by
  unfold crM
  split
  · rw [setM_len, setM_len, layL_len]; exact hM
  · exact hM
theorem hd_parts {M : List UInt8} {a link xt : Int} {nm : List UInt8} {im hd : Bool} (h : rdOk M a = true) (hv : rdV M a = hdV a link nm im hd xt) : linkL M a = link ∧ nameL M a = nm ∧ immL M a = im ∧ hidL M a = hd ∧ rdXt M a = xt := by
  rw [rdV_ok h] at hv
  generalize linkL M a = b1 at *
  generalize nameL M a = b2 at *
  generalize immL M a = b3 at *
  generalize hidL M a = b4 at *
  generalize rdXt M a = b5 at *
  unfold hdV at hv
  injection hv with hv
  simp only [Array.mk.injEq, List.cons.injEq, Value.int.injEq, Value.string.injEq, Value.bool.injEq, true_and, and_true, ByteArray.mk.injEq] at hv
  exact ⟨hv.1, hv.2.1, hv.2.2.1, hv.2.2.2.1, hv.2.2.2.2⟩
theorem made {M nm : List UInt8} (hM : M.length = 8192) (hok : crOk M nm = true) :
    (madeM M nm).length = 8192 ∧ Agree M (madeM M nm) ∧ getM (madeM M nm) 8 = crAt M ∧ hereL M ≤ crAt M ∧ hereL (madeM M nm) = crXt M nm + 8 ∧
    rdOk (madeM M nm) (crAt M) = true ∧ linkL (madeM M nm) (crAt M) = latestL M ∧ nameL (madeM M nm) (crAt M) = nm ∧ immL (madeM M nm) (crAt M) = false ∧ hidL (madeM M nm) (crAt M) = false ∧ rdXt (madeM M nm) (crAt M) = crXt M nm := by
  obtain ⟨h1, h2, h3⟩ := crOk_iff.1 hok
  obtain ⟨a1, a2, a3⟩ := crAt_in M
  have hl : 1536 ≤ hereL M ∧ hereL M ≤ 5632 := by unfold hereL; split <;> omega
  have hal : hereL M ≤ crAt M := by
    unfold crAt
    generalize hereL M = here at *
    have := alignZ_small here (by omega)
    omega
  have hxt : crXt M nm = crAt M + ((bytesL (latestL M) nm false false).length : Int) := rfl
  obtain ⟨r1, r2, r3⟩ := read_laid hM (crAt M) (crXt M nm + 8) (latestL M) nm false false (latestL_isI M) h1 h2 a1 a3 (by omega) h3
  have e1 := (crV_yes hok).2
  have hm : madeM M nm = setM (setM (setM (layL M (crAt M) (bytesL (latestL M) nm false false)) 0 (crXt M nm)) 8 (crAt M)) 0 (crXt M nm + 8) := by unfold madeM; rw [e1]
  generalize latestL M = lt at *
  generalize crAt M = at_ at *
  generalize crXt M nm = xt at *
  generalize bytesL lt nm false false = bs at *
  generalize madeM M nm = N at *
  have hhb : 1536 ≤ xt + 8 ∧ xt + 8 ≤ 5632 := by clear r1 r2 r3 hm; omega
  have hxi : isI (xt + 8) := by clear r1 r2 r3 hm; unfold isI; omega
  have hai : isI at_ := by clear r1 r2 r3 hm; unfold isI; omega
  have hend : at_ + (bs.length : Int) ≤ 5632 := by clear r1 r2 r3 hm; omega
  have hge : hereL M ≤ xt + 8 := by clear r1 r2 r3 hm; omega
  replace r1 := Lib.hid r1
  replace r2 := Lib.hid r2
  replace r3 := Lib.hid r3
  replace hm := Lib.hid hm
  replace hl := Lib.hid hl
  have q1 : (layL M at_ bs).length = 8192 := by rw [layL_len]; exact hM
  have q2 : (setM (layL M at_ bs) 0 xt).length = 8192 := by rw [setM_len]; exact q1
  have q3 : (setM (setM (layL M at_ bs) 0 xt) 8 at_).length = 8192 := by rw [setM_len]; exact q2
  have hz : ∀ z, 16 ≤ z → memAt N z = memAt (layL M at_ bs) z := fun z hz => by
    rw [hm.out, memAt_setM q3, if_neg (by omega), memAt_setM q2, if_neg (by omega), memAt_setM q1, if_neg (by omega)]
  have hz2 : ∀ z, 16 ≤ z → memAt (setM (layL M at_ bs) 0 (xt + 8)) z = memAt (layL M at_ bs) z := fun z hz => by
    rw [memAt_setM q1, if_neg (by omega)]
  have g0 : getM N 0 = xt + 8 := by rw [hm.out]; exact getM_setM q3 0 _ hxi (by decide)
  have hN : hereL N = xt + 8 := by unfold hereL; rw [g0, if_pos hhb]
  have g8 : getM N 8 = at_ := by rw [hm.out, getM_other q3 0 8 _ (by decide)]; exact getM_setM q2 8 _ hai (by decide)
  obtain ⟨M2, hM2⟩ : ∃ M2, M2 = setM (layL M at_ bs) 0 (xt + 8) := ⟨_, rfl⟩
  rw [← hM2] at r1 r2 r3 hz2
  have r4 := hd_parts r2.out r3.out
  have hc := read_congr (N := N) r2.out (by rw [r1.out, hN]; exact Int.le_refl _) (fun z hz1 hz2' => by rw [hz z (by omega), hz2 z (by omega)])
  have hlen : N.length = 8192 := by rw [hm.out, setM_len]; exact q3
  have hAg : Agree M N := by
    refine ⟨by rw [hN]; exact hge, fun z hz1 hz2' => ?_⟩
    have hn : ¬ (at_ ≤ z ∧ z < at_ + (bs.length : Int) ∧ 0 ≤ z ∧ z < 8192) := fun h => Int.not_lt.2 h.1 (Int.lt_of_lt_of_le hz2' hal)
    rw [hz z hz1, memAt_layL hM, if_neg hn]
  exact ⟨hlen, hAg, g8, hal, hN, hc.1, hc.2.1.trans r4.1, hc.2.2.1.trans r4.2.1, hc.2.2.2.1.trans r4.2.2.1, hc.2.2.2.2.1.trans r4.2.2.2.1, hc.2.2.2.2.2.trans (r4.2.2.2.2.trans hxt.symm)⟩
theorem made_words {M nm : List UInt8} (hM : M.length = 8192) (hok : crOk M nm = true) (he : endL M 8192 (latestL M) = 0) : wordsL (madeM M nm) = crAt M :: wordsL M := by
  obtain ⟨_, hA, g8, hal, _, r1, r2, _⟩ := made hM hok
  exact words_cons hA he hal g8 r1 r2
theorem made_find {M nm : List UInt8} (hM : M.length = 8192) (hok : crOk M nm = true) (he : endL M 8192 (latestL M) = 0) {s : ByteArray} (hs : ((large ⟨nm.toArray⟩).toList == (large s).toList) = true) :
    findA (madeM M nm) s = (crXt M nm, false, false, true) := by
  have hw := made_words hM hok he
  obtain ⟨_, hA, g8, hal, _, r1, r2, r3, r4, r5, r6⟩ := made hM hok
  have := find_at (M := madeM M nm) (nm := s) (k := 0) (x := crAt M) (by rw [hw]; rfl) (fun y hy => by simp at hy) (by unfold hitL; rw [r3, r5, hs]; rfl)
  rw [this, r4, r6]
end Go.Proofs.Ytcfblcgdjhpdaaa

/- 'awake'. -/
namespace Go.Proofs.Ytcfblcgdjhpdaaa
open Go.RowKit
set_option linter.unusedVariables false
set_option linter.unusedSimpArgs false
attribute [local go_sem] cell_set set_set m_undef

theorem zero_get (a : Int) : getM (flatL []) a = 0 := by
  have hz : flatL [] = List.replicate 8192 0 := by unfold flatL; rw [List.take_nil, List.nil_append, List.length_nil, Nat.zero_min, List.drop_zero]
  have hl : ∀ z, memAt (flatL []) z = 0 := fun z => by
    rw [hz]; unfold memAt
    split
    · rw [List.getD_eq_getElem?_getD, List.getElem?_replicate]; split <;> rfl
    · rfl
  have hb : ∀ z, byteZ (loadL (flatL []) a 8) z = 0 := fun z => by
    unfold byteZ
    split
    · rename_i h
      rw [loadL_len] at h
      have e := loadL_getD (flatL []) a 8 z.toNat (by omega) (by omega)
      rw [e, hl]; rfl
    · rfl
  have hn : ∀ k, leN (loadL (flatL []) a 8) 0 k = 0 := fun k => by
    induction k with
    | zero => rfl
    | succ k ih => show leN _ _ k + byteZ _ _ * _ = 0; rw [ih, hb]; simp
  unfold getM cellL
  rw [hn]; decide
theorem zero_latest : latestL (flatL []) = 0 := by
  have h := zero_get 8
  unfold latestL
  generalize flatL [] = M at *
  rw [h, rdOk_zero]
  exact if_neg (by decide)
theorem zero_here : hereL (flatL []) = 1536 := by
  have h := zero_get 0
  unfold hereL
  generalize flatL [] = M at *
  rw [h]
  exact if_neg (by decide)
theorem words_of_zero {M : List UInt8} (h : latestL M = 0) : wordsL M = [] ∧ endL M 8192 (latestL M) = 0 := by
  unfold wordsL
  rw [h]
  have hn : ¬ (rdOk M 0 = true ∧ (0 : Int) < 8192) := fun h2 => by rw [rdOk_zero] at h2; exact absurd h2.1 (by decide)
  exact ⟨wordsW_no hn, endL_no hn⟩
def dupB : ByteArray := ⟨#[100, 117, 112]⟩
theorem num_dup : numOf (large dupB).data.toList = 13 := by kernel_rfl
theorem large_dup : ((large ⟨[68, 85, 80].toArray⟩).toList == (large dupB).toList) = true := by kernel_rfl
theorem awake_law {M0 : List UInt8} (hM : M0.length = 8192) (hl : latestL M0 = 0) (hh : hereL M0 = 1536) : ∃ i c : Bool, findA M0 dupB = (104, i, c, true) ∧ crOk M0 [68, 85, 80] = true ∧ crXt M0 [68, 85, 80] = 1552 ∧ findA (madeM M0 [68, 85, 80]) dupB = (1552, false, false, true) := by
  obtain ⟨h1, h2⟩ := words_of_zero hl
  have ha : crAt M0 = 1536 := by unfold crAt; rw [hh]; decide
  have hb : (bytesL (latestL M0) [68, 85, 80] false false).length = 16 := by rw [bytesL_len]; rfl
  have hx : crXt M0 [68, 85, 80] = 1552 := by unfold crXt; rw [ha, hb]; rfl
  have hok : crOk M0 [68, 85, 80] = true := crOk_iff.2 ⟨by simp, by simp, by rw [hx]; omega⟩
  have hf := made_find hM hok h2 large_dup
  rw [hx] at hf
  have hp : findA M0 dupB = primA 13 := by
    rw [← num_dup]
    exact find_no (fun y hy => by rw [h1] at hy; cases hy)
  have h13 : primA 13 = (13 * 8, (rowL.getD (13 : Int).toNat default).2.2.2.1, (rowL.getD (13 : Int).toNat default).2.2.2.2, true) := if_pos (by omega)
  exact ⟨_, _, hp.trans h13, hok, hx, hf⟩
attribute [local irreducible] findA madeM crM crXt crOk
set_option maxRecDepth 100000 in
set_option maxHeartbeats 1000000 in
theorem wAwake (w : World) : Calls Try.prog 9 #[] w fun e w' => e = .returned (.bool true) ∧ Below w.heap.size w w' := by
  obtain ⟨i0, c0, f0, ok, hx, f1⟩ := awake_law (flatL_len []) zero_latest zero_here
  have hml : (madeM (flatL []) [68, 85, 80]) = setM (crM (flatL []) [68, 85, 80]) 0 1560 := by unfold madeM; rw [hx]; rfl
  have hF1 := fun (w9 : World) => wFlat w9 0 (.slice none 0 0) [] (Bs.nil _ _)
  unfold FlatQ at hF1
  generalize flatL [] = M0 at *
  replace hF1 := Lib.hid hF1
  obtain ⟨e1, -⟩ := crV_yes ok
  rw [hx] at e1
  have hD1 := fun (w9 : World) (mb B : Nat) (O : Nat → Prop) (h : MemP w9 B mb M0 O) (hb : B ≤ w9.heap.size) => kFind h hb dupB (by decide)
  have hC := fun (w9 : World) (mb B : Nat) (O : Nat → Prop) (h : MemP w9 B mb M0 O) (hb : B ≤ w9.heap.size) => kCreate h hb [68, 85, 80]
  rw [f0] at hD1
  rw [e1] at hC
  have hSt := fun (w9 : World) (mb B : Nat) (O : Nat → Prop) (h : MemP w9 B mb (crM M0 [68, 85, 80]) O) (hb : B ≤ w9.heap.size) => mSet h hb 0 1560 (by unfold isI; omega)
  generalize crM M0 [68, 85, 80] = M1 at *
  rw [hml] at f1
  generalize setM M1 0 1560 = M2 at *
  have hD2 := fun (w9 : World) (mb B : Nat) (O : Nat → Prop) (h : MemP w9 B mb M2 O) (hb : B ≤ w9.heap.size) => kFind h hb dupB (by decide)
  rw [f1] at hD2
  unfold findR dupB at hD1 hD2
  dsimp only at hD1 hD2
  replace hD1 := Lib.hid hD1
  replace hD2 := Lib.hid hD2
  replace hC := Lib.hid hC
  replace hSt := Lib.hid hSt
  clear f0 f1 hml e1 ok hx
  go_enter Try.func9, Try.ntmps9
  go_upto_region 5 with (first
    | (go_at_call 10; refine (hF1.out _).mono ?_; rintro e w2 ⟨mb, O2, rfl, hP2, hb2⟩; have hT := Uno.make (Below.refl _ _) (Keep.emp _ _) hP2 hb2; clear hP2 hb2)
    | (go_at_call 14; refine (hT.mem (fun B O h hb => hD1.out _ _ _ _ h hb)).mono ?_; rintro e w3 ⟨rfl, hT2⟩; clear hT; have hT := hT2; clear hT2))
  have hT2 := hT.new #[.int .i64 104, .bool i0, .bool c0] 37
  obtain ⟨b1, hb1⟩ : ∃ b1, b1 = w3.heap.size := ⟨_, rfl⟩
  obtain ⟨w4, hw4⟩ : ∃ w4, w4 = w3.alloc (.cells #[.int .i64 104, .bool i0, .bool c0] 37) := ⟨_, rfl⟩
  rw [← hw4, ← hb1] at hT2 ⊢
  clear hw4 hb1
  clear hT
  have hT := hT2
  clear hT2
  go_upto_region 8 with (first
    | (go_at_call 16; refine (hT.mem (fun B O h hb => hC.out _ _ _ _ h hb)).mono ?_; rintro e w5 ⟨rfl, hT2⟩; clear hT; have hT := hT2; clear hT2)
    | (go_at_call 19; refine (hT.mem (fun B O h hb => hSt.out _ _ _ _ h hb)).mono ?_; rintro e w6 ⟨rfl, hT2⟩; clear hT; have hT := hT2; clear hT2)
    | (go_at_call 14; refine (hT.mem (fun B O h hb => hD2.out _ _ _ _ h hb)).mono ?_; rintro e w7 ⟨rfl, hT2⟩; clear hT; have hT := hT2; clear hT2))
  have hT2 := hT.new #[.int .i64 1552, .bool false, .bool false] 37
  obtain ⟨b2, hb2⟩ : ∃ b2, b2 = w7.heap.size := ⟨_, rfl⟩
  obtain ⟨w8, hw8⟩ : ∃ w8, w8 = w7.alloc (.cells #[.int .i64 1552, .bool false, .bool false] 37) := ⟨_, rfl⟩
  rw [← hw8, ← hb2] at hT2 ⊢
  clear hw8 hb2
  clear hT
  have hT := hT2
  clear hT2
  have y1 : w8.cell? ⟨b1, 0, none⟩ = some (.int .i64 104) := Blk.cell hT.fact.1.2 0
  have y2 : w8.cell? ⟨b2, 0, none⟩ = some (.int .i64 1552) := Blk.cell hT.fact.2 0
  go_wp2
  go_ret
  exact ⟨rfl, hT.bel⟩
end Go.Proofs.Ytcfblcgdjhpdaaa

/- 'DictKinds', 'DictFinds'. -/
namespace Go.Proofs.Ytcfblcgdjhpdaaa
open Go.RowKit
set_option linter.unusedVariables false
set_option linter.unusedSimpArgs false
attribute [local go_sem] cell_set set_set m_undef
attribute [local irreducible] findA kindL

set_option maxHeartbeats 1000000 in
theorem dictKinds {w : World} (v : Value) (l : List UInt8) (h : Rb w v l) (xt : Int) (hx : isI xt) : Calls Try.prog 7 #[v, .int .i64 xt] w fun e w' => e = .returned (.bool true) ∧ Below w.heap.size w w' := by
  obtain ⟨ad, cap, rfl⟩ := h.form
  have hA := Lib.hid (fun w9 => wAwake w9)
  by_cases hl : 9000 < l.length
  · clear h
    have t1 : ((9000 : Int) < (l.length : Int)) = True := by simp; omega
    go_enter Try.func7, Try.ntmps7
    go_wp2_with (go_at_call 9; refine (hA.out _).mono ?_; rintro e w1 ⟨rfl, hb1⟩)
    go_ret
    exact ⟨rfl, hb1⟩
  have t1 : ((9000 : Int) < (l.length : Int)) = False := by simp; omega
  have hF1 := fun (w9 : World) (h9 : Rb w9 (.slice ad l.length cap) l) => wFlatR w9 _ l h9
  have hF2 := fun (w9 : World) (h9 : Rb w9 (.slice ad l.length cap) l) => rFlat w9 _ l h9
  unfold FlatQ at hF1
  generalize flatL l = M at *
  have hK := fun (w9 : World) (mb B : Nat) (O : Nat → Prop) (h : MemP w9 B mb M O) (hb : B ≤ w9.heap.size) => kKind h hb xt hx
  have hR := fun (w9 : World) (rb B : Nat) (R : Nat → Prop) (h : RefP w9 B rb M R) => rKind h xt hx
  generalize kindL M xt = kd at *
  replace h := Lib.hid h
  replace hF1 := Lib.hid hF1
  replace hF2 := Lib.hid hF2
  replace hK := Lib.hid hK
  replace hR := Lib.hid hR
  clear hl hx
  go_enter Try.func7, Try.ntmps7
  go_wp2_with (first
    | (go_at_call 9; refine (hA.out _).mono ?_; rintro e w1 ⟨rfl, hb1⟩; have h1 := Lib.hid (h.out.below hb1); replace hb1 := Lib.hid hb1)
    | (go_at_call 10; refine (hF1.out _ h1.out).mono ?_; rintro e w2 ⟨mb, O2, rfl, hP2, hb2⟩; have hT := Uno.make hb1.out (Keep.emp _ _) hP2 hb2; clear hP2 hb2)
    | (go_at_call 25; refine (hT.mem (fun B O h hb => hK.out _ _ _ _ h hb)).mono ?_; rintro e w3 ⟨rfl, hT2⟩; clear hT; have hT := hT2; clear hT2; have h2 := Lib.hid (h.out.below hT.bel))
    | (go_at_call 11; refine (hF2.out _ h2.out).mono ?_; rintro e w4 ⟨rb, R, rfl, hR3, hb3⟩; have hb4 := Lib.hid (bel_trans hT.bel hb3); replace hR3 := Lib.hid hR3; clear hT hb3)
    | (go_at_call 26; refine (hR.out _ _ _ _ hR3.out).mono ?_; rintro e w5 ⟨rfl, hb5⟩; have hb6 := Lib.hid (bel_trans hb4.out hb5); clear hb5))
  go_ret
  exact ⟨rfl, hb6.out⟩
set_option maxHeartbeats 1000000 in
theorem dictFinds {w : World} (v : Value) (l : List UInt8) (h : Rb w v l) (nm : ByteArray) (_ : nm.size ≤ maxLen) : Calls Try.prog 4 #[v, .string nm] w fun e w' => e = .returned (.bool true) ∧ Below w.heap.size w w' := by
  obtain ⟨ad, cap, rfl⟩ := h.form
  have hA := Lib.hid (fun w9 => wAwake w9)
  by_cases hl : 9000 < l.length
  · clear h
    have t1 : ((9000 : Int) < (l.length : Int)) = True := by simp; omega
    go_enter Try.func4, Try.ntmps4
    go_wp2_with (go_at_call 9; refine (hA.out _).mono ?_; rintro e w1 ⟨rfl, hb1⟩)
    go_ret
    exact ⟨rfl, hb1⟩
  have t1 : ((9000 : Int) < (l.length : Int)) = False := by simp; omega
  by_cases hn : 1000 < nm.size
  · clear h
    have t2 : ((1000 : Int) < (nm.size : Int)) = True := by simp; omega
    go_enter Try.func4, Try.ntmps4
    go_wp2_with (go_at_call 9; refine (hA.out _).mono ?_; rintro e w1 ⟨rfl, hb1⟩)
    go_ret
    exact ⟨rfl, hb1⟩
  have t2 : ((1000 : Int) < (nm.size : Int)) = False := by simp; omega
  have hF1 := fun (w9 : World) (h9 : Rb w9 (.slice ad l.length cap) l) => wFlatR w9 _ l h9
  have hF2 := fun (w9 : World) (h9 : Rb w9 (.slice ad l.length cap) l) => rFlat w9 _ l h9
  unfold FlatQ at hF1
  generalize flatL l = M at *
  have hK := fun (w9 : World) (mb B : Nat) (O : Nat → Prop) (h : MemP w9 B mb M O) (hb : B ≤ w9.heap.size) => kFind h hb nm (by omega)
  have hR := fun (w9 : World) (rb B : Nat) (R : Nat → Prop) (h : RefP w9 B rb M R) => rFindW h nm (by omega)
  generalize findA M nm = fa at *
  obtain ⟨fx, fi, fc, fis⟩ := fa
  unfold findR at hK hR
  dsimp only at hK hR
  replace h := Lib.hid h
  replace hF1 := Lib.hid hF1
  replace hF2 := Lib.hid hF2
  replace hK := Lib.hid hK
  replace hR := Lib.hid hR
  clear hl hn
  go_enter Try.func4, Try.ntmps4
  go_upto_region 6 with (first
    | (go_at_call 9; refine (hA.out _).mono ?_; rintro e w1 ⟨rfl, hb1⟩; have h1 := Lib.hid (h.out.below hb1); replace hb1 := Lib.hid hb1)
    | (go_at_call 10; refine (hF1.out _ h1.out).mono ?_; rintro e w2 ⟨mb, O2, rfl, hP2, hb2⟩; have hT := Uno.make hb1.out (Keep.emp _ _) hP2 hb2; clear hP2 hb2)
    | (go_at_call 14; refine (hT.mem (fun B O h hb => hK.out _ _ _ _ h hb)).mono ?_; rintro e w3 ⟨rfl, hT2⟩; clear hT; have hT := hT2; clear hT2))
  have hT2 := hT.new #[.int .i64 fx, .bool fi, .bool fc] 37
  obtain ⟨b1, hb1'⟩ : ∃ b1, b1 = w3.heap.size := ⟨_, rfl⟩
  obtain ⟨w4, hw4⟩ : ∃ w4, w4 = w3.alloc (.cells #[.int .i64 fx, .bool fi, .bool fc] 37) := ⟨_, rfl⟩
  rw [← hw4, ← hb1'] at hT2 ⊢
  clear hw4 hb1' hT
  have hT := hT2
  clear hT2
  have h2 := Lib.hid (h.out.below hT.bel)
  go_upto_region 7 with (first
    | (go_at_call 11; refine (hF2.out _ h2.out).mono ?_; rintro e w5 ⟨rb, R, rfl, hR3, hb3⟩; have hb4 := Lib.hid (bel_trans hT.bel hb3); have hB5 := Lib.hid ((show Blk w4 b1 _ _ from hT.fact.2).below hb3); have hs5 := Lib.hid hb3.size; replace hR3 := Lib.hid hR3)
    | (go_at_call 15; refine (hR.out _ _ _ _ hR3.out).mono ?_; rintro e w6 ⟨rfl, R6, hR6, hT6⟩; have hb5 := hT6.below (fun k hk => (hR3.out.lt hk).2) hs5.out; have hb6 := Lib.hid (hb4.out.trans (hb5.mono hT.bel.size)); have hB6 := Lib.hid (show Blk w6 b1 #[.int .i64 fx, .bool fi, .bool fc] 37 from (hb5.block b1 (show Blk w4 b1 _ _ from hT.fact.2).lt).trans hB5.out); clear hR6 hT6 hb5))
  have hB7 := hB6.out.alloc (.cells #[.int .i64 fx, .bool fi, .bool fc] 37)
  have hC7 := Blk.new w6 #[.int .i64 fx, .bool fi, .bool fc] 37
  have hb7 := Lib.hid (bel_alloc hb6.out (.cells #[.int .i64 fx, .bool fi, .bool fc] 37))
  obtain ⟨b2, hb2'⟩ : ∃ b2, b2 = w6.heap.size := ⟨_, rfl⟩
  obtain ⟨w7, hw7⟩ : ∃ w7, w7 = w6.alloc (.cells #[.int .i64 fx, .bool fi, .bool fc] 37) := ⟨_, rfl⟩
  rw [← hw7] at hB7 hC7 hb7 ⊢
  rw [← hb2'] at hC7 ⊢
  clear hw7 hb2'
  obtain ⟨y1, y2, y3⟩ := hB7.c3'
  obtain ⟨z1, z2, z3⟩ := hC7.c3'
  go_wp2
  go_ret
  exact ⟨rfl, hb7.out⟩
end Go.Proofs.Ytcfblcgdjhpdaaa

/- 'check': whether a dictionary is as it should be. -/
namespace Go.Proofs.Ytcfblcgdjhpdaaa
open Go.RowKit
set_option linter.unusedVariables false
set_option linter.unusedSimpArgs false
attribute [local go_sem] cell_set set_set m_undef

/-- Whether the chain of links from 'at' on, below 'last', is as it should be. -/
def chkW (M : List UInt8) (last at_ : Int) : Bool :=
  if at_ = 0 then true else
  if h : rdOk M at_ = true ∧ at_ < last then (decide (last < 8192 → rdXt M at_ + 8 ≤ last) && (hidL M at_ || decide (0 < kindL M (rdXt M at_)))) && chkW M at_ (linkL M at_) else false
termination_by last.toNat
decreasing_by have := rdOk_lo h.1; omega
theorem chkW_zero (M : List UInt8) (last : Int) : chkW M last 0 = true := by rw [chkW]; exact if_pos rfl
theorem chkW_no {M : List UInt8} {last at_ : Int} (h0 : at_ ≠ 0) (h : ¬ (rdOk M at_ = true ∧ at_ < last)) : chkW M last at_ = false := by rw [chkW, if_neg h0]; exact dif_neg h
theorem chkW_yes {M : List UInt8} {last at_ : Int} (h0 : at_ ≠ 0) (h : rdOk M at_ = true ∧ at_ < last) :
    chkW M last at_ = ((decide (last < 8192 → rdXt M at_ + 8 ≤ last) && (hidL M at_ || decide (0 < kindL M (rdXt M at_)))) && chkW M at_ (linkL M at_)) := by rw [chkW, if_neg h0]; exact dif_pos h
def chkL (M : List UInt8) : Bool := decide (getM M 0 = hereL M) && chkW M 8192 (getM M 8)
theorem chk_end {M : List UInt8} : ∀ (n : Nat) (last at_ : Int), last.toNat ≤ n → chkW M last at_ = true → endL M last at_ = 0 := by
  intro n
  induction n with
  | zero =>
    intro last at_ hn hc
    by_cases h0 : at_ = 0
    · rw [endL_no (fun h => by rw [h0, rdOk_zero] at h; exact absurd h.1 (by decide))]; exact h0
    · rw [chkW_no h0 (fun h => by have := rdOk_lo h.1; omega)] at hc; cases hc
  | succ n ih =>
    intro last at_ hn hc
    by_cases h0 : at_ = 0
    · rw [endL_no (fun h => by rw [h0, rdOk_zero] at h; exact absurd h.1 (by decide))]; exact h0
    · by_cases h : rdOk M at_ = true ∧ at_ < last
      · rw [chkW_yes h0 h, Bool.and_eq_true] at hc
        rw [endL_yes h]
        exact ih _ _ (by have := rdOk_lo h.1; omega) hc.2
      · rw [chkW_no h0 h] at hc; cases hc
theorem chkL_end {M : List UInt8} (h : chkL M = true) : endL M 8192 (latestL M) = 0 := by
  unfold chkL at h
  rw [Bool.and_eq_true] at h
  have h2 := h.2
  generalize hg : getM M 8 = g at *
  by_cases hk : rdOk M g = true
  · have : latestL M = g := by rw [← hg]; exact latest_of (by rw [hg]; exact hk)
    rw [this]
    exact chk_end _ _ _ (Nat.le_refl _) h2
  · have : latestL M = 0 := by unfold latestL; rw [hg]; exact if_neg hk
    exact (words_of_zero this).2
abbrev Wrong : Ending := .panicked [{ v := .iface 87 (.agg #[]), recovered := false }]
theorem must_ok (w : World) : Calls Try.prog 68 #[.bool true] w fun e w' => e = .returned (.tuple #[]) ∧ w = w' := by
  go_enter Try.func68, Try.ntmps68
  go_wp2
  (try go_end0)
  exact ⟨rfl, rfl⟩
theorem must_no (w : World) : Calls Try.prog 68 #[.bool false] w fun e w' => e = Wrong ∧ w = w' := by
  go_enter Try.func68, Try.ntmps68
  go_wp2
  exact ⟨rfl, rfl, rfl⟩
end Go.Proofs.Ytcfblcgdjhpdaaa

/- 'check' walked. -/
namespace Go.Proofs.Ytcfblcgdjhpdaaa
open Go.RowKit
set_option linter.unusedVariables false
set_option linter.unusedSimpArgs false
attribute [local go_sem] cell_set set_set m_undef
attribute [local irreducible] chkL kindL rdOk rdV linkL nameL immL hidL rdXt loadL hereL

theorem One.ends {W w : World} {B mb : Nat} {M : List UInt8} {O0 : Nat → Prop} {K : Kp} (h : One W w B mb M O0 K) : ∃ O', MemP w B mb M O' ∧ Turn W w O0 O' := by
  obtain ⟨O, h1, h2, _⟩ := h; exact ⟨O, h1, h2⟩
set_option maxRecDepth 100000 in
set_option maxHeartbeats 1600000 in
theorem kCheckW {w : World} {B mb : Nat} {M : List UInt8} {O : Nat → Prop} (h : MemP w B mb M O) (hB : B ≤ w.heap.size) :
    Calls Try.prog 57 #[.pointer (some ⟨mb, 0, none⟩)] w fun e w' => e = (if chkL M then .returned (.tuple #[]) else Wrong) ∧ ∃ O', MemP w' B mb M O' ∧ Turn w w' O O' := by
  have hS := One.start h hB
  have hG0 := Lib.hid (fun (w9 : World) (O : Nat → Prop) (h : MemP w9 B mb M O) (hb : B ≤ w9.heap.size) => mGet h hb 0 (by unfold isI; omega))
  have hG8 := Lib.hid (fun (w9 : World) (O : Nat → Prop) (h : MemP w9 B mb M O) (hb : B ≤ w9.heap.size) => mGet h hb 8 (by unfold isI; omega))
  have hHr := Lib.hid (fun (w9 : World) (O : Nat → Prop) (h : MemP w9 B mb M O) (hb : B ≤ w9.heap.size) => mHere h hb)
  have hRd := Lib.hid (fun (a : Int) (ha : isI a) (w9 : World) (O : Nat → Prop) (h : MemP w9 B mb M O) (hb : B ≤ w9.heap.size) => mRead h hb a ha)
  have hKd := Lib.hid (fun (a : Int) (ha : isI a) (w9 : World) (O : Nat → Prop) (h : MemP w9 B mb M O) (hb : B ≤ w9.heap.size) => kKind h hb a ha)
  have hck : chkL M = (decide (getM M 0 = hereL M) && chkW M 8192 (getM M 8)) := by unfold chkL; rfl
  have hgi := getM_isI M 8
  clear h hB
  generalize getM M 0 = g0 at *
  generalize getM M 8 = g8 at *
  generalize hereL M = here at *
  by_cases h0 : g0 = here
  · have hd0 : decide (g0 = here) = true := decide_eq_true h0
    rw [hd0, Bool.true_and] at hck
    have t0 : (g0 == here) = true := by simp; exact h0
    replace hck := Lib.hid hck
    clear hd0 h0
    go_enter Try.func57, Try.ntmps57
    go_upto_region 1 with (first
      | (go_at_call_of 54 (0 : Int); refine (hS.mem (fun O h hb => hG0.out _ O h hb)).mono ?_; rintro e w1 ⟨rfl, hS2⟩; clear hS; have hS := hS2; clear hS2)
      | (go_at_call 42; refine (hS.mem (fun O h hb => hHr.out _ O h hb)).mono ?_; rintro e w2 ⟨rfl, hS2⟩; clear hS; have hS := hS2; clear hS2)
      | (go_at_call 68; refine (must_ok _).mono ?_; rintro e _ ⟨rfl, rfl⟩))
    go_wp2_with (go_at_call 54; refine (hS.mem (fun O h hb => hG8.out _ O h hb)).mono ?_; rintro e w3 ⟨rfl, hS2⟩; clear hS; have hS := hS2; clear hS2)
    go_loopw [2, 3] (fun p q wr => ∃ (pv la at_ : Int), p = .int .i64 pv ∧ (pv = 0 ∧ la = 8192 ∨ pv = la ∧ la < 8192) ∧ q = .int .i64 at_ ∧ chkL M = chkW M la at_ ∧ isI at_ ∧ 1 ≤ la ∧ la ≤ 8192 ∧ One w wr B mb M O .emp) (fun p q wr => if intOf p = 0 then 8192 else (intOf p).toNat)
    case atStart => exact ⟨0, 8192, g8, rfl, .inl ⟨rfl, rfl⟩, rfl, hck.out, hgi, by omega, by omega, hS⟩
    case round =>
    obtain ⟨pv, la, at_, rfl, hpv, rfl, hck, hIa, hl1, hl8, hS⟩ := hrel
    clear hG0 hG8 hHr
    by_cases t0 : at_ = 0
    · subst t0
      rw [chkW_zero] at hck
      go_wp2
      go_end0
      exact ⟨rfl, hS.ends⟩
    · have t0' : (at_ != 0) = true := by simp; exact t0
      obtain ⟨A, K, H, I, D, X, hV, -⟩ := rdV_form M at_
      have hR := hRd.out at_ hIa
      rw [hV] at hR
      by_cases hok : rdOk M at_ = true
      · have hlo := rdOk_lo hok
        have hxx : rdXt M at_ + 8 ≤ 5632 := by have := (rdOk_iff.1 hok).2.2.2.2; have := hereL_le M; omega
        have hxg : 1536 ≤ rdXt M at_ := by have := rdXt_ge (M := M) hlo.1 (by omega); omega
        have hcy := @chkW_yes M la at_ t0
        rw [hok] at hR
        rw [rdV_ok hok] at hV
        simp at hV
        obtain ⟨hAa, hK, -, -, hD, hX⟩ := hV; subst hAa
        have hKi := linkL_isI M at_
        rw [hK] at hKi hcy
        rw [hD] at hcy
        rw [hX] at hxx hxg hcy
        have hKd' := hKd.out X (by unfold isI; omega)
        have hXi : isI X := by unfold isI; omega
        generalize kindL M X = kd at *
        have hKd2 := Lib.hid hKd'
        have hR' := Lib.hid hR
        obtain ⟨x8, hx8⟩ : ∃ x8, x8 = X + 8 := ⟨_, rfl⟩
        have w8 : IntKind.i64.wrap (X + 8) = x8 := by rw [IntKind.wrap_i64]; unfold isI at hXi; omega
        rw [← hx8] at hcy
        clear hR hKd' hx8 hxx hxg
        rcases hpv with ⟨rfl, rfl⟩ | ⟨rfl, hl⟩
        · have hnx0 : chkL M = ((D || decide (0 < kd)) && chkW M at_ K) := by
            rw [hck, hcy ⟨hok, by omega⟩, decide_eq_true (fun h => absurd h (by decide)), Bool.true_and]
          clear hcy hck
          go_upto_region 5 with (go_at_call 30; refine (hS.mem (fun O h hb => hR'.out _ O h hb)).mono ?_; rintro e w2 ⟨rfl, hS2⟩; clear hS; have hS := hS2; clear hS2)
          have hS2 := hS.new #[.int .i64 at_, .int .i64 K, .string H, .bool I, .bool D, .int .i64 X] 34
          obtain ⟨b1, hb1⟩ : ∃ b1, b1 = w2.heap.size := ⟨_, rfl⟩
          obtain ⟨w3, hw3⟩ : ∃ w3, w3 = w2.alloc (.cells #[.int .i64 at_, .int .i64 K, .string H, .bool I, .bool D, .int .i64 X] 34) := ⟨_, rfl⟩
          rw [← hw3, ← hb1] at hS2 ⊢
          clear hS hw3 hb1
          have hS := hS2
          clear hS2
          obtain ⟨y1, y2, y3, y4, y5, y6⟩ := hS.fact.2.c6
          have hnx := Lib.hid hnx0
          clear hnx0
          cases D with
          | true =>
            have hck2 : chkL M = chkW M at_ K := by rw [hnx.out]; rfl
            go_upto_region 7 with (go_at_call 68; refine (must_ok _).mono ?_; rintro e _ ⟨rfl, rfl⟩)
            replace hS := hS.drew
            have hBk := hS.fact.2
            refine wp_region_noPanic ?_
            refine wp_region_held_drew (S := (fun w' => Blk w' b1 #[.int .i64 at_, .int .i64 K, .string H, .bool I, .bool true, .int .i64 X] 34)) (by kernel_rfl) ?_ (fun hHeld => ?_)
            · (try dsimp only); exact hBk
            refine wpAnyH_take (i := 0) (oi := { dst := some 50, op := Go.Op.move (Go.Operand.tmp 3), type := 2, pos := "dict.go:96", after := #[], guard := none }) (v := ?v1) rfl (by kernel_rfl) (by kernel_rfl) (by kernel_rfl) (fun _ _ _ h => h) (Or.inl ⟨by rfl, ?hy1⟩) (by assumption) ?rest1
            case hy1 => (intro w hSw; (try dsimp only at hSw); have y2 : w.cell? ⟨b1, 1, none⟩ = some (.int .i64 K) := Blk.cell hSw 1; go_simp <;> with_reducible rfl)
            try simp only [Act.put, List.setIfInBounds_toArray, List.set_cons_zero, List.set_cons_succ]
            refine wpAnyH_take (i := 1) (oi := { dst := some 51, op := Go.Op.fieldAddr 34 (Go.Operand.tmp 4) 1, type := 0, pos := "dict.go:96", after := #[{ on := 3, ground := Go.Ground.gcOnly Go.Departure.lateStores }], guard := none }) (v := ?v2) rfl (by kernel_rfl) (by kernel_rfl) (by kernel_rfl) (fun _ _ _ h => h) (Or.inl ⟨by rfl, ?hy2⟩) (by assumption) ?rest2
            case hy2 => (intro w hSw; (try dsimp only at hSw); have y2 : w.cell? ⟨b1, 1, none⟩ = some (.int .i64 K) := Blk.cell hSw 1; go_simp <;> with_reducible rfl)
            try simp only [Act.put, List.setIfInBounds_toArray, List.set_cons_zero, List.set_cons_succ]
            refine wpAnyH_take (i := 2) (oi := { dst := some 52, op := Go.Op.load 2 (Go.Operand.tmp 51), type := 2, pos := "dict.go:96", after := #[{ on := 1, ground := Go.Ground.data }, { on := 3, ground := Go.Ground.gcOnly Go.Departure.lateStores }], guard := none }) (v := ?v3) rfl (by kernel_rfl) (by kernel_rfl) (by kernel_rfl) (fun _ _ _ h => h) (Or.inl ⟨by rfl, ?hy3⟩) (by assumption) ?rest3
            case hy3 => (intro w hSw; (try dsimp only at hSw); have y2 : w.cell? ⟨b1, 1, none⟩ = some (.int .i64 K) := Blk.cell hSw 1; go_simp <;> with_reducible rfl)
            try simp only [Act.put, List.setIfInBounds_toArray, List.set_cons_zero, List.set_cons_succ]
            refine wpAnyH_take (i := 3) (oi := { dst := some 2, op := Go.Op.assign (Go.Operand.tmp 50), type := 2, pos := "dict.go:96", after := #[{ on := 0, ground := Go.Ground.data }, { on := 0, ground := Go.Ground.phase }, { on := 1, ground := Go.Ground.textOnly Go.Departure.lateStores }, { on := 2, ground := Go.Ground.textOnly Go.Departure.lateStores }], guard := none }) (v := ?v4) rfl (by kernel_rfl) (by kernel_rfl) (by kernel_rfl) (fun _ _ _ h => h) (Or.inl ⟨by rfl, ?hy4⟩) (by assumption) ?rest4
            case hy4 => (intro w hSw; (try dsimp only at hSw); have y2 : w.cell? ⟨b1, 1, none⟩ = some (.int .i64 K) := Blk.cell hSw 1; go_simp <;> with_reducible rfl)
            try simp only [Act.put, List.setIfInBounds_toArray, List.set_cons_zero, List.set_cons_succ]
            refine wpAnyH_take (i := 4) (oi := { dst := some 3, op := Go.Op.assign (Go.Operand.tmp 52), type := 2, pos := "dict.go:96", after := #[{ on := 2, ground := Go.Ground.data }, { on := 3, ground := Go.Ground.chain }, { on := 0, ground := Go.Ground.phase }, { on := 1, ground := Go.Ground.phase }, { on := 2, ground := Go.Ground.phase }, { on := 3, ground := Go.Ground.phase }], guard := none }) (v := ?v5) rfl (by kernel_rfl) (by kernel_rfl) (by kernel_rfl) (fun _ _ _ h => h) (Or.inl ⟨by rfl, ?hy5⟩) (by assumption) ?rest5
            case hy5 => (intro w hSw; (try dsimp only at hSw); have y2 : w.cell? ⟨b1, 1, none⟩ = some (.int .i64 K) := Blk.cell hSw 1; go_simp <;> with_reducible rfl)
            try simp only [Act.put, List.setIfInBounds_toArray, List.set_cons_zero, List.set_cons_succ]
            refine wpAnyH_done (by kernel_rfl) ?_ _
            refine NoPanic.normal ?_
            simp only [Exit.inBlock]
            refine ⟨?_, ?measure⟩
            repeat apply Exists.intro
            refine ⟨?rel, rfl⟩
            case rel => exact ⟨at_, at_, K, rfl, .inr ⟨rfl, by omega⟩, rfl, hck2, hKi, by omega, by omega, hS.keep fun O h => h.left⟩
            case measure => (simp [intOf, t0]; first | omega | (split <;> omega))
          | false =>
            by_cases hk : 0 < kd
            · have hck2 : chkL M = chkW M at_ K := by rw [hnx.out, decide_eq_true hk]; rfl
              go_upto_region 7 with (first | (go_at_call 25; refine (hS.mem (fun O h hb => hKd2.out _ O h hb)).mono ?_; rintro e w4 ⟨rfl, hS2⟩; clear hS; have hS := hS2; clear hS2; obtain ⟨y1, y2, y3, y4, y5, y6⟩ := hS.fact.2.c6) | (go_at_call 68; refine (must_ok _).mono ?_; rintro e _ ⟨rfl, rfl⟩))
              replace hS := hS.drew
              have hBk := hS.fact.2
              refine wp_region_noPanic ?_
              refine wp_region_held_drew (S := (fun w' => Blk w' b1 #[.int .i64 at_, .int .i64 K, .string H, .bool I, .bool false, .int .i64 X] 34)) (by kernel_rfl) ?_ (fun hHeld => ?_)
              · (try dsimp only); exact hBk
              refine wpAnyH_take (i := 0) (oi := { dst := some 50, op := Go.Op.move (Go.Operand.tmp 3), type := 2, pos := "dict.go:96", after := #[], guard := none }) (v := ?v6) rfl (by kernel_rfl) (by kernel_rfl) (by kernel_rfl) (fun _ _ _ h => h) (Or.inl ⟨by rfl, ?hy6⟩) (by assumption) ?rest6
              case hy6 => (intro w hSw; (try dsimp only at hSw); have y2 : w.cell? ⟨b1, 1, none⟩ = some (.int .i64 K) := Blk.cell hSw 1; go_simp <;> with_reducible rfl)
              try simp only [Act.put, List.setIfInBounds_toArray, List.set_cons_zero, List.set_cons_succ]
              refine wpAnyH_take (i := 1) (oi := { dst := some 51, op := Go.Op.fieldAddr 34 (Go.Operand.tmp 4) 1, type := 0, pos := "dict.go:96", after := #[{ on := 3, ground := Go.Ground.gcOnly Go.Departure.lateStores }], guard := none }) (v := ?v7) rfl (by kernel_rfl) (by kernel_rfl) (by kernel_rfl) (fun _ _ _ h => h) (Or.inl ⟨by rfl, ?hy7⟩) (by assumption) ?rest7
              case hy7 => (intro w hSw; (try dsimp only at hSw); have y2 : w.cell? ⟨b1, 1, none⟩ = some (.int .i64 K) := Blk.cell hSw 1; go_simp <;> with_reducible rfl)
              try simp only [Act.put, List.setIfInBounds_toArray, List.set_cons_zero, List.set_cons_succ]
              refine wpAnyH_take (i := 2) (oi := { dst := some 52, op := Go.Op.load 2 (Go.Operand.tmp 51), type := 2, pos := "dict.go:96", after := #[{ on := 1, ground := Go.Ground.data }, { on := 3, ground := Go.Ground.gcOnly Go.Departure.lateStores }], guard := none }) (v := ?v8) rfl (by kernel_rfl) (by kernel_rfl) (by kernel_rfl) (fun _ _ _ h => h) (Or.inl ⟨by rfl, ?hy8⟩) (by assumption) ?rest8
              case hy8 => (intro w hSw; (try dsimp only at hSw); have y2 : w.cell? ⟨b1, 1, none⟩ = some (.int .i64 K) := Blk.cell hSw 1; go_simp <;> with_reducible rfl)
              try simp only [Act.put, List.setIfInBounds_toArray, List.set_cons_zero, List.set_cons_succ]
              refine wpAnyH_take (i := 3) (oi := { dst := some 2, op := Go.Op.assign (Go.Operand.tmp 50), type := 2, pos := "dict.go:96", after := #[{ on := 0, ground := Go.Ground.data }, { on := 0, ground := Go.Ground.phase }, { on := 1, ground := Go.Ground.textOnly Go.Departure.lateStores }, { on := 2, ground := Go.Ground.textOnly Go.Departure.lateStores }], guard := none }) (v := ?v9) rfl (by kernel_rfl) (by kernel_rfl) (by kernel_rfl) (fun _ _ _ h => h) (Or.inl ⟨by rfl, ?hy9⟩) (by assumption) ?rest9
              case hy9 => (intro w hSw; (try dsimp only at hSw); have y2 : w.cell? ⟨b1, 1, none⟩ = some (.int .i64 K) := Blk.cell hSw 1; go_simp <;> with_reducible rfl)
              try simp only [Act.put, List.setIfInBounds_toArray, List.set_cons_zero, List.set_cons_succ]
              refine wpAnyH_take (i := 4) (oi := { dst := some 3, op := Go.Op.assign (Go.Operand.tmp 52), type := 2, pos := "dict.go:96", after := #[{ on := 2, ground := Go.Ground.data }, { on := 3, ground := Go.Ground.chain }, { on := 0, ground := Go.Ground.phase }, { on := 1, ground := Go.Ground.phase }, { on := 2, ground := Go.Ground.phase }, { on := 3, ground := Go.Ground.phase }], guard := none }) (v := ?v10) rfl (by kernel_rfl) (by kernel_rfl) (by kernel_rfl) (fun _ _ _ h => h) (Or.inl ⟨by rfl, ?hy10⟩) (by assumption) ?rest10
              case hy10 => (intro w hSw; (try dsimp only at hSw); have y2 : w.cell? ⟨b1, 1, none⟩ = some (.int .i64 K) := Blk.cell hSw 1; go_simp <;> with_reducible rfl)
              try simp only [Act.put, List.setIfInBounds_toArray, List.set_cons_zero, List.set_cons_succ]
              refine wpAnyH_done (by kernel_rfl) ?_ _
              refine NoPanic.normal ?_
              simp only [Exit.inBlock]
              refine ⟨?_, ?measure⟩
              repeat apply Exists.intro
              refine ⟨?rel, rfl⟩
              case rel => exact ⟨at_, at_, K, rfl, .inr ⟨rfl, by omega⟩, rfl, hck2, hKi, by omega, by omega, hS.keep fun O h => h.left⟩
              case measure => (simp [intOf, t0]; first | omega | (split <;> omega))
            · have hck : chkL M = false := by rw [hnx.out, decide_eq_false hk]; rfl
              have tk : (0 < kd) = False := eq_false hk
              clear hk
              go_upto_region 6 with (go_at_call 68; refine (must_ok _).mono ?_; rintro e _ ⟨rfl, rfl⟩)
              go_wp2_with (first | (go_at_call 25; refine (hS.mem (fun O h hb => hKd2.out _ O h hb)).mono ?_; rintro e w4 ⟨rfl, hS2⟩; clear hS; have hS := hS2; clear hS2; obtain ⟨y1, y2, y3, y4, y5, y6⟩ := hS.fact.2.c6) | (go_at_call 68; refine (must_no _).mono ?_; rintro e _ ⟨rfl, rfl⟩))
              all_goals first | exact ⟨rfl, rfl, hS.ends⟩ | exact absurd ‹chkL M = true› (by rw [hck]; decide) | (rename_i hh; exact absurd hh (by rw [hck]; decide))
        · have tp : (pv == 0) = false := by simp; omega
          by_cases hlt : at_ < pv
          · by_cases hx : x8 ≤ pv
            · have hnx0 : chkL M = ((D || decide (0 < kd)) && chkW M at_ K) := by
                rw [hck, hcy ⟨hok, hlt⟩, decide_eq_true (fun _ => hx), Bool.true_and]
              clear hcy hck
              go_upto_region 5 with (go_at_call 30; refine (hS.mem (fun O h hb => hR'.out _ O h hb)).mono ?_; rintro e w2 ⟨rfl, hS2⟩; clear hS; have hS := hS2; clear hS2)
              have hS2 := hS.new #[.int .i64 at_, .int .i64 K, .string H, .bool I, .bool D, .int .i64 X] 34
              obtain ⟨b1, hb1⟩ : ∃ b1, b1 = w2.heap.size := ⟨_, rfl⟩
              obtain ⟨w3, hw3⟩ : ∃ w3, w3 = w2.alloc (.cells #[.int .i64 at_, .int .i64 K, .string H, .bool I, .bool D, .int .i64 X] 34) := ⟨_, rfl⟩
              rw [← hw3, ← hb1] at hS2 ⊢
              clear hS hw3 hb1
              have hS := hS2
              clear hS2
              obtain ⟨y1, y2, y3, y4, y5, y6⟩ := hS.fact.2.c6
              have hnx := Lib.hid hnx0
              clear hnx0
              cases D with
              | true =>
                have hck2 : chkL M = chkW M at_ K := by rw [hnx.out]; rfl
                go_upto_region 7 with (go_at_call 68; refine (must_ok _).mono ?_; rintro e _ ⟨rfl, rfl⟩)
                replace hS := hS.drew
                have hBk := hS.fact.2
                refine wp_region_noPanic ?_
                refine wp_region_held_drew (S := (fun w' => Blk w' b1 #[.int .i64 at_, .int .i64 K, .string H, .bool I, .bool true, .int .i64 X] 34)) (by kernel_rfl) ?_ (fun hHeld => ?_)
                · (try dsimp only); exact hBk
                refine wpAnyH_take (i := 0) (oi := { dst := some 50, op := Go.Op.move (Go.Operand.tmp 3), type := 2, pos := "dict.go:96", after := #[], guard := none }) (v := ?v11) rfl (by kernel_rfl) (by kernel_rfl) (by kernel_rfl) (fun _ _ _ h => h) (Or.inl ⟨by rfl, ?hy11⟩) (by assumption) ?rest11
                case hy11 => (intro w hSw; (try dsimp only at hSw); have y2 : w.cell? ⟨b1, 1, none⟩ = some (.int .i64 K) := Blk.cell hSw 1; go_simp <;> with_reducible rfl)
                try simp only [Act.put, List.setIfInBounds_toArray, List.set_cons_zero, List.set_cons_succ]
                refine wpAnyH_take (i := 1) (oi := { dst := some 51, op := Go.Op.fieldAddr 34 (Go.Operand.tmp 4) 1, type := 0, pos := "dict.go:96", after := #[{ on := 3, ground := Go.Ground.gcOnly Go.Departure.lateStores }], guard := none }) (v := ?v12) rfl (by kernel_rfl) (by kernel_rfl) (by kernel_rfl) (fun _ _ _ h => h) (Or.inl ⟨by rfl, ?hy12⟩) (by assumption) ?rest12
                case hy12 => (intro w hSw; (try dsimp only at hSw); have y2 : w.cell? ⟨b1, 1, none⟩ = some (.int .i64 K) := Blk.cell hSw 1; go_simp <;> with_reducible rfl)
                try simp only [Act.put, List.setIfInBounds_toArray, List.set_cons_zero, List.set_cons_succ]
                refine wpAnyH_take (i := 2) (oi := { dst := some 52, op := Go.Op.load 2 (Go.Operand.tmp 51), type := 2, pos := "dict.go:96", after := #[{ on := 1, ground := Go.Ground.data }, { on := 3, ground := Go.Ground.gcOnly Go.Departure.lateStores }], guard := none }) (v := ?v13) rfl (by kernel_rfl) (by kernel_rfl) (by kernel_rfl) (fun _ _ _ h => h) (Or.inl ⟨by rfl, ?hy13⟩) (by assumption) ?rest13
                case hy13 => (intro w hSw; (try dsimp only at hSw); have y2 : w.cell? ⟨b1, 1, none⟩ = some (.int .i64 K) := Blk.cell hSw 1; go_simp <;> with_reducible rfl)
                try simp only [Act.put, List.setIfInBounds_toArray, List.set_cons_zero, List.set_cons_succ]
                refine wpAnyH_take (i := 3) (oi := { dst := some 2, op := Go.Op.assign (Go.Operand.tmp 50), type := 2, pos := "dict.go:96", after := #[{ on := 0, ground := Go.Ground.data }, { on := 0, ground := Go.Ground.phase }, { on := 1, ground := Go.Ground.textOnly Go.Departure.lateStores }, { on := 2, ground := Go.Ground.textOnly Go.Departure.lateStores }], guard := none }) (v := ?v14) rfl (by kernel_rfl) (by kernel_rfl) (by kernel_rfl) (fun _ _ _ h => h) (Or.inl ⟨by rfl, ?hy14⟩) (by assumption) ?rest14
                case hy14 => (intro w hSw; (try dsimp only at hSw); have y2 : w.cell? ⟨b1, 1, none⟩ = some (.int .i64 K) := Blk.cell hSw 1; go_simp <;> with_reducible rfl)
                try simp only [Act.put, List.setIfInBounds_toArray, List.set_cons_zero, List.set_cons_succ]
                refine wpAnyH_take (i := 4) (oi := { dst := some 3, op := Go.Op.assign (Go.Operand.tmp 52), type := 2, pos := "dict.go:96", after := #[{ on := 2, ground := Go.Ground.data }, { on := 3, ground := Go.Ground.chain }, { on := 0, ground := Go.Ground.phase }, { on := 1, ground := Go.Ground.phase }, { on := 2, ground := Go.Ground.phase }, { on := 3, ground := Go.Ground.phase }], guard := none }) (v := ?v15) rfl (by kernel_rfl) (by kernel_rfl) (by kernel_rfl) (fun _ _ _ h => h) (Or.inl ⟨by rfl, ?hy15⟩) (by assumption) ?rest15
                case hy15 => (intro w hSw; (try dsimp only at hSw); have y2 : w.cell? ⟨b1, 1, none⟩ = some (.int .i64 K) := Blk.cell hSw 1; go_simp <;> with_reducible rfl)
                try simp only [Act.put, List.setIfInBounds_toArray, List.set_cons_zero, List.set_cons_succ]
                refine wpAnyH_done (by kernel_rfl) ?_ _
                refine NoPanic.normal ?_
                simp only [Exit.inBlock]
                refine ⟨?_, ?measure⟩
                repeat apply Exists.intro
                refine ⟨?rel, rfl⟩
                case rel => exact ⟨at_, at_, K, rfl, .inr ⟨rfl, by omega⟩, rfl, hck2, hKi, by omega, by omega, hS.keep fun O h => h.left⟩
                case measure => (simp [intOf, t0]; first | omega | (split <;> omega))
              | false =>
                by_cases hk : 0 < kd
                · have hck2 : chkL M = chkW M at_ K := by rw [hnx.out, decide_eq_true hk]; rfl
                  go_upto_region 7 with (first | (go_at_call 25; refine (hS.mem (fun O h hb => hKd2.out _ O h hb)).mono ?_; rintro e w4 ⟨rfl, hS2⟩; clear hS; have hS := hS2; clear hS2; obtain ⟨y1, y2, y3, y4, y5, y6⟩ := hS.fact.2.c6) | (go_at_call 68; refine (must_ok _).mono ?_; rintro e _ ⟨rfl, rfl⟩))
                  replace hS := hS.drew
                  have hBk := hS.fact.2
                  refine wp_region_noPanic ?_
                  refine wp_region_held_drew (S := (fun w' => Blk w' b1 #[.int .i64 at_, .int .i64 K, .string H, .bool I, .bool false, .int .i64 X] 34)) (by kernel_rfl) ?_ (fun hHeld => ?_)
                  · (try dsimp only); exact hBk
                  refine wpAnyH_take (i := 0) (oi := { dst := some 50, op := Go.Op.move (Go.Operand.tmp 3), type := 2, pos := "dict.go:96", after := #[], guard := none }) (v := ?v16) rfl (by kernel_rfl) (by kernel_rfl) (by kernel_rfl) (fun _ _ _ h => h) (Or.inl ⟨by rfl, ?hy16⟩) (by assumption) ?rest16
                  case hy16 => (intro w hSw; (try dsimp only at hSw); have y2 : w.cell? ⟨b1, 1, none⟩ = some (.int .i64 K) := Blk.cell hSw 1; go_simp <;> with_reducible rfl)
                  try simp only [Act.put, List.setIfInBounds_toArray, List.set_cons_zero, List.set_cons_succ]
                  refine wpAnyH_take (i := 1) (oi := { dst := some 51, op := Go.Op.fieldAddr 34 (Go.Operand.tmp 4) 1, type := 0, pos := "dict.go:96", after := #[{ on := 3, ground := Go.Ground.gcOnly Go.Departure.lateStores }], guard := none }) (v := ?v17) rfl (by kernel_rfl) (by kernel_rfl) (by kernel_rfl) (fun _ _ _ h => h) (Or.inl ⟨by rfl, ?hy17⟩) (by assumption) ?rest17
                  case hy17 => (intro w hSw; (try dsimp only at hSw); have y2 : w.cell? ⟨b1, 1, none⟩ = some (.int .i64 K) := Blk.cell hSw 1; go_simp <;> with_reducible rfl)
                  try simp only [Act.put, List.setIfInBounds_toArray, List.set_cons_zero, List.set_cons_succ]
                  refine wpAnyH_take (i := 2) (oi := { dst := some 52, op := Go.Op.load 2 (Go.Operand.tmp 51), type := 2, pos := "dict.go:96", after := #[{ on := 1, ground := Go.Ground.data }, { on := 3, ground := Go.Ground.gcOnly Go.Departure.lateStores }], guard := none }) (v := ?v18) rfl (by kernel_rfl) (by kernel_rfl) (by kernel_rfl) (fun _ _ _ h => h) (Or.inl ⟨by rfl, ?hy18⟩) (by assumption) ?rest18
                  case hy18 => (intro w hSw; (try dsimp only at hSw); have y2 : w.cell? ⟨b1, 1, none⟩ = some (.int .i64 K) := Blk.cell hSw 1; go_simp <;> with_reducible rfl)
                  try simp only [Act.put, List.setIfInBounds_toArray, List.set_cons_zero, List.set_cons_succ]
                  refine wpAnyH_take (i := 3) (oi := { dst := some 2, op := Go.Op.assign (Go.Operand.tmp 50), type := 2, pos := "dict.go:96", after := #[{ on := 0, ground := Go.Ground.data }, { on := 0, ground := Go.Ground.phase }, { on := 1, ground := Go.Ground.textOnly Go.Departure.lateStores }, { on := 2, ground := Go.Ground.textOnly Go.Departure.lateStores }], guard := none }) (v := ?v19) rfl (by kernel_rfl) (by kernel_rfl) (by kernel_rfl) (fun _ _ _ h => h) (Or.inl ⟨by rfl, ?hy19⟩) (by assumption) ?rest19
                  case hy19 => (intro w hSw; (try dsimp only at hSw); have y2 : w.cell? ⟨b1, 1, none⟩ = some (.int .i64 K) := Blk.cell hSw 1; go_simp <;> with_reducible rfl)
                  try simp only [Act.put, List.setIfInBounds_toArray, List.set_cons_zero, List.set_cons_succ]
                  refine wpAnyH_take (i := 4) (oi := { dst := some 3, op := Go.Op.assign (Go.Operand.tmp 52), type := 2, pos := "dict.go:96", after := #[{ on := 2, ground := Go.Ground.data }, { on := 3, ground := Go.Ground.chain }, { on := 0, ground := Go.Ground.phase }, { on := 1, ground := Go.Ground.phase }, { on := 2, ground := Go.Ground.phase }, { on := 3, ground := Go.Ground.phase }], guard := none }) (v := ?v20) rfl (by kernel_rfl) (by kernel_rfl) (by kernel_rfl) (fun _ _ _ h => h) (Or.inl ⟨by rfl, ?hy20⟩) (by assumption) ?rest20
                  case hy20 => (intro w hSw; (try dsimp only at hSw); have y2 : w.cell? ⟨b1, 1, none⟩ = some (.int .i64 K) := Blk.cell hSw 1; go_simp <;> with_reducible rfl)
                  try simp only [Act.put, List.setIfInBounds_toArray, List.set_cons_zero, List.set_cons_succ]
                  refine wpAnyH_done (by kernel_rfl) ?_ _
                  refine NoPanic.normal ?_
                  simp only [Exit.inBlock]
                  refine ⟨?_, ?measure⟩
                  repeat apply Exists.intro
                  refine ⟨?rel, rfl⟩
                  case rel => exact ⟨at_, at_, K, rfl, .inr ⟨rfl, by omega⟩, rfl, hck2, hKi, by omega, by omega, hS.keep fun O h => h.left⟩
                  case measure => (simp [intOf, t0]; first | omega | (split <;> omega))
                · have hck : chkL M = false := by rw [hnx.out, decide_eq_false hk]; rfl
                  have tk : (0 < kd) = False := eq_false hk
                  clear hk
                  go_upto_region 6 with (go_at_call 68; refine (must_ok _).mono ?_; rintro e _ ⟨rfl, rfl⟩)
                  go_wp2_with (first | (go_at_call 25; refine (hS.mem (fun O h hb => hKd2.out _ O h hb)).mono ?_; rintro e w4 ⟨rfl, hS2⟩; clear hS; have hS := hS2; clear hS2; obtain ⟨y1, y2, y3, y4, y5, y6⟩ := hS.fact.2.c6) | (go_at_call 68; refine (must_no _).mono ?_; rintro e _ ⟨rfl, rfl⟩))
                  all_goals first | exact ⟨rfl, rfl, hS.ends⟩ | exact absurd ‹chkL M = true› (by rw [hck]; decide) | (rename_i hh; exact absurd hh (by rw [hck]; decide))
            · replace hck : chkL M = false := by
                rw [hck, hcy ⟨hok, hlt⟩, decide_eq_false (fun h => hx (h hl))]; rfl
              have tx : (x8 ≤ pv) = False := eq_false hx
              clear hcy hx
              go_upto_region 5 with (go_at_call 30; refine (hS.mem (fun O h hb => hR'.out _ O h hb)).mono ?_; rintro e w2 ⟨rfl, hS2⟩; clear hS; have hS := hS2; clear hS2)
              have hS2 := hS.new #[.int .i64 at_, .int .i64 K, .string H, .bool I, .bool D, .int .i64 X] 34
              obtain ⟨b1, hb1⟩ : ∃ b1, b1 = w2.heap.size := ⟨_, rfl⟩
              obtain ⟨w3, hw3⟩ : ∃ w3, w3 = w2.alloc (.cells #[.int .i64 at_, .int .i64 K, .string H, .bool I, .bool D, .int .i64 X] 34) := ⟨_, rfl⟩
              rw [← hw3, ← hb1] at hS2 ⊢
              clear hS hw3 hb1
              have hS := hS2
              clear hS2
              obtain ⟨y1, y2, y3, y4, y5, y6⟩ := hS.fact.2.c6
              go_wp2_with (go_at_call 68; refine (must_no _).mono ?_; rintro e _ ⟨rfl, rfl⟩)
              all_goals first | exact ⟨rfl, rfl, hS.ends⟩ | exact absurd ‹chkL M = true› (by rw [hck]; decide) | (rename_i hh; exact absurd hh (by rw [hck]; decide))
          · replace hck : chkL M = false := by rw [hck, chkW_no t0 (fun h => hlt h.2)]
            have tl : (at_ < pv) = False := eq_false hlt
            clear hcy hlt
            go_upto_region 5 with (go_at_call 30; refine (hS.mem (fun O h hb => hR'.out _ O h hb)).mono ?_; rintro e w2 ⟨rfl, hS2⟩; clear hS; have hS := hS2; clear hS2)
            have hS2 := hS.new #[.int .i64 at_, .int .i64 K, .string H, .bool I, .bool D, .int .i64 X] 34
            obtain ⟨b1, hb1⟩ : ∃ b1, b1 = w2.heap.size := ⟨_, rfl⟩
            obtain ⟨w3, hw3⟩ : ∃ w3, w3 = w2.alloc (.cells #[.int .i64 at_, .int .i64 K, .string H, .bool I, .bool D, .int .i64 X] 34) := ⟨_, rfl⟩
            rw [← hw3, ← hb1] at hS2 ⊢
            clear hS hw3 hb1
            have hS := hS2
            clear hS2
            obtain ⟨y1, y2, y3, y4, y5, y6⟩ := hS.fact.2.c6
            go_wp2_with (go_at_call 68; refine (must_no _).mono ?_; rintro e _ ⟨rfl, rfl⟩)
            all_goals first | exact ⟨rfl, rfl, hS.ends⟩ | exact absurd ‹chkL M = true› (by rw [hck]; decide) | (rename_i hh; exact absurd hh (by rw [hck]; decide))
      · have hf : rdOk M at_ = false := by simpa using hok
        rw [hf] at hR
        have hR' := Lib.hid hR
        rw [chkW_no t0 (fun h => hok h.1)] at hck
        clear hR hf hok hV hpv
        go_wp2_with (first
          | (go_at_call 30; refine (hS.mem (fun O h hb => hR'.out _ O h hb)).mono ?_; rintro e w2 ⟨rfl, hS2⟩; clear hS; have hS := hS2; clear hS2)
          | (go_at_call 68; refine (must_no _).mono ?_; rintro e _ ⟨rfl, rfl⟩))
        all_goals first | exact ⟨rfl, rfl, (hS.alloc _).ends⟩ | exact absurd ‹chkL M = true› (by rw [hck]; decide) | (rename_i hh; exact absurd hh (by rw [hck]; decide))
  · have hd0 : decide (g0 = here) = false := decide_eq_false h0
    rw [hd0, Bool.false_and] at hck
    have t0 : (g0 == here) = false := by simp; exact h0
    rw [hck, if_neg (by decide)]
    clear hd0 h0 hck
    go_enter Try.func57, Try.ntmps57
    go_wp2_with (first
      | (go_at_call_of 54 (0 : Int); refine (hS.mem (fun O h hb => hG0.out _ O h hb)).mono ?_; rintro e w1 ⟨rfl, hS2⟩; clear hS; have hS := hS2; clear hS2)
      | (go_at_call 42; refine (hS.mem (fun O h hb => hHr.out _ O h hb)).mono ?_; rintro e w2 ⟨rfl, hS2⟩; clear hS; have hS := hS2; clear hS2)
      | (go_at_call 68; refine (must_no _).mono ?_; rintro e _ ⟨rfl, rfl⟩))
    exact ⟨rfl, rfl, hS.ends⟩
end Go.Proofs.Ytcfblcgdjhpdaaa

/- 'Check': a throw is caught. -/
namespace Go.Proofs.Ytcfblcgdjhpdaaa
open Go.RowKit
set_option linter.unusedVariables false
set_option linter.unusedSimpArgs false
attribute [local go_sem ↓] Go.wp_at_zero Go.wp_at_succ
attribute [local go_sem] cell_set set_set m_undef
attribute [local irreducible] chkL

theorem bodyPostS_of {P : Program} {fn : Func} {c₀ : Frame} {cs cs' : List Frame} {R : Ending → FrameMode → World → Prop} {u' : FrameMode} (hcs : cs' = { c₀ with mode := u' } :: cs) (e : Exit) (a : Act) (w : World)
    (h : bodyPost P fn (fun e w => R e u' w) e a w) : bodyPostS P fn c₀ cs R e a cs' w := by
  cases e with
  | normal => obtain ⟨h1, v, h2, h3⟩ := h; exact ⟨h1, u', hcs, v, h2, h3⟩
  | ret => obtain ⟨h1, v, h2, h3⟩ := h; exact ⟨h1, u', hcs, v, h2, h3⟩
  | panic chain => exact ⟨h.1, u', hcs, h.2⟩
  | outgrown => exact ⟨u', h⟩
  | _ => exact h
theorem wpS_plain {P : Program} {fn : Func} {c : Code} {c₀ : Frame} {cs cs' : List Frame} {R : Ending → FrameMode → World → Prop} {u' : FrameMode} {a : Act} {w : World} (hcs : cs' = { c₀ with mode := u' } :: cs)
    (h : c.wp P (bodyPost P fn (fun e w => R e u' w)) a w) : c.wpS P (bodyPostS P fn c₀ cs R) a cs' w := by
  exact wpS_of_wp (wp_mono h fun e a w hq => bodyPostS_of hcs e a w hq)
theorem assertW (v : Value) (w : World) : (Instr.typeAssert (.iface 87 v) 20 87 true).run Try.prog w = .ok (.tuple #[v, .bool true]) w := by
  have h := Try.underlying87
  simp [Instr.typeAssert, go_sem, h]
theorem One.checks {W w : World} {B mb : Nat} {M : List UInt8} {O0 : Nat → Prop} {K : Kp} (h : One W w B mb M O0 K) :
    Calls Try.prog 57 #[.pointer (some ⟨mb, 0, none⟩)] w fun e w' => e = (if chkL M then .returned (.tuple #[]) else Wrong) ∧ One W w' B mb M O0 K := by
  obtain ⟨O, h1, h2, h3, h4⟩ := h
  exact (kCheckW h1 (Nat.le_trans h4 h2.size)).mono fun e w' ⟨he, O', h5, h6⟩ => ⟨he, O', h5, h2.trans h6, h3.turn h6, h4⟩
attribute [local go_sem] assertW
set_option maxHeartbeats 400000 in
theorem catchD {W w : World} {B mb : Nat} {M : List UInt8} {O0 : Nat → Prop} {K : Kp} {N : Nat} {x : Int} (h : One W w B mb M O0 (K.and (.blk N #[.int .i64 x] 58))) (hN : W.heap.size ≤ N) (hK : ¬ K.S N) :
    CallsD Try.prog 56 #[.pointer (some ⟨N, 0, none⟩)] (.panicking [{ v := .iface 87 (.agg #[]), recovered := false }]) w fun e u' w' =>
      e = .returned (.tuple #[]) ∧ u' = .panicking [{ v := .iface 87 (.agg #[]), recovered := true }] ∧ One W w' B mb M O0 (K.and (.blk N #[.int .i64 190] 58)) := by
  obtain ⟨a1, a2, a3⟩ := h.fact.2.one
  refine callsD_of_wpS Try.func56 rfl fun c₀ cs hu => ?_
  simp only [Try.ntmps56, List.size_toArray, List.length_cons, List.length_nil, Nat.reduceAdd, Nat.reduceSub, Array.replicate_succ, Array.replicate_zero, List.push_toArray, List.append_toArray, List.nil_append, List.cons_append]
  apply wpS_seq
  apply wpS_region
  simp [wpOpsS, go_sem, recoverD, hu, Exit.thenS]
  refine wpS_plain (u' := .panicking [{ v := .iface 87 (.agg #[]), recovered := true }]) rfl ?_
  clear hu
  go_wp2_with fail
  refine ⟨rfl, .tuple #[], (by simp [results, Try.results56, go_sem]), rfl, ?_⟩
  exact (h.set hN hK 0 (.int .i64 190)).alloc _
theorem idleD {N : Nat} {w : World} :
    CallsD Try.prog 56 #[.pointer (some ⟨N, 0, none⟩)] .returning w fun e u' w' => e = .returned (.tuple #[]) ∧ u' = .returning ∧ w' = w := by
  refine callsD_of_wpS Try.func56 rfl fun c₀ cs hu => ?_
  simp only [Try.ntmps56, List.size_toArray, List.length_cons, List.length_nil, Nat.reduceAdd, Nat.reduceSub, Array.replicate_succ, Array.replicate_zero, List.push_toArray, List.append_toArray, List.nil_append, List.cons_append]
  apply wpS_seq
  apply wpS_region
  simp [wpOpsS, go_sem, recoverD, hu, Exit.thenS]
  refine wpS_plain (u' := .returning) (by cases c₀; simp_all) ?_
  go_wp2
  go_end0
  first | exact ⟨rfl, rfl, rfl⟩ | simp
theorem ret1_blk {P : Program} {fn : Func} {tmps : Array Value} {w : World} {v : Value} (N : Nat) (x : Value) (t : TypeId) (h0 : Blk w N #[x] t)
    (hres : ∀ w', (w'.cell? ⟨N, 0, none⟩ = some x) → (results fn tmps).run P w' = .ok v w') : (results fn tmps).run P w = .ok v w := hres w (h0.cell 0)
set_option maxHeartbeats 400000 in
theorem kCheck {w : World} {B mb : Nat} {M : List UInt8} {O : Nat → Prop} (h : MemP w B mb M O) (hB : B ≤ w.heap.size) :
    Calls Try.prog 27 #[.pointer (some ⟨mb, 0, none⟩)] w fun e w' => MemQ w w' B mb M O (.int .i64 (if chkL M then 0 else 190)) e := by
  have hmf : ∀ (fn : Fn) (first cap : Array Value) (w : World), (Instr.makeFunc fn first cap).run Try.prog w = .ok (.func fn first cap) w := fun _ _ _ _ => rfl
  have hS := (One.start h hB).new #[.int .i64 0] 58
  clear h hB
  cases hc : chkL M with
  | true =>
    go_enter_defers Try.func27, Try.ntmps27
    go_wp2_with (go_at_call 57; refine hS.checks.mono ?_; rintro e w1 ⟨he, hS2⟩; rw [hc] at he; subst he; obtain ⟨k1, k2, k3⟩ := hS2.fact.2.one)
    refine leaves_cons (f := 56) (args := #[.pointer (some ⟨w.heap.size, 0, none⟩)]) (by simp) (by simp [go_sem]) ?_
    refine idleD.mono ?_
    rintro e u' w'' ⟨rfl, rfl, rfl⟩
    have hS3 := hS2.set (Nat.le_refl _) (fun hk => hk) 0 (.int .i64 0)
    refine ⟨.int .i64 0, ret1_blk w.heap.size (.int .i64 0) _ hS3.fact.2 (fun w' c1 => by simp [results, Try.results27, go_sem, c1]), ?_⟩
    exact hS3.memQ _
  | false =>
    go_enter_defers Try.func27, Try.ntmps27
    go_wp2_with (go_at_call 57; refine hS.checks.mono ?_; rintro e w1 ⟨he, hS2⟩; rw [hc] at he; subst he)
    refine leaves_cons (f := 56) (args := #[.pointer (some ⟨w.heap.size, 0, none⟩)]) (by simp) (by simp [go_sem]) ?_
    refine (catchD hS2 (Nat.le_refl _) (fun hk => hk)).mono ?_
    rintro e u' w'' ⟨rfl, rfl, hS3⟩
    refine ⟨.int .i64 190, ret1_blk w.heap.size (.int .i64 190) _ hS3.fact.2 (fun w' c1 => by simp [results, Try.results27, go_sem, c1]), ?_⟩
    exact hS3.memQ _
end Go.Proofs.Ytcfblcgdjhpdaaa

/- The reference's 'Check'. -/
namespace Go.Proofs.Ytcfblcgdjhpdaaa
open Go.RowKit
set_option linter.unusedVariables false
set_option linter.unusedSimpArgs false
attribute [local go_sem] cell_set set_set m_undef

def chkN (M : List UInt8) : Int := if chkL M then 0 else 190
theorem chkN_t {M : List UInt8} (h : chkL M = true) : chkN M = 0 := by unfold chkN; rw [h]; rfl
theorem chkN_f {M : List UInt8} (h : chkL M = false) : chkN M = 190 := by unfold chkN; rw [h]; rfl
theorem here_same (M : List UInt8) : getM M 0 = hereL M ↔ (1536 ≤ getM M 0 ∧ getM M 0 ≤ 5632) := by
  unfold hereL
  generalize getM M 0 = g
  constructor
  · intro h; split at h <;> omega
  · intro h; split <;> omega
theorem kindL_nn (M : List UInt8) (a : Int) : 0 ≤ kindL M a := by
  cases h : insL M a with
  | false => rw [kindL_f h]; exact Int.le_refl 0
  | true =>
    rw [kindL_n h rfl]
    by_cases hn : 1 ≤ getM M a ∧ getM M a ≤ 3
    · rw [kindN_t hn]; omega
    · rw [kindN_z hn]; exact Int.le_refl 0
attribute [local irreducible] chkL chkN kindL rdOk rdV linkL nameL immL hidL rdXt loadL hereL
set_option maxRecDepth 100000 in
set_option maxHeartbeats 1600000 in
theorem rCheck {w : World} {B rb : Nat} {M : List UInt8} {R : Nat → Prop} (h : RefP w B rb M R) :
    Calls Try.prog 22 #[.pointer (some ⟨rb, 0, none⟩)] w fun e w' => e = .returned (.int .i64 (chkN M)) ∧ Below w.heap.size w w' := by
  have hG0 := Lib.hid (fun (w9 : World) (h : RefP w9 B rb M R) => rGet h 0 (by unfold isI; omega))
  have hG8 := Lib.hid (fun (w9 : World) (h : RefP w9 B rb M R) => rGet h 8 (by unfold isI; omega))
  have hRd := Lib.hid (fun (a : Int) (ha : isI a) (w9 : World) (h : RefP w9 B rb M R) => rRead h a ha)
  have hKd := Lib.hid (fun (a : Int) (ha : isI a) (w9 : World) (h : RefP w9 B rb M R) => rKind h a ha)
  have hck : chkL M = (decide (getM M 0 = hereL M) && chkW M 8192 (getM M 8)) := by unfold chkL; rfl
  have hgi := getM_isI M 8
  have hsm := here_same M
  replace h := Lib.hid h
  generalize getM M 0 = g0 at *
  generalize getM M 8 = g8 at *
  generalize hereL M = here at *
  by_cases h0 : 1536 ≤ g0 ∧ g0 ≤ 5632
  · rw [decide_eq_true (hsm.2 h0), Bool.true_and] at hck
    have t0 : (g0 < 1536) = False := eq_false (by omega)
    have t1 : (5632 < g0) = False := eq_false (by omega)
    replace hck := Lib.hid hck
    clear hsm h0
    go_enter Try.func22, Try.ntmps22
    go_wp2_with (first
      | (go_at_call_of 47 (0 : Int); refine (hG0.out _ h.out).mono ?_; rintro e w1 ⟨rfl, hb1⟩)
      | (go_at_call_of 47 (8 : Int); refine (hG8.out _ (h.out.below hb1)).mono ?_; rintro e w2 ⟨rfl, hb2⟩; replace hb2 := bel_trans hb1 hb2))
    go_loopw [4, 5] (fun q p wr => ∃ (la at_ : Int), p = .int .i64 la ∧ q = .int .i64 at_ ∧ chkL M = chkW M la at_ ∧ isI at_ ∧ 1 ≤ la ∧ la ≤ 8192 ∧ Below w.heap.size w wr) (fun q p wr => (intOf p).toNat)
    case atStart => exact ⟨8192, g8, rfl, rfl, hck.out, hgi, by omega, by omega, hb2⟩
    case round =>
    obtain ⟨la, at_, rfl, rfl, hck, hIa, hl1, hl8, hb⟩ := hrel
    clear hG0 hG8
    by_cases t0 : at_ = 0
    · subst t0
      rw [chkW_zero] at hck
      go_wp2
      go_ret
      exact ⟨by rw [chkN_t hck]; rfl, hb⟩
    · have t0' : (at_ != 0) = true := by simp; exact t0
      obtain ⟨A, K, H, I, D, X, hV, -⟩ := rdV_form M at_
      have hR := hRd.out at_ hIa
      rw [hV] at hR
      by_cases hok : rdOk M at_ = true
      · have hlo := rdOk_lo hok
        have hxx : rdXt M at_ + 8 ≤ 5632 := by have := (rdOk_iff.1 hok).2.2.2.2; have := hereL_le M; omega
        have hxg : 1536 ≤ rdXt M at_ := by have := rdXt_ge (M := M) hlo.1 (by omega); omega
        have hcy := @chkW_yes M la at_ t0
        rw [hok] at hR
        rw [rdV_ok hok] at hV
        simp at hV
        obtain ⟨hAa, hK, -, -, hD, hX⟩ := hV
        subst hAa
        have hKi := linkL_isI M at_
        rw [hK] at hKi hcy
        rw [hD] at hcy
        rw [hX] at hxx hxg hcy
        have hKd' := hKd.out X (by unfold isI; omega)
        have hk0 := Lib.hid (kindL_nn M X)
        have hXi : isI X := by unfold isI; omega
        generalize kindL M X = kd at *
        have hKd2 := Lib.hid hKd'
        have hR' := Lib.hid hR
        obtain ⟨x8, hx8⟩ : ∃ x8, x8 = X + 8 := ⟨_, rfl⟩
        have w8 : IntKind.i64.wrap (X + 8) = x8 := by rw [IntKind.wrap_i64]; unfold isI at hXi; omega
        rw [← hx8] at hcy
        clear hR hKd' hx8 hxx hxg
        by_cases hlt : at_ < la
        · have u1 : (la ≤ at_) = False := eq_false (by omega)
          by_cases hl : la < 8192
          · have u2 : (la < 8192) = True := eq_true hl
            by_cases hx : x8 ≤ la
            · have u3 : (la < x8) = False := eq_false (by omega)
              have hnx0 : chkL M = ((D || decide (0 < kd)) && chkW M at_ K) := by
                rw [hck, hcy ⟨hok, hlt⟩, decide_eq_true (fun _ => hx), Bool.true_and]
              clear hcy hck
              go_upto_region 8 with (go_at_call 31; refine (hR'.out _ (h.out.below hb)).mono ?_; rintro e w2 ⟨rfl, hb2⟩; replace hb2 := bel_trans hb hb2)
              have hb3 := bel_alloc hb2 (.cells #[.int .i64 at_, .int .i64 K, .string H, .bool I, .bool D, .int .i64 X] 34)
              have hB3 := Blk.new w2 #[.int .i64 at_, .int .i64 K, .string H, .bool I, .bool D, .int .i64 X] 34
              obtain ⟨b1, hb1⟩ : ∃ b1, b1 = w2.heap.size := ⟨_, rfl⟩
              obtain ⟨w3, hw3⟩ : ∃ w3, w3 = w2.alloc (.cells #[.int .i64 at_, .int .i64 K, .string H, .bool I, .bool D, .int .i64 X] 34) := ⟨_, rfl⟩
              rw [← hw3] at hb3 hB3 ⊢
              rw [← hb1] at hB3 ⊢
              clear hw3 hb1
              obtain ⟨y1, y2, y3, y4, y5, y6⟩ := hB3.c6
              have hnx := Lib.hid hnx0
              clear hnx0
              cases D with
              | true =>
                have hck2 : chkL M = chkW M at_ K := by rw [hnx.out]; rfl
                go_wp2
                go_roundw
                case rel => exact ⟨at_, K, rfl, rfl, hck2, hKi, by omega, by omega, hb3⟩
                case measure => simp [intOf]; omega
              | false =>
                by_cases hk : 0 < kd
                · have hck2 : chkL M = chkW M at_ K := by rw [hnx.out, decide_eq_true hk]; rfl
                  have tk : (kd == 0) = false := by simp; omega
                  clear hk
                  go_wp2_with (go_at_call 26; refine (hKd2.out _ (h.out.below hb3)).mono ?_; rintro e w4 ⟨rfl, hb4⟩; obtain ⟨y1, y2, y3, y4, y5, y6⟩ := (hB3.below hb4).c6; replace hb4 := bel_trans hb3 hb4)
                  go_roundw
                  case rel => exact ⟨at_, K, rfl, rfl, hck2, hKi, by omega, by omega, hb4⟩
                  case measure => simp [intOf]; omega
                · have hck : chkL M = false := by rw [hnx.out, decide_eq_false hk]; rfl
                  have tk : (kd == 0) = true := by simp; have := hk0.out; omega
                  clear hk
                  go_wp2_with (go_at_call 26; refine (hKd2.out _ (h.out.below hb3)).mono ?_; rintro e w4 ⟨rfl, hb4⟩; obtain ⟨y1, y2, y3, y4, y5, y6⟩ := (hB3.below hb4).c6; replace hb4 := bel_trans hb3 hb4)
                  go_ret
                  exact ⟨by rw [chkN_f hck]; rfl, hb4⟩
            · have u3 : (la < x8) = True := eq_true (by omega)
              replace hck : chkL M = false := by
                rw [hck, hcy ⟨hok, hlt⟩, decide_eq_false (fun h => hx (h hl))]; rfl
              clear hcy hx
              go_upto_region 8 with (go_at_call 31; refine (hR'.out _ (h.out.below hb)).mono ?_; rintro e w2 ⟨rfl, hb2⟩; replace hb2 := bel_trans hb hb2)
              have hb3 := bel_alloc hb2 (.cells #[.int .i64 at_, .int .i64 K, .string H, .bool I, .bool D, .int .i64 X] 34)
              have hB3 := Blk.new w2 #[.int .i64 at_, .int .i64 K, .string H, .bool I, .bool D, .int .i64 X] 34
              obtain ⟨b1, hb1⟩ : ∃ b1, b1 = w2.heap.size := ⟨_, rfl⟩
              obtain ⟨w3, hw3⟩ : ∃ w3, w3 = w2.alloc (.cells #[.int .i64 at_, .int .i64 K, .string H, .bool I, .bool D, .int .i64 X] 34) := ⟨_, rfl⟩
              rw [← hw3] at hb3 hB3 ⊢
              rw [← hb1] at hB3 ⊢
              clear hw3 hb1
              obtain ⟨y1, y2, y3, y4, y5, y6⟩ := hB3.c6
              go_wp2
              go_ret
              exact ⟨by rw [chkN_f hck]; rfl, hb3⟩
          · have u2 : (la < 8192) = False := eq_false hl
            have hnx0 : chkL M = ((D || decide (0 < kd)) && chkW M at_ K) := by
              rw [hck, hcy ⟨hok, hlt⟩, decide_eq_true (fun h => absurd h hl), Bool.true_and]
            clear hcy hck hl
            go_upto_region 8 with (go_at_call 31; refine (hR'.out _ (h.out.below hb)).mono ?_; rintro e w2 ⟨rfl, hb2⟩; replace hb2 := bel_trans hb hb2)
            have hb3 := bel_alloc hb2 (.cells #[.int .i64 at_, .int .i64 K, .string H, .bool I, .bool D, .int .i64 X] 34)
            have hB3 := Blk.new w2 #[.int .i64 at_, .int .i64 K, .string H, .bool I, .bool D, .int .i64 X] 34
            obtain ⟨b1, hb1⟩ : ∃ b1, b1 = w2.heap.size := ⟨_, rfl⟩
            obtain ⟨w3, hw3⟩ : ∃ w3, w3 = w2.alloc (.cells #[.int .i64 at_, .int .i64 K, .string H, .bool I, .bool D, .int .i64 X] 34) := ⟨_, rfl⟩
            rw [← hw3] at hb3 hB3 ⊢
            rw [← hb1] at hB3 ⊢
            clear hw3 hb1
            obtain ⟨y1, y2, y3, y4, y5, y6⟩ := hB3.c6
            have hnx := Lib.hid hnx0
            clear hnx0
            cases D with
            | true =>
              have hck2 : chkL M = chkW M at_ K := by rw [hnx.out]; rfl
              go_wp2
              go_roundw
              case rel => exact ⟨at_, K, rfl, rfl, hck2, hKi, by omega, by omega, hb3⟩
              case measure => simp [intOf]; omega
            | false =>
              by_cases hk : 0 < kd
              · have hck2 : chkL M = chkW M at_ K := by rw [hnx.out, decide_eq_true hk]; rfl
                have tk : (kd == 0) = false := by simp; omega
                clear hk
                go_wp2_with (go_at_call 26; refine (hKd2.out _ (h.out.below hb3)).mono ?_; rintro e w4 ⟨rfl, hb4⟩; obtain ⟨y1, y2, y3, y4, y5, y6⟩ := (hB3.below hb4).c6; replace hb4 := bel_trans hb3 hb4)
                go_roundw
                case rel => exact ⟨at_, K, rfl, rfl, hck2, hKi, by omega, by omega, hb4⟩
                case measure => simp [intOf]; omega
              · have hck : chkL M = false := by rw [hnx.out, decide_eq_false hk]; rfl
                have tk : (kd == 0) = true := by simp; have := hk0.out; omega
                clear hk
                go_wp2_with (go_at_call 26; refine (hKd2.out _ (h.out.below hb3)).mono ?_; rintro e w4 ⟨rfl, hb4⟩; obtain ⟨y1, y2, y3, y4, y5, y6⟩ := (hB3.below hb4).c6; replace hb4 := bel_trans hb3 hb4)
                go_ret
                exact ⟨by rw [chkN_f hck]; rfl, hb4⟩
        · have u1 : (la ≤ at_) = True := eq_true (by omega)
          replace hck : chkL M = false := by rw [hck, chkW_no t0 (fun h => hlt h.2)]
          clear hcy hlt
          go_upto_region 8 with (go_at_call 31; refine (hR'.out _ (h.out.below hb)).mono ?_; rintro e w2 ⟨rfl, hb2⟩; replace hb2 := bel_trans hb hb2)
          have hb3 := bel_alloc hb2 (.cells #[.int .i64 at_, .int .i64 K, .string H, .bool I, .bool D, .int .i64 X] 34)
          have hB3 := Blk.new w2 #[.int .i64 at_, .int .i64 K, .string H, .bool I, .bool D, .int .i64 X] 34
          obtain ⟨b1, hb1⟩ : ∃ b1, b1 = w2.heap.size := ⟨_, rfl⟩
          obtain ⟨w3, hw3⟩ : ∃ w3, w3 = w2.alloc (.cells #[.int .i64 at_, .int .i64 K, .string H, .bool I, .bool D, .int .i64 X] 34) := ⟨_, rfl⟩
          rw [← hw3] at hb3 hB3 ⊢
          rw [← hb1] at hB3 ⊢
          clear hw3 hb1
          obtain ⟨y1, y2, y3, y4, y5, y6⟩ := hB3.c6
          go_wp2
          go_ret
          exact ⟨by rw [chkN_f hck]; rfl, hb3⟩
      · have hf : rdOk M at_ = false := by simpa using hok
        rw [hf] at hR
        have hR' := Lib.hid hR
        rw [chkW_no t0 (fun h => hok h.1)] at hck
        clear hR hf hok hV
        go_wp2_with (go_at_call 31; refine (hR'.out _ (h.out.below hb)).mono ?_; rintro e w2 ⟨rfl, hb2⟩; replace hb2 := bel_trans hb hb2)
        go_ret
        exact ⟨by rw [chkN_f hck]; rfl, bel_alloc hb2 _⟩
  · rw [decide_eq_false (fun h => h0 (hsm.1 h)), Bool.false_and] at hck
    rw [chkN_f hck]
    clear hsm hck
    by_cases t0' : g0 < 1536
    · have t0 : (g0 < 1536) = True := eq_true t0'
      clear h0 t0'
      go_enter Try.func22, Try.ntmps22
      go_wp2_with (go_at_call_of 47 (0 : Int); refine (hG0.out _ h.out).mono ?_; rintro e w1 ⟨rfl, hb1⟩)
      go_ret
      exact ⟨rfl, hb1⟩
    · have t0 : (g0 < 1536) = False := eq_false t0'
      have t1 : (5632 < g0) = True := eq_true (by omega)
      clear h0 t0'
      go_enter Try.func22, Try.ntmps22
      go_wp2_with (go_at_call_of 47 (0 : Int); refine (hG0.out _ h.out).mono ?_; rintro e w1 ⟨rfl, hb1⟩)
      go_ret
      exact ⟨rfl, hb1⟩
end Go.Proofs.Ytcfblcgdjhpdaaa

/- 'DictChecks'. -/
namespace Go.Proofs.Ytcfblcgdjhpdaaa
open Go.RowKit
set_option linter.unusedVariables false
set_option linter.unusedSimpArgs false
attribute [local go_sem] cell_set set_set m_undef
attribute [local irreducible] chkL chkN

theorem kCheckN {w : World} {B mb : Nat} {M : List UInt8} {O : Nat → Prop} (h : MemP w B mb M O) (hB : B ≤ w.heap.size) :
    Calls Try.prog 27 #[.pointer (some ⟨mb, 0, none⟩)] w fun e w' => MemQ w w' B mb M O (.int .i64 (chkN M)) e := by
  have := kCheck h hB
  unfold chkN
  exact this
set_option maxHeartbeats 1000000 in
theorem dictChecks {w : World} (v : Value) (l : List UInt8) (h : Rb w v l) : Calls Try.prog 8 #[v] w fun e w' => e = .returned (.bool true) ∧ Below w.heap.size w w' := by
  obtain ⟨ad, cap, rfl⟩ := h.form
  have hA := Lib.hid (fun w9 => wAwake w9)
  by_cases hl : 9000 < l.length
  · clear h
    have t1 : ((9000 : Int) < (l.length : Int)) = True := by simp; omega
    go_enter Try.func8, Try.ntmps8
    go_wp2_with (go_at_call 9; refine (hA.out _).mono ?_; rintro e w1 ⟨rfl, hb1⟩)
    go_ret
    exact ⟨rfl, hb1⟩
  have t1 : ((9000 : Int) < (l.length : Int)) = False := by simp; omega
  have hF1 := fun (w9 : World) (h9 : Rb w9 (.slice ad l.length cap) l) => wFlatR w9 _ l h9
  have hF2 := fun (w9 : World) (h9 : Rb w9 (.slice ad l.length cap) l) => rFlat w9 _ l h9
  unfold FlatQ at hF1
  generalize flatL l = M at *
  have hK := fun (w9 : World) (mb B : Nat) (O : Nat → Prop) (h : MemP w9 B mb M O) (hb : B ≤ w9.heap.size) => kCheckN h hb
  have hR := fun (w9 : World) (rb B : Nat) (R : Nat → Prop) (h : RefP w9 B rb M R) => rCheck h
  have hc : IntKind.i64.wrap (chkN M) = chkN M := by rw [IntKind.wrap_i64]; rcases hv : chkL M with _ | _ <;> first | (rw [chkN_f hv]; rfl) | (rw [chkN_t hv]; rfl)
  generalize chkN M = c at *
  replace h := Lib.hid h
  replace hF1 := Lib.hid hF1
  replace hF2 := Lib.hid hF2
  replace hK := Lib.hid hK
  replace hR := Lib.hid hR
  clear hl
  go_enter Try.func8, Try.ntmps8
  go_wp2_with (first
    | (go_at_call 9; refine (hA.out _).mono ?_; rintro e w1 ⟨rfl, hb1⟩; have h1 := Lib.hid (h.out.below hb1); replace hb1 := Lib.hid hb1)
    | (go_at_call 10; refine (hF1.out _ h1.out).mono ?_; rintro e w2 ⟨mb, O2, rfl, hP2, hb2⟩; have hT := Uno.make hb1.out (Keep.emp _ _) hP2 hb2; clear hP2 hb2)
    | (go_at_call 27; refine (hT.mem (fun B O h hb => hK.out _ _ _ _ h hb)).mono ?_; rintro e w3 ⟨rfl, hT2⟩; clear hT; have hT := hT2; clear hT2; have h2 := Lib.hid (h.out.below hT.bel))
    | (go_at_call 11; refine (hF2.out _ h2.out).mono ?_; rintro e w4 ⟨rb, R, rfl, hR3, hb3⟩; have hb4 := Lib.hid (bel_trans hT.bel hb3); replace hR3 := Lib.hid hR3; clear hT hb3)
    | (go_at_call 22; refine (hR.out _ _ _ _ hR3.out).mono ?_; rintro e w5 ⟨rfl, hb5⟩; have hb6 := Lib.hid (bel_trans hb4.out hb5); clear hb5))
  go_ret
  exact ⟨rfl, hb6.out⟩
end Go.Proofs.Ytcfblcgdjhpdaaa

/- A word that is hidden is not found. -/
namespace Go.Proofs.Ytcfblcgdjhpdaaa
open Go.RowKit
set_option linter.unusedVariables false
set_option linter.unusedSimpArgs false

theorem mark_at {N : List UInt8} (hN : N.length = 8192) (a : Int) (im hd : Bool) {z : Int} (hz : z ≠ a + 8) : memAt (markM N a im hd) z = memAt N z := by
  unfold markM
  split
  · rw [memAt_layL hN, if_neg]
    intro h
    obtain ⟨h1, h2, _⟩ := h
    simp only [List.length_cons, List.length_nil] at h2
    omega
  · rfl
theorem mark_len {N : List UInt8} (hN : N.length = 8192) (a : Int) (im hd : Bool) : (markM N a im hd).length = 8192 := by
  unfold markM
  split
  · rw [layL_len]; exact hN
  · exact hN
theorem flatL_id {l : List UInt8} (h : l.length = 8192) : flatL l = l := by
  unfold flatL
  rw [List.take_of_length_le (by omega), List.drop_eq_nil_of_le (by rw [List.length_replicate]; omega), List.append_nil]
theorem hidden_words {M N : List UInt8} {a : Int} (hA : Agree M N) (hN : N.length = 8192) (he : endL M 8192 (latestL M) = 0) (hal : hereL M ≤ a) (h16 : 1536 ≤ a) (hg : getM N 8 = a) (hok : rdOk N a = true) (hlk : linkL N a = latestL M) :
    Agree M (markM N a false true) ∧ wordsL (markM N a false true) = a :: wordsL M ∧ hidL (markM N a false true) a = true := by
  obtain ⟨K, S, X, hV, hok2⟩ := mark_reads hN a false true hok
  have hm := fun z hz => mark_at hN a false true (z := z) hz
  generalize hN2 : markM N a false true = N2 at *
  have g0 : getM N2 0 = getM N 0 := getM_congr fun i hi => hm _ (by omega)
  have g8 : getM N2 8 = a := by rw [← hg]; exact getM_congr fun i hi => hm _ (by omega)
  have hh : hereL N2 = hereL N := by unfold hereL; rw [g0]
  have hl : linkL N2 a = latestL M := by rw [← hlk]; exact link_congr fun i hi => hm _ (by omega)
  have hA2 : Agree M N2 := ⟨by rw [hh]; exact hA.1, fun z h1 h2 => by rw [hm z (by omega)]; exact hA.2 z h1 h2⟩
  refine ⟨hA2, words_cons hA2 he hal g8 hok2 hl, ?_⟩
  rw [rdV_ok hok2] at hV
  generalize linkL N2 a = b1 at *
  generalize nameL N2 a = b2 at *
  generalize immL N2 a = b3 at *
  generalize hidL N2 a = b4 at *
  generalize rdXt N2 a = b5 at *
  injection hV with hV
  simp only [Array.mk.injEq, List.cons.injEq, Value.int.injEq, Value.string.injEq, Value.bool.injEq, true_and, and_true] at hV
  exact hV.2.2.2.1
theorem find_same {M N : List UInt8} {a : Int} (hA : Agree M N) (hw : wordsL N = a :: wordsL M) (hh : hidL N a = true) (s : ByteArray) : findA N s = findA M s := by
  unfold findA
  have h1 : hitL N (large s) a = false := by unfold hitL; rw [hh]; rfl
  have h2 : (wordsL N).find? (hitL N (large s)) = (wordsL M).find? (hitL M (large s)) := by
    rw [hw, List.find?_cons, h1]
    exact find_congr fun x hx => by
      obtain ⟨_, _, r2, _, r4, _⟩ := hA.read (words_mem hx)
      unfold hitL
      rw [r2, r4]
  rw [h2]
  cases hf : (wordsL M).find? (hitL M (large s)) with
  | none => rfl
  | some x =>
    obtain ⟨_, _, _, r3, _, r5⟩ := hA.read (words_mem (List.mem_of_find?_eq_some hf))
    show (rdXt N x, immL N x, false, true) = (rdXt M x, immL M x, false, true)
    rw [r3, r5]
theorem hidden_find {M nm : List UInt8} (hM : M.length = 8192) (hok : crOk M nm = true) (he : endL M 8192 (latestL M) = 0) (s : ByteArray) :
    (markM (madeM M nm) (crAt M) false true).length = 8192 ∧ latestL (madeM M nm) = crAt M ∧ findA (markM (madeM M nm) (crAt M) false true) s = findA M s := by
  obtain ⟨hl, hA, g8, hal, _, r1, r2, _⟩ := made hM hok
  obtain ⟨h1, h2, h3⟩ := hidden_words hA hl he hal (crAt_in M).1 g8 r1 r2
  exact ⟨mark_len hl _ _ _, by rw [latest_of (by rw [g8]; exact r1), g8], find_same h1 h2 h3 s⟩
end Go.Proofs.Ytcfblcgdjhpdaaa
