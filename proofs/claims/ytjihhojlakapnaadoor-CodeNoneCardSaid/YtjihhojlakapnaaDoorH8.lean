/- 'Latest'; 'HeaderReads'. -/
import Derived.Test.YtjihhojlakapnaaDoorH7
namespace Go.Proofs.YtjihhojlakapnaaDoor
open Go.RowKit
set_option linter.unusedVariables false
set_option linter.unusedSimpArgs false
attribute [local go_sem] cell_set set_set m_undef

theorem rdV_form (M : List UInt8) (a : Int) : ∃ A K S I H X, rdV M a = .agg #[.int .i64 A, .int .i64 K, .string S, .bool I, .bool H, .int .i64 X] ∧ (rdOk M a = true → A = a) := by
  unfold rdV
  cases rdOk M a with
  | true => exact ⟨_, _, _, _, _, _, rfl, fun _ => rfl⟩
  | false => exact ⟨_, _, _, _, _, _, rfl, fun h => by cases h⟩
/-- The latest header's place. -/
def latestL (M : List UInt8) : Int := if rdOk M (getM M 8) then getM M 8 else 0
set_option maxHeartbeats 1000000 in
theorem mLatest {w : World} {base mb : Nat} {M : List UInt8} {O : Nat → Prop} (h : MemP w base mb M O) (hbase : base ≤ w.heap.size) :
    Calls Tryd.prog 58 #[.pointer (some ⟨mb, 0, none⟩)] w fun e w' => MemQ w w' base mb M O (.int .i64 (latestL M)) e := by
  have hG := Lib.hid (mGet h hbase 8 (by unfold isI; omega))
  have hRd := Lib.hid (fun (w9 : World) (O9 : Nat → Prop) (h9 : MemP w9 base mb M O9) (hb9 : base ≤ w9.heap.size) => mRead h9 hb9 (getM M 8) (getM_isI M 8))
  unfold latestL
  obtain ⟨A, K, S, I, H, X, hV, hA⟩ := rdV_form M (getM M 8)
  rw [hV] at hRd
  clear hV
  generalize rdOk M (getM M 8) = ok at *
  generalize getM M 8 = n at *
  replace hbase := Lib.hid hbase
  go_enter Tryd.func58, Tryd.ntmps58
  go_upto_region 2 with (first
    | (go_at_call 17; refine hG.out.mono ?_; rintro e w1 ⟨rfl, O1, hM1, hT1⟩; have hs1 := Lib.hid hT1.size; replace hM1 := Lib.hid hM1; replace hT1 := Lib.hid hT1)
    | (go_at_call 59; refine (hRd.out _ _ hM1.out (Nat.le_trans hbase.out hs1.out)).mono ?_; rintro e w2 ⟨rfl, O2, hM2, hT2⟩; replace hM2 := Lib.hid hM2; replace hT2 := Lib.hid hT2))
  obtain ⟨w3, hw3⟩ : ∃ w3, w3 = w2.alloc (.cells #[.int .i64 A, .int .i64 K, .string S, .bool I, .bool H, .int .i64 X] 65) := ⟨_, rfl⟩
  rw [← hw3]
  have hB3 : Blk w3 w2.heap.size #[.int .i64 A, .int .i64 K, .string S, .bool I, .bool H, .int .i64 X] 65 := by subst hw3; exact Blk.new _ _ _
  have hb3 : Below w2.heap.size w2 w3 := by subst hw3; exact bel_alloc (Below.refl _ _) _
  have hM3 := Lib.hid (hM2.out.below hb3)
  have hT3 := Lib.hid ((hT1.out.trans hT2.out).trans (Turn.of_below hb3 O2))
  obtain ⟨y1, y2, y3, y4, y5, y6⟩ := hB3.six
  clear hw3 hb3
  cases ok with
  | true =>
    have hA' := hA rfl
    subst hA'
    clear hA
    go_wp2
    go_ret
    exact ⟨rfl, O2, hM3.out, hT3.out⟩
  | false =>
    clear hA
    go_wp2
    go_ret
    exact ⟨rfl, O2, hM3.out, hT3.out⟩
set_option maxHeartbeats 1000000 in
theorem rLatest {w : World} {base rb : Nat} {M : List UInt8} {R : Nat → Prop} (h : RefP w base rb M R) :
    Calls Tryd.prog 47 #[.pointer (some ⟨rb, 0, none⟩)] w fun e w' => e = .returned (.int .i64 (latestL M)) ∧ Below w.heap.size w w' := by
  have hG := Lib.hid (rGet h 8 (by unfold isI; omega))
  have hRd := Lib.hid (fun (w9 : World) (h9 : RefP w9 base rb M R) => rRead h9 (getM M 8) (getM_isI M 8))
  unfold latestL
  obtain ⟨A, K, S, I, H, X, hV, hA⟩ := rdV_form M (getM M 8)
  rw [hV] at hRd
  clear hV hA
  generalize rdOk M (getM M 8) = ok at *
  generalize getM M 8 = n at *
  replace h := Lib.hid h
  go_enter Tryd.func47, Tryd.ntmps47
  go_upto_region 3 with (first
    | (go_at_call 29; refine hG.out.mono ?_; rintro e w1 ⟨rfl, hb1⟩; have hM1 := Lib.hid (h.out.below hb1); replace hb1 := Lib.hid hb1)
    | (go_at_call 48; refine (hRd.out _ hM1.out).mono ?_; rintro e w2 ⟨rfl, hb2⟩; have hb2' := Lib.hid (bel_trans hb1.out hb2); clear hb2))
  obtain ⟨w3, hw3⟩ : ∃ w3, w3 = w2.alloc (.cells #[.int .i64 A, .int .i64 K, .string S, .bool I, .bool H, .int .i64 X] 65) := ⟨_, rfl⟩
  rw [← hw3]
  have hb3 : Below w.heap.size w w3 := by subst hw3; exact bel_alloc hb2'.out _
  replace hb3 := Lib.hid hb3
  clear hw3
  cases ok with
  | true =>
    go_wp2
    go_ret
    exact ⟨rfl, hb3.out⟩
  | false =>
    go_wp2
    go_ret
    exact ⟨rfl, hb3.out⟩
end Go.Proofs.YtjihhojlakapnaaDoor
