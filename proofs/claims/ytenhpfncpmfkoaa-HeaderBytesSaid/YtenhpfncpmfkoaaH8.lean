/- 'Latest'; 'HeaderReads'. -/
import Derived.Test.YtenhpfncpmfkoaaH7
namespace Go.Proofs.Ytenhpfncpmfkoaa
open Go.RowKit
set_option linter.unusedVariables false
set_option linter.unusedSimpArgs false
attribute [local go_sem] cell_set set_set m_undef

theorem rdV_form (M : List UInt8) (a : Int) : ∃ A K S I H X, rdV M a = .agg #[.int .i64 A, .int .i64 K, .string S, .bool I, .bool H, .int .i64 X] ∧ (rdOk M a = true → A = a) := by
  unfold rdV
  cases rdOk M a with
  | true => exact ⟨_, _, _, _, _, _, rfl, fun _ => rfl⟩
  | false => exact ⟨_, _, _, _, _, _, rfl, fun h => by cases h⟩
/-- The latest header's place. -/
def latestL (M : List UInt8) : Int := if rdOk M (getM M 8) then getM M 8 else 0
set_option maxHeartbeats 1000000 in
theorem mLatest {w : World} {base mb : Nat} {M : List UInt8} {O : Nat → Prop} (h : MemP w base mb M O) (hbase : base ≤ w.heap.size) :
    Calls Try.prog 22 #[.pointer (some ⟨mb, 0, none⟩)] w fun e w' => MemQ w w' base mb M O (.int .i64 (latestL M)) e := by
  have hG := Lib.hid (mGet h hbase 8 (by unfold isI; omega))
  have hRd := Lib.hid (fun (w9 : World) (O9 : Nat → Prop) (h9 : MemP w9 base mb M O9) (hb9 : base ≤ w9.heap.size) => mRead h9 hb9 (getM M 8) (getM_isI M 8))
  unfold latestL
  obtain ⟨A, K, S, I, H, X, hV, hA⟩ := rdV_form M (getM M 8)
  rw [hV] at hRd
  clear hV
  generalize rdOk M (getM M 8) = ok at *
  generalize getM M 8 = n at *
  replace hbase := Lib.hid hbase
  go_enter Try.func22, Try.ntmps22
  go_upto_region 2 with (first
    | (go_at_call 38; refine hG.out.mono ?_; rintro e w1 ⟨rfl, O1, hM1, hT1⟩; have hs1 := Lib.hid hT1.size; replace hM1 := Lib.hid hM1; replace hT1 := Lib.hid hT1)
    | (go_at_call 15; refine (hRd.out _ _ hM1.out (Nat.le_trans hbase.out hs1.out)).mono ?_; rintro e w2 ⟨rfl, O2, hM2, hT2⟩; replace hM2 := Lib.hid hM2; replace hT2 := Lib.hid hT2))
  obtain ⟨w3, hw3⟩ : ∃ w3, w3 = w2.alloc (.cells #[.int .i64 A, .int .i64 K, .string S, .bool I, .bool H, .int .i64 X] 23) := ⟨_, rfl⟩
  rw [← hw3]
  have hB3 : Blk w3 w2.heap.size #[.int .i64 A, .int .i64 K, .string S, .bool I, .bool H, .int .i64 X] 23 := by subst hw3; exact Blk.new _ _ _
  have hb3 : Below w2.heap.size w2 w3 := by subst hw3; exact bel_alloc (Below.refl _ _) _
  have hM3 := Lib.hid (hM2.out.below hb3)
  have hT3 := Lib.hid ((hT1.out.trans hT2.out).trans (Turn.of_below hb3 O2))
  obtain ⟨y1, y2, y3, y4, y5, y6⟩ := hB3.six
  clear hw3 hb3
  cases ok with
  | true =>
    have hA' := hA rfl
    subst hA'
    clear hA
    go_wp2
    go_ret
    exact ⟨rfl, O2, hM3.out, hT3.out⟩
  | false =>
    clear hA
    go_wp2
    go_ret
    exact ⟨rfl, O2, hM3.out, hT3.out⟩
set_option maxHeartbeats 1000000 in
theorem rLatest {w : World} {base rb : Nat} {M : List UInt8} {R : Nat → Prop} (h : RefP w base rb M R) :
    Calls Try.prog 23 #[.pointer (some ⟨rb, 0, none⟩)] w fun e w' => e = .returned (.int .i64 (latestL M)) ∧ Below w.heap.size w w' := by
  have hG := Lib.hid (rGet h 8 (by unfold isI; omega))
  have hRd := Lib.hid (fun (w9 : World) (h9 : RefP w9 base rb M R) => rRead h9 (getM M 8) (getM_isI M 8))
  unfold latestL
  obtain ⟨A, K, S, I, H, X, hV, hA⟩ := rdV_form M (getM M 8)
  rw [hV] at hRd
  clear hV hA
  generalize rdOk M (getM M 8) = ok at *
  generalize getM M 8 = n at *
  replace h := Lib.hid h
  go_enter Try.func23, Try.ntmps23
  go_upto_region 3 with (first
    | (go_at_call 37; refine hG.out.mono ?_; rintro e w1 ⟨rfl, hb1⟩; have hM1 := Lib.hid (h.out.below hb1); replace hb1 := Lib.hid hb1)
    | (go_at_call 19; refine (hRd.out _ hM1.out).mono ?_; rintro e w2 ⟨rfl, hb2⟩; have hb2' := Lib.hid (bel_trans hb1.out hb2); clear hb2))
  obtain ⟨w3, hw3⟩ : ∃ w3, w3 = w2.alloc (.cells #[.int .i64 A, .int .i64 K, .string S, .bool I, .bool H, .int .i64 X] 23) := ⟨_, rfl⟩
  rw [← hw3]
  have hb3 : Below w.heap.size w w3 := by subst hw3; exact bel_alloc hb2'.out _
  replace hb3 := Lib.hid hb3
  clear hw3
  cases ok with
  | true =>
    go_wp2
    go_ret
    exact ⟨rfl, hb3.out⟩
  | false =>
    go_wp2
    go_ret
    exact ⟨rfl, hb3.out⟩
set_option maxRecDepth 100000 in
set_option maxHeartbeats 2000000 in
theorem headerReads {w : World} (v : Value) (l : List UInt8) (h : Rb w v l) (at_ : Int) (hat : isI at_) :
    Calls Try.prog 6 #[v, .int .i64 at_] w fun e w' => e = .returned (.bool true) ∧ Below w.heap.size w w' := by
  have hA := Lib.hid wAwake
  obtain ⟨ad, cap, rfl⟩ := h.form
  replace h := Lib.hid h
  by_cases h9 : 9000 < l.length
  · have t1 : ((9000 : Int) < (l.length : Int)) = True := by simp; omega
    clear h9
    go_enter Try.func6, Try.ntmps6
    go_wp2_with (go_at_call 8; refine (hA.out _).mono ?_; rintro e w1 ⟨rfl, hb1⟩; replace hb1 := Lib.hid hb1)
    go_ret
    exact ⟨rfl, hb1.out⟩
  have t1 : ((9000 : Int) < (l.length : Int)) = False := by simp; omega
  clear h9
  obtain ⟨M, hMd⟩ : ∃ M, M = flatL l := ⟨_, rfl⟩
  obtain ⟨A, K, S, I, H, X, hV, _⟩ := rdV_form M at_
  obtain ⟨ok, hok⟩ : ∃ ok, ok = rdOk M at_ := ⟨_, rfl⟩
  have hF1 := Lib.hid (fun (w9 : World) (h9 : Rb w9 (.slice ad l.length cap) l) => wFlatR w9 _ l h9)
  have hF2 := Lib.hid (fun (w9 : World) (h9 : Rb w9 (.slice ad l.length cap) l) => rFlat w9 _ l h9)
  unfold FlatQ at hF1
  rw [← hMd] at hF1 hF2
  have hhe := Lib.hid (rfl : hereL M = hereL M)
  have hRd := Lib.hid (fun (w9 : World) (base mb : Nat) (O9 : Nat → Prop) (h9 : MemP w9 base mb M O9) (hb9 : base ≤ w9.heap.size) => mRead h9 hb9 at_ hat)
  have hRr := Lib.hid (fun (w9 : World) (base rb : Nat) (R9 : Nat → Prop) (h9 : RefP w9 base rb M R9) => rRead h9 at_ hat)
  rw [hV, ← hok] at hRd hRr
  have hHm := Lib.hid (fun (w9 : World) (base mb : Nat) (O9 : Nat → Prop) (h9 : MemP w9 base mb M O9) (hb9 : base ≤ w9.heap.size) => mHere h9 hb9)
  have hHr := Lib.hid (fun (w9 : World) (base rb : Nat) (R9 : Nat → Prop) (h9 : RefP w9 base rb M R9) => rHere h9)
  have hLm := Lib.hid (fun (w9 : World) (base mb : Nat) (O9 : Nat → Prop) (h9 : MemP w9 base mb M O9) (hb9 : base ≤ w9.heap.size) => mLatest h9 hb9)
  have hLr := Lib.hid (fun (w9 : World) (base rb : Nat) (R9 : Nat → Prop) (h9 : RefP w9 base rb M R9) => rLatest h9)
  generalize hereL M = here at *
  generalize latestL M = lat at *
  clear hhe hV hok hMd
  go_enter Try.func6, Try.ntmps6
  go_upto_region 6 with (first
    | (go_at_call 8; refine (hA.out _).mono ?_; rintro e w1 ⟨rfl, hb1⟩; have h1 := Lib.hid (h.out.below hb1); replace hb1 := Lib.hid hb1)
    | (go_at_call 12; refine (hF1.out _ h1.out).mono ?_; rintro e w2 ⟨mb, O2, rfl, hP2, hb2⟩; have h2 := Lib.hid (h1.out.below hb2); have hO2 := Lib.hid (fun k (hk : O2 k) => (hP2.lt hk)); have hs2 := Lib.hid hb2.size; replace hP2 := Lib.hid hP2; replace hb2 := Lib.hid hb2)
    | (go_at_call 18; refine (hF2.out _ h2.out).mono ?_; rintro e w3 ⟨rb, R, rfl, hR3, hb3⟩; have hs3 := Lib.hid hb3.size; have hP3 := Lib.hid (hP2.out.below hb3); have hd3 := Lib.hid (show ∀ k, R k → ¬ O2 k from fun k hk hO => by have h8 := (hR3.lt hk).2; have h9 := (hO2.out k hO).1; omega); replace hR3 := Lib.hid hR3; replace hb3 := Lib.hid hb3))
  go_upto_region 7 with (go_at_call 15; refine (hRd.out _ _ _ _ hP3.out (Nat.le_trans hs2.out hs3.out)).mono ?_; rintro e w4 ⟨rfl, O4, hP4, hT4⟩; have hs4 := Lib.hid hT4.size; have hR4 := Lib.hid (hR3.out.turn hT4 hd3.out); have hd4 := Lib.hid (show ∀ k, R k → ¬ O4 k from fun k hk => hT4.notO (hd3.out k hk) (hR3.out.lt hk).1); replace hP4 := Lib.hid hP4; replace hT4 := Lib.hid hT4)
  obtain ⟨w5, hw5⟩ : ∃ w5, w5 = w4.alloc (.cells #[.int .i64 A, .int .i64 K, .string S, .bool I, .bool H, .int .i64 X] 23) := ⟨_, rfl⟩
  rw [← hw5]
  have hB5 : Blk w5 w4.heap.size #[.int .i64 A, .int .i64 K, .string S, .bool I, .bool H, .int .i64 X] 23 := by subst hw5; exact Blk.new _ _ _
  have hb5 : Below w4.heap.size w4 w5 := by subst hw5; exact bel_alloc (Below.refl _ _) _
  have hP5 := Lib.hid (hP4.out.below hb5)
  have hR5 := Lib.hid (hR4.out.below hb5)
  have hs5 := Lib.hid hb5.size
  have hn5 := Lib.hid (show ¬ O4 w4.heap.size from fun hO => by have := (hP4.out.lt hO).1; omega)
  replace hb5 := Lib.hid hb5
  clear hw5
  go_upto_region 8 with (go_at_call 19; refine (hRr.out _ _ _ _ hR5.out).mono ?_; rintro e w6 ⟨rfl, hb6⟩; replace hb6 := Lib.hid hb6)
  obtain ⟨w7, hw7⟩ : ∃ w7, w7 = w6.alloc (.cells #[.int .i64 A, .int .i64 K, .string S, .bool I, .bool H, .int .i64 X] 23) := ⟨_, rfl⟩
  rw [← hw7]
  have hB7 : Blk w7 w6.heap.size #[.int .i64 A, .int .i64 K, .string S, .bool I, .bool H, .int .i64 X] 23 := by subst hw7; exact Blk.new _ _ _
  have hb7 : Below w5.heap.size w5 w7 := by subst hw7; exact bel_alloc hb6.out _
  have hC7 := hB5.below hb7
  have hP7 := Lib.hid (hP5.out.below hb7)
  have hR7 := Lib.hid (hR5.out.below hb7)
  have hs7 := Lib.hid hb7.size
  replace hb7 := Lib.hid hb7
  obtain ⟨y1, y2, y3, y4, y5, y6⟩ := hC7.six
  obtain ⟨z1, z2, z3, z4, z5, z6⟩ := hB7.six
  clear hw7 hB5 hB7 hC7
  go_wp2_with (first
    | (go_at_call 20; refine (hHm.out _ _ _ _ hP7.out (Nat.le_trans hs2.out (Nat.le_trans hs3.out (Nat.le_trans hs4.out (Nat.le_trans hs5.out hs7.out))))).mono ?_; rintro e w8 ⟨rfl, O8, hP8, hT8⟩; have hs8 := Lib.hid hT8.size; have hR8 := Lib.hid (hR7.out.turn hT8 hd4.out); have hd8 := Lib.hid (show ∀ k, R k → ¬ O8 k from fun k hk => hT8.notO (hd4.out k hk) (hR7.out.lt hk).1); replace hP8 := Lib.hid hP8; replace hT8 := Lib.hid hT8; clear y1 y2 y3 y4 y5 y6 z1 z2 z3 z4 z5 z6)
    | (go_at_call 21; refine (hHr.out _ _ _ _ hR8.out).mono ?_; rintro e w9 ⟨rfl, hb9⟩; have hs9 := Lib.hid hb9.size; have hP9 := Lib.hid (hP8.out.below hb9); have hR9 := Lib.hid (hR8.out.below hb9); replace hb9 := Lib.hid hb9)
    | (go_at_call 22; refine (hLm.out _ _ _ _ hP9.out (Nat.le_trans hs2.out (Nat.le_trans hs3.out (Nat.le_trans hs4.out (Nat.le_trans hs5.out (Nat.le_trans hs7.out (Nat.le_trans hs8.out hs9.out))))))).mono ?_; rintro e w10 ⟨rfl, O10, hP10, hT10⟩; have hR10 := Lib.hid (hR9.out.turn hT10 hd8.out); replace hT10 := Lib.hid hT10; clear hP10)
    | (go_at_call 23; refine (hLr.out _ _ _ _ hR10.out).mono ?_; rintro e w11 ⟨rfl, hb11⟩; replace hb11 := Lib.hid hb11))
  go_ret
  refine ⟨rfl, ?_⟩
  have hT : Turn w3 w11 O2 O10 := (((((hT4.out.trans (Turn.of_below hb5.out _)).trans (Turn.of_below hb7.out _)).trans hT8.out).trans (Turn.of_below hb9.out _)).trans hT10.out).trans (Turn.of_below hb11.out _)
  have hB3 : Below w.heap.size w w3 := bel_trans (bel_trans hb1.out hb2.out) hb3.out
  exact hB3.trans ((hT.below (fun k hk => (hO2.out k hk).2) (Nat.le_trans hs2.out hs3.out)).mono hb1.out.size)
end Go.Proofs.Ytenhpfncpmfkoaa
