/- 'DictKinds', 'DictFinds'. -/
import Derived.Test.YtcfblcgdjhpdaaaD9
namespace Go.Proofs.Ytcfblcgdjhpdaaa
open Go.RowKit
set_option linter.unusedVariables false
set_option linter.unusedSimpArgs false
attribute [local go_sem] cell_set set_set m_undef
attribute [local irreducible] findA kindL

set_option maxHeartbeats 1000000 in
theorem dictKinds {w : World} (v : Value) (l : List UInt8) (h : Rb w v l) (xt : Int) (hx : isI xt) : Calls Try.prog 7 #[v, .int .i64 xt] w fun e w' => e = .returned (.bool true) ∧ Below w.heap.size w w' := by
  obtain ⟨ad, cap, rfl⟩ := h.form
  have hA := Lib.hid (fun w9 => wAwake w9)
  by_cases hl : 9000 < l.length
  · clear h
    have t1 : ((9000 : Int) < (l.length : Int)) = True := by simp; omega
    go_enter Try.func7, Try.ntmps7
    go_wp2_with (go_at_call 9; refine (hA.out _).mono ?_; rintro e w1 ⟨rfl, hb1⟩)
    go_ret
    exact ⟨rfl, hb1⟩
  have t1 : ((9000 : Int) < (l.length : Int)) = False := by simp; omega
  have hF1 := fun (w9 : World) (h9 : Rb w9 (.slice ad l.length cap) l) => wFlatR w9 _ l h9
  have hF2 := fun (w9 : World) (h9 : Rb w9 (.slice ad l.length cap) l) => rFlat w9 _ l h9
  unfold FlatQ at hF1
  generalize flatL l = M at *
  have hK := fun (w9 : World) (mb B : Nat) (O : Nat → Prop) (h : MemP w9 B mb M O) (hb : B ≤ w9.heap.size) => kKind h hb xt hx
  have hR := fun (w9 : World) (rb B : Nat) (R : Nat → Prop) (h : RefP w9 B rb M R) => rKind h xt hx
  generalize kindL M xt = kd at *
  replace h := Lib.hid h
  replace hF1 := Lib.hid hF1
  replace hF2 := Lib.hid hF2
  replace hK := Lib.hid hK
  replace hR := Lib.hid hR
  clear hl hx
  go_enter Try.func7, Try.ntmps7
  go_wp2_with (first
    | (go_at_call 9; refine (hA.out _).mono ?_; rintro e w1 ⟨rfl, hb1⟩; have h1 := Lib.hid (h.out.below hb1); replace hb1 := Lib.hid hb1)
    | (go_at_call 10; refine (hF1.out _ h1.out).mono ?_; rintro e w2 ⟨mb, O2, rfl, hP2, hb2⟩; have hT := Uno.make hb1.out (Keep.emp _ _) hP2 hb2; clear hP2 hb2)
    | (go_at_call 25; refine (hT.mem (fun B O h hb => hK.out _ _ _ _ h hb)).mono ?_; rintro e w3 ⟨rfl, hT2⟩; clear hT; have hT := hT2; clear hT2; have h2 := Lib.hid (h.out.below hT.bel))
    | (go_at_call 11; refine (hF2.out _ h2.out).mono ?_; rintro e w4 ⟨rb, R, rfl, hR3, hb3⟩; have hb4 := Lib.hid (bel_trans hT.bel hb3); replace hR3 := Lib.hid hR3; clear hT hb3)
    | (go_at_call 26; refine (hR.out _ _ _ _ hR3.out).mono ?_; rintro e w5 ⟨rfl, hb5⟩; have hb6 := Lib.hid (bel_trans hb4.out hb5); clear hb5))
  go_ret
  exact ⟨rfl, hb6.out⟩
set_option maxHeartbeats 1000000 in
theorem dictFinds {w : World} (v : Value) (l : List UInt8) (h : Rb w v l) (nm : ByteArray) (_ : nm.size ≤ maxLen) : Calls Try.prog 4 #[v, .string nm] w fun e w' => e = .returned (.bool true) ∧ Below w.heap.size w w' := by
  obtain ⟨ad, cap, rfl⟩ := h.form
  have hA := Lib.hid (fun w9 => wAwake w9)
  by_cases hl : 9000 < l.length
  · clear h
    have t1 : ((9000 : Int) < (l.length : Int)) = True := by simp; omega
    go_enter Try.func4, Try.ntmps4
    go_wp2_with (go_at_call 9; refine (hA.out _).mono ?_; rintro e w1 ⟨rfl, hb1⟩)
    go_ret
    exact ⟨rfl, hb1⟩
  have t1 : ((9000 : Int) < (l.length : Int)) = False := by simp; omega
  by_cases hn : 1000 < nm.size
  · clear h
    have t2 : ((1000 : Int) < (nm.size : Int)) = True := by simp; omega
    go_enter Try.func4, Try.ntmps4
    go_wp2_with (go_at_call 9; refine (hA.out _).mono ?_; rintro e w1 ⟨rfl, hb1⟩)
    go_ret
    exact ⟨rfl, hb1⟩
  have t2 : ((1000 : Int) < (nm.size : Int)) = False := by simp; omega
  have hF1 := fun (w9 : World) (h9 : Rb w9 (.slice ad l.length cap) l) => wFlatR w9 _ l h9
  have hF2 := fun (w9 : World) (h9 : Rb w9 (.slice ad l.length cap) l) => rFlat w9 _ l h9
  unfold FlatQ at hF1
  generalize flatL l = M at *
  have hK := fun (w9 : World) (mb B : Nat) (O : Nat → Prop) (h : MemP w9 B mb M O) (hb : B ≤ w9.heap.size) => kFind h hb nm (by omega)
  have hR := fun (w9 : World) (rb B : Nat) (R : Nat → Prop) (h : RefP w9 B rb M R) => rFindW h nm (by omega)
  generalize findA M nm = fa at *
  obtain ⟨fx, fi, fc, fis⟩ := fa
  unfold findR at hK hR
  dsimp only at hK hR
  replace h := Lib.hid h
  replace hF1 := Lib.hid hF1
  replace hF2 := Lib.hid hF2
  replace hK := Lib.hid hK
  replace hR := Lib.hid hR
  clear hl hn
  go_enter Try.func4, Try.ntmps4
  go_upto_region 6 with (first
    | (go_at_call 9; refine (hA.out _).mono ?_; rintro e w1 ⟨rfl, hb1⟩; have h1 := Lib.hid (h.out.below hb1); replace hb1 := Lib.hid hb1)
    | (go_at_call 10; refine (hF1.out _ h1.out).mono ?_; rintro e w2 ⟨mb, O2, rfl, hP2, hb2⟩; have hT := Uno.make hb1.out (Keep.emp _ _) hP2 hb2; clear hP2 hb2)
    | (go_at_call 14; refine (hT.mem (fun B O h hb => hK.out _ _ _ _ h hb)).mono ?_; rintro e w3 ⟨rfl, hT2⟩; clear hT; have hT := hT2; clear hT2))
  have hT2 := hT.new #[.int .i64 fx, .bool fi, .bool fc] 37
  obtain ⟨b1, hb1'⟩ : ∃ b1, b1 = w3.heap.size := ⟨_, rfl⟩
  obtain ⟨w4, hw4⟩ : ∃ w4, w4 = w3.alloc (.cells #[.int .i64 fx, .bool fi, .bool fc] 37) := ⟨_, rfl⟩
  rw [← hw4, ← hb1'] at hT2 ⊢
  clear hw4 hb1' hT
  have hT := hT2
  clear hT2
  have h2 := Lib.hid (h.out.below hT.bel)
  go_upto_region 7 with (first
    | (go_at_call 11; refine (hF2.out _ h2.out).mono ?_; rintro e w5 ⟨rb, R, rfl, hR3, hb3⟩; have hb4 := Lib.hid (bel_trans hT.bel hb3); have hB5 := Lib.hid ((show Blk w4 b1 _ _ from hT.fact.2).below hb3); have hs5 := Lib.hid hb3.size; replace hR3 := Lib.hid hR3)
    | (go_at_call 15; refine (hR.out _ _ _ _ hR3.out).mono ?_; rintro e w6 ⟨rfl, R6, hR6, hT6⟩; have hb5 := hT6.below (fun k hk => (hR3.out.lt hk).2) hs5.out; have hb6 := Lib.hid (hb4.out.trans (hb5.mono hT.bel.size)); have hB6 := Lib.hid (show Blk w6 b1 #[.int .i64 fx, .bool fi, .bool fc] 37 from (hb5.block b1 (show Blk w4 b1 _ _ from hT.fact.2).lt).trans hB5.out); clear hR6 hT6 hb5))
  have hB7 := hB6.out.alloc (.cells #[.int .i64 fx, .bool fi, .bool fc] 37)
  have hC7 := Blk.new w6 #[.int .i64 fx, .bool fi, .bool fc] 37
  have hb7 := Lib.hid (bel_alloc hb6.out (.cells #[.int .i64 fx, .bool fi, .bool fc] 37))
  obtain ⟨b2, hb2'⟩ : ∃ b2, b2 = w6.heap.size := ⟨_, rfl⟩
  obtain ⟨w7, hw7⟩ : ∃ w7, w7 = w6.alloc (.cells #[.int .i64 fx, .bool fi, .bool fc] 37) := ⟨_, rfl⟩
  rw [← hw7] at hB7 hC7 hb7 ⊢
  rw [← hb2'] at hC7 ⊢
  clear hw7 hb2'
  obtain ⟨y1, y2, y3⟩ := hB7.c3'
  obtain ⟨z1, z2, z3⟩ := hC7.c3'
  go_wp2
  go_ret
  exact ⟨rfl, hb7.out⟩
end Go.Proofs.Ytcfblcgdjhpdaaa
