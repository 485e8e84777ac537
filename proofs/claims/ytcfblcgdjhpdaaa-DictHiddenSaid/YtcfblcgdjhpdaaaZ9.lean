/- Texts merged: D17. -/
import Derived.Test.YtcfblcgdjhpdaaaZ8
import Derived.Laws.Tables
/- 'DictHidden'. -/
namespace Go.Proofs.Ytcfblcgdjhpdaaa
open Go.RowKit
set_option linter.unusedVariables false
set_option linter.unusedSimpArgs false
attribute [local go_sem] cell_set set_set m_undef
attribute [local irreducible] findA kindL chkN chkL crM crV crOk crXt crAt

theorem Uno.addRef {W w w' : World} {mb rb : Nat} {M N : List UInt8} {R : Nat → Prop} {K : Kp} (h : Uno W w mb M K) (hR : RefP w' w.heap.size rb N R) (hb : Below w.heap.size w w') : Two W w' mb rb M N K := by
  obtain ⟨B, O, h1, h2, h3, h4, h5⟩ := h
  refine ⟨B, O, R, h1, Nat.le_trans h2 hb.size, h3.below hb, hR.mono h2, fun k hk hr => ?_, h4.trans (hb.mono (Nat.le_trans h1 h2)), (h5.turn (Turn.of_below hb _)).1, fun k hk => ⟨Nat.lt_of_lt_of_le (h5.2 k hk).1 hb.size, fun hO => ?_⟩⟩
  · have := (h3.lt hk).1; have := (hR.lt hr).2; omega
  · rcases hO with hO | hO
    · exact (h5.2 k hk).2 hO
    · have := (hR.lt hO).2; have := (h5.2 k hk).1; omega
theorem TwoS.addMem {W w w' : World} {mb rb mb2 : Nat} {s : Value} {M N L : List UInt8} {O : Nat → Prop} {K : Kp} (h : TwoS W w mb rb s M N K) (hP : MemP w' w.heap.size mb2 L O) (hb : Below w.heap.size w w') : Uno W w' mb2 L K := by
  refine Uno.make h.two.bel ⟨h.fact, fun k hk => ⟨?_, id⟩⟩ hP hb
  obtain ⟨_, _, _, _, _, _, _, _, _, h⟩ := h
  exact (h.2 k hk).1
def bF (n : Int) : Sem Value := Instr.build 37 #[(0, .int .i64 n)]
theorem bF_of (n : Int) : Instr.build 37 #[(0, .int .i64 n)] = bF n := rfl
theorem bF_run (n : Int) (w : World) : (bF n).run Try.prog w = .ok (.agg #[.int .i64 n, .bool false, .bool false]) w := run_build w 37 _ _ (by kernel_rfl)
attribute [local go_sem high] bF_of
attribute [local go_sem] bF_run
theorem isI_zero : isI 0 := by unfold isI; omega
theorem rLatestQ {w : World} {B rb : Nat} {N : List UInt8} {R : Nat → Prop} (h : RefP w B rb N R) : Calls Try.prog 24 #[.pointer (some ⟨rb, 0, none⟩)] w fun e w' => RefQ w w' B rb N R (.int .i64 (latestL N)) e :=
  (rLatest h).mono fun e w' ⟨he, hb⟩ => ⟨he, R, h.below hb, Turn.of_below hb R⟩
set_option maxRecDepth 100000 in
set_option maxHeartbeats 2000000 in
theorem dictHidden {w : World} (v : Value) (l : List UInt8) (h : Rb w v l) (nm : ByteArray) (_ : nm.size ≤ maxLen) : Calls Try.prog 6 #[v, .string nm] w fun e w' => e = .returned (.bool true) ∧ Below w.heap.size w w' := by
  obtain ⟨ad, cap, rfl⟩ := h.form
  have hA := Lib.hid (fun w9 => wAwake w9)
  by_cases hl : 9000 < l.length
  · clear h
    have t1 : ((9000 : Int) < (l.length : Int)) = True := by simp; omega
    go_enter Try.func6, Try.ntmps6
    go_wp2_with (go_at_call 9; refine (hA.out _).mono ?_; rintro e w1 ⟨rfl, hb1⟩)
    go_ret
    exact ⟨rfl, hb1⟩
  have t1 : ((9000 : Int) < (l.length : Int)) = False := by simp; omega
  by_cases hn : 1000 < nm.size
  · clear h
    have t2 : ((1000 : Int) < (nm.size : Int)) = True := by simp; omega
    go_enter Try.func6, Try.ntmps6
    go_wp2_with (go_at_call 9; refine (hA.out _).mono ?_; rintro e w1 ⟨rfl, hb1⟩)
    go_ret
    exact ⟨rfl, hb1⟩
  have t2 : ((1000 : Int) < (nm.size : Int)) = False := by simp; omega
  have hF1 := fun (w9 : World) (h9 : Rb w9 (.slice ad l.length cap) l) => wFlatR w9 _ l h9
  have hF2 := fun (w9 : World) (h9 : Rb w9 (.slice ad l.length cap) l) => rFlat w9 _ l h9
  unfold FlatQ at hF1
  have hM := flatL_len l
  generalize flatL l = M at *
  have hK := fun (w9 : World) (mb B : Nat) (O : Nat → Prop) (h : MemP w9 B mb M O) (hb : B ≤ w9.heap.size) => kFind h hb nm (by omega)
  have hR := fun (w9 : World) (rb B : Nat) (R : Nat → Prop) (h : RefP w9 B rb M R) => rCheck h
  obtain ⟨s, hs⟩ : ∃ s : List UInt8, nm = ⟨s.toArray⟩ := ⟨nm.data.toList, by simp⟩
  have hCr := fun (w9 : World) (mb B : Nat) (O : Nat → Prop) (h : MemP w9 B mb M O) (hb : B ≤ w9.heap.size) => kCreate h hb s
  have hfind := fun (hok : crOk M s = true) (hc : chkL M = true) => hidden_find hM hok (chkL_end hc) nm
  have hmf := fun (hok : crOk M s = true) (hc : chkL M = true) => made_find (s := nm) hM hok (chkL_end hc) (by rw [← hs]; simp)
  have hmade := fun (hok : crOk M s = true) => (made hM hok).1
  have hcv := fun (hok : crOk M s = true) => (crV_yes hok).1
  have hxt := fun (hok : crOk M s = true) => show isI (crXt M s) ∧ IntKind.i64.wrap (crXt M s + 8) = crXt M s + 8 by
    obtain ⟨h1, h2, h3⟩ := crOk_iff.1 hok
    obtain ⟨a1, a2, a3⟩ := crAt_in M
    have : 0 ≤ crXt M s := by have hx : crXt M s = crAt M + ((bytesL (latestL M) s false false).length : Int) := by unfold crXt; rfl
                              omega
    refine ⟨by unfold isI; omega, by rw [IntKind.wrap_i64]; omega⟩
  have hat : isI (crAt M) := by obtain ⟨a1, a2, a3⟩ := crAt_in M; unfold isI; omega
  rw [← hs] at hCr
  generalize hfa : findA M nm = fa at *
  obtain ⟨fx, fi, fc, fis⟩ := fa
  have hKf : ∀ (N : List UInt8) (A : Int × Bool × Bool × Bool), findA N nm = A → ∀ (w9 : World) (mb B : Nat) (O : Nat → Prop) (h : MemP w9 B mb N O) (hb : B ≤ w9.heap.size), Calls Try.prog 14 #[.pointer (some ⟨mb, 0, none⟩), .string nm] w9 fun e w' => MemQ w9 w' B mb N O (findR A) e :=
    fun N A hA w9 mb B O h hb => by rw [← hA]; exact kFind h hb _ (by omega)
  unfold findR at hK hKf
  dsimp only at hK
  replace h := Lib.hid h
  replace hF1 := Lib.hid hF1
  have hF2' : ∀ w9 : World, Rb w9 (.slice ad l.length cap) l → Calls Try.prog 11 #[.slice ad l.length cap] w9 fun e w' => (∃ rb R, e = .returned (.pointer (some ⟨rb, 0, none⟩)) ∧ RefP w' w9.heap.size rb M R) ∧ Below w9.heap.size w9 w' :=
    fun w9 h9 => (hF2 w9 h9).mono fun e w' ⟨rb, R, h1, h2, h3⟩ => ⟨⟨rb, R, h1, h2⟩, h3⟩
  clear hF2
  have hF2 := Lib.hid hF2'
  clear hF2'
  replace hK := Lib.hid hK
  clear hl hn hs
  rcases hck : chkL M with _ | _
  · rw [chkN_f hck] at hR
    replace hR := Lib.hid hR
    clear hKf hmf hfind hCr hmade hcv hxt hat hck hfa hM
    go_enter Try.func6, Try.ntmps6
    go_upto_region 9 with (first
      | (go_at_call 9; refine (hA.out _).mono ?_; rintro e w1 ⟨rfl, hb1⟩; have h1 := Lib.hid (h.out.below hb1); replace hb1 := Lib.hid hb1)
      | (go_at_call 10; refine (hF1.out _ h1.out).mono ?_; rintro e w2 ⟨mb, O2, rfl, hP2, hb2⟩; have hT := Uno.make hb1.out (Keep.emp _ _) hP2 hb2; clear hP2 hb2)
      | (go_at_call 14; refine (hT.mem (fun B O h hb => hK.out _ _ _ _ h hb)).mono ?_; rintro e w3 ⟨rfl, hT2⟩; clear hT; have hT := hT2; clear hT2))
    have hT2 := hT.new #[.int .i64 fx, .bool fi, .bool fc] 37
    obtain ⟨b1, hb1'⟩ : ∃ b1, b1 = w3.heap.size := ⟨_, rfl⟩
    obtain ⟨w4, hw4⟩ : ∃ w4, w4 = w3.alloc (.cells #[.int .i64 fx, .bool fi, .bool fc] 37) := ⟨_, rfl⟩
    rw [← hw4, ← hb1'] at hT2 ⊢
    clear hw4 hb1'
    clear hT; have hT := hT2; clear hT2
    have h2 := Lib.hid (h.out.below hT.bel)
    go_wp2_with (first
      | (go_at_call 11; refine (hT.still (hF2.out _ h2.out)).mono ?_; rintro e w5 ⟨⟨rb, R, rfl, hR3⟩, hT2⟩; clear hT; have hT := hT2; clear hT2; replace hR3 := Lib.hid hR3)
      | (go_at_call 22; refine (hT.still (hR.out _ _ _ _ hR3.out)).mono ?_; rintro e w6 ⟨rfl, hT2⟩; clear hT; have hT := hT2; clear hT2))
    go_ret
    exact ⟨rfl, hT.bel⟩
  · rw [chkN_t hck] at hR
    replace hR := Lib.hid hR
    rcases hok : crOk M s with _ | _
    · obtain ⟨c1, c2⟩ := crV_no hok
      obtain ⟨t, ht, ht0⟩ : ∃ t : Int, crV M s = .tuple #[.int .i64 0, .int .i64 t] ∧ t ≠ 0 := ⟨_, c1, by (repeat' split) <;> decide⟩
      rw [ht, c2] at hCr
      replace hCr := Lib.hid hCr
      have u1 : (t == 0) = false := by simp; exact ht0
      clear hKf hmf hfind hmade hcv hxt hat hck hfa hM ht c1 c2 ht0 hok
      go_enter Try.func6, Try.ntmps6
      go_upto_region 9 with (first
        | (go_at_call 9; refine (hA.out _).mono ?_; rintro e w1 ⟨rfl, hb1⟩; have h1 := Lib.hid (h.out.below hb1); replace hb1 := Lib.hid hb1)
        | (go_at_call 10; refine (hF1.out _ h1.out).mono ?_; rintro e w2 ⟨mb, O2, rfl, hP2, hb2⟩; have hT := Uno.make hb1.out (Keep.emp _ _) hP2 hb2; clear hP2 hb2)
        | (go_at_call 14; refine (hT.mem (fun B O h hb => hK.out _ _ _ _ h hb)).mono ?_; rintro e w3 ⟨rfl, hT2⟩; clear hT; have hT := hT2; clear hT2))
      have hT2 := hT.new #[.int .i64 fx, .bool fi, .bool fc] 37
      obtain ⟨b1, hb1'⟩ : ∃ b1, b1 = w3.heap.size := ⟨_, rfl⟩
      obtain ⟨w4, hw4⟩ : ∃ w4, w4 = w3.alloc (.cells #[.int .i64 fx, .bool fi, .bool fc] 37) := ⟨_, rfl⟩
      rw [← hw4, ← hb1'] at hT2 ⊢
      clear hw4 hb1'
      clear hT; have hT := hT2; clear hT2
      have h2 := Lib.hid (h.out.below hT.bel)
      go_wp2_with (first
        | (go_at_call 11; refine (hT.still (hF2.out _ h2.out)).mono ?_; rintro e w5 ⟨⟨rb, R, rfl, hR3⟩, hT2⟩; clear hT; have hT := hT2; clear hT2; replace hR3 := Lib.hid hR3)
        | (go_at_call 22; refine (hT.still (hR.out _ _ _ _ hR3.out)).mono ?_; rintro e w6 ⟨rfl, hT2⟩; clear hT; have hT := hT2; clear hT2)
        | (go_at_call 16; refine (hT.mem (fun B O h hb => hCr.out _ _ _ _ h hb)).mono ?_; rintro e w7 ⟨rfl, hT2⟩; clear hT; have hT := hT2; clear hT2))
      go_ret
      exact ⟨rfl, hT.bel⟩
    · obtain ⟨hl2, hlt, hf3⟩ := hfind hok hck
      have hf2 := hmf hok hck
      have hl1 := hmade hok
      obtain ⟨hxi, hxw⟩ := hxt hok
      rw [hcv hok] at hCr
      have hSt := fun (w9 : World) (mb B : Nat) (O : Nat → Prop) (h : MemP w9 B mb (crM M s) O) (hb : B ≤ w9.heap.size) => mSet h hb 0 (crXt M s + 8) isI_zero
      have hdef : setM (crM M s) 0 (crXt M s + 8) = madeM M s := rfl
      rw [hdef] at hSt
      generalize crM M s = M2 at *
      generalize madeM M s = N at *
      generalize crXt M s = xt at *
      have hLt := fun (w9 : World) (rb B : Nat) (R : Nat → Prop) (h : RefP w9 B rb N R) => rLatestQ h
      rw [hlt] at hLt
      generalize crAt M = a at *
      have hMk := fun (w9 : World) (rb B : Nat) (R : Nat → Prop) (h : RefP w9 B rb N R) => rMark h a hat false true
      generalize markM N a false true = N2 at *
      generalize rdOk N a = okk at *
      have hK2 := hKf _ _ hf2
      have hK3 := hKf _ _ hf3
      have hFN := fun (w9 : World) (v : Value) (h9 : Rb w9 v N) => rFlat w9 v N h9
      rw [flatL_id hl1] at hFN
      have hFL2 := fun (w9 : World) (v : Value) (h9 : Rb w9 v N2) => wFlatR w9 v N2 h9
      unfold FlatQ at hFL2
      rw [flatL_id hl2] at hFL2
      dsimp only at hK2 hK3
      replace hCr := Lib.hid hCr
      replace hSt := Lib.hid hSt
      replace hLt := Lib.hid hLt
      replace hMk := Lib.hid hMk
      replace hK2 := Lib.hid hK2
      replace hK3 := Lib.hid hK3
      replace hFN := Lib.hid hFN
      replace hFL2 := Lib.hid hFL2
      clear hKf hmf hfind hmade hcv hxt hat hck hfa hM hdef hok hf2 hf3 hl1 hl2 hlt hxi
      go_enter Try.func6, Try.ntmps6
      go_upto_region 9 with (first
        | (go_at_call 9; refine (hA.out _).mono ?_; rintro e w1 ⟨rfl, hb1⟩; have h1 := Lib.hid (h.out.below hb1); replace hb1 := Lib.hid hb1)
        | (go_at_call 10; refine (hF1.out _ h1.out).mono ?_; rintro e w2 ⟨mb, O2, rfl, hP2, hb2⟩; have hT := Uno.make hb1.out (Keep.emp _ _) hP2 hb2; clear hP2 hb2)
        | (go_at_call 14; refine (hT.mem (fun B O h hb => hK.out _ _ _ _ h hb)).mono ?_; rintro e w3 ⟨rfl, hT2⟩; clear hT; have hT := hT2; clear hT2))
      have hT2 := hT.new #[.int .i64 fx, .bool fi, .bool fc] 37
      obtain ⟨b1, hb1'⟩ : ∃ b1, b1 = w3.heap.size := ⟨_, rfl⟩
      obtain ⟨w4, hw4⟩ : ∃ w4, w4 = w3.alloc (.cells #[.int .i64 fx, .bool fi, .bool fc] 37) := ⟨_, rfl⟩
      rw [← hw4, ← hb1'] at hT2 ⊢
      clear hw4 hb1'
      clear hT; have hT := hT2; clear hT2
      have h2 := Lib.hid (h.out.below hT.bel)
      go_upto_region 16 with (first
        | (go_at_call 11; refine (hT.still (hF2.out _ h2.out)).mono ?_; rintro e w5 ⟨⟨rb, R, rfl, hR3⟩, hT2⟩; clear hT; have hT := hT2; clear hT2; replace hR3 := Lib.hid hR3)
        | (go_at_call 22; refine (hT.still (hR.out _ _ _ _ hR3.out)).mono ?_; rintro e w6 ⟨rfl, hT2⟩; clear hT; have hT := hT2; clear hT2)
        | (go_at_call 16; refine (hT.mem (fun B O h hb => hCr.out _ _ _ _ h hb)).mono ?_; rintro e w7 ⟨rfl, hT2⟩; clear hT; have hT := hT2; clear hT2)
        | (go_at_call 19; refine (hT.mem (fun B O h hb => hSt.out _ _ _ _ h hb)).mono ?_; rintro e w8 ⟨rfl, hT2⟩; clear hT; have hT := hT2; clear hT2)
        | (go_at_call 14; refine (hT.mem (fun B O h hb => hK2.out _ _ _ _ h hb)).mono ?_; rintro e w9 ⟨rfl, hT2⟩; clear hT; have hT := hT2; clear hT2))
      have hT2 := hT.new #[.int .i64 xt, .bool false, .bool false] 37
      obtain ⟨b2, hb1'⟩ : ∃ b2, b2 = w9.heap.size := ⟨_, rfl⟩
      obtain ⟨w10, hw4⟩ : ∃ w10, w10 = w9.alloc (.cells #[.int .i64 xt, .bool false, .bool false] 37) := ⟨_, rfl⟩
      rw [← hw4, ← hb1'] at hT2 ⊢
      clear hw4 hb1'
      clear hT; have hT := hT2; clear hT2
      go_upto_region 18 with (first
        | (go_at_call 21; refine (hT.load (fun B O hP hB => mBytes hP hB)).mono ?_; rintro e w11 ⟨v5, rfl, hT2⟩; have hv5 := Lib.hid hT2.fact.2.rb; clear hT; have hT := hT2; clear hT2)
        | (go_at_call 11; refine (hFN.out _ _ hv5.out).mono ?_; rintro e w12 ⟨rb2, R2, rfl, hRR, hb12⟩; have hT2 := hT.addRef hRR hb12; clear hRR hb12; clear hT; have hT := hT2; clear hT2)
        | (go_at_call 24; refine (hT.ref (fun B R hR hB => hLt.out _ _ _ _ hR)).mono ?_; rintro e w13 ⟨rfl, hT2⟩; clear hT; have hT := hT2; clear hT2)
        | (go_at_call 23; refine (hT.ref (fun B R hR hB => hMk.out _ _ _ _ hR)).mono ?_; rintro e w14 ⟨rfl, hT2⟩; clear hT; have hT := hT2; clear hT2))
      obtain ⟨s2, hS⟩ := hT.val
      obtain ⟨vb, ob, cp, rfl⟩ := hS.form
      clear hT
      have hT := hS
      clear hS
      have rc := hT.cell
      go_upto_region 19 with (first
        | (go_at_call 10; refine (hFL2.out _ _ hT.bs.rb).mono ?_; rintro e w15 ⟨mb2, O15, rfl, hP2, hb2⟩; have hT2 := hT.addMem hP2 hb2; clear hP2 hb2; clear hT; have hT := hT2; clear hT2)
        | (go_at_call 14; refine (hT.mem (fun B O h hb => hK3.out _ _ _ _ h hb)).mono ?_; rintro e w16 ⟨rfl, hT2⟩; clear hT; have hT := hT2; clear hT2))
      have hT2 := hT.new #[.int .i64 fx, .bool fi, .bool fc] 37
      obtain ⟨b3, hb1'⟩ : ∃ b3, b3 = w16.heap.size := ⟨_, rfl⟩
      obtain ⟨w17, hw4⟩ : ∃ w17, w17 = w16.alloc (.cells #[.int .i64 fx, .bool fi, .bool fc] 37) := ⟨_, rfl⟩
      rw [← hw4, ← hb1'] at hT2 ⊢
      clear hw4 hb1'
      clear hT; have hT := hT2; clear hT2
      obtain ⟨y1, y2, y3⟩ := (show Blk w17 b1 _ _ from hT.fact.1.1.1.2).c3'
      obtain ⟨z1, z2, z3⟩ := (show Blk w17 b2 _ _ from hT.fact.1.1.2).c3'
      obtain ⟨x1, x2, x3⟩ := (show Blk w17 b3 _ _ from hT.fact.2).c3'
      obtain ⟨ff, hff⟩ : ∃ ff, ff = xt := ⟨_, rfl⟩
      rw [← hff] at z1
      have q1 : (ff == xt) = true := by simp; exact hff
      have q2 : (ff = xt) = True := eq_true hff
      replace hff := Lib.hid hff
      go_wp2
      go_ret
      exact ⟨rfl, hT.bel⟩
end Go.Proofs.Ytcfblcgdjhpdaaa
