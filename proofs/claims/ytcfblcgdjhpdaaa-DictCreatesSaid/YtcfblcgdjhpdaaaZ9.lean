/- Texts merged: D17 D18. -/
import Derived.Test.YtcfblcgdjhpdaaaZ8
import Derived.Laws.Tables
/- 'DictHidden'. -/
namespace Go.Proofs.Ytcfblcgdjhpdaaa
open Go.RowKit
set_option linter.unusedVariables false
set_option linter.unusedSimpArgs false
attribute [local go_sem] cell_set set_set m_undef
attribute [local irreducible] findA kindL chkN chkL crM crV crOk crXt crAt

theorem Uno.addRef {W w w' : World} {mb rb : Nat} {M N : List UInt8} {R : Nat → Prop} {K : Kp} (h : Uno W w mb M K) (hR : RefP w' w.heap.size rb N R) (hb : Below w.heap.size w w') : Two W w' mb rb M N K := by
  obtain ⟨B, O, h1, h2, h3, h4, h5⟩ := h
  refine ⟨B, O, R, h1, Nat.le_trans h2 hb.size, h3.below hb, hR.mono h2, fun k hk hr => ?_, h4.trans (hb.mono (Nat.le_trans h1 h2)), (h5.turn (Turn.of_below hb _)).1, fun k hk => ⟨Nat.lt_of_lt_of_le (h5.2 k hk).1 hb.size, fun hO => ?_⟩⟩
  · have := (h3.lt hk).1; have := (hR.lt hr).2; omega
  · rcases hO with hO | hO
    · exact (h5.2 k hk).2 hO
    · have := (hR.lt hO).2; have := (h5.2 k hk).1; omega
theorem TwoS.addMem {W w w' : World} {mb rb mb2 : Nat} {s : Value} {M N L : List UInt8} {O : Nat → Prop} {K : Kp} (h : TwoS W w mb rb s M N K) (hP : MemP w' w.heap.size mb2 L O) (hb : Below w.heap.size w w') : Uno W w' mb2 L K := by
  refine Uno.make h.two.bel ⟨h.fact, fun k hk => ⟨?_, id⟩⟩ hP hb
  obtain ⟨_, _, _, _, _, _, _, _, _, h⟩ := h
  exact (h.2 k hk).1
def bF (n : Int) : Sem Value := Instr.build 37 #[(0, .int .i64 n)]
theorem bF_of (n : Int) : Instr.build 37 #[(0, .int .i64 n)] = bF n := rfl
theorem bF_run (n : Int) (w : World) : (bF n).run Try.prog w = .ok (.agg #[.int .i64 n, .bool false, .bool false]) w := run_build w 37 _ _ (by kernel_rfl)
attribute [local go_sem high] bF_of
attribute [local go_sem] bF_run
theorem isI_zero : isI 0 := by unfold isI; omega
theorem rLatestQ {w : World} {B rb : Nat} {N : List UInt8} {R : Nat → Prop} (h : RefP w B rb N R) : Calls Try.prog 24 #[.pointer (some ⟨rb, 0, none⟩)] w fun e w' => RefQ w w' B rb N R (.int .i64 (latestL N)) e :=
  (rLatest h).mono fun e w' ⟨he, hb⟩ => ⟨he, R, h.below hb, Turn.of_below hb R⟩
set_option maxRecDepth 100000 in
set_option maxHeartbeats 2000000 in
theorem dictHidden {w : World} (v : Value) (l : List UInt8) (h : Rb w v l) (nm : ByteArray) (_ : nm.size ≤ maxLen) : Calls Try.prog 6 #[v, .string nm] w fun e w' => e = .returned (.bool true) ∧ Below w.heap.size w w' := by
  obtain ⟨ad, cap, rfl⟩ := h.form
  have hA := Lib.hid (fun w9 => wAwake w9)
  by_cases hl : 9000 < l.length
  · clear h
    have t1 : ((9000 : Int) < (l.length : Int)) = True := by simp; omega
    go_enter Try.func6, Try.ntmps6
    go_wp2_with (go_at_call 9; refine (hA.out _).mono ?_; rintro e w1 ⟨rfl, hb1⟩)
    go_ret
    exact ⟨rfl, hb1⟩
  have t1 : ((9000 : Int) < (l.length : Int)) = False := by simp; omega
  by_cases hn : 1000 < nm.size
  · clear h
    have t2 : ((1000 : Int) < (nm.size : Int)) = True := by simp; omega
    go_enter Try.func6, Try.ntmps6
    go_wp2_with (go_at_call 9; refine (hA.out _).mono ?_; rintro e w1 ⟨rfl, hb1⟩)
    go_ret
    exact ⟨rfl, hb1⟩
  have t2 : ((1000 : Int) < (nm.size : Int)) = False := by simp; omega
  have hF1 := fun (w9 : World) (h9 : Rb w9 (.slice ad l.length cap) l) => wFlatR w9 _ l h9
  have hF2 := fun (w9 : World) (h9 : Rb w9 (.slice ad l.length cap) l) => rFlat w9 _ l h9
  unfold FlatQ at hF1
  have hM := flatL_len l
  generalize flatL l = M at *
  have hK := fun (w9 : World) (mb B : Nat) (O : Nat → Prop) (h : MemP w9 B mb M O) (hb : B ≤ w9.heap.size) => kFind h hb nm (by omega)
  have hR := fun (w9 : World) (rb B : Nat) (R : Nat → Prop) (h : RefP w9 B rb M R) => rCheck h
  obtain ⟨s, hs⟩ : ∃ s : List UInt8, nm = ⟨s.toArray⟩ := ⟨nm.data.toList, by simp⟩
  have hCr := fun (w9 : World) (mb B : Nat) (O : Nat → Prop) (h : MemP w9 B mb M O) (hb : B ≤ w9.heap.size) => kCreate h hb s
  have hfind := fun (hok : crOk M s = true) (hc : chkL M = true) => hidden_find hM hok (chkL_end hc) nm
  have hmf := fun (hok : crOk M s = true) (hc : chkL M = true) => made_find (s := nm) hM hok (chkL_end hc) (by rw [← hs]; simp)
  have hmade := fun (hok : crOk M s = true) => (made hM hok).1
  have hcv := fun (hok : crOk M s = true) => (crV_yes hok).1
  have hxt := fun (hok : crOk M s = true) => show isI (crXt M s) ∧ IntKind.i64.wrap (crXt M s + 8) = crXt M s + 8 by
    obtain ⟨h1, h2, h3⟩ := crOk_iff.1 hok
    obtain ⟨a1, a2, a3⟩ := crAt_in M
    have : 0 ≤ crXt M s := by have hx : crXt M s = crAt M + ((bytesL (latestL M) s false false).length : Int) := by unfold crXt; rfl
                              omega
    refine ⟨by unfold isI; omega, by rw [IntKind.wrap_i64]; omega⟩
  have hat : isI (crAt M) := by obtain ⟨a1, a2, a3⟩ := crAt_in M; unfold isI; omega
  rw [← hs] at hCr
  generalize hfa : findA M nm = fa at *
  obtain ⟨fx, fi, fc, fis⟩ := fa
  have hKf : ∀ (N : List UInt8) (A : Int × Bool × Bool × Bool), findA N nm = A → ∀ (w9 : World) (mb B : Nat) (O : Nat → Prop) (h : MemP w9 B mb N O) (hb : B ≤ w9.heap.size), Calls Try.prog 14 #[.pointer (some ⟨mb, 0, none⟩), .string nm] w9 fun e w' => MemQ w9 w' B mb N O (findR A) e :=
    fun N A hA w9 mb B O h hb => by rw [← hA]; exact kFind h hb _ (by omega)
  unfold findR at hK hKf
  dsimp only at hK
  replace h := Lib.hid h
  replace hF1 := Lib.hid hF1
  have hF2' : ∀ w9 : World, Rb w9 (.slice ad l.length cap) l → Calls Try.prog 11 #[.slice ad l.length cap] w9 fun e w' => (∃ rb R, e = .returned (.pointer (some ⟨rb, 0, none⟩)) ∧ RefP w' w9.heap.size rb M R) ∧ Below w9.heap.size w9 w' :=
    fun w9 h9 => (hF2 w9 h9).mono fun e w' ⟨rb, R, h1, h2, h3⟩ => ⟨⟨rb, R, h1, h2⟩, h3⟩
  clear hF2
  have hF2 := Lib.hid hF2'
  clear hF2'
  replace hK := Lib.hid hK
  clear hl hn hs
  rcases hck : chkL M with _ | _
  · rw [chkN_f hck] at hR
    replace hR := Lib.hid hR
    clear hKf hmf hfind hCr hmade hcv hxt hat hck hfa hM
    go_enter Try.func6, Try.ntmps6
    go_upto_region 9 with (first
      | (go_at_call 9; refine (hA.out _).mono ?_; rintro e w1 ⟨rfl, hb1⟩; have h1 := Lib.hid (h.out.below hb1); replace hb1 := Lib.hid hb1)
      | (go_at_call 10; refine (hF1.out _ h1.out).mono ?_; rintro e w2 ⟨mb, O2, rfl, hP2, hb2⟩; have hT := Uno.make hb1.out (Keep.emp _ _) hP2 hb2; clear hP2 hb2)
      | (go_at_call 14; refine (hT.mem (fun B O h hb => hK.out _ _ _ _ h hb)).mono ?_; rintro e w3 ⟨rfl, hT2⟩; clear hT; have hT := hT2; clear hT2))
    have hT2 := hT.new #[.int .i64 fx, .bool fi, .bool fc] 37
    obtain ⟨b1, hb1'⟩ : ∃ b1, b1 = w3.heap.size := ⟨_, rfl⟩
    obtain ⟨w4, hw4⟩ : ∃ w4, w4 = w3.alloc (.cells #[.int .i64 fx, .bool fi, .bool fc] 37) := ⟨_, rfl⟩
    rw [← hw4, ← hb1'] at hT2 ⊢
    clear hw4 hb1'
    clear hT; have hT := hT2; clear hT2
    have h2 := Lib.hid (h.out.below hT.bel)
    go_wp2_with (first
      | (go_at_call 11; refine (hT.still (hF2.out _ h2.out)).mono ?_; rintro e w5 ⟨⟨rb, R, rfl, hR3⟩, hT2⟩; clear hT; have hT := hT2; clear hT2; replace hR3 := Lib.hid hR3)
      | (go_at_call 22; refine (hT.still (hR.out _ _ _ _ hR3.out)).mono ?_; rintro e w6 ⟨rfl, hT2⟩; clear hT; have hT := hT2; clear hT2))
    go_ret
    exact ⟨rfl, hT.bel⟩
  · rw [chkN_t hck] at hR
    replace hR := Lib.hid hR
    rcases hok : crOk M s with _ | _
    · obtain ⟨c1, c2⟩ := crV_no hok
      obtain ⟨t, ht, ht0⟩ : ∃ t : Int, crV M s = .tuple #[.int .i64 0, .int .i64 t] ∧ t ≠ 0 := ⟨_, c1, by (repeat' split) <;> decide⟩
      rw [ht, c2] at hCr
      replace hCr := Lib.hid hCr
      have u1 : (t == 0) = false := by simp; exact ht0
      clear hKf hmf hfind hmade hcv hxt hat hck hfa hM ht c1 c2 ht0 hok
      go_enter Try.func6, Try.ntmps6
      go_upto_region 9 with (first
        | (go_at_call 9; refine (hA.out _).mono ?_; rintro e w1 ⟨rfl, hb1⟩; have h1 := Lib.hid (h.out.below hb1); replace hb1 := Lib.hid hb1)
        | (go_at_call 10; refine (hF1.out _ h1.out).mono ?_; rintro e w2 ⟨mb, O2, rfl, hP2, hb2⟩; have hT := Uno.make hb1.out (Keep.emp _ _) hP2 hb2; clear hP2 hb2)
        | (go_at_call 14; refine (hT.mem (fun B O h hb => hK.out _ _ _ _ h hb)).mono ?_; rintro e w3 ⟨rfl, hT2⟩; clear hT; have hT := hT2; clear hT2))
      have hT2 := hT.new #[.int .i64 fx, .bool fi, .bool fc] 37
      obtain ⟨b1, hb1'⟩ : ∃ b1, b1 = w3.heap.size := ⟨_, rfl⟩
      obtain ⟨w4, hw4⟩ : ∃ w4, w4 = w3.alloc (.cells #[.int .i64 fx, .bool fi, .bool fc] 37) := ⟨_, rfl⟩
      rw [← hw4, ← hb1'] at hT2 ⊢
      clear hw4 hb1'
      clear hT; have hT := hT2; clear hT2
      have h2 := Lib.hid (h.out.below hT.bel)
      go_wp2_with (first
        | (go_at_call 11; refine (hT.still (hF2.out _ h2.out)).mono ?_; rintro e w5 ⟨⟨rb, R, rfl, hR3⟩, hT2⟩; clear hT; have hT := hT2; clear hT2; replace hR3 := Lib.hid hR3)
        | (go_at_call 22; refine (hT.still (hR.out _ _ _ _ hR3.out)).mono ?_; rintro e w6 ⟨rfl, hT2⟩; clear hT; have hT := hT2; clear hT2)
        | (go_at_call 16; refine (hT.mem (fun B O h hb => hCr.out _ _ _ _ h hb)).mono ?_; rintro e w7 ⟨rfl, hT2⟩; clear hT; have hT := hT2; clear hT2))
      go_ret
      exact ⟨rfl, hT.bel⟩
    · obtain ⟨hl2, hlt, hf3⟩ := hfind hok hck
      have hf2 := hmf hok hck
      have hl1 := hmade hok
      obtain ⟨hxi, hxw⟩ := hxt hok
      rw [hcv hok] at hCr
      have hSt := fun (w9 : World) (mb B : Nat) (O : Nat → Prop) (h : MemP w9 B mb (crM M s) O) (hb : B ≤ w9.heap.size) => mSet h hb 0 (crXt M s + 8) isI_zero
      have hdef : setM (crM M s) 0 (crXt M s + 8) = madeM M s := rfl
      rw [hdef] at hSt
      generalize crM M s = M2 at *
      generalize madeM M s = N at *
      generalize crXt M s = xt at *
      have hLt := fun (w9 : World) (rb B : Nat) (R : Nat → Prop) (h : RefP w9 B rb N R) => rLatestQ h
      rw [hlt] at hLt
      generalize crAt M = a at *
      have hMk := fun (w9 : World) (rb B : Nat) (R : Nat → Prop) (h : RefP w9 B rb N R) => rMark h a hat false true
      generalize markM N a false true = N2 at *
      generalize rdOk N a = okk at *
      have hK2 := hKf _ _ hf2
      have hK3 := hKf _ _ hf3
      have hFN := fun (w9 : World) (v : Value) (h9 : Rb w9 v N) => rFlat w9 v N h9
      rw [flatL_id hl1] at hFN
      have hFL2 := fun (w9 : World) (v : Value) (h9 : Rb w9 v N2) => wFlatR w9 v N2 h9
      unfold FlatQ at hFL2
      rw [flatL_id hl2] at hFL2
      dsimp only at hK2 hK3
      replace hCr := Lib.hid hCr
      replace hSt := Lib.hid hSt
      replace hLt := Lib.hid hLt
      replace hMk := Lib.hid hMk
      replace hK2 := Lib.hid hK2
      replace hK3 := Lib.hid hK3
      replace hFN := Lib.hid hFN
      replace hFL2 := Lib.hid hFL2
      clear hKf hmf hfind hmade hcv hxt hat hck hfa hM hdef hok hf2 hf3 hl1 hl2 hlt hxi
      go_enter Try.func6, Try.ntmps6
      go_upto_region 9 with (first
        | (go_at_call 9; refine (hA.out _).mono ?_; rintro e w1 ⟨rfl, hb1⟩; have h1 := Lib.hid (h.out.below hb1); replace hb1 := Lib.hid hb1)
        | (go_at_call 10; refine (hF1.out _ h1.out).mono ?_; rintro e w2 ⟨mb, O2, rfl, hP2, hb2⟩; have hT := Uno.make hb1.out (Keep.emp _ _) hP2 hb2; clear hP2 hb2)
        | (go_at_call 14; refine (hT.mem (fun B O h hb => hK.out _ _ _ _ h hb)).mono ?_; rintro e w3 ⟨rfl, hT2⟩; clear hT; have hT := hT2; clear hT2))
      have hT2 := hT.new #[.int .i64 fx, .bool fi, .bool fc] 37
      obtain ⟨b1, hb1'⟩ : ∃ b1, b1 = w3.heap.size := ⟨_, rfl⟩
      obtain ⟨w4, hw4⟩ : ∃ w4, w4 = w3.alloc (.cells #[.int .i64 fx, .bool fi, .bool fc] 37) := ⟨_, rfl⟩
      rw [← hw4, ← hb1'] at hT2 ⊢
      clear hw4 hb1'
      clear hT; have hT := hT2; clear hT2
      have h2 := Lib.hid (h.out.below hT.bel)
      go_upto_region 16 with (first
        | (go_at_call 11; refine (hT.still (hF2.out _ h2.out)).mono ?_; rintro e w5 ⟨⟨rb, R, rfl, hR3⟩, hT2⟩; clear hT; have hT := hT2; clear hT2; replace hR3 := Lib.hid hR3)
        | (go_at_call 22; refine (hT.still (hR.out _ _ _ _ hR3.out)).mono ?_; rintro e w6 ⟨rfl, hT2⟩; clear hT; have hT := hT2; clear hT2)
        | (go_at_call 16; refine (hT.mem (fun B O h hb => hCr.out _ _ _ _ h hb)).mono ?_; rintro e w7 ⟨rfl, hT2⟩; clear hT; have hT := hT2; clear hT2)
        | (go_at_call 19; refine (hT.mem (fun B O h hb => hSt.out _ _ _ _ h hb)).mono ?_; rintro e w8 ⟨rfl, hT2⟩; clear hT; have hT := hT2; clear hT2)
        | (go_at_call 14; refine (hT.mem (fun B O h hb => hK2.out _ _ _ _ h hb)).mono ?_; rintro e w9 ⟨rfl, hT2⟩; clear hT; have hT := hT2; clear hT2))
      have hT2 := hT.new #[.int .i64 xt, .bool false, .bool false] 37
      obtain ⟨b2, hb1'⟩ : ∃ b2, b2 = w9.heap.size := ⟨_, rfl⟩
      obtain ⟨w10, hw4⟩ : ∃ w10, w10 = w9.alloc (.cells #[.int .i64 xt, .bool false, .bool false] 37) := ⟨_, rfl⟩
      rw [← hw4, ← hb1'] at hT2 ⊢
      clear hw4 hb1'
      clear hT; have hT := hT2; clear hT2
      go_upto_region 18 with (first
        | (go_at_call 21; refine (hT.load (fun B O hP hB => mBytes hP hB)).mono ?_; rintro e w11 ⟨v5, rfl, hT2⟩; have hv5 := Lib.hid hT2.fact.2.rb; clear hT; have hT := hT2; clear hT2)
        | (go_at_call 11; refine (hFN.out _ _ hv5.out).mono ?_; rintro e w12 ⟨rb2, R2, rfl, hRR, hb12⟩; have hT2 := hT.addRef hRR hb12; clear hRR hb12; clear hT; have hT := hT2; clear hT2)
        | (go_at_call 24; refine (hT.ref (fun B R hR hB => hLt.out _ _ _ _ hR)).mono ?_; rintro e w13 ⟨rfl, hT2⟩; clear hT; have hT := hT2; clear hT2)
        | (go_at_call 23; refine (hT.ref (fun B R hR hB => hMk.out _ _ _ _ hR)).mono ?_; rintro e w14 ⟨rfl, hT2⟩; clear hT; have hT := hT2; clear hT2))
      obtain ⟨s2, hS⟩ := hT.val
      obtain ⟨vb, ob, cp, rfl⟩ := hS.form
      clear hT
      have hT := hS
      clear hS
      have rc := hT.cell
      go_upto_region 19 with (first
        | (go_at_call 10; refine (hFL2.out _ _ hT.bs.rb).mono ?_; rintro e w15 ⟨mb2, O15, rfl, hP2, hb2⟩; have hT2 := hT.addMem hP2 hb2; clear hP2 hb2; clear hT; have hT := hT2; clear hT2)
        | (go_at_call 14; refine (hT.mem (fun B O h hb => hK3.out _ _ _ _ h hb)).mono ?_; rintro e w16 ⟨rfl, hT2⟩; clear hT; have hT := hT2; clear hT2))
      have hT2 := hT.new #[.int .i64 fx, .bool fi, .bool fc] 37
      obtain ⟨b3, hb1'⟩ : ∃ b3, b3 = w16.heap.size := ⟨_, rfl⟩
      obtain ⟨w17, hw4⟩ : ∃ w17, w17 = w16.alloc (.cells #[.int .i64 fx, .bool fi, .bool fc] 37) := ⟨_, rfl⟩
      rw [← hw4, ← hb1'] at hT2 ⊢
      clear hw4 hb1'
      clear hT; have hT := hT2; clear hT2
      obtain ⟨y1, y2, y3⟩ := (show Blk w17 b1 _ _ from hT.fact.1.1.1.2).c3'
      obtain ⟨z1, z2, z3⟩ := (show Blk w17 b2 _ _ from hT.fact.1.1.2).c3'
      obtain ⟨x1, x2, x3⟩ := (show Blk w17 b3 _ _ from hT.fact.2).c3'
      obtain ⟨ff, hff⟩ : ∃ ff, ff = xt := ⟨_, rfl⟩
      rw [← hff] at z1
      have q1 : (ff == xt) = true := by simp; exact hff
      have q2 : (ff = xt) = True := eq_true hff
      replace hff := Lib.hid hff
      go_wp2
      go_ret
      exact ⟨rfl, hT.bel⟩
end Go.Proofs.Ytcfblcgdjhpdaaa

/- 'DictWords'. -/
namespace Go.Proofs.Ytcfblcgdjhpdaaa
open Go.RowKit Go.Shelf
set_option linter.unusedVariables false
set_option linter.unusedSimpArgs false
attribute [local go_sem] Oper.semAt_some cell_set set_set m_undef
attribute [local irreducible] wordsL latestL rdOk rdV linkL nameL immL hidL rdXt loadL hereL hcs hc

/-- The law's cells: how often to stop, the result, the memory that is ranged over, the count. -/
def KW (s bx bk mb : Nat) (n k : Int) : Kp := (((Kp.emp.and (.blk s #[.int .i64 n] 3)).and (.blk (s + 1) #[.bool false] 4)).and (.blk bx #[.pointer (some ⟨mb, 0, none⟩)] 24)).and (.blk bk #[.int .i64 k] 3)
theorem KW.lt {s bx bk mb : Nat} {n k : Int} (h1 : s + 1 < bx) (h2 : bx < bk) {j : Nat} (hj : (KW s bx bk mb n k).S j) : j ≤ bk := by
  rcases hj with (((hj | hj) | hj) | hj) | hj
  · exact hj.elim
  · have : j = s := hj
    omega
  · have : j = s + 1 := hj
    omega
  · have : j = bx := hj
    omega
  · have : j = bk := hj
    omega
theorem KW.cells {s bx bk mb : Nat} {n k : Int} {w : World} (h : (KW s bx bk mb n k).P w) :
    Blk w s #[.int .i64 n] 3 ∧ Blk w (s + 1) #[.bool false] 4 ∧ Blk w bx #[.pointer (some ⟨mb, 0, none⟩)] 24 ∧ Blk w bk #[.int .i64 k] 3 := ⟨h.1.1.1.2, h.1.1.2, h.1.2, h.2⟩
theorem KW.store {base mb s bx bk : Nat} {M : List UInt8} {T : World → Kp → Prop} {w : World} {K : Kp} {n k : Int} (S : StM base mb M T) (h : T w ((KW s bx bk mb n k).and K)) (hr : base ≤ bk) (h1 : s + 1 < bx) (h2 : bx < bk) (hK : ¬ K.S bk) (k' : Int) :
    T (w.setCell ⟨bk, 0, none⟩ (.int .i64 k')) ((KW s bx bk mb n k').and K) := by
  have a1 : T w (((((Kp.emp.and (.blk s #[.int .i64 n] 3)).and (.blk (s + 1) #[.bool false] 4)).and (.blk bx #[.pointer (some ⟨mb, 0, none⟩)] 24)).and K).and (.blk bk #[.int .i64 k] 3)) :=
    S.keep h fun O h => (h.left.left.and h.right).and h.left.right
  have hn : ¬ ((((Kp.emp.and (.blk s #[.int .i64 n] 3)).and (.blk (s + 1) #[.bool false] 4)).and (.blk bx #[.pointer (some ⟨mb, 0, none⟩)] 24)).and K).S bk := fun hj => by
    rcases hj with (((hj | hj) | hj) | hj) | hj
    · exact hj
    · have : bk = s := hj
      omega
    · have : bk = s + 1 := hj
      omega
    · have : bk = bx := hj
      omega
    · exact hK hj
  exact S.keep (S.set a1 hr hn 0 (.int .i64 k')) fun O h => (h.left.left.and h.right).and h.left.right
theorem KW.res {base mb s bx bk : Nat} {M : List UInt8} {T : World → Kp → Prop} {w : World} {K : Kp} {n k : Int} (S : StM base mb M T) (h : T w ((KW s bx bk mb n k).and K)) (hr : base ≤ s + 1) (h1 : s + 1 < bx) (h2 : bx < bk) (hK : ¬ K.S (s + 1)) (b : Bool) :
    T (w.setCell ⟨s + 1, 0, none⟩ (.bool b)) (K.and (.blk (s + 1) #[.bool b] 4)) := by
  have a1 : T w (K.and (.blk (s + 1) #[.bool false] 4)) := S.keep h fun O h => h.right.and h.left.left.left.right
  exact S.set a1 hr hK 0 (.bool b)
theorem stoodH : Try.prog.stoodInHeld 34 = false := by kernel_rfl
theorem guardH : Try.prog.eqGuardType Try.prog.depth 34 = false := by kernel_rfl
theorem neqH (a b c : Int) (s : ByteArray) (d e : Bool) (w : World) : (binOp .neq 34 (.agg #[.int .i64 a, .int .i64 b, .string s, .bool d, .bool e, .int .i64 c]) (.agg #[.int .i64 a, .int .i64 b, .string s, .bool d, .bool e, .int .i64 c])).run Try.prog w = .ok (.bool false) w := by
  have h1 := stoodH
  simp [go_sem, h1]
theorem grdH (op : BinOp) (x y : Operand) (v u : Array Value) (w : World) : (eqGuard op 34 x y (.agg v) (.agg u)).run Try.prog w = .ok () w := run_eqGuard_agg w op 34 x y _ _ guardH
attribute [local go_sem high] neqH grdH
theorem funcNil (b : Nat) (w : World) : (binOp .eql 29 (.func (.func 28) #[] #[.pointer (some ⟨b, 0, none⟩)]) Value.nilFunc).run Try.prog w = .ok (.bool false) w := by
  first | kernel_rfl | (simp [go_sem]; done)
theorem inBlock_both {id : Nat} {Q : Exit → Act → World → Prop} {e : Exit} {a : Act} {w : World} (he : e = .normal ∨ e = .exit id) (h : Q .normal a w) : Exit.inBlock id Q e a w := by
  rcases he with rfl | rfl
  · exact h
  · show (if id = id then _ else _)
    rw [if_pos rfl]; exact h
theorem dictWords_far {w : World} (v : Value) (l : List UInt8) (h : Rb w v l) (n : Int) (hl : 9000 < l.length) : Calls Try.prog 3 #[v, .int .i64 n] w fun e w' => e = .returned (.bool true) ∧ Below w.heap.size w w' := by
  obtain ⟨ad, cap, rfl⟩ := h.form
  have hA := Lib.hid (fun w9 => wAwake w9)
  have t1 : ((9000 : Int) < (l.length : Int)) = True := by simp; omega
  clear h
  go_enter Try.func3, Try.ntmps3
  go_wp2_with (go_at_call 9; refine (hA.out _).mono ?_; rintro e w1 ⟨rfl, hb1⟩; have hB1 : Blk w1 (w.heap.size + 1) #[.bool false] 4 := (by repeat (first | (with_reducible assumption) | (with_reducible refine Blk.new' ?_; first | rfl | (simp; done) | (simp; omega)) | (with_reducible apply Blk.set01) | (with_reducible apply Blk.set0) | (with_reducible apply Blk.set1) | (with_reducible apply Blk.setOne) | (with_reducible refine Blk.set_other ?_ (by omega) _ _) | (with_reducible apply Blk.alloc) | (with_reducible apply Blk.drew) | (with_reducible refine Blk.below ?_ (by with_reducible assumption)))); obtain ⟨y1, y2, y3⟩ := hB1.one)
  refine ⟨rfl, .bool true, ret1_blk (w.heap.size + 1) (.bool true) 4 (by repeat (first | (with_reducible assumption) | (with_reducible refine Blk.new' ?_; first | rfl | (simp; done) | (simp; omega)) | (with_reducible apply Blk.set01) | (with_reducible apply Blk.set0) | (with_reducible apply Blk.set1) | (with_reducible apply Blk.setOne) | (with_reducible refine Blk.set_other ?_ (by omega) _ _) | (with_reducible apply Blk.alloc) | (with_reducible apply Blk.drew) | (with_reducible refine Blk.below ?_ (by with_reducible assumption)))) (fun w' c => by simp [results, Try.results3, go_sem, c]), rfl, by repeat (first | (with_reducible exact Below.refl _ _) | (with_reducible assumption) | (with_reducible apply bel_alloc) | (with_reducible apply bel_drew) | (with_reducible refine bel_set ?_ (by first | exact Nat.le_refl _ | (simp; done) | omega | (simp; omega)) _) | (with_reducible refine bel_trans ?_ (by with_reducible assumption)))⟩
set_option maxRecDepth 100000 in
set_option maxHeartbeats 4000000 in
theorem dictWords {w : World} (v : Value) (l : List UInt8) (h : Rb w v l) (n : Int) (_ : isI n) : Calls Try.prog 3 #[v, .int .i64 n] w fun e w' => e = .returned (.bool true) ∧ Below w.heap.size w w' := by
  by_cases hl : 9000 < l.length
  · exact dictWords_far v l h n hl
  obtain ⟨ad, cap, rfl⟩ := h.form
  have hA := Lib.hid (fun w9 => wAwake w9)
  have t1 : ((9000 : Int) < (l.length : Int)) = False := by simp; omega
  have hF1 := fun (w9 : World) (h9 : Rb w9 (.slice ad l.length cap) l) => wFlatR w9 _ l h9
  have hF2 := fun (w9 : World) (h9 : Rb w9 (.slice ad l.length cap) l) => rFlat w9 _ l h9
  unfold FlatQ at hF1
  generalize flatL l = M at *
  replace h := Lib.hid h
  replace hF1 := Lib.hid hF1
  replace hF2 := Lib.hid hF2
  clear hl
  refine (callsIn_wide (n := 3)).1 ?_
  refine callsIn_of_wp_marks Try.func3 rfl trivial ?_ rfl
  simp only [Try.ntmps3, List.size_toArray, List.length_cons, List.length_nil, Nat.reduceAdd, Nat.reduceSub, Array.replicate_succ, Array.replicate_zero, List.push_toArray, List.append_toArray, List.nil_append, List.cons_append]
  gi_wp2
  refine ⟨trivial, ?_⟩
  gi_at_call 9
  refine (callsIn_wide.2 (hA.out _)).mono ?_
  rintro e w1 ⟨rfl, hb1⟩
  have hB0 : Blk w1 w.heap.size #[.int .i64 n] 3 := (by repeat (first | (with_reducible assumption) | (with_reducible refine Blk.new' ?_; first | rfl | (simp; done) | (simp; omega)) | (with_reducible apply Blk.set01) | (with_reducible apply Blk.set0) | (with_reducible apply Blk.set1) | (with_reducible apply Blk.setOne) | (with_reducible refine Blk.set_other ?_ (by omega) _ _) | (with_reducible apply Blk.alloc) | (with_reducible apply Blk.drew) | (with_reducible refine Blk.below ?_ (by with_reducible assumption))))
  have hB1 : Blk w1 (w.heap.size + 1) #[.bool false] 4 := (by repeat (first | (with_reducible assumption) | (with_reducible refine Blk.new' ?_; first | rfl | (simp; done) | (simp; omega)) | (with_reducible apply Blk.set01) | (with_reducible apply Blk.set0) | (with_reducible apply Blk.set1) | (with_reducible apply Blk.setOne) | (with_reducible refine Blk.set_other ?_ (by omega) _ _) | (with_reducible apply Blk.alloc) | (with_reducible apply Blk.drew) | (with_reducible refine Blk.below ?_ (by with_reducible assumption))))
  have hbw : Below w.heap.size w w1 := (by repeat (first | (with_reducible exact Below.refl _ _) | (with_reducible assumption) | (with_reducible apply bel_alloc) | (with_reducible apply bel_drew) | (with_reducible refine bel_set ?_ (by first | exact Nat.le_refl _ | (simp; done) | omega | (simp; omega)) _) | (with_reducible refine bel_trans ?_ (by with_reducible assumption))))
  have hs1 : w.heap.size + 1 < w1.heap.size := hB1.lt
  have h1 := Lib.hid (h.out.below hbw)
  have hKa : Keep w1 (fun _ => False) ((Kp.emp.and (.blk w.heap.size #[.int .i64 n] 3)).and (.blk (w.heap.size + 1) #[.bool false] 4)) := ((Keep.emp _ _).and (Keep.blk hB0 (fun h => h))).and (Keep.blk hB1 (fun h => h))
  clear hb1 hB0 hB1
  replace hKa := Lib.hid hKa
  replace hbw := Lib.hid hbw
  gi_wp2
  refine ⟨trivial, ?_⟩
  gi_at_call 10
  refine (callsIn_wide.2 (hF1.out _ h1.out)).mono ?_
  rintro e w2 ⟨mb, O2, rfl, hP2, hb2⟩
  have hU := Uno.make hbw.out hKa.out hP2 hb2
  have hs2 : w.heap.size + 1 < w2.heap.size := Nat.lt_of_lt_of_le hs1 hb2.size
  have h2 := Lib.hid (h.out.below hU.bel)
  clear hP2 hb2 hs1
  replace hU := Lib.hid hU
  gi_wp2
  refine ⟨trivial, ?_⟩
  gi_at_call 11
  refine (callsIn_wide.2 (hF2.out _ h2.out)).mono ?_
  rintro e w3 ⟨rb, R3, rfl, hR3, hb3⟩
  have hT := hU.out.addRef hR3 hb3
  have hs3 : w.heap.size + 1 < w3.heap.size := Nat.lt_of_lt_of_le hs2 hb3.size
  clear hR3 hb3 hs2 hU
  gi_wp2
  refine ⟨trivial, ?_⟩
  gi_at_call 12
  refine (callsIn_wide.2 (wWords _ mb)).mono ?_
  rintro e w4 ⟨rfl, hw4⟩
  have hT2 := hT.new #[.pointer (some ⟨mb, 0, none⟩)] 24
  obtain ⟨bx, hbx⟩ : ∃ bx, bx = w3.heap.size := ⟨_, rfl⟩
  rw [← hw4, ← hbx] at hT2
  rw [← hbx] at hs3 ⊢
  have hs4 : w4.heap.size = bx + 1 := by rw [hw4, hbx]; simp
  clear hw4 hbx hT
  have hT := hT2
  clear hT2
  have hnil := funcNil bx
  gi_wp2
  have hT2 := hT.new #[.int .i64 0] 3
  rw [hs4] at hT2
  obtain ⟨bk, hbk⟩ : ∃ bk, bk = bx + 1 := ⟨_, rfl⟩
  obtain ⟨W, hW⟩ : ∃ W, W = w4.alloc (.cells #[.int .i64 0] 3) := ⟨_, rfl⟩
  rw [← hW, ← hbk] at hT2 ⊢
  have hsW : W.heap.size = bk + 1 := by rw [hW, hbk]; simp [hs4]
  have hT : Two w W mb rb M M (KW w.heap.size bx bk mb n 0) := hT2
  have hxk : bx < bk := by omega
  clear hT2 hW hbk hs4
  have hsb : w.heap.size ≤ bk := by omega
  refine wpIn_mono (Q := fun e a' W' => (e = .normal ∨ e = .exit 0) ∧ ∃ (k : Int) (D : Nat), bk < D ∧ a' = { tmps := #[.slice ad l.length cap, .int .i64 n, undef, .pointer (some ⟨w.heap.size, 0, none⟩), .pointer (some ⟨w.heap.size + 1, 0, none⟩), .pointer (some ⟨mb, 0, none⟩), .pointer (some ⟨rb, 0, none⟩), .func (.func 28) #[] #[.pointer (some ⟨bx, 0, none⟩)], .pointer (some ⟨bk, 0, none⟩), undef, undef, .bool true, .bool false, .slice ad l.length cap, .int .i64 (l.length : Int), .bool false, .slice ad l.length cap, .pointer (some ⟨mb, 0, none⟩), .slice ad l.length cap, .pointer (some ⟨rb, 0, none⟩), .pointer (some ⟨mb, 0, none⟩), .func (.func 28) #[] #[.pointer (some ⟨bx, 0, none⟩)], .func (.func 28) #[] #[.pointer (some ⟨bx, 0, none⟩)], .bool false, .func (.func 28) #[] #[.pointer (some ⟨bx, 0, none⟩)], undef, undef, undef, undef, undef, undef, undef, undef, undef, undef, undef, undef, undef, undef, undef, undef, undef, undef, undef, undef, undef, undef, undef, undef, undef, undef, undef, undef], defers := [{ target := .collected D, args := #[] }] } ∧ Two w W' mb rb M M ((KW w.heap.size bx bk mb n k).and (.obj D (.deferred (some []))))) ?_ ?_
  · refine wpIn_rangeFunc_T (α := Int) (β := Unit) rfl (by omega) (gf := 28) (lb := #[.pointer (some ⟨bx, 0, none⟩)]) rfl trivial (enters_of Try.func28 (by kernel_rfl) rfl) (T := fun w' K => Two w w' mb rb M M K) Two.st (words_in (3 - 1) (by omega) Two.st bx) (fun _ => rfl)
      (fun k => KW w.heap.size bx bk mb n (k : Int)) (fun k j hj => Two.st.slt hT hj) (fun K L h => h.and) (fun k w hw => (KW.cells hw).2.2.1)
      (fun c k => (KW w.heap.size bx bk mb n ((k + 1 : Nat) : Int)).and (.pure (c = .exit 0))) (fun c k j hj => by
        rcases hj with hj | hj
        · exact Two.st.slt hT hj
        · exact hj.elim) hT
      (fun x y => { tmps := #[.slice ad l.length cap, .int .i64 n, undef, .pointer (some ⟨w.heap.size, 0, none⟩), .pointer (some ⟨w.heap.size + 1, 0, none⟩), .pointer (some ⟨mb, 0, none⟩), .pointer (some ⟨rb, 0, none⟩), .func (.func 28) #[] #[.pointer (some ⟨bx, 0, none⟩)], .pointer (some ⟨bk, 0, none⟩), undef, undef, .bool true, .bool false, .slice ad l.length cap, .int .i64 (l.length : Int), .bool false, .slice ad l.length cap, .pointer (some ⟨mb, 0, none⟩), .slice ad l.length cap, .pointer (some ⟨rb, 0, none⟩), .pointer (some ⟨mb, 0, none⟩), .func (.func 28) #[] #[.pointer (some ⟨bx, 0, none⟩)], .func (.func 28) #[] #[.pointer (some ⟨bx, 0, none⟩)], .bool false, .func (.func 28) #[] #[.pointer (some ⟨bx, 0, none⟩)], rdV M x, undef, undef, undef, undef, undef, undef, undef, undef, undef, undef, undef, undef, undef, undef, undef, undef, undef, undef, undef, undef, undef, undef, undef, undef, undef, undef, undef], defers := [] }) (fun k x y => KW w.heap.size bx bk mb n (k : Int))
      ?assign ?body ?done ?stop
    case assign =>
      intro lo k x K W' hx hK hs hT
      gi_wp2
      exact ⟨(), (by first | rfl | (simp; done)), fun j hj => .inl (by have := KW.lt hs3 hxk hj; omega), hT⟩
    case body =>
      intro lo k x y K W' hx hK hT
      have hlen := wordsL_len M
      have hk8 := (List.getElem?_eq_some_iff.1 hx).1
      have hKk : ¬ K.S bk := fun hj => by have := hK bk hj; omega
      obtain ⟨f1, f2, f3, f4⟩ := KW.cells (Two.fact hT).1
      have c1 := f1.cell 0
      have c2 := f4.cell 0
      have c3 := f4.frozen 0
      obtain ⟨k1, hk1⟩ : ∃ k1 : Int, k1 = ((k + 1 : Nat) : Int) := ⟨_, rfl⟩
      have wq : IntKind.i64.wrap ((k : Int) + 1) = k1 := by rw [IntKind.wrap_i64]; omega
      have hT' := KW.store Two.st hT hsb hs3 hxk hKk k1
      rw [hk1] at hT'
      replace hT' := Lib.hid hT'
      replace hk1 := Lib.hid hk1
      clear hT hx hK hKk f1 f2 f3 f4 hlen hk8
      by_cases t : n ≤ k1
      · have t2 : (n ≤ k1) = True := eq_true t
        clear t
        gi_wp2
        rw [hk1.out]
        exact Two.keep hT'.out fun O h => (h.left.and (Keep.pure rfl)).and h.right
      · have t2 : (n ≤ k1) = False := eq_false t
        clear t
        gi_wp2
        rw [hk1.out]
        exact hT'.out
    case done =>
      intro D W' hD hT
      exact ⟨.inl rfl, _, D, by omega, rfl, hT⟩
    case stop =>
      intro D c k x W' hx hD hT
      obtain ⟨⟨_, rfl⟩, _⟩ := Two.fact hT
      gi_wp2
      first | exact ⟨.inr rfl, _, D, by omega, rfl, Two.keep hT fun O h => h.left.left.and h.right⟩ | exact ⟨_, D, by omega, rfl, Two.keep hT fun O h => h.left.left.and h.right⟩ | go_show
  · rintro e a' W' ⟨he, k, D, hD, rfl, hT⟩
    refine inBlock_both he ?_
    clear he
    gi_wp2
    refine ⟨trivial, ?_⟩
    gi_at_call 13
    refine (callsIn_wide.2 (Two.refX hT (fun B R hR hB => rWords hR) (fun x w' h => vsN_new h))).mono ?_
    rintro e w5 ⟨v, rfl, hT2⟩
    obtain ⟨av, cv, rfl, hcv⟩ := (show Vs w5 0 6 v (wordsL M).length (hcs M (wordsL M)) from hT2.fact.2.1).form
    obtain ⟨N5, hN5⟩ : ∃ N5, N5 = W'.heap.size := ⟨_, rfl⟩
    rw [← hN5] at hT2
    have hD5 : D < N5 := by rw [hN5]; exact Two.st.slt hT (.inr rfl)
    have hkl : bk < w5.heap.size := Two.st.slt hT2 (.inl (.inl (.inr rfl)))
    have hbkc : w5.cell? ⟨bk, 0, none⟩ = some (.int .i64 k) := (KW.cells hT2.fact.1.1).2.2.2.cell 0
    have hbkf := (show Blk w5 bk _ _ from (KW.cells hT2.fact.1.1).2.2.2).frozen 0
    have hbw5 : D < w5.heap.size := Two.st.slt hT2 (.inl (.inr rfl))
    have hvN := (show (Kp.vsN N5 6 (.slice av (wordsL M).length cv) (wordsL M).length (hcs M (wordsL M))).P w5 from hT2.fact.2)
    have hT2' : Two w w5 mb rb M M ((KW w.heap.size bx bk mb n k).and ((Kp.obj D (.deferred (some []))).and (.vsN N5 6 (.slice av (wordsL M).length cv) (wordsL M).length (hcs M (wordsL M))))) := hT2.keep fun O h => h.left.left.and (h.left.right.and h.right)
    have hT3 := (KW.store Two.st hT2' hsb hs3 hxk (fun hj => by
      rcases hj with hj | hj
      · have : bk = D := hj
        omega
      · have := vsN_new hvN bk hj
        omega) 0).new #[.slice av (wordsL M).length cv] 31
    rw [World.size_setCell] at hT3
    obtain ⟨bw, hbw⟩ : ∃ bw, bw = w5.heap.size := ⟨_, rfl⟩
    have hkl2 : D < bw := by omega
    have hkl3 : bk < bw := by omega
    obtain ⟨w7, hw7⟩ : ∃ w7, w7 = (w5.setCell ⟨bk, 0, none⟩ (.int .i64 0)).alloc (.cells #[.slice av (wordsL M).length cv] 31) := ⟨_, rfl⟩
    have hs7 : w7.heap.size = bw + 1 := by rw [hw7, hbw]; simp
    have hT5 : Two w w7 mb rb M M ((KW w.heap.size bx bk mb n 0).and (((Kp.obj D (.deferred (some []))).and (.vsN N5 6 (.slice av (wordsL M).length cv) (wordsL M).length (hcs M (wordsL M)))).and (.blk bw #[.slice av (wordsL M).length cv] 31))) := by
      rw [hw7, hbw]
      exact hT3.keep fun O h => h.left.left.and (h.left.right.and h.right)
    have hrS : ∀ j, j < N5 → j < bw → j ≠ D → ¬ (((Kp.obj D (.deferred (some []))).and (.vsN N5 6 (.slice av (wordsL M).length cv) (wordsL M).length (hcs M (wordsL M)))).and (.blk bw #[.slice av (wordsL M).length cv] 31)).S j := fun j h1 h3 h2 hj => by
      rcases hj with (hj | hj) | hj
      · exact h2 hj
      · have := vsN_new hvN j hj
        omega
      · have e1 : j = bw := hj
        omega
    clear hT hT2 hT3 hT2'
    gi_wp2
    rw [← hbw, ← hw7]
    clear hw7 hbkc hbkf hcv hkl hN5 hbw hbw5 hvN
    obtain ⟨RS, hRS⟩ : ∃ RS : Kp, RS = (((Kp.obj D (.deferred (some []))).and (.vsN N5 6 (.slice av (wordsL M).length cv) (wordsL M).length (hcs M (wordsL M)))).and (.blk bw #[.slice av (wordsL M).length cv] 31)) := ⟨_, rfl⟩
    rw [← hRS] at hT5 hrS
    replace hRS := Lib.hid hRS
    refine wpIn_rangeFunc_T (α := Int) (β := Nat) rfl (by omega) (gf := 28) (lb := #[.pointer (some ⟨bx, 0, none⟩)]) rfl trivial (enters_of Try.func28 (by kernel_rfl) rfl) (T := fun w' K => Two w w' mb rb M M K) Two.st (words_in (3 - 1) (by omega) Two.st bx) (fun _ => rfl)
      (fun k => (KW w.heap.size bx bk mb n (k : Int)).and RS) (fun k j hj => Two.st.slt hT5 hj) (fun K L h => h.and) (fun k w hw => (KW.cells hw.1).2.2.1)
      (fun c k => Kp.pure False) (fun c k j hj => hj.elim) hT5
      (fun x y => { tmps := #[.slice ad l.length cap, .int .i64 n, undef, .pointer (some ⟨w.heap.size, 0, none⟩), .pointer (some ⟨w.heap.size + 1, 0, none⟩), .pointer (some ⟨mb, 0, none⟩), .pointer (some ⟨rb, 0, none⟩), .func (.func 28) #[] #[.pointer (some ⟨bx, 0, none⟩)], .pointer (some ⟨bk, 0, none⟩), .pointer (some ⟨bw, 0, none⟩), .pointer (some ⟨y, 0, none⟩), .bool true, .bool false, .slice ad l.length cap, .int .i64 (l.length : Int), .bool false, .slice ad l.length cap, .pointer (some ⟨mb, 0, none⟩), .slice ad l.length cap, .pointer (some ⟨rb, 0, none⟩), .pointer (some ⟨mb, 0, none⟩), .func (.func 28) #[] #[.pointer (some ⟨bx, 0, none⟩)], .func (.func 28) #[] #[.pointer (some ⟨bx, 0, none⟩)], .bool false, .func (.func 28) #[] #[.pointer (some ⟨bx, 0, none⟩)], undef, undef, undef, undef, undef, undef, .pointer (some ⟨rb, 0, none⟩), .slice av (wordsL M).length cv, .func (.func 28) #[] #[.pointer (some ⟨bx, 0, none⟩)], rdV M x, undef, undef, undef, undef, undef, undef, undef, undef, undef, undef, undef, undef, undef, undef, undef, undef, undef, undef], defers := [] }) (fun k x y => (((KW w.heap.size bx bk mb n (k : Int)).and RS).and (.pure (bk < y))).and (.blk y #[.int .i64 x, .int .i64 (linkL M x), .string ⟨(nameL M x).toArray⟩, .bool (immL M x), .bool (hidL M x), .int .i64 (rdXt M x)] 34))
      ?assign2 ?body2 ?done2 ?stop2
    case assign2 =>
      intro lo k x K W' hx hK hs hT
      have hV := rdV_ok (wordsL_ok hx)
      have hyl : bk < W'.heap.size := Two.st.slt hT (.inl (.inl (.inr rfl)))
      have hN := Two.new hT #[.int .i64 x, .int .i64 (linkL M x), .string ⟨(nameL M x).toArray⟩, .bool (immL M x), .bool (hidL M x), .int .i64 (rdXt M x)] 34
      rw [hV]
      generalize rdXt M x = X at *
      generalize linkL M x = Y at *
      generalize immL M x = I at *
      generalize hidL M x = Dd at *
      generalize (⟨(nameL M x).toArray⟩ : ByteArray) = H at *
      have hN' := Lib.hid hN
      clear hN hV hT
      gi_wp2
      exact ⟨W'.heap.size, rfl, fun j hj => by
        rcases hj with (hj | hj) | hj
        · exact .inl (Two.st.slt hT5 hj)
        · exact hj.elim
        · have : j = W'.heap.size := hj
          omega, hN'.out.keep fun O h => ((h.left.left.and (Keep.pure hyl)).and h.right).and h.left.right⟩
    case body2 =>
      intro lo k x y K W' hx hK hT
      have hV := rdV_ok (wordsL_ok hx)
      have hk8 := (List.getElem?_eq_some_iff.1 hx).1
      have hln := wordsL_len M
      obtain ⟨⟨⟨hKW, hR⟩, hyl⟩, hbl⟩ := (Two.fact hT).1
      replace hyl : bk < y := hyl
      rw [hRS.out] at hR
      obtain ⟨f1, f2, f3, f4⟩ := KW.cells hKW
      obtain ⟨bv, o, cp, e⟩ := (show Vs W' 0 6 (.slice av (wordsL M).length cv) (wordsL M).length (hcs M (wordsL M)) from hR.1.2.1).some_of (by omega)
      cases e
      have zz := fun (i : Nat) (u : Value) (hu : (hc M x)[i]? = some u) => (show Vs W'.drew 0 6 (.slice (some ⟨bv, o, none⟩) (wordsL M).length cv) (wordsL M).length (hcs M (wordsL M)) from hR.1.2.1).cell (k * 6 + i) u (hcs_at M _ k i x u hx hu)
      have z1 : W'.drew.cell? ⟨bv, o + k * 6, none⟩ = some (.int .i64 x) := zz 0 _ (by unfold hc; rfl)
      have z2 : W'.drew.cell? ⟨bv, o + k * 6 + 1, none⟩ = some (.int .i64 (linkL M x)) := zz 1 _ (by unfold hc; rfl)
      have z3 : W'.drew.cell? ⟨bv, o + k * 6 + 2, none⟩ = some (.string ⟨(nameL M x).toArray⟩) := zz 2 _ (by unfold hc; rfl)
      have z4 : W'.drew.cell? ⟨bv, o + k * 6 + 3, none⟩ = some (.bool (immL M x)) := zz 3 _ (by unfold hc; rfl)
      have z5 : W'.drew.cell? ⟨bv, o + k * 6 + 4, none⟩ = some (.bool (hidL M x)) := zz 4 _ (by unfold hc; rfl)
      have z6 : W'.drew.cell? ⟨bv, o + k * 6 + 5, none⟩ = some (.int .i64 (rdXt M x)) := zz 5 _ (by unfold hc; rfl)
      have cw : W'.drew.cell? ⟨bw, 0, none⟩ = some (.slice (some ⟨bv, o, none⟩) (wordsL M).length cv) := (show Blk W'.drew bw _ _ from hR.2).cell 0
      have ck : W'.drew.cell? ⟨bk, 0, none⟩ = some (.int .i64 (k : Int)) := (show Blk W'.drew bk _ _ from f4).cell 0
      have cf := (show Blk W'.drew bk _ _ from f4).frozen 0
      obtain ⟨y1, y2, y3, y4, y5, y6⟩ := (show Blk W'.drew y _ _ from hbl).c6
      have hKk : ¬ K.S bk := fun hj => by have := hK bk hj; omega
      obtain ⟨k1, hk1⟩ : ∃ k1 : Int, k1 = ((k + 1 : Nat) : Int) := ⟨_, rfl⟩
      have wq : IntKind.i64.wrap ((k : Int) + 1) = k1 := by rw [IntKind.wrap_i64]; omega
      have hT2 : Two w W'.drew mb rb M M ((KW w.heap.size bx bk mb n k).and ((RS.and (.blk y #[.int .i64 x, .int .i64 (linkL M x), .string ⟨(nameL M x).toArray⟩, .bool (immL M x), .bool (hidL M x), .int .i64 (rdXt M x)] 34)).and K)) := (hT.drew).keep fun O h => h.left.left.left.left.and ((h.left.left.left.right.and h.left.right).and h.right)
      have hT6 := KW.store Two.st hT2 hsb hs3 hxk (fun hj => by
        rcases hj with (hj | hj) | hj
        · exact hrS bk (by omega) hkl3 (by omega) hj
        · have e1 : bk = y := hj
          omega
        · exact hKk hj) k1
      rw [hk1] at hT6
      replace hT6 : Two w (W'.drew.setCell ⟨bk, 0, none⟩ (.int .i64 ((k + 1 : Nat) : Int))) mb rb M M (((KW w.heap.size bx bk mb n ((k + 1 : Nat) : Int)).and RS).and K) := hT6.keep fun O h => (h.left.and h.right.left.left).and h.right.right
      replace hT6 := Lib.hid hT6
      replace hk1 := Lib.hid hk1
      have u1 : (((wordsL M).length : Int) ≤ (k : Int)) = False := eq_false (by omega)
      rw [hV]
      generalize rdXt M x = X at *
      generalize linkL M x = Y at *
      generalize immL M x = I at *
      generalize hidL M x = Dd at *
      generalize (⟨(nameL M x).toArray⟩ : ByteArray) = H at *
      clear hV zz f1 f2 f3 f4 hKW hR hbl hT hT2 hKk hln hK
      replace hx := Lib.hid hx
      gi_wp2
      refine wpIn_region_any (by kernel_rfl) ?_
      change wpAnyIn _ _ _ _ _ _ _ _ _ (World.drew _)
      refine wpAnyIn_ready (rs := [0, 1]) (by kernel_rfl) (by simp) ?_
      refine AllReadyIn.cons rfl (fun K hK => ?_) ?_
      ·
        go_simp
        refine hK _ _ ?_
        clear hK K
        try simp only [Act.put, List.setIfInBounds_toArray, List.set_cons_zero, List.set_cons_succ]
        refine wpAnyIn_ready (rs := [1]) (by kernel_rfl) (by simp) ?_
        refine AllReadyIn.cons rfl (fun K hK => ?_) AllReadyIn.nil
        go_simp
        refine hK _ _ ?_
        clear hK K
        try simp only [Act.put, List.setIfInBounds_toArray, List.set_cons_zero, List.set_cons_succ]
        refine wpAnyIn_ready (rs := [2]) (by kernel_rfl) (by simp) ?_
        refine AllReadyIn.cons rfl (fun K hK => ?_) AllReadyIn.nil
        go_simp
        refine hK _ _ ?_
        clear hK K
        try simp only [Act.put, List.setIfInBounds_toArray, List.set_cons_zero, List.set_cons_succ]
        refine wpAnyIn_ready (rs := [3]) (by kernel_rfl) (by simp) ?_
        refine AllReadyIn.cons rfl (fun K hK => ?_) AllReadyIn.nil
        go_simp
        refine hK _ _ ?_
        clear hK K
        try simp only [Act.put, List.setIfInBounds_toArray, List.set_cons_zero, List.set_cons_succ]
        refine wpAnyIn_ready (rs := [4]) (by kernel_rfl) (by simp) ?_
        refine AllReadyIn.cons rfl (fun K hK => ?_) AllReadyIn.nil
        go_simp
        refine hK _ _ ?_
        clear hK K
        try simp only [Act.put, List.setIfInBounds_toArray, List.set_cons_zero, List.set_cons_succ]
        refine wpAnyIn_ready (rs := [5, 6, 7]) (by kernel_rfl) (by simp) ?_
        refine AllReadyIn.cons rfl (fun K hK => ?_) ?_
        ·
          go_simp
          refine hK _ _ ?_
          clear hK K
          try simp only [Act.put, List.setIfInBounds_toArray, List.set_cons_zero, List.set_cons_succ]
          refine wpAnyIn_ready (rs := [6, 7]) (by kernel_rfl) (by simp) ?_
          refine AllReadyIn.cons rfl (fun K hK => ?_) ?_
          ·
            go_simp
            refine hK _ _ ?_
            clear hK K
            try simp only [Act.put, List.setIfInBounds_toArray, List.set_cons_zero, List.set_cons_succ]
            refine wpAnyIn_ready (rs := [7]) (by kernel_rfl) (by simp) ?_
            refine AllReadyIn.cons rfl (fun K hK => ?_) AllReadyIn.nil
            go_simp
            refine hK _ _ ?_
            clear hK K
            try simp only [Act.put, List.setIfInBounds_toArray, List.set_cons_zero, List.set_cons_succ]
            refine wpAnyIn_ready (rs := [8]) (by kernel_rfl) (by simp) ?_
            refine AllReadyIn.cons rfl (fun K hK => ?_) AllReadyIn.nil
            go_simp
            refine hK _ _ ?_
            clear hK K
            try simp only [Act.put, List.setIfInBounds_toArray, List.set_cons_zero, List.set_cons_succ]
            refine wpAnyIn_ready (rs := [9]) (by kernel_rfl) (by simp) ?_
            refine AllReadyIn.cons rfl (fun K hK => ?_) AllReadyIn.nil
            go_simp
            refine hK _ _ ?_
            clear hK K
            try simp only [Act.put, List.setIfInBounds_toArray, List.set_cons_zero, List.set_cons_succ]
            refine wpAnyIn_ready (rs := [10]) (by kernel_rfl) (by simp) ?_
            refine AllReadyIn.cons rfl (fun K hK => ?_) AllReadyIn.nil
            go_simp
            refine hK _ _ ?_
            clear hK K
            try simp only [Act.put, List.setIfInBounds_toArray, List.set_cons_zero, List.set_cons_succ]
            refine wpAnyIn_ready (rs := [11]) (by kernel_rfl) (by simp) ?_
            refine AllReadyIn.cons rfl (fun K hK => ?_) AllReadyIn.nil
            go_simp
            refine hK _ _ ?_
            clear hK K
            try simp only [Act.put, List.setIfInBounds_toArray, List.set_cons_zero, List.set_cons_succ]
            refine wpAnyIn_done (by kernel_rfl) ?_ _
            gi_wp2
            rw [hk1.out]
            exact hT6.out
          refine AllReadyIn.cons rfl (fun K hK => ?_) ?_
          ·
            go_simp
            refine hK _ _ ?_
            clear hK K
            try simp only [Act.put, List.setIfInBounds_toArray, List.set_cons_zero, List.set_cons_succ]
            refine wpAnyIn_ready (rs := [6]) (by kernel_rfl) (by simp) ?_
            refine AllReadyIn.cons rfl (fun K hK => ?_) AllReadyIn.nil
            go_simp
            refine hK _ _ ?_
            clear hK K
            try simp only [Act.put, List.setIfInBounds_toArray, List.set_cons_zero, List.set_cons_succ]
            refine wpAnyIn_ready (rs := [8]) (by kernel_rfl) (by simp) ?_
            refine AllReadyIn.cons rfl (fun K hK => ?_) AllReadyIn.nil
            go_simp
            refine hK _ _ ?_
            clear hK K
            try simp only [Act.put, List.setIfInBounds_toArray, List.set_cons_zero, List.set_cons_succ]
            refine wpAnyIn_ready (rs := [9]) (by kernel_rfl) (by simp) ?_
            refine AllReadyIn.cons rfl (fun K hK => ?_) AllReadyIn.nil
            go_simp
            refine hK _ _ ?_
            clear hK K
            try simp only [Act.put, List.setIfInBounds_toArray, List.set_cons_zero, List.set_cons_succ]
            refine wpAnyIn_ready (rs := [10]) (by kernel_rfl) (by simp) ?_
            refine AllReadyIn.cons rfl (fun K hK => ?_) AllReadyIn.nil
            go_simp
            refine hK _ _ ?_
            clear hK K
            try simp only [Act.put, List.setIfInBounds_toArray, List.set_cons_zero, List.set_cons_succ]
            refine wpAnyIn_ready (rs := [11]) (by kernel_rfl) (by simp) ?_
            refine AllReadyIn.cons rfl (fun K hK => ?_) AllReadyIn.nil
            go_simp
            refine hK _ _ ?_
            clear hK K
            try simp only [Act.put, List.setIfInBounds_toArray, List.set_cons_zero, List.set_cons_succ]
            refine wpAnyIn_done (by kernel_rfl) ?_ _
            gi_wp2
            rw [hk1.out]
            exact hT6.out
          exact AllReadyIn.nil
        refine AllReadyIn.cons rfl (fun K hK => ?_) ?_
        ·
          go_simp
          refine hK _ _ ?_
          clear hK K
          try simp only [Act.put, List.setIfInBounds_toArray, List.set_cons_zero, List.set_cons_succ]
          refine wpAnyIn_ready (rs := [5, 7]) (by kernel_rfl) (by simp) ?_
          refine AllReadyIn.cons rfl (fun K hK => ?_) ?_
          ·
            go_simp
            refine hK _ _ ?_
            clear hK K
            try simp only [Act.put, List.setIfInBounds_toArray, List.set_cons_zero, List.set_cons_succ]
            refine wpAnyIn_ready (rs := [7]) (by kernel_rfl) (by simp) ?_
            refine AllReadyIn.cons rfl (fun K hK => ?_) AllReadyIn.nil
            go_simp
            refine hK _ _ ?_
            clear hK K
            try simp only [Act.put, List.setIfInBounds_toArray, List.set_cons_zero, List.set_cons_succ]
            refine wpAnyIn_ready (rs := [8]) (by kernel_rfl) (by simp) ?_
            refine AllReadyIn.cons rfl (fun K hK => ?_) AllReadyIn.nil
            go_simp
            refine hK _ _ ?_
            clear hK K
            try simp only [Act.put, List.setIfInBounds_toArray, List.set_cons_zero, List.set_cons_succ]
            refine wpAnyIn_ready (rs := [9]) (by kernel_rfl) (by simp) ?_
            refine AllReadyIn.cons rfl (fun K hK => ?_) AllReadyIn.nil
            go_simp
            refine hK _ _ ?_
            clear hK K
            try simp only [Act.put, List.setIfInBounds_toArray, List.set_cons_zero, List.set_cons_succ]
            refine wpAnyIn_ready (rs := [10]) (by kernel_rfl) (by simp) ?_
            refine AllReadyIn.cons rfl (fun K hK => ?_) AllReadyIn.nil
            go_simp
            refine hK _ _ ?_
            clear hK K
            try simp only [Act.put, List.setIfInBounds_toArray, List.set_cons_zero, List.set_cons_succ]
            refine wpAnyIn_ready (rs := [11]) (by kernel_rfl) (by simp) ?_
            refine AllReadyIn.cons rfl (fun K hK => ?_) AllReadyIn.nil
            go_simp
            refine hK _ _ ?_
            clear hK K
            try simp only [Act.put, List.setIfInBounds_toArray, List.set_cons_zero, List.set_cons_succ]
            refine wpAnyIn_done (by kernel_rfl) ?_ _
            gi_wp2
            rw [hk1.out]
            exact hT6.out
          refine AllReadyIn.cons rfl (fun K hK => ?_) ?_
          ·
            go_simp
            refine hK _ _ ?_
            clear hK K
            try simp only [Act.put, List.setIfInBounds_toArray, List.set_cons_zero, List.set_cons_succ]
            refine wpAnyIn_ready (rs := [5, 8]) (by kernel_rfl) (by simp) ?_
            refine AllReadyIn.cons rfl (fun K hK => ?_) ?_
            ·
              go_simp
              refine hK _ _ ?_
              clear hK K
              try simp only [Act.put, List.setIfInBounds_toArray, List.set_cons_zero, List.set_cons_succ]
              refine wpAnyIn_ready (rs := [8]) (by kernel_rfl) (by simp) ?_
              refine AllReadyIn.cons rfl (fun K hK => ?_) AllReadyIn.nil
              go_simp
              refine hK _ _ ?_
              clear hK K
              try simp only [Act.put, List.setIfInBounds_toArray, List.set_cons_zero, List.set_cons_succ]
              refine wpAnyIn_ready (rs := [9]) (by kernel_rfl) (by simp) ?_
              refine AllReadyIn.cons rfl (fun K hK => ?_) AllReadyIn.nil
              go_simp
              refine hK _ _ ?_
              clear hK K
              try simp only [Act.put, List.setIfInBounds_toArray, List.set_cons_zero, List.set_cons_succ]
              refine wpAnyIn_ready (rs := [10]) (by kernel_rfl) (by simp) ?_
              refine AllReadyIn.cons rfl (fun K hK => ?_) AllReadyIn.nil
              go_simp
              refine hK _ _ ?_
              clear hK K
              try simp only [Act.put, List.setIfInBounds_toArray, List.set_cons_zero, List.set_cons_succ]
              refine wpAnyIn_ready (rs := [11]) (by kernel_rfl) (by simp) ?_
              refine AllReadyIn.cons rfl (fun K hK => ?_) AllReadyIn.nil
              go_simp
              refine hK _ _ ?_
              clear hK K
              try simp only [Act.put, List.setIfInBounds_toArray, List.set_cons_zero, List.set_cons_succ]
              refine wpAnyIn_done (by kernel_rfl) ?_ _
              gi_wp2
              rw [hk1.out]
              exact hT6.out
            refine AllReadyIn.cons rfl (fun K hK => ?_) ?_
            ·
              go_simp
              refine hK _ _ ?_
              clear hK K
              try simp only [Act.put, List.setIfInBounds_toArray, List.set_cons_zero, List.set_cons_succ]
              refine wpAnyIn_ready (rs := [5, 9]) (by kernel_rfl) (by simp) ?_
              refine AllReadyIn.cons rfl (fun K hK => ?_) ?_
              ·
                go_simp
                refine hK _ _ ?_
                clear hK K
                try simp only [Act.put, List.setIfInBounds_toArray, List.set_cons_zero, List.set_cons_succ]
                refine wpAnyIn_ready (rs := [9]) (by kernel_rfl) (by simp) ?_
                refine AllReadyIn.cons rfl (fun K hK => ?_) AllReadyIn.nil
                go_simp
                refine hK _ _ ?_
                clear hK K
                try simp only [Act.put, List.setIfInBounds_toArray, List.set_cons_zero, List.set_cons_succ]
                refine wpAnyIn_ready (rs := [10]) (by kernel_rfl) (by simp) ?_
                refine AllReadyIn.cons rfl (fun K hK => ?_) AllReadyIn.nil
                go_simp
                refine hK _ _ ?_
                clear hK K
                try simp only [Act.put, List.setIfInBounds_toArray, List.set_cons_zero, List.set_cons_succ]
                refine wpAnyIn_ready (rs := [11]) (by kernel_rfl) (by simp) ?_
                refine AllReadyIn.cons rfl (fun K hK => ?_) AllReadyIn.nil
                go_simp
                refine hK _ _ ?_
                clear hK K
                try simp only [Act.put, List.setIfInBounds_toArray, List.set_cons_zero, List.set_cons_succ]
                refine wpAnyIn_done (by kernel_rfl) ?_ _
                gi_wp2
                rw [hk1.out]
                exact hT6.out
              refine AllReadyIn.cons rfl (fun K hK => ?_) ?_
              ·
                go_simp
                refine hK _ _ ?_
                clear hK K
                try simp only [Act.put, List.setIfInBounds_toArray, List.set_cons_zero, List.set_cons_succ]
                refine wpAnyIn_ready (rs := [5]) (by kernel_rfl) (by simp) ?_
                refine AllReadyIn.cons rfl (fun K hK => ?_) AllReadyIn.nil
                go_simp
                refine hK _ _ ?_
                clear hK K
                try simp only [Act.put, List.setIfInBounds_toArray, List.set_cons_zero, List.set_cons_succ]
                refine wpAnyIn_ready (rs := [10]) (by kernel_rfl) (by simp) ?_
                refine AllReadyIn.cons rfl (fun K hK => ?_) AllReadyIn.nil
                go_simp
                refine hK _ _ ?_
                clear hK K
                try simp only [Act.put, List.setIfInBounds_toArray, List.set_cons_zero, List.set_cons_succ]
                refine wpAnyIn_ready (rs := [11]) (by kernel_rfl) (by simp) ?_
                refine AllReadyIn.cons rfl (fun K hK => ?_) AllReadyIn.nil
                go_simp
                refine hK _ _ ?_
                clear hK K
                try simp only [Act.put, List.setIfInBounds_toArray, List.set_cons_zero, List.set_cons_succ]
                refine wpAnyIn_done (by kernel_rfl) ?_ _
                gi_wp2
                rw [hk1.out]
                exact hT6.out
              exact AllReadyIn.nil
            exact AllReadyIn.nil
          exact AllReadyIn.nil
        refine AllReadyIn.cons rfl (fun K hK => ?_) ?_
        ·
          go_simp
          refine hK _ _ ?_
          clear hK K
          try simp only [Act.put, List.setIfInBounds_toArray, List.set_cons_zero, List.set_cons_succ]
          refine wpAnyIn_ready (rs := [5, 6]) (by kernel_rfl) (by simp) ?_
          refine AllReadyIn.cons rfl (fun K hK => ?_) ?_
          ·
            go_simp
            refine hK _ _ ?_
            clear hK K
            try simp only [Act.put, List.setIfInBounds_toArray, List.set_cons_zero, List.set_cons_succ]
            refine wpAnyIn_ready (rs := [6]) (by kernel_rfl) (by simp) ?_
            refine AllReadyIn.cons rfl (fun K hK => ?_) AllReadyIn.nil
            go_simp
            refine hK _ _ ?_
            clear hK K
            try simp only [Act.put, List.setIfInBounds_toArray, List.set_cons_zero, List.set_cons_succ]
            refine wpAnyIn_ready (rs := [8]) (by kernel_rfl) (by simp) ?_
            refine AllReadyIn.cons rfl (fun K hK => ?_) AllReadyIn.nil
            go_simp
            refine hK _ _ ?_
            clear hK K
            try simp only [Act.put, List.setIfInBounds_toArray, List.set_cons_zero, List.set_cons_succ]
            refine wpAnyIn_ready (rs := [9]) (by kernel_rfl) (by simp) ?_
            refine AllReadyIn.cons rfl (fun K hK => ?_) AllReadyIn.nil
            go_simp
            refine hK _ _ ?_
            clear hK K
            try simp only [Act.put, List.setIfInBounds_toArray, List.set_cons_zero, List.set_cons_succ]
            refine wpAnyIn_ready (rs := [10]) (by kernel_rfl) (by simp) ?_
            refine AllReadyIn.cons rfl (fun K hK => ?_) AllReadyIn.nil
            go_simp
            refine hK _ _ ?_
            clear hK K
            try simp only [Act.put, List.setIfInBounds_toArray, List.set_cons_zero, List.set_cons_succ]
            refine wpAnyIn_ready (rs := [11]) (by kernel_rfl) (by simp) ?_
            refine AllReadyIn.cons rfl (fun K hK => ?_) AllReadyIn.nil
            go_simp
            refine hK _ _ ?_
            clear hK K
            try simp only [Act.put, List.setIfInBounds_toArray, List.set_cons_zero, List.set_cons_succ]
            refine wpAnyIn_done (by kernel_rfl) ?_ _
            gi_wp2
            rw [hk1.out]
            exact hT6.out
          refine AllReadyIn.cons rfl (fun K hK => ?_) ?_
          ·
            go_simp
            refine hK _ _ ?_
            clear hK K
            try simp only [Act.put, List.setIfInBounds_toArray, List.set_cons_zero, List.set_cons_succ]
            refine wpAnyIn_ready (rs := [5, 8]) (by kernel_rfl) (by simp) ?_
            refine AllReadyIn.cons rfl (fun K hK => ?_) ?_
            ·
              go_simp
              refine hK _ _ ?_
              clear hK K
              try simp only [Act.put, List.setIfInBounds_toArray, List.set_cons_zero, List.set_cons_succ]
              refine wpAnyIn_ready (rs := [8]) (by kernel_rfl) (by simp) ?_
              refine AllReadyIn.cons rfl (fun K hK => ?_) AllReadyIn.nil
              go_simp
              refine hK _ _ ?_
              clear hK K
              try simp only [Act.put, List.setIfInBounds_toArray, List.set_cons_zero, List.set_cons_succ]
              refine wpAnyIn_ready (rs := [9]) (by kernel_rfl) (by simp) ?_
              refine AllReadyIn.cons rfl (fun K hK => ?_) AllReadyIn.nil
              go_simp
              refine hK _ _ ?_
              clear hK K
              try simp only [Act.put, List.setIfInBounds_toArray, List.set_cons_zero, List.set_cons_succ]
              refine wpAnyIn_ready (rs := [10]) (by kernel_rfl) (by simp) ?_
              refine AllReadyIn.cons rfl (fun K hK => ?_) AllReadyIn.nil
              go_simp
              refine hK _ _ ?_
              clear hK K
              try simp only [Act.put, List.setIfInBounds_toArray, List.set_cons_zero, List.set_cons_succ]
              refine wpAnyIn_ready (rs := [11]) (by kernel_rfl) (by simp) ?_
              refine AllReadyIn.cons rfl (fun K hK => ?_) AllReadyIn.nil
              go_simp
              refine hK _ _ ?_
              clear hK K
              try simp only [Act.put, List.setIfInBounds_toArray, List.set_cons_zero, List.set_cons_succ]
              refine wpAnyIn_done (by kernel_rfl) ?_ _
              gi_wp2
              rw [hk1.out]
              exact hT6.out
            refine AllReadyIn.cons rfl (fun K hK => ?_) ?_
            ·
              go_simp
              refine hK _ _ ?_
              clear hK K
              try simp only [Act.put, List.setIfInBounds_toArray, List.set_cons_zero, List.set_cons_succ]
              refine wpAnyIn_ready (rs := [5, 9]) (by kernel_rfl) (by simp) ?_
              refine AllReadyIn.cons rfl (fun K hK => ?_) ?_
              ·
                go_simp
                refine hK _ _ ?_
                clear hK K
                try simp only [Act.put, List.setIfInBounds_toArray, List.set_cons_zero, List.set_cons_succ]
                refine wpAnyIn_ready (rs := [9]) (by kernel_rfl) (by simp) ?_
                refine AllReadyIn.cons rfl (fun K hK => ?_) AllReadyIn.nil
                go_simp
                refine hK _ _ ?_
                clear hK K
                try simp only [Act.put, List.setIfInBounds_toArray, List.set_cons_zero, List.set_cons_succ]
                refine wpAnyIn_ready (rs := [10]) (by kernel_rfl) (by simp) ?_
                refine AllReadyIn.cons rfl (fun K hK => ?_) AllReadyIn.nil
                go_simp
                refine hK _ _ ?_
                clear hK K
                try simp only [Act.put, List.setIfInBounds_toArray, List.set_cons_zero, List.set_cons_succ]
                refine wpAnyIn_ready (rs := [11]) (by kernel_rfl) (by simp) ?_
                refine AllReadyIn.cons rfl (fun K hK => ?_) AllReadyIn.nil
                go_simp
                refine hK _ _ ?_
                clear hK K
                try simp only [Act.put, List.setIfInBounds_toArray, List.set_cons_zero, List.set_cons_succ]
                refine wpAnyIn_done (by kernel_rfl) ?_ _
                gi_wp2
                rw [hk1.out]
                exact hT6.out
              refine AllReadyIn.cons rfl (fun K hK => ?_) ?_
              ·
                go_simp
                refine hK _ _ ?_
                clear hK K
                try simp only [Act.put, List.setIfInBounds_toArray, List.set_cons_zero, List.set_cons_succ]
                refine wpAnyIn_ready (rs := [5]) (by kernel_rfl) (by simp) ?_
                refine AllReadyIn.cons rfl (fun K hK => ?_) AllReadyIn.nil
                go_simp
                refine hK _ _ ?_
                clear hK K
                try simp only [Act.put, List.setIfInBounds_toArray, List.set_cons_zero, List.set_cons_succ]
                refine wpAnyIn_ready (rs := [10]) (by kernel_rfl) (by simp) ?_
                refine AllReadyIn.cons rfl (fun K hK => ?_) AllReadyIn.nil
                go_simp
                refine hK _ _ ?_
                clear hK K
                try simp only [Act.put, List.setIfInBounds_toArray, List.set_cons_zero, List.set_cons_succ]
                refine wpAnyIn_ready (rs := [11]) (by kernel_rfl) (by simp) ?_
                refine AllReadyIn.cons rfl (fun K hK => ?_) AllReadyIn.nil
                go_simp
                refine hK _ _ ?_
                clear hK K
                try simp only [Act.put, List.setIfInBounds_toArray, List.set_cons_zero, List.set_cons_succ]
                refine wpAnyIn_done (by kernel_rfl) ?_ _
                gi_wp2
                rw [hk1.out]
                exact hT6.out
              exact AllReadyIn.nil
            exact AllReadyIn.nil
          exact AllReadyIn.nil
        exact AllReadyIn.nil
      refine AllReadyIn.cons rfl (fun K hK => ?_) ?_
      ·
        go_simp
        refine hK _ _ ?_
        clear hK K
        try simp only [Act.put, List.setIfInBounds_toArray, List.set_cons_zero, List.set_cons_succ]
        refine wpAnyIn_ready (rs := [0, 2]) (by kernel_rfl) (by simp) ?_
        refine AllReadyIn.cons rfl (fun K hK => ?_) ?_
        ·
          go_simp
          refine hK _ _ ?_
          clear hK K
          try simp only [Act.put, List.setIfInBounds_toArray, List.set_cons_zero, List.set_cons_succ]
          refine wpAnyIn_ready (rs := [2]) (by kernel_rfl) (by simp) ?_
          refine AllReadyIn.cons rfl (fun K hK => ?_) AllReadyIn.nil
          go_simp
          refine hK _ _ ?_
          clear hK K
          try simp only [Act.put, List.setIfInBounds_toArray, List.set_cons_zero, List.set_cons_succ]
          refine wpAnyIn_ready (rs := [3]) (by kernel_rfl) (by simp) ?_
          refine AllReadyIn.cons rfl (fun K hK => ?_) AllReadyIn.nil
          go_simp
          refine hK _ _ ?_
          clear hK K
          try simp only [Act.put, List.setIfInBounds_toArray, List.set_cons_zero, List.set_cons_succ]
          refine wpAnyIn_ready (rs := [4]) (by kernel_rfl) (by simp) ?_
          refine AllReadyIn.cons rfl (fun K hK => ?_) AllReadyIn.nil
          go_simp
          refine hK _ _ ?_
          clear hK K
          try simp only [Act.put, List.setIfInBounds_toArray, List.set_cons_zero, List.set_cons_succ]
          refine wpAnyIn_ready (rs := [5, 6, 7]) (by kernel_rfl) (by simp) ?_
          refine AllReadyIn.cons rfl (fun K hK => ?_) ?_
          ·
            go_simp
            refine hK _ _ ?_
            clear hK K
            try simp only [Act.put, List.setIfInBounds_toArray, List.set_cons_zero, List.set_cons_succ]
            refine wpAnyIn_ready (rs := [6, 7]) (by kernel_rfl) (by simp) ?_
            refine AllReadyIn.cons rfl (fun K hK => ?_) ?_
            ·
              go_simp
              refine hK _ _ ?_
              clear hK K
              try simp only [Act.put, List.setIfInBounds_toArray, List.set_cons_zero, List.set_cons_succ]
              refine wpAnyIn_ready (rs := [7]) (by kernel_rfl) (by simp) ?_
              refine AllReadyIn.cons rfl (fun K hK => ?_) AllReadyIn.nil
              go_simp
              refine hK _ _ ?_
              clear hK K
              try simp only [Act.put, List.setIfInBounds_toArray, List.set_cons_zero, List.set_cons_succ]
              refine wpAnyIn_ready (rs := [8]) (by kernel_rfl) (by simp) ?_
              refine AllReadyIn.cons rfl (fun K hK => ?_) AllReadyIn.nil
              go_simp
              refine hK _ _ ?_
              clear hK K
              try simp only [Act.put, List.setIfInBounds_toArray, List.set_cons_zero, List.set_cons_succ]
              refine wpAnyIn_ready (rs := [9]) (by kernel_rfl) (by simp) ?_
              refine AllReadyIn.cons rfl (fun K hK => ?_) AllReadyIn.nil
              go_simp
              refine hK _ _ ?_
              clear hK K
              try simp only [Act.put, List.setIfInBounds_toArray, List.set_cons_zero, List.set_cons_succ]
              refine wpAnyIn_ready (rs := [10]) (by kernel_rfl) (by simp) ?_
              refine AllReadyIn.cons rfl (fun K hK => ?_) AllReadyIn.nil
              go_simp
              refine hK _ _ ?_
              clear hK K
              try simp only [Act.put, List.setIfInBounds_toArray, List.set_cons_zero, List.set_cons_succ]
              refine wpAnyIn_ready (rs := [11]) (by kernel_rfl) (by simp) ?_
              refine AllReadyIn.cons rfl (fun K hK => ?_) AllReadyIn.nil
              go_simp
              refine hK _ _ ?_
              clear hK K
              try simp only [Act.put, List.setIfInBounds_toArray, List.set_cons_zero, List.set_cons_succ]
              refine wpAnyIn_done (by kernel_rfl) ?_ _
              gi_wp2
              rw [hk1.out]
              exact hT6.out
            refine AllReadyIn.cons rfl (fun K hK => ?_) ?_
            ·
              go_simp
              refine hK _ _ ?_
              clear hK K
              try simp only [Act.put, List.setIfInBounds_toArray, List.set_cons_zero, List.set_cons_succ]
              refine wpAnyIn_ready (rs := [6]) (by kernel_rfl) (by simp) ?_
              refine AllReadyIn.cons rfl (fun K hK => ?_) AllReadyIn.nil
              go_simp
              refine hK _ _ ?_
              clear hK K
              try simp only [Act.put, List.setIfInBounds_toArray, List.set_cons_zero, List.set_cons_succ]
              refine wpAnyIn_ready (rs := [8]) (by kernel_rfl) (by simp) ?_
              refine AllReadyIn.cons rfl (fun K hK => ?_) AllReadyIn.nil
              go_simp
              refine hK _ _ ?_
              clear hK K
              try simp only [Act.put, List.setIfInBounds_toArray, List.set_cons_zero, List.set_cons_succ]
              refine wpAnyIn_ready (rs := [9]) (by kernel_rfl) (by simp) ?_
              refine AllReadyIn.cons rfl (fun K hK => ?_) AllReadyIn.nil
              go_simp
              refine hK _ _ ?_
              clear hK K
              try simp only [Act.put, List.setIfInBounds_toArray, List.set_cons_zero, List.set_cons_succ]
              refine wpAnyIn_ready (rs := [10]) (by kernel_rfl) (by simp) ?_
              refine AllReadyIn.cons rfl (fun K hK => ?_) AllReadyIn.nil
              go_simp
              refine hK _ _ ?_
              clear hK K
              try simp only [Act.put, List.setIfInBounds_toArray, List.set_cons_zero, List.set_cons_succ]
              refine wpAnyIn_ready (rs := [11]) (by kernel_rfl) (by simp) ?_
              refine AllReadyIn.cons rfl (fun K hK => ?_) AllReadyIn.nil
              go_simp
              refine hK _ _ ?_
              clear hK K
              try simp only [Act.put, List.setIfInBounds_toArray, List.set_cons_zero, List.set_cons_succ]
              refine wpAnyIn_done (by kernel_rfl) ?_ _
              gi_wp2
              rw [hk1.out]
              exact hT6.out
            exact AllReadyIn.nil
          refine AllReadyIn.cons rfl (fun K hK => ?_) ?_
          ·
            go_simp
            refine hK _ _ ?_
            clear hK K
            try simp only [Act.put, List.setIfInBounds_toArray, List.set_cons_zero, List.set_cons_succ]
            refine wpAnyIn_ready (rs := [5, 7]) (by kernel_rfl) (by simp) ?_
            refine AllReadyIn.cons rfl (fun K hK => ?_) ?_
            ·
              go_simp
              refine hK _ _ ?_
              clear hK K
              try simp only [Act.put, List.setIfInBounds_toArray, List.set_cons_zero, List.set_cons_succ]
              refine wpAnyIn_ready (rs := [7]) (by kernel_rfl) (by simp) ?_
              refine AllReadyIn.cons rfl (fun K hK => ?_) AllReadyIn.nil
              go_simp
              refine hK _ _ ?_
              clear hK K
              try simp only [Act.put, List.setIfInBounds_toArray, List.set_cons_zero, List.set_cons_succ]
              refine wpAnyIn_ready (rs := [8]) (by kernel_rfl) (by simp) ?_
              refine AllReadyIn.cons rfl (fun K hK => ?_) AllReadyIn.nil
              go_simp
              refine hK _ _ ?_
              clear hK K
              try simp only [Act.put, List.setIfInBounds_toArray, List.set_cons_zero, List.set_cons_succ]
              refine wpAnyIn_ready (rs := [9]) (by kernel_rfl) (by simp) ?_
              refine AllReadyIn.cons rfl (fun K hK => ?_) AllReadyIn.nil
              go_simp
              refine hK _ _ ?_
              clear hK K
              try simp only [Act.put, List.setIfInBounds_toArray, List.set_cons_zero, List.set_cons_succ]
              refine wpAnyIn_ready (rs := [10]) (by kernel_rfl) (by simp) ?_
              refine AllReadyIn.cons rfl (fun K hK => ?_) AllReadyIn.nil
              go_simp
              refine hK _ _ ?_
              clear hK K
              try simp only [Act.put, List.setIfInBounds_toArray, List.set_cons_zero, List.set_cons_succ]
              refine wpAnyIn_ready (rs := [11]) (by kernel_rfl) (by simp) ?_
              refine AllReadyIn.cons rfl (fun K hK => ?_) AllReadyIn.nil
              go_simp
              refine hK _ _ ?_
              clear hK K
              try simp only [Act.put, List.setIfInBounds_toArray, List.set_cons_zero, List.set_cons_succ]
              refine wpAnyIn_done (by kernel_rfl) ?_ _
              gi_wp2
              rw [hk1.out]
              exact hT6.out
            refine AllReadyIn.cons rfl (fun K hK => ?_) ?_
            ·
              go_simp
              refine hK _ _ ?_
              clear hK K
              try simp only [Act.put, List.setIfInBounds_toArray, List.set_cons_zero, List.set_cons_succ]
              refine wpAnyIn_ready (rs := [5, 8]) (by kernel_rfl) (by simp) ?_
              refine AllReadyIn.cons rfl (fun K hK => ?_) ?_
              ·
                go_simp
                refine hK _ _ ?_
                clear hK K
                try simp only [Act.put, List.setIfInBounds_toArray, List.set_cons_zero, List.set_cons_succ]
                refine wpAnyIn_ready (rs := [8]) (by kernel_rfl) (by simp) ?_
                refine AllReadyIn.cons rfl (fun K hK => ?_) AllReadyIn.nil
                go_simp
                refine hK _ _ ?_
                clear hK K
                try simp only [Act.put, List.setIfInBounds_toArray, List.set_cons_zero, List.set_cons_succ]
                refine wpAnyIn_ready (rs := [9]) (by kernel_rfl) (by simp) ?_
                refine AllReadyIn.cons rfl (fun K hK => ?_) AllReadyIn.nil
                go_simp
                refine hK _ _ ?_
                clear hK K
                try simp only [Act.put, List.setIfInBounds_toArray, List.set_cons_zero, List.set_cons_succ]
                refine wpAnyIn_ready (rs := [10]) (by kernel_rfl) (by simp) ?_
                refine AllReadyIn.cons rfl (fun K hK => ?_) AllReadyIn.nil
                go_simp
                refine hK _ _ ?_
                clear hK K
                try simp only [Act.put, List.setIfInBounds_toArray, List.set_cons_zero, List.set_cons_succ]
                refine wpAnyIn_ready (rs := [11]) (by kernel_rfl) (by simp) ?_
                refine AllReadyIn.cons rfl (fun K hK => ?_) AllReadyIn.nil
                go_simp
                refine hK _ _ ?_
                clear hK K
                try simp only [Act.put, List.setIfInBounds_toArray, List.set_cons_zero, List.set_cons_succ]
                refine wpAnyIn_done (by kernel_rfl) ?_ _
                gi_wp2
                rw [hk1.out]
                exact hT6.out
              refine AllReadyIn.cons rfl (fun K hK => ?_) ?_
              ·
                go_simp
                refine hK _ _ ?_
                clear hK K
                try simp only [Act.put, List.setIfInBounds_toArray, List.set_cons_zero, List.set_cons_succ]
                refine wpAnyIn_ready (rs := [5, 9]) (by kernel_rfl) (by simp) ?_
                refine AllReadyIn.cons rfl (fun K hK => ?_) ?_
                ·
                  go_simp
                  refine hK _ _ ?_
                  clear hK K
                  try simp only [Act.put, List.setIfInBounds_toArray, List.set_cons_zero, List.set_cons_succ]
                  refine wpAnyIn_ready (rs := [9]) (by kernel_rfl) (by simp) ?_
                  refine AllReadyIn.cons rfl (fun K hK => ?_) AllReadyIn.nil
                  go_simp
                  refine hK _ _ ?_
                  clear hK K
                  try simp only [Act.put, List.setIfInBounds_toArray, List.set_cons_zero, List.set_cons_succ]
                  refine wpAnyIn_ready (rs := [10]) (by kernel_rfl) (by simp) ?_
                  refine AllReadyIn.cons rfl (fun K hK => ?_) AllReadyIn.nil
                  go_simp
                  refine hK _ _ ?_
                  clear hK K
                  try simp only [Act.put, List.setIfInBounds_toArray, List.set_cons_zero, List.set_cons_succ]
                  refine wpAnyIn_ready (rs := [11]) (by kernel_rfl) (by simp) ?_
                  refine AllReadyIn.cons rfl (fun K hK => ?_) AllReadyIn.nil
                  go_simp
                  refine hK _ _ ?_
                  clear hK K
                  try simp only [Act.put, List.setIfInBounds_toArray, List.set_cons_zero, List.set_cons_succ]
                  refine wpAnyIn_done (by kernel_rfl) ?_ _
                  gi_wp2
                  rw [hk1.out]
                  exact hT6.out
                refine AllReadyIn.cons rfl (fun K hK => ?_) ?_
                ·
                  go_simp
                  refine hK _ _ ?_
                  clear hK K
                  try simp only [Act.put, List.setIfInBounds_toArray, List.set_cons_zero, List.set_cons_succ]
                  refine wpAnyIn_ready (rs := [5]) (by kernel_rfl) (by simp) ?_
                  refine AllReadyIn.cons rfl (fun K hK => ?_) AllReadyIn.nil
                  go_simp
                  refine hK _ _ ?_
                  clear hK K
                  try simp only [Act.put, List.setIfInBounds_toArray, List.set_cons_zero, List.set_cons_succ]
                  refine wpAnyIn_ready (rs := [10]) (by kernel_rfl) (by simp) ?_
                  refine AllReadyIn.cons rfl (fun K hK => ?_) AllReadyIn.nil
                  go_simp
                  refine hK _ _ ?_
                  clear hK K
                  try simp only [Act.put, List.setIfInBounds_toArray, List.set_cons_zero, List.set_cons_succ]
                  refine wpAnyIn_ready (rs := [11]) (by kernel_rfl) (by simp) ?_
                  refine AllReadyIn.cons rfl (fun K hK => ?_) AllReadyIn.nil
                  go_simp
                  refine hK _ _ ?_
                  clear hK K
                  try simp only [Act.put, List.setIfInBounds_toArray, List.set_cons_zero, List.set_cons_succ]
                  refine wpAnyIn_done (by kernel_rfl) ?_ _
                  gi_wp2
                  rw [hk1.out]
                  exact hT6.out
                exact AllReadyIn.nil
              exact AllReadyIn.nil
            exact AllReadyIn.nil
          refine AllReadyIn.cons rfl (fun K hK => ?_) ?_
          ·
            go_simp
            refine hK _ _ ?_
            clear hK K
            try simp only [Act.put, List.setIfInBounds_toArray, List.set_cons_zero, List.set_cons_succ]
            refine wpAnyIn_ready (rs := [5, 6]) (by kernel_rfl) (by simp) ?_
            refine AllReadyIn.cons rfl (fun K hK => ?_) ?_
            ·
              go_simp
              refine hK _ _ ?_
              clear hK K
              try simp only [Act.put, List.setIfInBounds_toArray, List.set_cons_zero, List.set_cons_succ]
              refine wpAnyIn_ready (rs := [6]) (by kernel_rfl) (by simp) ?_
              refine AllReadyIn.cons rfl (fun K hK => ?_) AllReadyIn.nil
              go_simp
              refine hK _ _ ?_
              clear hK K
              try simp only [Act.put, List.setIfInBounds_toArray, List.set_cons_zero, List.set_cons_succ]
              refine wpAnyIn_ready (rs := [8]) (by kernel_rfl) (by simp) ?_
              refine AllReadyIn.cons rfl (fun K hK => ?_) AllReadyIn.nil
              go_simp
              refine hK _ _ ?_
              clear hK K
              try simp only [Act.put, List.setIfInBounds_toArray, List.set_cons_zero, List.set_cons_succ]
              refine wpAnyIn_ready (rs := [9]) (by kernel_rfl) (by simp) ?_
              refine AllReadyIn.cons rfl (fun K hK => ?_) AllReadyIn.nil
              go_simp
              refine hK _ _ ?_
              clear hK K
              try simp only [Act.put, List.setIfInBounds_toArray, List.set_cons_zero, List.set_cons_succ]
              refine wpAnyIn_ready (rs := [10]) (by kernel_rfl) (by simp) ?_
              refine AllReadyIn.cons rfl (fun K hK => ?_) AllReadyIn.nil
              go_simp
              refine hK _ _ ?_
              clear hK K
              try simp only [Act.put, List.setIfInBounds_toArray, List.set_cons_zero, List.set_cons_succ]
              refine wpAnyIn_ready (rs := [11]) (by kernel_rfl) (by simp) ?_
              refine AllReadyIn.cons rfl (fun K hK => ?_) AllReadyIn.nil
              go_simp
              refine hK _ _ ?_
              clear hK K
              try simp only [Act.put, List.setIfInBounds_toArray, List.set_cons_zero, List.set_cons_succ]
              refine wpAnyIn_done (by kernel_rfl) ?_ _
              gi_wp2
              rw [hk1.out]
              exact hT6.out
            refine AllReadyIn.cons rfl (fun K hK => ?_) ?_
            ·
              go_simp
              refine hK _ _ ?_
              clear hK K
              try simp only [Act.put, List.setIfInBounds_toArray, List.set_cons_zero, List.set_cons_succ]
              refine wpAnyIn_ready (rs := [5, 8]) (by kernel_rfl) (by simp) ?_
              refine AllReadyIn.cons rfl (fun K hK => ?_) ?_
              ·
                go_simp
                refine hK _ _ ?_
                clear hK K
                try simp only [Act.put, List.setIfInBounds_toArray, List.set_cons_zero, List.set_cons_succ]
                refine wpAnyIn_ready (rs := [8]) (by kernel_rfl) (by simp) ?_
                refine AllReadyIn.cons rfl (fun K hK => ?_) AllReadyIn.nil
                go_simp
                refine hK _ _ ?_
                clear hK K
                try simp only [Act.put, List.setIfInBounds_toArray, List.set_cons_zero, List.set_cons_succ]
                refine wpAnyIn_ready (rs := [9]) (by kernel_rfl) (by simp) ?_
                refine AllReadyIn.cons rfl (fun K hK => ?_) AllReadyIn.nil
                go_simp
                refine hK _ _ ?_
                clear hK K
                try simp only [Act.put, List.setIfInBounds_toArray, List.set_cons_zero, List.set_cons_succ]
                refine wpAnyIn_ready (rs := [10]) (by kernel_rfl) (by simp) ?_
                refine AllReadyIn.cons rfl (fun K hK => ?_) AllReadyIn.nil
                go_simp
                refine hK _ _ ?_
                clear hK K
                try simp only [Act.put, List.setIfInBounds_toArray, List.set_cons_zero, List.set_cons_succ]
                refine wpAnyIn_ready (rs := [11]) (by kernel_rfl) (by simp) ?_
                refine AllReadyIn.cons rfl (fun K hK => ?_) AllReadyIn.nil
                go_simp
                refine hK _ _ ?_
                clear hK K
                try simp only [Act.put, List.setIfInBounds_toArray, List.set_cons_zero, List.set_cons_succ]
                refine wpAnyIn_done (by kernel_rfl) ?_ _
                gi_wp2
                rw [hk1.out]
                exact hT6.out
              refine AllReadyIn.cons rfl (fun K hK => ?_) ?_
              ·
                go_simp
                refine hK _ _ ?_
                clear hK K
                try simp only [Act.put, List.setIfInBounds_toArray, List.set_cons_zero, List.set_cons_succ]
                refine wpAnyIn_ready (rs := [5, 9]) (by kernel_rfl) (by simp) ?_
                refine AllReadyIn.cons rfl (fun K hK => ?_) ?_
                ·
                  go_simp
                  refine hK _ _ ?_
                  clear hK K
                  try simp only [Act.put, List.setIfInBounds_toArray, List.set_cons_zero, List.set_cons_succ]
                  refine wpAnyIn_ready (rs := [9]) (by kernel_rfl) (by simp) ?_
                  refine AllReadyIn.cons rfl (fun K hK => ?_) AllReadyIn.nil
                  go_simp
                  refine hK _ _ ?_
                  clear hK K
                  try simp only [Act.put, List.setIfInBounds_toArray, List.set_cons_zero, List.set_cons_succ]
                  refine wpAnyIn_ready (rs := [10]) (by kernel_rfl) (by simp) ?_
                  refine AllReadyIn.cons rfl (fun K hK => ?_) AllReadyIn.nil
                  go_simp
                  refine hK _ _ ?_
                  clear hK K
                  try simp only [Act.put, List.setIfInBounds_toArray, List.set_cons_zero, List.set_cons_succ]
                  refine wpAnyIn_ready (rs := [11]) (by kernel_rfl) (by simp) ?_
                  refine AllReadyIn.cons rfl (fun K hK => ?_) AllReadyIn.nil
                  go_simp
                  refine hK _ _ ?_
                  clear hK K
                  try simp only [Act.put, List.setIfInBounds_toArray, List.set_cons_zero, List.set_cons_succ]
                  refine wpAnyIn_done (by kernel_rfl) ?_ _
                  gi_wp2
                  rw [hk1.out]
                  exact hT6.out
                refine AllReadyIn.cons rfl (fun K hK => ?_) ?_
                ·
                  go_simp
                  refine hK _ _ ?_
                  clear hK K
                  try simp only [Act.put, List.setIfInBounds_toArray, List.set_cons_zero, List.set_cons_succ]
                  refine wpAnyIn_ready (rs := [5]) (by kernel_rfl) (by simp) ?_
                  refine AllReadyIn.cons rfl (fun K hK => ?_) AllReadyIn.nil
                  go_simp
                  refine hK _ _ ?_
                  clear hK K
                  try simp only [Act.put, List.setIfInBounds_toArray, List.set_cons_zero, List.set_cons_succ]
                  refine wpAnyIn_ready (rs := [10]) (by kernel_rfl) (by simp) ?_
                  refine AllReadyIn.cons rfl (fun K hK => ?_) AllReadyIn.nil
                  go_simp
                  refine hK _ _ ?_
                  clear hK K
                  try simp only [Act.put, List.setIfInBounds_toArray, List.set_cons_zero, List.set_cons_succ]
                  refine wpAnyIn_ready (rs := [11]) (by kernel_rfl) (by simp) ?_
                  refine AllReadyIn.cons rfl (fun K hK => ?_) AllReadyIn.nil
                  go_simp
                  refine hK _ _ ?_
                  clear hK K
                  try simp only [Act.put, List.setIfInBounds_toArray, List.set_cons_zero, List.set_cons_succ]
                  refine wpAnyIn_done (by kernel_rfl) ?_ _
                  gi_wp2
                  rw [hk1.out]
                  exact hT6.out
                exact AllReadyIn.nil
              exact AllReadyIn.nil
            exact AllReadyIn.nil
          exact AllReadyIn.nil
        refine AllReadyIn.cons rfl (fun K hK => ?_) ?_
        ·
          go_simp
          refine hK _ _ ?_
          clear hK K
          try simp only [Act.put, List.setIfInBounds_toArray, List.set_cons_zero, List.set_cons_succ]
          refine wpAnyIn_ready (rs := [0]) (by kernel_rfl) (by simp) ?_
          refine AllReadyIn.cons rfl (fun K hK => ?_) AllReadyIn.nil
          go_simp
          refine hK _ _ ?_
          clear hK K
          try simp only [Act.put, List.setIfInBounds_toArray, List.set_cons_zero, List.set_cons_succ]
          refine wpAnyIn_ready (rs := [3]) (by kernel_rfl) (by simp) ?_
          refine AllReadyIn.cons rfl (fun K hK => ?_) AllReadyIn.nil
          go_simp
          refine hK _ _ ?_
          clear hK K
          try simp only [Act.put, List.setIfInBounds_toArray, List.set_cons_zero, List.set_cons_succ]
          refine wpAnyIn_ready (rs := [4]) (by kernel_rfl) (by simp) ?_
          refine AllReadyIn.cons rfl (fun K hK => ?_) AllReadyIn.nil
          go_simp
          refine hK _ _ ?_
          clear hK K
          try simp only [Act.put, List.setIfInBounds_toArray, List.set_cons_zero, List.set_cons_succ]
          refine wpAnyIn_ready (rs := [5, 6, 7]) (by kernel_rfl) (by simp) ?_
          refine AllReadyIn.cons rfl (fun K hK => ?_) ?_
          ·
            go_simp
            refine hK _ _ ?_
            clear hK K
            try simp only [Act.put, List.setIfInBounds_toArray, List.set_cons_zero, List.set_cons_succ]
            refine wpAnyIn_ready (rs := [6, 7]) (by kernel_rfl) (by simp) ?_
            refine AllReadyIn.cons rfl (fun K hK => ?_) ?_
            ·
              go_simp
              refine hK _ _ ?_
              clear hK K
              try simp only [Act.put, List.setIfInBounds_toArray, List.set_cons_zero, List.set_cons_succ]
              refine wpAnyIn_ready (rs := [7]) (by kernel_rfl) (by simp) ?_
              refine AllReadyIn.cons rfl (fun K hK => ?_) AllReadyIn.nil
              go_simp
              refine hK _ _ ?_
              clear hK K
              try simp only [Act.put, List.setIfInBounds_toArray, List.set_cons_zero, List.set_cons_succ]
              refine wpAnyIn_ready (rs := [8]) (by kernel_rfl) (by simp) ?_
              refine AllReadyIn.cons rfl (fun K hK => ?_) AllReadyIn.nil
              go_simp
              refine hK _ _ ?_
              clear hK K
              try simp only [Act.put, List.setIfInBounds_toArray, List.set_cons_zero, List.set_cons_succ]
              refine wpAnyIn_ready (rs := [9]) (by kernel_rfl) (by simp) ?_
              refine AllReadyIn.cons rfl (fun K hK => ?_) AllReadyIn.nil
              go_simp
              refine hK _ _ ?_
              clear hK K
              try simp only [Act.put, List.setIfInBounds_toArray, List.set_cons_zero, List.set_cons_succ]
              refine wpAnyIn_ready (rs := [10]) (by kernel_rfl) (by simp) ?_
              refine AllReadyIn.cons rfl (fun K hK => ?_) AllReadyIn.nil
              go_simp
              refine hK _ _ ?_
              clear hK K
              try simp only [Act.put, List.setIfInBounds_toArray, List.set_cons_zero, List.set_cons_succ]
              refine wpAnyIn_ready (rs := [11]) (by kernel_rfl) (by simp) ?_
              refine AllReadyIn.cons rfl (fun K hK => ?_) AllReadyIn.nil
              go_simp
              refine hK _ _ ?_
              clear hK K
              try simp only [Act.put, List.setIfInBounds_toArray, List.set_cons_zero, List.set_cons_succ]
              refine wpAnyIn_done (by kernel_rfl) ?_ _
              gi_wp2
              rw [hk1.out]
              exact hT6.out
            refine AllReadyIn.cons rfl (fun K hK => ?_) ?_
            ·
              go_simp
              refine hK _ _ ?_
              clear hK K
              try simp only [Act.put, List.setIfInBounds_toArray, List.set_cons_zero, List.set_cons_succ]
              refine wpAnyIn_ready (rs := [6]) (by kernel_rfl) (by simp) ?_
              refine AllReadyIn.cons rfl (fun K hK => ?_) AllReadyIn.nil
              go_simp
              refine hK _ _ ?_
              clear hK K
              try simp only [Act.put, List.setIfInBounds_toArray, List.set_cons_zero, List.set_cons_succ]
              refine wpAnyIn_ready (rs := [8]) (by kernel_rfl) (by simp) ?_
              refine AllReadyIn.cons rfl (fun K hK => ?_) AllReadyIn.nil
              go_simp
              refine hK _ _ ?_
              clear hK K
              try simp only [Act.put, List.setIfInBounds_toArray, List.set_cons_zero, List.set_cons_succ]
              refine wpAnyIn_ready (rs := [9]) (by kernel_rfl) (by simp) ?_
              refine AllReadyIn.cons rfl (fun K hK => ?_) AllReadyIn.nil
              go_simp
              refine hK _ _ ?_
              clear hK K
              try simp only [Act.put, List.setIfInBounds_toArray, List.set_cons_zero, List.set_cons_succ]
              refine wpAnyIn_ready (rs := [10]) (by kernel_rfl) (by simp) ?_
              refine AllReadyIn.cons rfl (fun K hK => ?_) AllReadyIn.nil
              go_simp
              refine hK _ _ ?_
              clear hK K
              try simp only [Act.put, List.setIfInBounds_toArray, List.set_cons_zero, List.set_cons_succ]
              refine wpAnyIn_ready (rs := [11]) (by kernel_rfl) (by simp) ?_
              refine AllReadyIn.cons rfl (fun K hK => ?_) AllReadyIn.nil
              go_simp
              refine hK _ _ ?_
              clear hK K
              try simp only [Act.put, List.setIfInBounds_toArray, List.set_cons_zero, List.set_cons_succ]
              refine wpAnyIn_done (by kernel_rfl) ?_ _
              gi_wp2
              rw [hk1.out]
              exact hT6.out
            exact AllReadyIn.nil
          refine AllReadyIn.cons rfl (fun K hK => ?_) ?_
          ·
            go_simp
            refine hK _ _ ?_
            clear hK K
            try simp only [Act.put, List.setIfInBounds_toArray, List.set_cons_zero, List.set_cons_succ]
            refine wpAnyIn_ready (rs := [5, 7]) (by kernel_rfl) (by simp) ?_
            refine AllReadyIn.cons rfl (fun K hK => ?_) ?_
            ·
              go_simp
              refine hK _ _ ?_
              clear hK K
              try simp only [Act.put, List.setIfInBounds_toArray, List.set_cons_zero, List.set_cons_succ]
              refine wpAnyIn_ready (rs := [7]) (by kernel_rfl) (by simp) ?_
              refine AllReadyIn.cons rfl (fun K hK => ?_) AllReadyIn.nil
              go_simp
              refine hK _ _ ?_
              clear hK K
              try simp only [Act.put, List.setIfInBounds_toArray, List.set_cons_zero, List.set_cons_succ]
              refine wpAnyIn_ready (rs := [8]) (by kernel_rfl) (by simp) ?_
              refine AllReadyIn.cons rfl (fun K hK => ?_) AllReadyIn.nil
              go_simp
              refine hK _ _ ?_
              clear hK K
              try simp only [Act.put, List.setIfInBounds_toArray, List.set_cons_zero, List.set_cons_succ]
              refine wpAnyIn_ready (rs := [9]) (by kernel_rfl) (by simp) ?_
              refine AllReadyIn.cons rfl (fun K hK => ?_) AllReadyIn.nil
              go_simp
              refine hK _ _ ?_
              clear hK K
              try simp only [Act.put, List.setIfInBounds_toArray, List.set_cons_zero, List.set_cons_succ]
              refine wpAnyIn_ready (rs := [10]) (by kernel_rfl) (by simp) ?_
              refine AllReadyIn.cons rfl (fun K hK => ?_) AllReadyIn.nil
              go_simp
              refine hK _ _ ?_
              clear hK K
              try simp only [Act.put, List.setIfInBounds_toArray, List.set_cons_zero, List.set_cons_succ]
              refine wpAnyIn_ready (rs := [11]) (by kernel_rfl) (by simp) ?_
              refine AllReadyIn.cons rfl (fun K hK => ?_) AllReadyIn.nil
              go_simp
              refine hK _ _ ?_
              clear hK K
              try simp only [Act.put, List.setIfInBounds_toArray, List.set_cons_zero, List.set_cons_succ]
              refine wpAnyIn_done (by kernel_rfl) ?_ _
              gi_wp2
              rw [hk1.out]
              exact hT6.out
            refine AllReadyIn.cons rfl (fun K hK => ?_) ?_
            ·
              go_simp
              refine hK _ _ ?_
              clear hK K
              try simp only [Act.put, List.setIfInBounds_toArray, List.set_cons_zero, List.set_cons_succ]
              refine wpAnyIn_ready (rs := [5, 8]) (by kernel_rfl) (by simp) ?_
              refine AllReadyIn.cons rfl (fun K hK => ?_) ?_
              ·
                go_simp
                refine hK _ _ ?_
                clear hK K
                try simp only [Act.put, List.setIfInBounds_toArray, List.set_cons_zero, List.set_cons_succ]
                refine wpAnyIn_ready (rs := [8]) (by kernel_rfl) (by simp) ?_
                refine AllReadyIn.cons rfl (fun K hK => ?_) AllReadyIn.nil
                go_simp
                refine hK _ _ ?_
                clear hK K
                try simp only [Act.put, List.setIfInBounds_toArray, List.set_cons_zero, List.set_cons_succ]
                refine wpAnyIn_ready (rs := [9]) (by kernel_rfl) (by simp) ?_
                refine AllReadyIn.cons rfl (fun K hK => ?_) AllReadyIn.nil
                go_simp
                refine hK _ _ ?_
                clear hK K
                try simp only [Act.put, List.setIfInBounds_toArray, List.set_cons_zero, List.set_cons_succ]
                refine wpAnyIn_ready (rs := [10]) (by kernel_rfl) (by simp) ?_
                refine AllReadyIn.cons rfl (fun K hK => ?_) AllReadyIn.nil
                go_simp
                refine hK _ _ ?_
                clear hK K
                try simp only [Act.put, List.setIfInBounds_toArray, List.set_cons_zero, List.set_cons_succ]
                refine wpAnyIn_ready (rs := [11]) (by kernel_rfl) (by simp) ?_
                refine AllReadyIn.cons rfl (fun K hK => ?_) AllReadyIn.nil
                go_simp
                refine hK _ _ ?_
                clear hK K
                try simp only [Act.put, List.setIfInBounds_toArray, List.set_cons_zero, List.set_cons_succ]
                refine wpAnyIn_done (by kernel_rfl) ?_ _
                gi_wp2
                rw [hk1.out]
                exact hT6.out
              refine AllReadyIn.cons rfl (fun K hK => ?_) ?_
              ·
                go_simp
                refine hK _ _ ?_
                clear hK K
                try simp only [Act.put, List.setIfInBounds_toArray, List.set_cons_zero, List.set_cons_succ]
                refine wpAnyIn_ready (rs := [5, 9]) (by kernel_rfl) (by simp) ?_
                refine AllReadyIn.cons rfl (fun K hK => ?_) ?_
                ·
                  go_simp
                  refine hK _ _ ?_
                  clear hK K
                  try simp only [Act.put, List.setIfInBounds_toArray, List.set_cons_zero, List.set_cons_succ]
                  refine wpAnyIn_ready (rs := [9]) (by kernel_rfl) (by simp) ?_
                  refine AllReadyIn.cons rfl (fun K hK => ?_) AllReadyIn.nil
                  go_simp
                  refine hK _ _ ?_
                  clear hK K
                  try simp only [Act.put, List.setIfInBounds_toArray, List.set_cons_zero, List.set_cons_succ]
                  refine wpAnyIn_ready (rs := [10]) (by kernel_rfl) (by simp) ?_
                  refine AllReadyIn.cons rfl (fun K hK => ?_) AllReadyIn.nil
                  go_simp
                  refine hK _ _ ?_
                  clear hK K
                  try simp only [Act.put, List.setIfInBounds_toArray, List.set_cons_zero, List.set_cons_succ]
                  refine wpAnyIn_ready (rs := [11]) (by kernel_rfl) (by simp) ?_
                  refine AllReadyIn.cons rfl (fun K hK => ?_) AllReadyIn.nil
                  go_simp
                  refine hK _ _ ?_
                  clear hK K
                  try simp only [Act.put, List.setIfInBounds_toArray, List.set_cons_zero, List.set_cons_succ]
                  refine wpAnyIn_done (by kernel_rfl) ?_ _
                  gi_wp2
                  rw [hk1.out]
                  exact hT6.out
                refine AllReadyIn.cons rfl (fun K hK => ?_) ?_
                ·
                  go_simp
                  refine hK _ _ ?_
                  clear hK K
                  try simp only [Act.put, List.setIfInBounds_toArray, List.set_cons_zero, List.set_cons_succ]
                  refine wpAnyIn_ready (rs := [5]) (by kernel_rfl) (by simp) ?_
                  refine AllReadyIn.cons rfl (fun K hK => ?_) AllReadyIn.nil
                  go_simp
                  refine hK _ _ ?_
                  clear hK K
                  try simp only [Act.put, List.setIfInBounds_toArray, List.set_cons_zero, List.set_cons_succ]
                  refine wpAnyIn_ready (rs := [10]) (by kernel_rfl) (by simp) ?_
                  refine AllReadyIn.cons rfl (fun K hK => ?_) AllReadyIn.nil
                  go_simp
                  refine hK _ _ ?_
                  clear hK K
                  try simp only [Act.put, List.setIfInBounds_toArray, List.set_cons_zero, List.set_cons_succ]
                  refine wpAnyIn_ready (rs := [11]) (by kernel_rfl) (by simp) ?_
                  refine AllReadyIn.cons rfl (fun K hK => ?_) AllReadyIn.nil
                  go_simp
                  refine hK _ _ ?_
                  clear hK K
                  try simp only [Act.put, List.setIfInBounds_toArray, List.set_cons_zero, List.set_cons_succ]
                  refine wpAnyIn_done (by kernel_rfl) ?_ _
                  gi_wp2
                  rw [hk1.out]
                  exact hT6.out
                exact AllReadyIn.nil
              exact AllReadyIn.nil
            exact AllReadyIn.nil
          refine AllReadyIn.cons rfl (fun K hK => ?_) ?_
          ·
            go_simp
            refine hK _ _ ?_
            clear hK K
            try simp only [Act.put, List.setIfInBounds_toArray, List.set_cons_zero, List.set_cons_succ]
            refine wpAnyIn_ready (rs := [5, 6]) (by kernel_rfl) (by simp) ?_
            refine AllReadyIn.cons rfl (fun K hK => ?_) ?_
            ·
              go_simp
              refine hK _ _ ?_
              clear hK K
              try simp only [Act.put, List.setIfInBounds_toArray, List.set_cons_zero, List.set_cons_succ]
              refine wpAnyIn_ready (rs := [6]) (by kernel_rfl) (by simp) ?_
              refine AllReadyIn.cons rfl (fun K hK => ?_) AllReadyIn.nil
              go_simp
              refine hK _ _ ?_
              clear hK K
              try simp only [Act.put, List.setIfInBounds_toArray, List.set_cons_zero, List.set_cons_succ]
              refine wpAnyIn_ready (rs := [8]) (by kernel_rfl) (by simp) ?_
              refine AllReadyIn.cons rfl (fun K hK => ?_) AllReadyIn.nil
              go_simp
              refine hK _ _ ?_
              clear hK K
              try simp only [Act.put, List.setIfInBounds_toArray, List.set_cons_zero, List.set_cons_succ]
              refine wpAnyIn_ready (rs := [9]) (by kernel_rfl) (by simp) ?_
              refine AllReadyIn.cons rfl (fun K hK => ?_) AllReadyIn.nil
              go_simp
              refine hK _ _ ?_
              clear hK K
              try simp only [Act.put, List.setIfInBounds_toArray, List.set_cons_zero, List.set_cons_succ]
              refine wpAnyIn_ready (rs := [10]) (by kernel_rfl) (by simp) ?_
              refine AllReadyIn.cons rfl (fun K hK => ?_) AllReadyIn.nil
              go_simp
              refine hK _ _ ?_
              clear hK K
              try simp only [Act.put, List.setIfInBounds_toArray, List.set_cons_zero, List.set_cons_succ]
              refine wpAnyIn_ready (rs := [11]) (by kernel_rfl) (by simp) ?_
              refine AllReadyIn.cons rfl (fun K hK => ?_) AllReadyIn.nil
              go_simp
              refine hK _ _ ?_
              clear hK K
              try simp only [Act.put, List.setIfInBounds_toArray, List.set_cons_zero, List.set_cons_succ]
              refine wpAnyIn_done (by kernel_rfl) ?_ _
              gi_wp2
              rw [hk1.out]
              exact hT6.out
            refine AllReadyIn.cons rfl (fun K hK => ?_) ?_
            ·
              go_simp
              refine hK _ _ ?_
              clear hK K
              try simp only [Act.put, List.setIfInBounds_toArray, List.set_cons_zero, List.set_cons_succ]
              refine wpAnyIn_ready (rs := [5, 8]) (by kernel_rfl) (by simp) ?_
              refine AllReadyIn.cons rfl (fun K hK => ?_) ?_
              ·
                go_simp
                refine hK _ _ ?_
                clear hK K
                try simp only [Act.put, List.setIfInBounds_toArray, List.set_cons_zero, List.set_cons_succ]
                refine wpAnyIn_ready (rs := [8]) (by kernel_rfl) (by simp) ?_
                refine AllReadyIn.cons rfl (fun K hK => ?_) AllReadyIn.nil
                go_simp
                refine hK _ _ ?_
                clear hK K
                try simp only [Act.put, List.setIfInBounds_toArray, List.set_cons_zero, List.set_cons_succ]
                refine wpAnyIn_ready (rs := [9]) (by kernel_rfl) (by simp) ?_
                refine AllReadyIn.cons rfl (fun K hK => ?_) AllReadyIn.nil
                go_simp
                refine hK _ _ ?_
                clear hK K
                try simp only [Act.put, List.setIfInBounds_toArray, List.set_cons_zero, List.set_cons_succ]
                refine wpAnyIn_ready (rs := [10]) (by kernel_rfl) (by simp) ?_
                refine AllReadyIn.cons rfl (fun K hK => ?_) AllReadyIn.nil
                go_simp
                refine hK _ _ ?_
                clear hK K
                try simp only [Act.put, List.setIfInBounds_toArray, List.set_cons_zero, List.set_cons_succ]
                refine wpAnyIn_ready (rs := [11]) (by kernel_rfl) (by simp) ?_
                refine AllReadyIn.cons rfl (fun K hK => ?_) AllReadyIn.nil
                go_simp
                refine hK _ _ ?_
                clear hK K
                try simp only [Act.put, List.setIfInBounds_toArray, List.set_cons_zero, List.set_cons_succ]
                refine wpAnyIn_done (by kernel_rfl) ?_ _
                gi_wp2
                rw [hk1.out]
                exact hT6.out
              refine AllReadyIn.cons rfl (fun K hK => ?_) ?_
              ·
                go_simp
                refine hK _ _ ?_
                clear hK K
                try simp only [Act.put, List.setIfInBounds_toArray, List.set_cons_zero, List.set_cons_succ]
                refine wpAnyIn_ready (rs := [5, 9]) (by kernel_rfl) (by simp) ?_
                refine AllReadyIn.cons rfl (fun K hK => ?_) ?_
                ·
                  go_simp
                  refine hK _ _ ?_
                  clear hK K
                  try simp only [Act.put, List.setIfInBounds_toArray, List.set_cons_zero, List.set_cons_succ]
                  refine wpAnyIn_ready (rs := [9]) (by kernel_rfl) (by simp) ?_
                  refine AllReadyIn.cons rfl (fun K hK => ?_) AllReadyIn.nil
                  go_simp
                  refine hK _ _ ?_
                  clear hK K
                  try simp only [Act.put, List.setIfInBounds_toArray, List.set_cons_zero, List.set_cons_succ]
                  refine wpAnyIn_ready (rs := [10]) (by kernel_rfl) (by simp) ?_
                  refine AllReadyIn.cons rfl (fun K hK => ?_) AllReadyIn.nil
                  go_simp
                  refine hK _ _ ?_
                  clear hK K
                  try simp only [Act.put, List.setIfInBounds_toArray, List.set_cons_zero, List.set_cons_succ]
                  refine wpAnyIn_ready (rs := [11]) (by kernel_rfl) (by simp) ?_
                  refine AllReadyIn.cons rfl (fun K hK => ?_) AllReadyIn.nil
                  go_simp
                  refine hK _ _ ?_
                  clear hK K
                  try simp only [Act.put, List.setIfInBounds_toArray, List.set_cons_zero, List.set_cons_succ]
                  refine wpAnyIn_done (by kernel_rfl) ?_ _
                  gi_wp2
                  rw [hk1.out]
                  exact hT6.out
                refine AllReadyIn.cons rfl (fun K hK => ?_) ?_
                ·
                  go_simp
                  refine hK _ _ ?_
                  clear hK K
                  try simp only [Act.put, List.setIfInBounds_toArray, List.set_cons_zero, List.set_cons_succ]
                  refine wpAnyIn_ready (rs := [5]) (by kernel_rfl) (by simp) ?_
                  refine AllReadyIn.cons rfl (fun K hK => ?_) AllReadyIn.nil
                  go_simp
                  refine hK _ _ ?_
                  clear hK K
                  try simp only [Act.put, List.setIfInBounds_toArray, List.set_cons_zero, List.set_cons_succ]
                  refine wpAnyIn_ready (rs := [10]) (by kernel_rfl) (by simp) ?_
                  refine AllReadyIn.cons rfl (fun K hK => ?_) AllReadyIn.nil
                  go_simp
                  refine hK _ _ ?_
                  clear hK K
                  try simp only [Act.put, List.setIfInBounds_toArray, List.set_cons_zero, List.set_cons_succ]
                  refine wpAnyIn_ready (rs := [11]) (by kernel_rfl) (by simp) ?_
                  refine AllReadyIn.cons rfl (fun K hK => ?_) AllReadyIn.nil
                  go_simp
                  refine hK _ _ ?_
                  clear hK K
                  try simp only [Act.put, List.setIfInBounds_toArray, List.set_cons_zero, List.set_cons_succ]
                  refine wpAnyIn_done (by kernel_rfl) ?_ _
                  gi_wp2
                  rw [hk1.out]
                  exact hT6.out
                exact AllReadyIn.nil
              exact AllReadyIn.nil
            exact AllReadyIn.nil
          exact AllReadyIn.nil
        exact AllReadyIn.nil
      exact AllReadyIn.nil

    case done2 =>
      intro D2 W' hD2 hT
      obtain ⟨⟨hKW, hR⟩, hDk⟩ := Two.fact hT
      rw [hRS.out] at hR
      obtain ⟨f1, f2, f3, f4⟩ := KW.cells hKW
      have cw : W'.cell? ⟨bw, 0, none⟩ = some (.slice av (wordsL M).length cv) := (show Blk W' bw _ _ from hR.2).cell 0
      have ck : W'.cell? ⟨bk, 0, none⟩ = some (.int .i64 ((wordsL M).length : Int)) := (show Blk W' bk _ _ from f4).cell 0
      have cr : W'.cell? ⟨w.heap.size + 1, 0, none⟩ = some (.bool false) := (show Blk W' _ _ _ from f2).cell 0
      have cf := (show Blk W' (w.heap.size + 1) _ _ from f2).frozen 0
      have hD27 : bw + 1 ≤ D2 := by rw [← hs7]; exact hD2
      have hT8 := KW.res Two.st (K := RS.and (.obj D2 (.deferred (some [])))) (hT.keep fun O h => h.left.left.and (h.left.right.and h.right)) (by omega) hs3 hxk (fun hj => by
        rcases hj with hj | hj
        · exact hrS _ (by omega) (by omega) (by omega) hj
        · have : w.heap.size + 1 = D2 := hj
          omega) true
      obtain ⟨W4, hW4⟩ : ∃ W4, W4 = W'.setCell ⟨w.heap.size + 1, 0, none⟩ (.bool true) := ⟨_, rfl⟩
      rw [← hW4] at hT8
      have hA8 : Two w W4 mb rb M M (((Kp.obj D (.deferred (some []))).and (.blk (w.heap.size + 1) #[.bool true] 4)).and (.obj D2 (.deferred (some [])))) := by
        refine hT8.keep fun O h => ?_
        have h2 := h.left.left
        rw [hRS.out] at h2
        exact (h2.left.left.and h.right).and h.left.right
      clear hT hR hDk f1 f2 f3 f4 hKW hT8
      have hD2k : W4.heap[D2]? = some (.deferred (some [])) := (Two.fact hA8).2
      have hA9 := Two.st.putObj hA8 (by omega) (fun hj => by
        rcases hj with hj | hj
        · have : D2 = D := hj
          omega
        · have : D2 = w.heap.size + 1 := hj
          omega) (.deferred none)
      obtain ⟨W5, hW5⟩ : ∃ W5, W5 = W4.putObj D2 (.deferred none) := ⟨_, rfl⟩
      rw [← hW5] at hA9
      have hB9 : Two w W5 mb rb M M ((Kp.blk (w.heap.size + 1) #[.bool true] 4).and (.obj D (.deferred (some [])))) := hA9.keep fun O h => h.left.right.and h.left.left
      have hDk : W5.heap[D]? = some (.deferred (some [])) := (Two.fact hB9).2
      have hB10 := Two.st.putObj hB9 (by omega) (fun hj => by
        have : D = w.heap.size + 1 := hj
        omega) (.deferred none)
      have cc : (W5.putObj D (.deferred none)).cell? ⟨w.heap.size + 1, 0, none⟩ = some (.bool true) := (show Blk (W5.putObj D (.deferred none)) _ _ _ from (Two.fact hB10).1).cell 0
      have hbf := hB10.bel
      gi_wp2
      rw [← hW4]
      refine ⟨by simp, .inl ⟨_, _, rfl, run_takeDeferred hD2k, ?_⟩⟩
      rw [← hW5]
      refine ⟨by simp, .inl ⟨_, _, rfl, run_takeDeferred hDk, ?_⟩⟩
      refine ⟨.bool true, ?_, rfl, hbf⟩
      simp [results, Try.results3, go_sem, cc]
    case stop2 =>
      intro D2 c k x W' hx hD2 hT
      exact (Two.fact hT).1.elim
end Go.Proofs.Ytcfblcgdjhpdaaa
