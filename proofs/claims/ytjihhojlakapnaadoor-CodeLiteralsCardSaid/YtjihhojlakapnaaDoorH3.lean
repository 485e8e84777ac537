/- 'Read'. -/
import Derived.Test.YtjihhojlakapnaaDoorH2
namespace Go.Proofs.YtjihhojlakapnaaDoor
open Go.RowKit
set_option linter.unusedVariables false
set_option linter.unusedSimpArgs false
attribute [local go_sem] cell_set set_set m_undef

theorem Blk.six {w : World} {b : Nat} {x y z u v s : Value} {t : TypeId} (h : Blk w b #[x, y, z, u, v, s] t) : (w.cell? ⟨b, 0, none⟩ = some x ∧ w.frozen? ⟨b, 0, none⟩ = false) ∧ (w.cell? ⟨b, 1, none⟩ = some y ∧ w.frozen? ⟨b, 1, none⟩ = false) ∧ (w.cell? ⟨b, 2, none⟩ = some z ∧ w.frozen? ⟨b, 2, none⟩ = false) ∧
    (w.cell? ⟨b, 3, none⟩ = some u ∧ w.frozen? ⟨b, 3, none⟩ = false) ∧ (w.cell? ⟨b, 4, none⟩ = some v ∧ w.frozen? ⟨b, 4, none⟩ = false) ∧ (w.cell? ⟨b, 5, none⟩ = some s ∧ w.frozen? ⟨b, 5, none⟩ = false) := by
  refine ⟨⟨?_, h.frozen _⟩, ⟨?_, h.frozen _⟩, ⟨?_, h.frozen _⟩, ⟨?_, h.frozen _⟩, ⟨?_, h.frozen _⟩, ?_, h.frozen _⟩ <;> rw [h.cell] <;> rfl
theorem Blk.put6 {w : World} {b : Nat} {x0 y0 z0 u0 v0 s0 x y z u v t : Value} {ty : TypeId} (h : Blk w b #[x0, y0, z0, u0, v0, s0] ty) :
    Blk ((((((w.setCell ⟨b, 0, none⟩ x).setCell ⟨b, 1, none⟩ y).setCell ⟨b, 2, none⟩ z).setCell ⟨b, 3, none⟩ u).setCell ⟨b, 4, none⟩ v).setCell ⟨b, 5, none⟩ t) b #[x, y, z, u, v, t] ty := (((((h.set 0 x).set 1 y).set 2 z).set 3 u).set 4 v).set 5 t
theorem Turn.notO {w w' : World} {O O' : Nat → Prop} {k : Nat} (h : Turn w w' O O') (hk : ¬ O k) (hlt : k < w.heap.size) : ¬ O' k := fun h2 => by
  rcases h.new k h2 with h3 | h3
  · exact hk h3
  · omega
/-- A block that is not the memory's is stored into. -/
theorem Turn.setNew {w w' : World} {O O' : Nat → Prop} (h : Turn w w' O O') {b o : Nat} (hb : w.heap.size ≤ b) (v : Value) : Turn w (w'.setCell ⟨b, o, none⟩ v) O O' :=
  ⟨h.os, h.tape, h.output, by simpa using h.size, fun k hk hn => (Below.heap_setCell _ _ _ _ (by intro e; simp at e; omega)).trans (h.block k hk hn), h.new⟩
theorem MemP.setNew {w : World} {base mb : Nat} {M : List UInt8} {O : Nat → Prop} (h : MemP w base mb M O) {b o : Nat} (hb : ¬ O b) (v : Value) : MemP (w.setCell ⟨b, o, none⟩ v) base mb M O :=
  h.kept (grownBy_setCell w b o v) (fun k hk => by rw [← Option.some.inj hk]; exact hb)
/-- The length byte of a header. -/
def rdB (M : List UInt8) (a : Int) : Nat := ((loadL M a 40).getD 8 0).toNat
def rdN (M : List UInt8) (a : Int) : Nat := rdB M a % 32
def rdXt (M : List UInt8) (a : Int) : Int := alignZ (a + 9 + (rdN M a : Int))
def rdOk (M : List UInt8) (a : Int) : Bool := decide (a % 8 = 0 ∧ 1536 ≤ a ∧ a < hereL M ∧ rdN M a ≠ 0 ∧ rdXt M a + 8 ≤ hereL M)
/-- What 'Read' reads. -/
def rdV (M : List UInt8) (a : Int) : Value :=
  if rdOk M a then hdV a (cellL (loadL M a 40) 0) (((loadL M a 40).drop 9).take (rdN M a)) (decide (128 ≤ rdB M a)) (decide (rdB M a / 64 % 2 = 1)) (rdXt M a) else hdV 0 0 [] false false 0
theorem read_low {w : World} {base mb : Nat} {M : List UInt8} {O : Nat → Prop} (h : MemP w base mb M O) (hbase : base ≤ w.heap.size) (at_ : Int) (hat : isI at_) (hno : ¬ (at_ % 8 = 0 ∧ 1536 ≤ at_ ∧ at_ < hereL M)) :
    Calls Tryd.prog 59 #[.pointer (some ⟨mb, 0, none⟩), .int .i64 at_] w fun e w' => MemQ w w' base mb M O (.tuple #[hdV 0 0 [] false false 0, .bool false]) e := by
  unfold isI at hat
  obtain ⟨w0, hw0⟩ : ∃ w0, w0 = w.alloc (.cells #[.int .i64 0, .int .i64 0, .string ⟨#[]⟩, .bool false, .bool false, .int .i64 0] 65) := ⟨_, rfl⟩
  have hB0 : Blk w0 w.heap.size #[.int .i64 0, .int .i64 0, .string ⟨#[]⟩, .bool false, .bool false, .int .i64 0] 65 := by subst hw0; exact Blk.new _ _ _
  have hbl0 : Below w.heap.size w w0 := by subst hw0; exact bel_alloc (Below.refl _ _) _
  have hM0 := h.below hbl0
  have hnO : ¬ O w.heap.size := fun hO => by have := (h.lt hO).1; omega
  have hT0 := Turn.of_below hbl0 O
  have hH := Lib.hid (mHere hM0 (Nat.le_trans hbase hbl0.size))
  have h7 := and7 at_ hat
  obtain ⟨r, hr⟩ : ∃ r, r = at_ % 8 := ⟨_, rfl⟩
  rw [← hr] at h7
  obtain ⟨here, hhere⟩ : ∃ here, here = hereL M := ⟨_, rfl⟩
  rw [← hhere] at hH
  replace hM0 := Lib.hid hM0
  replace hT0 := Lib.hid hT0
  replace hhere := Lib.hid hhere
  replace hr := Lib.hid hr
  replace h := Lib.hid h
  have hB0l := hB0.lt
  go_enter Tryd.func59, Tryd.ntmps59
  go_upto_region 1 with fail
  rw [← hw0]
  clear hw0
  go_upto_region 2 with (go_at_call 26; refine hH.out.mono ?_; rintro e w1 ⟨rfl, O1, hM1, hT1⟩; have hB1 := hB0.turn hT1 hnO; have hnO1 := hT1.notO hnO hB0l; obtain ⟨y1, y2, y3, y4, y5, y6⟩ := hB1.six; replace hM1 := Lib.hid hM1; have hs1 := hT1.size; replace hT1 := Lib.hid hT1)
  have hfin : True := trivial
  by_cases h1 : r = 0
  · have t1 : (r != 0) = false := by simp; exact h1
    by_cases h2 : at_ < 1536
    · have t2 : (at_ < 1536) = True := by simp; exact h2
      clear h1 h2 hat
      go_wp2
      refine ret_blk (v := .tuple #[hdV 0 0 [] false false 0, .bool false]) w.heap.size #[.int .i64 0, .int .i64 0, .string ⟨#[]⟩, .bool false, .bool false, .int .i64 0] 65 (Blk.put6 hB1) (fun w' h => by obtain ⟨e1, e2, e3, e4, e5, e6⟩ := h.six; simp [results, Tryd.results59, go_sem, hdV, e1, e2, e3, e4, e5, e6]) rfl ?_
      refine ⟨rfl, O1, ?_, ?_⟩
      · (repeat (refine MemP.setNew ?_ hnO1 _)); exact hM1.out
      · (repeat (refine Turn.setNew ?_ (Nat.le_refl _) _)); exact hT0.out.trans hT1.out
    · have t2 : (at_ < 1536) = False := by simp; omega
      have t3 : (here ≤ at_) = True := by simp; have e1 := hr.out; have e2 := hhere.out; rw [← e1, ← e2] at hno; omega
      clear h1 h2 hat
      go_wp2
      refine ret_blk (v := .tuple #[hdV 0 0 [] false false 0, .bool false]) w.heap.size #[.int .i64 0, .int .i64 0, .string ⟨#[]⟩, .bool false, .bool false, .int .i64 0] 65 (Blk.put6 hB1) (fun w' h => by obtain ⟨e1, e2, e3, e4, e5, e6⟩ := h.six; simp [results, Tryd.results59, go_sem, hdV, e1, e2, e3, e4, e5, e6]) rfl ?_
      refine ⟨rfl, O1, ?_, ?_⟩
      · (repeat (refine MemP.setNew ?_ hnO1 _)); exact hM1.out
      · (repeat (refine Turn.setNew ?_ (Nat.le_refl _) _)); exact hT0.out.trans hT1.out
  · have t1 : (r != 0) = true := by simp; exact h1
    clear h1 hat
    go_wp2
    refine ret_blk (v := .tuple #[hdV 0 0 [] false false 0, .bool false]) w.heap.size #[.int .i64 0, .int .i64 0, .string ⟨#[]⟩, .bool false, .bool false, .int .i64 0] 65 (Blk.put6 hB1) (fun w' h => by obtain ⟨e1, e2, e3, e4, e5, e6⟩ := h.six; simp [results, Tryd.results59, go_sem, hdV, e1, e2, e3, e4, e5, e6]) rfl ?_
    refine ⟨rfl, O1, ?_, ?_⟩
    · (repeat (refine MemP.setNew ?_ hnO1 _)); exact hM1.out
    · (repeat (refine Turn.setNew ?_ (Nat.le_refl _) _)); exact hT0.out.trans hT1.out

theorem MemP.drew {w : World} {base mb : Nat} {M : List UInt8} {O : Nat → Prop} (h : MemP w base mb M O) : MemP w.drew base mb M O := h.below (bel_drew (Below.refl _ _))
theorem Turn.drew {w w' : World} {O O' : Nat → Prop} (h : Turn w w' O O') : Turn w w'.drew O O' := h.trans (Turn.of_below (bel_drew (Below.refl _ _)) O')
theorem hereL_le (M : List UInt8) : hereL M ≤ 5632 := by unfold hereL; split <;> omega
theorem alignZ_small (p : Int) (h : 0 ≤ p ∧ p ≤ 1000000) : p ≤ alignZ p ∧ alignZ p < p + 8 ∧ alignZ p % 8 = 0 := by
  unfold alignZ
  have := IntKind.wrap_i64 (p + (8 - p % 8))
  split <;> omega
theorem and31 (x : Nat) (h : x < 256) : bits .and .u8 (x : Int) 31 = ((x % 32 : Nat) : Int) := by
  have h2 := u8_and_nat x 31 h (by omega)
  rw [show (31 : Nat) = 2 ^ 5 - 1 from rfl, Nat.and_two_pow_sub_one_eq_mod] at h2
  exact h2
set_option maxRecDepth 100000 in
theorem nat128 : ∀ x : Nat, x < 256 → x &&& 128 = if 128 ≤ x then 128 else 0 := by decide
set_option maxRecDepth 100000 in
theorem nat64 : ∀ x : Nat, x < 256 → x &&& 64 = if x / 64 % 2 = 1 then 64 else 0 := by decide
theorem gt128 (x : Nat) (h : x < 256) : decide ((0 : Int) < bits .and .u8 (x : Int) 128) = decide (128 ≤ x) := by
  have h2 : bits .and .u8 (x : Int) 128 = ((x &&& 128 : Nat) : Int) := u8_and_nat x 128 h (by omega)
  rw [h2, nat128 x h]
  split <;> simp_all
theorem gt64 (x : Nat) (h : x < 256) : decide ((0 : Int) < bits .and .u8 (x : Int) 64) = decide (x / 64 % 2 = 1) := by
  have h2 : bits .and .u8 (x : Int) 64 = ((x &&& 64 : Nat) : Int) := u8_and_nat x 64 h (by omega)
  rw [h2, nat64 x h]
  split <;> simp_all
set_option maxRecDepth 100000 in
set_option maxHeartbeats 2000000 in
theorem read_in {w : World} {base mb : Nat} {M : List UInt8} {O : Nat → Prop} (h : MemP w base mb M O) (hbase : base ≤ w.heap.size) (at_ : Int) (hat : isI at_) (h8 : at_ % 8 = 0) (hlo : 1536 ≤ at_) (hhi : at_ < hereL M) :
    Calls Tryd.prog 59 #[.pointer (some ⟨mb, 0, none⟩), .int .i64 at_] w fun e w' => MemQ w w' base mb M O (.tuple #[rdV M at_, .bool (rdOk M at_)]) e := by
  have hhl := hereL_le M
  unfold isI at hat
  obtain ⟨w0, hw0⟩ : ∃ w0, w0 = w.alloc (.cells #[.int .i64 0, .int .i64 0, .string ⟨#[]⟩, .bool false, .bool false, .int .i64 0] 65) := ⟨_, rfl⟩
  have hB0 : Blk w0 w.heap.size #[.int .i64 0, .int .i64 0, .string ⟨#[]⟩, .bool false, .bool false, .int .i64 0] 65 := by subst hw0; exact Blk.new _ _ _
  have hbl0 : Below w.heap.size w w0 := by subst hw0; exact bel_alloc (Below.refl _ _) _
  have hM0 := h.below hbl0
  have hnO : ¬ O w.heap.size := fun hO => by have := (h.lt hO).1; omega
  have hT0 := Turn.of_below hbl0 O
  have hH := Lib.hid (mHere hM0 (Nat.le_trans hbase hbl0.size))
  have h7 := and7 at_ hat
  obtain ⟨r, hr⟩ : ∃ r, r = at_ % 8 := ⟨_, rfl⟩
  rw [← hr] at h7
  obtain ⟨here, hhere⟩ : ∃ here, here = hereL M := ⟨_, rfl⟩
  rw [← hhere] at hH
  replace hM0 := Lib.hid hM0
  replace hT0 := Lib.hid hT0
  replace hhere := Lib.hid hhere
  replace hr := Lib.hid hr
  replace h := Lib.hid h
  have hB0l := hB0.lt
  go_enter Tryd.func59, Tryd.ntmps59
  go_upto_region 1 with fail
  rw [← hw0]
  clear hw0
  go_upto_region 2 with (go_at_call 26; refine hH.out.mono ?_; rintro e w1 ⟨rfl, O1, hM1, hT1⟩; have hB1 := hB0.turn hT1 hnO; have hnO1 := hT1.notO hnO hB0l; obtain ⟨y1, y2, y3, y4, y5, y6⟩ := hB1.six; replace hM1 := Lib.hid hM1; have hs1 := hT1.size; replace hT1 := Lib.hid hT1)
  have t1 : (r != 0) = false := by simp; rw [hr.out]; exact h8
  have t2 : (at_ < 1536) = False := by simp; omega
  have t3 : (here ≤ at_) = False := by simp; rw [hhere.out]; exact hhi
  have hL := Lib.hid (mLoad hM1.out (by have := hbl0.size; omega) at_ 40 hat)
  have hlen : (loadL M at_ 40).length = 40 := by rw [loadL_len]; rfl
  obtain ⟨x, hx⟩ : ∃ x, x = rdB M at_ := ⟨_, rfl⟩
  have hx2 : x = ((loadL M at_ 40)[8]'(by rw [hlen]; omega)).toNat := by
    rw [hx, rdB, List.getD_eq_getElem?_getD, List.getElem?_eq_getElem (by rw [hlen]; omega)]; rfl
  have hx256 : x < 256 := by rw [hx2]; exact UInt8.toNat_lt _
  have hn : rdN M at_ = x % 32 := by rw [rdN, hx]
  obtain ⟨n, hnn⟩ : ∃ n, n = x % 32 := ⟨_, rfl⟩
  rw [← hnn] at hn
  obtain ⟨xt, hxt⟩ : ∃ xt, xt = rdXt M at_ := ⟨_, rfl⟩
  have hxt2 : xt = alignZ (at_ + 9 + (n : Int)) := by rw [hxt, rdXt, hn]
  have h31 := and31 x hx256
  rw [← hnn] at h31
  have w1 : IntKind.i64.wrap (n : Int) = (n : Int) := by rw [IntKind.wrap_i64]; omega
  obtain ⟨p9, hp9⟩ : ∃ p9, p9 = at_ + 9 := ⟨_, rfl⟩
  obtain ⟨p, hp⟩ : ∃ p, p = at_ + 9 + (n : Int) := ⟨_, rfl⟩
  have w2 : IntKind.i64.wrap (at_ + 9) = p9 := by rw [IntKind.wrap_i64]; omega
  have w3 : IntKind.i64.wrap (p9 + (n : Int)) = p := by rw [IntKind.wrap_i64]; omega
  have hal := alignZ_small p (by omega)
  rw [← hp] at hxt2
  rw [← hxt2] at hal
  have hAl := Lib.hid (fun w => wAlign w p (by unfold isI; omega))
  rw [← hxt2] at hAl
  obtain ⟨xt8, hxt8⟩ : ∃ xt8, xt8 = xt + 8 := ⟨_, rfl⟩
  have w4 : IntKind.i64.wrap (xt + 8) = xt8 := by rw [IntKind.wrap_i64]; omega
  have hok : rdOk M at_ = decide (n ≠ 0 ∧ xt + 8 ≤ here) := by
    unfold rdOk
    rw [hn, ← hxt, hhere.out]
    simp [h8, hlo, hhi]
  have hnx : n < 32 := by omega
  replace hxt8 := Lib.hid hxt8
  replace hnn := Lib.hid hnn
  replace hx2 := Lib.hid hx2
  replace hlen := Lib.hid hlen
  replace hok := Lib.hid hok
  replace hn := Lib.hid hn
  replace hxt := Lib.hid hxt
  replace hx := Lib.hid hx
  have hat' := Lib.hid hat
  clear hat h8 hlo hhi hhl hp hp9 hxt2 hal
  go_upto_region 5 with (go_at_call 18; refine hL.out.mono ?_; rintro e w2 ⟨v2, O2, rfl, hv2, hM2, hT2, hn2⟩; have hB2 := hB1.turn hT2 hnO1; have hnO2 := hT2.notO hnO1 (by omega); have hlen := hlen.out; have hx2 := hx2.out; obtain ⟨bb, oo, cap, he⟩ := hv2.some_of (by intro e; rw [e] at hlen; simp at hlen); rw [hlen] at he; subst he; obtain ⟨s2, s2f⟩ := hv2.at 8 (by rw [hlen]; omega); rw [← hx2] at s2; obtain ⟨y1, y2, y3, y4, y5, y6⟩ := hB2.six; have hs2 := hT2.size; replace hM2 := Lib.hid hM2; replace hT2 := Lib.hid hT2; replace hn2 := Lib.hid hn2; replace hv2 := Lib.hid hv2; replace hlen := Lib.hid hlen; replace hx2 := Lib.hid hx2)
  go_upto_region 7 with (go_at_call 27; refine (hAl.out _).mono ?_; rintro e _ ⟨rfl, rfl⟩)
  have hbad : (n = 0 ∨ here < xt8) → (Ending.returned (.tuple #[hdV 0 0 [] false false 0, .bool false])) = .returned (.tuple #[rdV M at_, .bool (rdOk M at_)]) := fun hh => by
    have hok2 : rdOk M at_ = false := by rw [hok.out, decide_eq_false_iff_not]; have := hxt8.out; omega
    unfold rdV
    rw [hok2]
    rfl
  replace hbad := Lib.hid hbad
  by_cases hn0 : n = 0
  · have q1 : ((n : Int) == 0) = true := by simp; exact hn0
    have hb := Lib.hid (hbad.out (.inl hn0))
    clear hn0
    go_wp2
    refine ret_blk (v := .tuple #[hdV 0 0 [] false false 0, .bool false]) w.heap.size #[.int .i64 0, .int .i64 0, .string ⟨#[]⟩, .bool false, .bool false, .int .i64 0] 65 (Blk.put6 hB2) (fun w' h => by obtain ⟨e1, e2, e3, e4, e5, e6⟩ := h.six; simp [results, Tryd.results59, go_sem, hdV, e1, e2, e3, e4, e5, e6]) rfl ?_
    refine ⟨hb.out, O2, ?_, ?_⟩
    · (repeat (refine MemP.setNew ?_ hnO2 _)); exact hM2.out
    · (repeat (refine Turn.setNew ?_ (Nat.le_refl _) _)); exact (hT0.out.trans hT1.out).trans hT2.out

  · have q1 : ((n : Int) == 0) = false := by simp; exact hn0
    by_cases hx8 : here < xt8
    · have q2 : (here < xt8) = True := by simp; exact hx8
      have hb := Lib.hid (hbad.out (.inr hx8))
      clear hx8 hn0
      go_wp2
      refine ret_blk (v := .tuple #[hdV 0 0 [] false false 0, .bool false]) w.heap.size #[.int .i64 0, .int .i64 0, .string ⟨#[]⟩, .bool false, .bool false, .int .i64 0] 65 (Blk.put6 hB2) (fun w' h => by obtain ⟨e1, e2, e3, e4, e5, e6⟩ := h.six; simp [results, Tryd.results59, go_sem, hdV, e1, e2, e3, e4, e5, e6]) rfl ?_
      refine ⟨hb.out, O2, ?_, ?_⟩
      · (repeat (refine MemP.setNew ?_ hnO2 _)); exact hM2.out
      · (repeat (refine Turn.setNew ?_ (Nat.le_refl _) _)); exact (hT0.out.trans hT1.out).trans hT2.out

    · have q2 : (here < xt8) = False := by simp; omega
      have hgood : (Ending.returned (.tuple #[hdV at_ (cellL (loadL M at_ 40) 0) (((loadL M at_ 40).drop 9).take n) (decide (128 ≤ x)) (decide (x / 64 % 2 = 1)) xt, .bool true])) = .returned (.tuple #[rdV M at_, .bool (rdOk M at_)]) := by
        have hok2 : rdOk M at_ = true := by rw [hok.out, decide_eq_true_iff]; have := hxt8.out; omega
        unfold rdV
        rw [hok2, hn.out, ← hxt.out, ← hx.out]
        rfl
      obtain ⟨L, hL9⟩ : ∃ L, L = loadL M at_ 40 := ⟨_, rfl⟩
      clear hx2
      rw [← hL9] at hgood hlen hv2
      replace hgood := Lib.hid hgood
      have hcap := (hv2.out.len)
      have hv3 := hv2.out.below (bel_drew (Below.refl _ _))
      have hC := Lib.hid (wCell w2.drew _ _ L 0 hv3 (by unfold isI; omega) (by have := hlen.out; omega))
      obtain ⟨nm, hnm⟩ : ∃ nm, nm = (L.drop 9).take n := ⟨_, rfl⟩
      rw [← hnm] at hgood
      obtain ⟨ct, hct⟩ : ∃ ct, ct = cellL L 0 := ⟨_, rfl⟩
      rw [← hct] at hC hgood
      have hd9 := hv3.drop 9 (by have := hlen.out; omega)
      have ht9 := hd9.take n (by rw [List.length_drop]; have := hlen.out; omega)
      rw [← hnm] at ht9
      have estr : ∀ w3, Below w2.drew.heap.size w2.drew w3 → (convert 22 9 (.slice (some ⟨bb, oo + 9, none⟩) n (cap - 9))).run Tryd.prog w3 = .ok (.string ⟨nm.toArray⟩) w3 := fun w3 hb => (ht9.below hb).str Tryd.underlying22 Tryd.underlying5 Tryd.underlying9
      have estr2 := estr w2.drew (Below.refl _ _)
      replace estr := Lib.hid estr
      have s2d : w2.drew.cell? ⟨bb, oo + 8, none⟩ = some (.int .u8 (x : Int)) := s2
      have hbne : w.heap.size ≠ bb := by
        rcases hv2.out.lt with e | ⟨k, e, h1, h2⟩
        · cases e
        · have e' : bb = k := Option.some.inj e
          omega
      have g1 := gt128 x hx256
      have g2 := gt64 x hx256
      have hB2' := hB2.drew
      have hcap2 : 40 ≤ cap := by
        obtain ⟨a', c', e9, h9⟩ := hcap
        rw [hlen.out] at e9 h9
        cases e9; exact h9
      obtain ⟨m, hm⟩ : ∃ m, m = IntKind.i64.wrap (9 + (n : Int)) := ⟨_, rfl⟩
      have hm2 : m = 9 + (n : Int) := by rw [hm, IntKind.wrap_i64]; omega
      have m1 : (0 ≤ m) = True := by simp; omega
      have m2 : (m ≤ (cap : Int)) = True := by simp; omega
      have m3 : (9 ≤ m) = True := by simp; omega
      have m4 : max m 0 = m := by omega
      have m5 : m.toNat - 9 = n := by omega
      have m6 : (cap = 9) = False := by simp; omega
      replace hm := hm.symm
      replace hcap2 := Lib.hid hcap2
      clear hcap hv3 hd9 ht9 hct hnm hL9 hx8 hn0 hv2 hm2
      go_upto_region 9 with fail
      refine wp_region_noPanic ?_
      refine wp_region_held_drew (S := (fun w' => w'.cell? ⟨bb, oo + 8, none⟩ = some (.int .u8 (x : Int)))) (by kernel_rfl) ?_ (fun hHeld => ?_)
      · (try dsimp only); (first | with_reducible exact s3 | with_reducible exact s2 | with_reducible exact s2d | ((repeat (with_reducible refine cell_other ?_ hbne)); with_reducible exact s3))
      refine wpAnyH_take (i := 0) (oi := { dst := some 47, op := Go.Op.move (Go.Operand.tmp 1), type := 2, pos := "header.go:45", after := #[], guard := none }) (v := ?v1) rfl (by kernel_rfl) (by kernel_rfl) (by kernel_rfl) (fun _ _ _ h => h) (Or.inl ⟨by rfl, ?hy1⟩) (by assumption) ?rest1
      case hy1 => (intro w hSw; (try dsimp only at hSw); go_simp <;> with_reducible rfl)
      try simp only [Act.put, List.setIfInBounds_toArray, List.set_cons_zero, List.set_cons_succ]
      refine wpAnyH_take (i := 1) (oi := { dst := some 48, op := Go.Op.move (Go.Operand.tmp 7), type := 22, pos := "header.go:45", after := #[], guard := none }) (v := ?v2) rfl (by kernel_rfl) (by kernel_rfl) (by kernel_rfl) (fun _ _ _ h => h) (Or.inl ⟨by rfl, ?hy2⟩) (by assumption) ?rest2
      case hy2 => (intro w hSw; (try dsimp only at hSw); go_simp <;> with_reducible rfl)
      try simp only [Act.put, List.setIfInBounds_toArray, List.set_cons_zero, List.set_cons_succ]
      refine wpAnyH_take (i := 3) (oi := { dst := some 50, op := Go.Op.move (Go.Operand.tmp 7), type := 22, pos := "header.go:45", after := #[], guard := none }) (v := ?v3) rfl (by kernel_rfl) (by kernel_rfl) (by kernel_rfl) (fun _ _ _ h => h) (Or.inl ⟨by rfl, ?hy3⟩) (by assumption) ?rest3
      case hy3 => (intro w hSw; (try dsimp only at hSw); go_simp <;> with_reducible rfl)
      try simp only [Act.put, List.setIfInBounds_toArray, List.set_cons_zero, List.set_cons_succ]
      refine wpAnyH_take (i := 4) (oi := { dst := some 51, op := Go.Op.move (Go.Operand.tmp 8), type := 2, pos := "header.go:45", after := #[], guard := none }) (v := ?v4) rfl (by kernel_rfl) (by kernel_rfl) (by kernel_rfl) (fun _ _ _ h => h) (Or.inl ⟨by rfl, ?hy4⟩) (by assumption) ?rest4
      case hy4 => (intro w hSw; (try dsimp only at hSw); go_simp <;> with_reducible rfl)
      try simp only [Act.put, List.setIfInBounds_toArray, List.set_cons_zero, List.set_cons_succ]
      refine wpAnyH_take (i := 5) (oi := { dst := some 52, op := Go.Op.binOp Go.BinOp.add 2 (Go.Operand.const (Go.Value.int Go.IntKind.i64 9)) (Go.Operand.tmp 51) 2, type := 2, pos := "header.go:45", after := #[{ on := 4, ground := Go.Ground.data }], guard := none }) (v := ?v5) rfl (by kernel_rfl) (by kernel_rfl) (by kernel_rfl) (fun _ _ _ h => h) (Or.inl ⟨by rfl, ?hy5⟩) (by assumption) ?rest5
      case hy5 => (intro w hSw; (try dsimp only at hSw); go_simp <;> with_reducible rfl)
      try simp only [Act.put, List.setIfInBounds_toArray, List.set_cons_zero, List.set_cons_succ]
      refine wpAnyH_take (i := 6) (oi := { dst := some 53, op := Go.Op.slice 22 (Go.Operand.tmp 50) (some (Go.Operand.const (Go.Value.int Go.IntKind.i64 9))) (some (Go.Operand.tmp 52)) none, type := 22, pos := "header.go:45", after := #[{ on := 3, ground := Go.Ground.data }, { on := 5, ground := Go.Ground.data }], guard := none }) (v := ?v6) rfl (by kernel_rfl) (by kernel_rfl) (by kernel_rfl) (fun _ _ _ h => h) (Or.inl ⟨by rfl, ?hy6⟩) (by assumption) ?rest6
      case hy6 => (intro w hSw; (try dsimp only at hSw); go_simp <;> with_reducible rfl)
      try simp only [Act.put, List.setIfInBounds_toArray, List.set_cons_zero, List.set_cons_succ]
      refine wpAnyH_take (i := 8) (oi := { dst := some 55, op := Go.Op.move (Go.Operand.tmp 7), type := 22, pos := "header.go:45", after := #[], guard := none }) (v := ?v7) rfl (by kernel_rfl) (by kernel_rfl) (by kernel_rfl) (fun _ _ _ h => h) (Or.inl ⟨by rfl, ?hy7⟩) (by assumption) ?rest7
      case hy7 => (intro w hSw; (try dsimp only at hSw); go_simp <;> with_reducible rfl)
      try simp only [Act.put, List.setIfInBounds_toArray, List.set_cons_zero, List.set_cons_succ]
      refine wpAnyH_take (i := 9) (oi := { dst := some 56, op := Go.Op.indexAddr 22 (Go.Operand.tmp 55) (Go.Operand.const (Go.Value.int Go.IntKind.i64 8)), type := 0, pos := "header.go:45", after := #[{ on := 8, ground := Go.Ground.data }], guard := none }) (v := ?v8) rfl (by kernel_rfl) (by kernel_rfl) (by kernel_rfl) (fun _ _ _ h => h) (Or.inl ⟨by rfl, ?hy8⟩) (by assumption) ?rest8
      case hy8 => (intro w hSw; (try dsimp only at hSw); go_simp <;> with_reducible rfl)
      try simp only [Act.put, List.setIfInBounds_toArray, List.set_cons_zero, List.set_cons_succ]
      refine wpAnyH_take (i := 10) (oi := { dst := some 57, op := Go.Op.load 5 (Go.Operand.tmp 56), type := 5, pos := "header.go:45", after := #[{ on := 9, ground := Go.Ground.data }], guard := none }) (v := ?v9) rfl (by kernel_rfl) (by kernel_rfl) (by kernel_rfl) (fun _ _ _ h => h) (Or.inl ⟨by rfl, ?hy9⟩) (by assumption) ?rest9
      case hy9 => (intro w hSw; (try dsimp only at hSw); go_simp <;> with_reducible rfl)
      try simp only [Act.put, List.setIfInBounds_toArray, List.set_cons_zero, List.set_cons_succ]
      refine wpAnyH_take (i := 11) (oi := { dst := some 58, op := Go.Op.binOp Go.BinOp.and 5 (Go.Operand.tmp 57) (Go.Operand.const (Go.Value.int Go.IntKind.u8 128)) 5, type := 5, pos := "header.go:45", after := #[{ on := 10, ground := Go.Ground.data }], guard := none }) (v := ?v10) rfl (by kernel_rfl) (by kernel_rfl) (by kernel_rfl) (fun _ _ _ h => h) (Or.inl ⟨by rfl, ?hy10⟩) (by assumption) ?rest10
      case hy10 => (intro w hSw; (try dsimp only at hSw); go_simp <;> with_reducible rfl)
      try simp only [Act.put, List.setIfInBounds_toArray, List.set_cons_zero, List.set_cons_succ]
      refine wpAnyH_take (i := 12) (oi := { dst := some 59, op := Go.Op.binOp Go.BinOp.gtr 5 (Go.Operand.tmp 58) (Go.Operand.const (Go.Value.int Go.IntKind.u8 0)) 5, type := 4, pos := "header.go:45", after := #[{ on := 11, ground := Go.Ground.data }], guard := none }) (v := ?v11) rfl (by kernel_rfl) (by kernel_rfl) (by kernel_rfl) (fun _ _ _ h => h) (Or.inl ⟨by rfl, ?hy11⟩) (by assumption) ?rest11
      case hy11 => (intro w hSw; (try dsimp only at hSw); go_simp <;> with_reducible rfl)
      try simp only [Act.put, List.setIfInBounds_toArray, List.set_cons_zero, List.set_cons_succ]
      refine wpAnyH_take (i := 13) (oi := { dst := some 60, op := Go.Op.move (Go.Operand.tmp 7), type := 22, pos := "header.go:45", after := #[], guard := none }) (v := ?v12) rfl (by kernel_rfl) (by kernel_rfl) (by kernel_rfl) (fun _ _ _ h => h) (Or.inl ⟨by rfl, ?hy12⟩) (by assumption) ?rest12
      case hy12 => (intro w hSw; (try dsimp only at hSw); go_simp <;> with_reducible rfl)
      try simp only [Act.put, List.setIfInBounds_toArray, List.set_cons_zero, List.set_cons_succ]
      refine wpAnyH_take (i := 14) (oi := { dst := some 61, op := Go.Op.indexAddr 22 (Go.Operand.tmp 60) (Go.Operand.const (Go.Value.int Go.IntKind.i64 8)), type := 0, pos := "header.go:45", after := #[{ on := 13, ground := Go.Ground.data }], guard := none }) (v := ?v13) rfl (by kernel_rfl) (by kernel_rfl) (by kernel_rfl) (fun _ _ _ h => h) (Or.inl ⟨by rfl, ?hy13⟩) (by assumption) ?rest13
      case hy13 => (intro w hSw; (try dsimp only at hSw); go_simp <;> with_reducible rfl)
      try simp only [Act.put, List.setIfInBounds_toArray, List.set_cons_zero, List.set_cons_succ]
      refine wpAnyH_take (i := 15) (oi := { dst := some 62, op := Go.Op.load 5 (Go.Operand.tmp 61), type := 5, pos := "header.go:45", after := #[{ on := 14, ground := Go.Ground.data }], guard := none }) (v := ?v14) rfl (by kernel_rfl) (by kernel_rfl) (by kernel_rfl) (fun _ _ _ h => h) (Or.inl ⟨by rfl, ?hy14⟩) (by assumption) ?rest14
      case hy14 => (intro w hSw; (try dsimp only at hSw); go_simp <;> with_reducible rfl)
      try simp only [Act.put, List.setIfInBounds_toArray, List.set_cons_zero, List.set_cons_succ]
      refine wpAnyH_take (i := 16) (oi := { dst := some 63, op := Go.Op.binOp Go.BinOp.and 5 (Go.Operand.tmp 62) (Go.Operand.const (Go.Value.int Go.IntKind.u8 64)) 5, type := 5, pos := "header.go:45", after := #[{ on := 15, ground := Go.Ground.data }], guard := none }) (v := ?v15) rfl (by kernel_rfl) (by kernel_rfl) (by kernel_rfl) (fun _ _ _ h => h) (Or.inl ⟨by rfl, ?hy15⟩) (by assumption) ?rest15
      case hy15 => (intro w hSw; (try dsimp only at hSw); go_simp <;> with_reducible rfl)
      try simp only [Act.put, List.setIfInBounds_toArray, List.set_cons_zero, List.set_cons_succ]
      refine wpAnyH_take (i := 17) (oi := { dst := some 64, op := Go.Op.binOp Go.BinOp.gtr 5 (Go.Operand.tmp 63) (Go.Operand.const (Go.Value.int Go.IntKind.u8 0)) 5, type := 4, pos := "header.go:45", after := #[{ on := 16, ground := Go.Ground.data }], guard := none }) (v := ?v16) rfl (by kernel_rfl) (by kernel_rfl) (by kernel_rfl) (fun _ _ _ h => h) (Or.inl ⟨by rfl, ?hy16⟩) (by assumption) ?rest16
      case hy16 => (intro w hSw; (try dsimp only at hSw); go_simp <;> with_reducible rfl)
      try simp only [Act.put, List.setIfInBounds_toArray, List.set_cons_zero, List.set_cons_succ]
      refine wpAnyH_take (i := 18) (oi := { dst := some 65, op := Go.Op.move (Go.Operand.tmp 9), type := 2, pos := "header.go:45", after := #[], guard := none }) (v := ?v17) rfl (by kernel_rfl) (by kernel_rfl) (by kernel_rfl) (fun _ _ _ h => h) (Or.inl ⟨by rfl, ?hy17⟩) (by assumption) ?rest17
      case hy17 => (intro w hSw; (try dsimp only at hSw); go_simp <;> with_reducible rfl)
      try simp only [Act.put, List.setIfInBounds_toArray, List.set_cons_zero, List.set_cons_succ]
      refine wpAnyH_ready (rs := [2, 7]) (by kernel_rfl) (by simp) ?_
      refine AllReadyH.cons (o := { dst := some 49, op := Go.Op.call { callee := Go.Callee.value (Go.Operand.func 39), args := #[Go.Operand.tmp 48, Go.Operand.const (Go.Value.int Go.IntKind.i64 0)], argTypes := #[22, 3] }, type := 2, pos := "header.go:45", after := #[{ on := 1, ground := Go.Ground.data }], guard := none }) rfl (fun K hK => ?_) ?_
      ·
        go_simp
        go_at_call 39; refine hC.out.mono ?_; rintro e w3 ⟨rfl, hb3⟩; have s3 := (hb3.cell (World.block_lt_of_cell? _ _ s2)).trans s2; have hB3 := (hB2.drew).below hb3; have estr3 := estr.out w3 hb3; obtain ⟨y1, y2, y3, y4, y5, y6⟩ := hB3.six; have hM3 := hM2.out.drew.below hb3; have hT3 := hT2.out.drew.trans (Turn.of_below hb3 O2); replace hM3 := Lib.hid hM3; replace hT3 := Lib.hid hT3; replace hb3 := Lib.hid hb3
        refine hK.out _ _ ?_ (fun hHeld2 => ?_)
        · (try dsimp only); (first | with_reducible exact s3 | with_reducible exact s2 | with_reducible exact s2d | ((repeat (with_reducible refine cell_other ?_ hbne)); with_reducible exact s3))
        clear hK K hHeld
        have hHeld := hHeld2
        clear hHeld2
        try simp only [Act.put, List.setIfInBounds_toArray, List.set_cons_zero, List.set_cons_succ]
        refine wpAnyH_ready (rs := [7]) (by kernel_rfl) (by simp) ?_
        refine AllReadyH.cons (o := { dst := some 54, op := Go.Op.convert 22 9 (Go.Operand.tmp 53), type := 9, pos := "header.go:45", after := #[{ on := 6, ground := Go.Ground.data }], guard := none }) rfl (fun K hK => ?_) AllReadyH.nil
        go_simp
        refine hK.out _ _ ?_ (fun hHeld2 => ?_)
        · (try dsimp only); (first | with_reducible exact s3 | with_reducible exact s2 | with_reducible exact s2d | ((repeat (with_reducible refine cell_other ?_ hbne)); with_reducible exact s3))
        clear hK K hHeld
        have hHeld := hHeld2
        clear hHeld2
        try simp only [Act.put, List.setIfInBounds_toArray, List.set_cons_zero, List.set_cons_succ]
        refine wpAnyH_take (i := 19) (oi := { dst := some 66, op := Go.Op.build 65 #[(0, Go.Operand.tmp 47), (1, Go.Operand.tmp 49), (2, Go.Operand.tmp 54), (3, Go.Operand.tmp 59), (4, Go.Operand.tmp 64), (5, Go.Operand.tmp 65)], type := 65, pos := "header.go:45", after := #[{ on := 0, ground := Go.Ground.data }, { on := 2, ground := Go.Ground.data }, { on := 7, ground := Go.Ground.data }, { on := 12, ground := Go.Ground.data }, { on := 17, ground := Go.Ground.data }, { on := 18, ground := Go.Ground.data }], guard := none }) (v := ?v18) rfl (by kernel_rfl) (by kernel_rfl) (by kernel_rfl) (fun _ _ _ h => h) (Or.inl ⟨by rfl, ?hy18⟩) (by assumption) ?rest18
        case hy18 => (intro w hSw; (try dsimp only at hSw); go_simp <;> with_reducible rfl)
        try simp only [Act.put, List.setIfInBounds_toArray, List.set_cons_zero, List.set_cons_succ]
        refine wpAnyH_ready (rs := [20]) (by kernel_rfl) (by simp) ?_
        refine AllReadyH.cons (o := { dst := none, op := Go.Op.store 65 (Go.Operand.tmp 4) (Go.Operand.tmp 66), type := 0, pos := "header.go:45", after := #[{ on := 19, ground := Go.Ground.data }, { on := 2, ground := Go.Ground.chain }, { on := 0, ground := Go.Ground.phase }, { on := 1, ground := Go.Ground.phase }, { on := 2, ground := Go.Ground.phase }, { on := 3, ground := Go.Ground.phase }, { on := 4, ground := Go.Ground.phase }, { on := 5, ground := Go.Ground.phase }, { on := 6, ground := Go.Ground.phase }, { on := 7, ground := Go.Ground.phase }, { on := 8, ground := Go.Ground.phase }, { on := 9, ground := Go.Ground.phase }, { on := 10, ground := Go.Ground.phase }, { on := 11, ground := Go.Ground.phase }, { on := 12, ground := Go.Ground.phase }, { on := 13, ground := Go.Ground.phase }, { on := 14, ground := Go.Ground.phase }, { on := 15, ground := Go.Ground.phase }, { on := 16, ground := Go.Ground.phase }, { on := 17, ground := Go.Ground.phase }, { on := 18, ground := Go.Ground.phase }, { on := 19, ground := Go.Ground.phase }], guard := none }) rfl (fun K hK => ?_) AllReadyH.nil
        go_simp
        refine hK.out _ _ ?_ (fun hHeld2 => ?_)
        · (try dsimp only); (first | with_reducible exact s3 | with_reducible exact s2 | with_reducible exact s2d | ((repeat (with_reducible refine cell_other ?_ hbne)); with_reducible exact s3))
        clear hK K hHeld
        have hHeld := hHeld2
        clear hHeld2
        try simp only [Act.put, List.setIfInBounds_toArray, List.set_cons_zero, List.set_cons_succ]
        refine wpAnyH_take (i := 21) (oi := { dst := some 5, op := Go.Op.assign (Go.Operand.const (Go.Value.bool true)), type := 4, pos := "header.go:45", after := #[{ on := 20, ground := Go.Ground.chain }, { on := 0, ground := Go.Ground.phase }, { on := 1, ground := Go.Ground.phase }, { on := 2, ground := Go.Ground.phase }, { on := 3, ground := Go.Ground.phase }, { on := 4, ground := Go.Ground.phase }, { on := 5, ground := Go.Ground.phase }, { on := 6, ground := Go.Ground.phase }, { on := 7, ground := Go.Ground.phase }, { on := 8, ground := Go.Ground.phase }, { on := 9, ground := Go.Ground.phase }, { on := 10, ground := Go.Ground.phase }, { on := 11, ground := Go.Ground.phase }, { on := 12, ground := Go.Ground.phase }, { on := 13, ground := Go.Ground.phase }, { on := 14, ground := Go.Ground.phase }, { on := 15, ground := Go.Ground.phase }, { on := 16, ground := Go.Ground.phase }, { on := 17, ground := Go.Ground.phase }, { on := 18, ground := Go.Ground.phase }, { on := 19, ground := Go.Ground.phase }, { on := 20, ground := Go.Ground.phase }], guard := none }) (v := ?v19) rfl (by kernel_rfl) (by kernel_rfl) (by kernel_rfl) (fun _ _ _ h => h) (Or.inl ⟨by rfl, ?hy19⟩) (by assumption) ?rest19
        case hy19 => (intro w hSw; (try dsimp only at hSw); go_simp <;> with_reducible rfl)
        try simp only [Act.put, List.setIfInBounds_toArray, List.set_cons_zero, List.set_cons_succ]
        refine wpAnyH_done (by kernel_rfl) ?_ _
        refine NoPanic.normal ?_
        go_wp2
        refine ret_blk (v := .tuple #[hdV at_ ct nm (decide (128 ≤ x)) (decide (x / 64 % 2 = 1)) xt, .bool true]) w.heap.size #[.int .i64 at_, .int .i64 ct, .string ⟨nm.toArray⟩, .bool (decide (128 ≤ x)), .bool (decide (x / 64 % 2 = 1)), .int .i64 xt] 65 (Blk.put6 hB3) (fun w' h => by obtain ⟨e1, e2, e3, e4, e5, e6⟩ := h.six; simp [results, Tryd.results59, go_sem, hdV, e1, e2, e3, e4, e5, e6]) rfl ?_
        refine ⟨hgood.out, O2, ?_, ?_⟩
        · (repeat (refine MemP.setNew ?_ hnO2 _)); exact hM3.out
        · (repeat (refine Turn.setNew ?_ (Nat.le_refl _) _)); exact (hT0.out.trans hT1.out).trans hT3.out
      refine AllReadyH.cons (o := { dst := some 54, op := Go.Op.convert 22 9 (Go.Operand.tmp 53), type := 9, pos := "header.go:45", after := #[{ on := 6, ground := Go.Ground.data }], guard := none }) rfl (fun K hK => ?_) ?_
      ·
        go_simp
        refine hK.out _ _ ?_ (fun hHeld2 => ?_)
        · (try dsimp only); (first | with_reducible exact s3 | with_reducible exact s2 | with_reducible exact s2d | ((repeat (with_reducible refine cell_other ?_ hbne)); with_reducible exact s3))
        clear hK K hHeld
        have hHeld := hHeld2
        clear hHeld2
        try simp only [Act.put, List.setIfInBounds_toArray, List.set_cons_zero, List.set_cons_succ]
        refine wpAnyH_ready (rs := [2]) (by kernel_rfl) (by simp) ?_
        refine AllReadyH.cons (o := { dst := some 49, op := Go.Op.call { callee := Go.Callee.value (Go.Operand.func 39), args := #[Go.Operand.tmp 48, Go.Operand.const (Go.Value.int Go.IntKind.i64 0)], argTypes := #[22, 3] }, type := 2, pos := "header.go:45", after := #[{ on := 1, ground := Go.Ground.data }], guard := none }) rfl (fun K hK => ?_) AllReadyH.nil
        go_simp
        go_at_call 39; refine hC.out.mono ?_; rintro e w3 ⟨rfl, hb3⟩; have s3 := (hb3.cell (World.block_lt_of_cell? _ _ s2)).trans s2; have hB3 := (hB2.drew).below hb3; have estr3 := estr.out w3 hb3; obtain ⟨y1, y2, y3, y4, y5, y6⟩ := hB3.six; have hM3 := hM2.out.drew.below hb3; have hT3 := hT2.out.drew.trans (Turn.of_below hb3 O2); replace hM3 := Lib.hid hM3; replace hT3 := Lib.hid hT3; replace hb3 := Lib.hid hb3
        refine hK.out _ _ ?_ (fun hHeld2 => ?_)
        · (try dsimp only); (first | with_reducible exact s3 | with_reducible exact s2 | with_reducible exact s2d | ((repeat (with_reducible refine cell_other ?_ hbne)); with_reducible exact s3))
        clear hK K hHeld
        have hHeld := hHeld2
        clear hHeld2
        try simp only [Act.put, List.setIfInBounds_toArray, List.set_cons_zero, List.set_cons_succ]
        refine wpAnyH_take (i := 19) (oi := { dst := some 66, op := Go.Op.build 65 #[(0, Go.Operand.tmp 47), (1, Go.Operand.tmp 49), (2, Go.Operand.tmp 54), (3, Go.Operand.tmp 59), (4, Go.Operand.tmp 64), (5, Go.Operand.tmp 65)], type := 65, pos := "header.go:45", after := #[{ on := 0, ground := Go.Ground.data }, { on := 2, ground := Go.Ground.data }, { on := 7, ground := Go.Ground.data }, { on := 12, ground := Go.Ground.data }, { on := 17, ground := Go.Ground.data }, { on := 18, ground := Go.Ground.data }], guard := none }) (v := ?v20) rfl (by kernel_rfl) (by kernel_rfl) (by kernel_rfl) (fun _ _ _ h => h) (Or.inl ⟨by rfl, ?hy20⟩) (by assumption) ?rest20
        case hy20 => (intro w hSw; (try dsimp only at hSw); go_simp <;> with_reducible rfl)
        try simp only [Act.put, List.setIfInBounds_toArray, List.set_cons_zero, List.set_cons_succ]
        refine wpAnyH_ready (rs := [20]) (by kernel_rfl) (by simp) ?_
        refine AllReadyH.cons (o := { dst := none, op := Go.Op.store 65 (Go.Operand.tmp 4) (Go.Operand.tmp 66), type := 0, pos := "header.go:45", after := #[{ on := 19, ground := Go.Ground.data }, { on := 2, ground := Go.Ground.chain }, { on := 0, ground := Go.Ground.phase }, { on := 1, ground := Go.Ground.phase }, { on := 2, ground := Go.Ground.phase }, { on := 3, ground := Go.Ground.phase }, { on := 4, ground := Go.Ground.phase }, { on := 5, ground := Go.Ground.phase }, { on := 6, ground := Go.Ground.phase }, { on := 7, ground := Go.Ground.phase }, { on := 8, ground := Go.Ground.phase }, { on := 9, ground := Go.Ground.phase }, { on := 10, ground := Go.Ground.phase }, { on := 11, ground := Go.Ground.phase }, { on := 12, ground := Go.Ground.phase }, { on := 13, ground := Go.Ground.phase }, { on := 14, ground := Go.Ground.phase }, { on := 15, ground := Go.Ground.phase }, { on := 16, ground := Go.Ground.phase }, { on := 17, ground := Go.Ground.phase }, { on := 18, ground := Go.Ground.phase }, { on := 19, ground := Go.Ground.phase }], guard := none }) rfl (fun K hK => ?_) AllReadyH.nil
        go_simp
        refine hK.out _ _ ?_ (fun hHeld2 => ?_)
        · (try dsimp only); (first | with_reducible exact s3 | with_reducible exact s2 | with_reducible exact s2d | ((repeat (with_reducible refine cell_other ?_ hbne)); with_reducible exact s3))
        clear hK K hHeld
        have hHeld := hHeld2
        clear hHeld2
        try simp only [Act.put, List.setIfInBounds_toArray, List.set_cons_zero, List.set_cons_succ]
        refine wpAnyH_take (i := 21) (oi := { dst := some 5, op := Go.Op.assign (Go.Operand.const (Go.Value.bool true)), type := 4, pos := "header.go:45", after := #[{ on := 20, ground := Go.Ground.chain }, { on := 0, ground := Go.Ground.phase }, { on := 1, ground := Go.Ground.phase }, { on := 2, ground := Go.Ground.phase }, { on := 3, ground := Go.Ground.phase }, { on := 4, ground := Go.Ground.phase }, { on := 5, ground := Go.Ground.phase }, { on := 6, ground := Go.Ground.phase }, { on := 7, ground := Go.Ground.phase }, { on := 8, ground := Go.Ground.phase }, { on := 9, ground := Go.Ground.phase }, { on := 10, ground := Go.Ground.phase }, { on := 11, ground := Go.Ground.phase }, { on := 12, ground := Go.Ground.phase }, { on := 13, ground := Go.Ground.phase }, { on := 14, ground := Go.Ground.phase }, { on := 15, ground := Go.Ground.phase }, { on := 16, ground := Go.Ground.phase }, { on := 17, ground := Go.Ground.phase }, { on := 18, ground := Go.Ground.phase }, { on := 19, ground := Go.Ground.phase }, { on := 20, ground := Go.Ground.phase }], guard := none }) (v := ?v21) rfl (by kernel_rfl) (by kernel_rfl) (by kernel_rfl) (fun _ _ _ h => h) (Or.inl ⟨by rfl, ?hy21⟩) (by assumption) ?rest21
        case hy21 => (intro w hSw; (try dsimp only at hSw); go_simp <;> with_reducible rfl)
        try simp only [Act.put, List.setIfInBounds_toArray, List.set_cons_zero, List.set_cons_succ]
        refine wpAnyH_done (by kernel_rfl) ?_ _
        refine NoPanic.normal ?_
        go_wp2
        refine ret_blk (v := .tuple #[hdV at_ ct nm (decide (128 ≤ x)) (decide (x / 64 % 2 = 1)) xt, .bool true]) w.heap.size #[.int .i64 at_, .int .i64 ct, .string ⟨nm.toArray⟩, .bool (decide (128 ≤ x)), .bool (decide (x / 64 % 2 = 1)), .int .i64 xt] 65 (Blk.put6 hB3) (fun w' h => by obtain ⟨e1, e2, e3, e4, e5, e6⟩ := h.six; simp [results, Tryd.results59, go_sem, hdV, e1, e2, e3, e4, e5, e6]) rfl ?_
        refine ⟨hgood.out, O2, ?_, ?_⟩
        · (repeat (refine MemP.setNew ?_ hnO2 _)); exact hM3.out
        · (repeat (refine Turn.setNew ?_ (Nat.le_refl _) _)); exact (hT0.out.trans hT1.out).trans hT3.out
      exact AllReadyH.nil

end Go.Proofs.YtjihhojlakapnaaDoor
