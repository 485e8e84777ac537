/- 'Lay'. -/
import Derived.Test.YtjkpapkjlmglbaaDoorM4
namespace Go.Proofs.YtjkpapkjlmglbaaDoor
open Go.RowKit
set_option linter.unusedVariables false
set_option linter.unusedSimpArgs false
attribute [local go_sem] cell_set set_set m_undef

theorem page_set {M : List UInt8} (hM : M.length = 8192) {k q : Nat} (hk : k < 8192) (hq : q < 128) (x : UInt8) : page (M.set k x) q = if q = k / 64 then (page M q).set (k % 64) x else page M q := by
  have hl : (M.set k x).length = 8192 := by rw [List.length_set]; exact hM
  have h1 := page_len hl hq
  have h2 := page_len hM hq
  by_cases e : q = k / 64
  · rw [if_pos e]
    apply List.ext_getElem
    · simp [h1, h2]
    · intro i hi1 hi2
      rw [h1] at hi1
      rw [page_at hl hq hi1, List.getElem_set, List.getElem_set]
      by_cases h : k = 64 * q + i
      · rw [if_pos h, if_pos (by omega)]
      · rw [if_neg h, if_neg (by omega), page_at hM hq hi1]
  · rw [if_neg e]
    apply List.ext_getElem
    · simp [h1, h2]
    · intro i hi1 hi2
      rw [h1] at hi1
      rw [page_at hl hq hi1, List.getElem_set, if_neg (by omega), page_at hM hq hi1]
/-- A byte of a page is stored. -/
theorem MemI.setByte {w : World} {base mb pb fb : Nat} {F M : List UInt8} {g : Nat → Option Nat} (hI : MemI w base mb pb fb F M g) {k h : Nat} (hk : k < 8192) (hg : g (k / 64) = some h) (x : UInt8) :
    MemI (w.setCell ⟨h, 64 + k % 64, none⟩ (.int .u8 (x.toNat : Int))) base mb pb fb F (M.set k x) g := by
  have hq : k / 64 < 128 := by omega
  obtain ⟨p1, p2, p3, p4, p5, p6⟩ := hI.pages (k / 64) hq h hg
  have hgr := grownBy_setCell w h (64 + k % 64) (.int .u8 (x.toNat : Int))
  obtain ⟨D, hD, hPG⟩ := hI.map
  refine ⟨by rw [List.length_set]; exact hI.lenM, hI.lenF, hI.own.kept hgr (fun e => p2 (Option.some.inj e).symm), hI.first.kept hgr (fun e => p3 (Option.some.inj e).symm), ⟨D, hD.kept hgr (fun e => p4 (Option.some.inj e).symm), hPG⟩, hI.low, hI.ne, fun q hq2 b hb => ?_, fun q hq2 hn => ?_⟩
  · obtain ⟨r1, r2, r3, r4, r5, r6⟩ := hI.pages q hq2 b hb
    refine ⟨r1, r2, r3, r4, ?_, r6⟩
    rw [page_set hI.lenM hk hq2 x]
    by_cases e : q = k / 64
    · subst e
      rw [if_pos rfl]
      have e2 : b = h := by rw [hg] at hb; exact (Option.some.inj hb).symm
      subst e2
      have h3 := r5.set (64 + k % 64) (.int .u8 (x.toNat : Int))
      have e3 : (cb (page F (k / 64) ++ page M (k / 64))).toArray.setIfInBounds (64 + k % 64) (.int .u8 (x.toNat : Int)) = (cb (page F (k / 64) ++ (page M (k / 64)).set (k % 64) x)).toArray := by
        rw [List.setIfInBounds_toArray]
        unfold cb
        rw [List.map_append, List.map_append, List.set_append_right _ _ (by rw [List.length_map, page_len hI.lenF hq]; omega), List.length_map, page_len hI.lenF hq, Nat.add_sub_cancel_left, List.map_set]
      rw [e3] at h3
      exact h3
    · rw [if_neg e]
      exact r5.kept hgr (fun e2 => e (p6 q hq2 (by rw [hb]; exact e2)))
  · rw [page_set hI.lenM hk hq2 x, if_neg (fun e => by rw [e, hg] at hn; cases hn)]
    exact hI.rest q hq2 hn
/-- What 'Lay' makes of the memory, the first j bytes laid. -/
def layN (M : List UInt8) (a : Int) (bs : List UInt8) : Nat → List UInt8
  | 0 => M
  | j + 1 => if 0 ≤ a + j ∧ a + j < 8192 then (layN M a bs j).set (a + j).toNat (bs.getD j 0) else layN M a bs j
def layL (M : List UInt8) (a : Int) (bs : List UInt8) : List UInt8 := layN M a bs bs.length
theorem layN_len (M : List UInt8) (a : Int) (bs : List UInt8) (j : Nat) : (layN M a bs j).length = M.length := by
  induction j with
  | zero => rfl
  | succ j ih => rw [layN]; split <;> simp [ih]
theorem layN_high (M : List UInt8) (a : Int) (bs : List UInt8) (h : 8192 < a) (j : Nat) : layN M a bs j = M := by
  induction j with
  | zero => rfl
  | succ j ih => rw [layN, if_neg (by omega)]; exact ih
/-- What 'Lay' does. -/
def LayP (w w' : World) (base mb pb fb : Nat) (F M' : List UInt8) (g : Nat → Option Nat) (e : Ending) : Prop :=
  ∃ g', e = .returned (.tuple #[]) ∧ MemI w' base mb pb fb F M' g' ∧ Turn w w' (MemO mb pb fb g) (MemO mb pb fb g')
theorem MemO.mono {mb pb fb : Nat} {g g' : Nat → Option Nat} {N k : Nat} (h : ∀ j k, g' j = some k → g j = some k ∨ N ≤ k) (hk : MemO mb pb fb g' k) : MemO mb pb fb g k ∨ N ≤ k := by
  rcases hk with h1 | h1 | h1 | ⟨q, hq, h1⟩
  · exact .inl (.inl h1)
  · exact .inl (.inr (.inl h1))
  · exact .inl (.inr (.inr (.inl h1)))
  · rcases h q k h1 with h2 | h2
    · exact .inl (.inr (.inr (.inr ⟨q, hq, h2⟩)))
    · exact .inr h2
theorem Turn.set {w w' : World} {O O' : Nat → Prop} (h : Turn w w' O O') {b o : Nat} (hb : O' b) (v : Value) : Turn w (w'.setCell ⟨b, o, none⟩ v) O O' :=
  h.trans (Turn.of_grown (grownBy_setCell w' b o v) (fun k e => .inl (by rw [← Option.some.inj e]; exact hb)) (fun k hk => .inl hk))
set_option maxRecDepth 100000 in
set_option maxHeartbeats 1600000 in
theorem wLay (w : World) (base mb pb fb : Nat) (F M : List UInt8) (g : Nat → Option Nat) (hI : MemI w base mb pb fb F M g) (hbase : base ≤ w.heap.size) (a : Int) (ha : isI a) (B : Nat) (v : Value) (bs : List UInt8) (hv : Bs w B v bs) (hbs : bs.length ≤ 1000000) (hvO : ∀ k, v.ownBlock = some k → ¬ MemO mb pb fb g k) :
    Calls Tryd.prog 15 #[.pointer (some ⟨mb, 0, none⟩), .int .i64 a, v] w fun e w' => LayP w w' base mb pb fb F (layL M a bs) g e := by
  unfold isI at ha
  unfold layL
  obtain ⟨N, hN⟩ : ∃ N, bs.length = N := ⟨_, rfl⟩
  obtain ⟨ad, cap, rfl, hcap⟩ := hv.len
  rw [hN]
  have hvt := Lib.hid hv.lt
  have hv' := Lib.hid hv
  rw [hN] at hbs
  have his := Lib.hid (wIs' _ base mb pb fb F M g hI)
  clear hv
  go_enter Tryd.func15, Tryd.ntmps15
  go_upto_region 0 with fail
  by_cases h8 : 8192 < a
  · have t1 : ((8192 : Int) < a) = True := by simp; exact h8
    replace h8 := Lib.hid h8
    replace hI := Lib.hid hI
    go_wp2_with (go_at_call 26; refine his.out.mono ?_; rintro e w2 ⟨rfl, rfl⟩)
    refine ⟨rfl, .tuple #[], by simp [results, Tryd.results15, go_sem], ?_⟩
    exact ⟨g, rfl, by rw [layN_high M a bs h8.out]; exact hI.out, Turn.refl _ _⟩
  have t1 : ((8192 : Int) < a) = False := by simp; omega
  have ha8 : a ≤ 8192 := by omega
  replace hI := Lib.hid hI
  go_upto_region 1 with (go_at_call 26; refine his.out.mono ?_; rintro e w2 ⟨rfl, rfl⟩)
  clear t1 his h8
  go_wp2
  go_loopw [18] (fun i wr => ∃ (j : Nat) (g' : Nat → Option Nat), j ≤ N ∧ i = .int .i64 (j : Int) ∧ MemI wr base mb pb fb F (layN M a bs j) g' ∧ Turn w wr (MemO mb pb fb g) (MemO mb pb fb g')) (fun i _ => (N - (intOf i).toNat))
  case atStart => exact ⟨0, g, by omega, rfl, hI.out, Turn.refl _ _⟩
  case round =>
    obtain ⟨j, g', hj, rfl, hI2, hT⟩ := hrel
    have hvO2 : ∀ k, (Value.slice ad bs.length cap).ownBlock = some k → ¬ MemO mb pb fb g' k := fun k hk hO => by
      rcases hT.new k hO with h | h
      · exact hvO k hk h
      · rcases hvt.out with e | ⟨x, e, _, hx⟩
        · rw [hk] at e; cases e
        · rw [hk] at e; cases e; omega
    have hvr : Bs wr B (.slice ad bs.length cap) bs := by
      rcases hv'.out with h | ⟨b, o, c, he, h2, h3, h4, h5, h6⟩
      · exact .inl h
      · have hne : ¬ MemO mb pb fb g b := hvO b (by rw [he]; rfl)
        have hb := hT.block b h3 hne
        refine .inr ⟨b, o, c, he, h2, Nat.lt_of_lt_of_le h3 hT.size, h4, fun i hi => ?_, fun i hi => ?_⟩
        · rw [← h5 i hi]; unfold World.cell?; simp only [hb]
        · rw [← (h6 i hi).2]; have := (h6 i hi).1
          refine ⟨?_, ?_⟩
          · rw [← this]; unfold World.cell?; simp only [hb]
          · unfold World.frozen?; simp only [hb]
    by_cases hjN : j < N
    · have w1' : IntKind.i64.wrap ((j : Int) + 1) = ((j + 1 : Nat) : Int) := by rw [IntKind.wrap_i64]; omega
      have t2 : ((j : Int) < (N : Int)) = True := by simp; omega
      obtain ⟨b, o, c, he⟩ := hvr.some_of (by intro e; rw [e] at hN; simp at hN; omega)
      have hjb : j < bs.length := by omega
      cases he
      obtain ⟨r1, r2⟩ := hvr.at j hjb
      obtain ⟨x, hx⟩ : ∃ x, bs[j] = x := ⟨_, rfl⟩
      rw [hx] at r1
      have hxD : bs.getD j 0 = x := by rw [List.getD_eq_getElem?_getD, List.getElem?_eq_getElem hjb, ← hx]; rfl
      clear hx
      by_cases hin : 0 ≤ a + j ∧ a + j < 8192
      · obtain ⟨kN, hkN⟩ : ∃ kN : Nat, (kN : Int) = a + j := ⟨(a + j).toNat, by omega⟩
        have w2 : IntKind.i64.wrap (a + (j : Int)) = (kN : Int) := by rw [IntKind.wrap_i64]; omega
        have t3 : ((kN : Int) < 8192) = True := by simp; omega
        have hk8 : kN < 8192 := by omega
        have hat := Lib.hid (wAt _ base mb pb fb F (layN M a bs j) g' hI2 (by have := hT.size; omega) kN hk8)
        have hstep : layN M a bs (j + 1) = (layN M a bs j).set kN x := by rw [layN, if_pos hin, ← hkN, Int.toNat_natCast, hxD]
        replace hstep := Lib.hid hstep
        have hI2' := Lib.hid hI2
        replace hT := Lib.hid hT
        have hjN' := Lib.hid hjN
        clear hI2 hin hkN hxD hvr hvO2
        go_upto_region 6 with fail
        go_upto_region 7 with (go_at_call 27; refine hat.out.mono ?_; rintro e w5 ⟨g2, h, rfl, hI3, hgh, hgu, hT3, hn3⟩; obtain ⟨p1, p2, p3, p4, p5, p6⟩ := hI3.pages (kN / 64) (by omega) h hgh; obtain ⟨q1, q2⟩ := held_cell p5 hI3.lenF hI3.lenM hk8; replace p5 := Lib.hid p5; have hI6 := Lib.hid (hI3.setByte hk8 hgh x); have hO6 : MemO mb pb fb g2 h := .inr (.inr (.inr ⟨kN / 64, by omega, hgh⟩)); have hT5 := Turn.of_grown (O := MemO mb pb fb g') (O' := MemO mb pb fb g2) hT3 (fun k e => .inl (.inr (.inl (Option.some.inj e).symm))) (fun k hk => MemO.mono hn3 hk); have hT6 := Lib.hid ((hT.out.trans hT5).set hO6 (o := 64 + kN % 64) (.int .u8 (x.toNat : Int))); replace hT3 := Lib.hid hT3; replace hI3 := Lib.hid hI3; replace hO6 := Lib.hid hO6; replace hT5 := Lib.hid hT5; clear p1 p2 p3 p4 p6 hgh hgu hn3)
        clear q1 q2 r1 r2
        go_wp2
        go_roundw
        case rel => exact ⟨j + 1, g2, by have := hjN'.out; omega, rfl, by rw [hstep.out]; exact hI6.out, hT6.out⟩
        case measure => have := hjN'.out; simp [intOf]; omega
      · obtain ⟨i, hi⟩ : ∃ i : Int, i = a + j := ⟨_, rfl⟩
        have w2 : IntKind.i64.wrap (a + (j : Int)) = i := by rw [IntKind.wrap_i64]; omega
        have hstep : layN M a bs (j + 1) = layN M a bs j := by rw [layN, if_neg hin]
        replace hstep := Lib.hid hstep
        replace hI2 := Lib.hid hI2
        replace hT := Lib.hid hT
        have hjN' := Lib.hid hjN
        by_cases h0 : 0 ≤ i
        · have t3 : ((0 : Int) ≤ i) = True := by simp; exact h0
          have t4 : (i < 8192) = False := by simp; omega
          clear hi hin h0 hxD hvr hvO2
          go_wp2
          go_roundw
          case rel => exact ⟨j + 1, g', by have := hjN'.out; omega, rfl, by rw [hstep.out]; exact hI2.out, hT.out⟩
          case measure => have := hjN'.out; simp [intOf]; omega
        · have t3 : ((0 : Int) ≤ i) = False := by simp; omega
          clear hi hin h0 hxD hvr hvO2
          go_wp2
          go_roundw
          case rel => exact ⟨j + 1, g', by have := hjN'.out; omega, rfl, by rw [hstep.out]; exact hI2.out, hT.out⟩
          case measure => have := hjN'.out; simp [intOf]; omega
    · have hjs : j = N := by omega
      subst hjs
      have t2 : ((j : Int) < (j : Int)) = False := by simp
      replace hI2 := Lib.hid hI2
      replace hT := Lib.hid hT
      clear hj hvr hvO2
      go_wp2
      (try go_end0)
      exact ⟨g', rfl, hI2.out, hT.out⟩
end Go.Proofs.YtjkpapkjlmglbaaDoor
