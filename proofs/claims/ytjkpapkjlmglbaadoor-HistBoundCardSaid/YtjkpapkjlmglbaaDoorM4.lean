/- 'Load'. -/
import Derived.Test.YtjkpapkjlmglbaaDoorM3
namespace Go.Proofs.YtjkpapkjlmglbaaDoor
open Go.RowKit
set_option linter.unusedVariables false
set_option linter.unusedSimpArgs false
attribute [local go_sem] cell_set set_set m_undef

/-- 'make([]byte, n)' -/
theorem run_made (w : World) (N : Nat) (hN : N ≤ 1000000) : (Instr.makeSlice 22 (.int .i64 (N : Int)) (.int .i64 (N : Int))).run Tryd.prog w = .ok (.slice (some ⟨w.heap.size, 0, none⟩) N N) (w.alloc (.cells (cb (List.replicate N 0)).toArray 5)) := by
  obtain ⟨i, hi1, hi2⟩ := Option.map_eq_some_iff.1 info5
  simp only [Prod.mk.injEq] at hi2
  obtain ⟨hz, hs1, hb1⟩ := hi2
  have h := run_make (P := Tryd.prog) w 22 5 i (.int .u8 0) Tryd.underlying22 hi1 hz .i64 .i64 (N : Int) (N : Int) (by omega) (Int.le_refl _) (by rw [hb1]; omega) (by omega)
  rw [h]
  have e : madeCells (Value.int IntKind.u8 0).cells ((N : Int).toNat * i.size) = (cb (List.replicate N 0)).toArray := by
    rw [hs1, Int.toNat_natCast, Nat.mul_one]
    apply Array.ext
    · simp [madeCells, cb, Value.cells]
    · intro j h1 h2
      simp [madeCells, cb, Value.cells, Nat.mod_one]
  rw [e]
  simp
theorem MemI.kept {w w' : World} {base mb pb fb : Nat} {F M : List UInt8} {g : Nat → Option Nat} {row : Option Nat} (h : MemI w base mb pb fb F M g) (hg : w.grownBy w' row) (hrow : ∀ k, row = some k → ¬ MemO mb pb fb g k) : MemI w' base mb pb fb F M g := by
  have nm : some mb ≠ row := fun e => hrow mb e.symm (.inl rfl)
  have np : some pb ≠ row := fun e => hrow pb e.symm (.inr (.inl rfl))
  have nf : some fb ≠ row := fun e => hrow fb e.symm (.inr (.inr (.inl rfl)))
  obtain ⟨D, hD, hPG⟩ := h.map
  refine ⟨h.lenM, h.lenF, h.own.kept hg nm, h.first.kept hg nf, ⟨D, hD.kept hg np, hPG⟩, h.low, h.ne, fun k hk b hb => ?_, h.rest⟩
  obtain ⟨p1, p2, p3, p4, p5, p6⟩ := h.pages k hk b hb
  exact ⟨p1, p2, p3, p4, p5.kept hg (fun e => hrow b e.symm (.inr (.inr (.inr ⟨k, hk, hb⟩)))), p6⟩
/-- A memory's blocks stand. -/
theorem MemI.lt {w : World} {base mb pb fb : Nat} {F M : List UInt8} {g : Nat → Option Nat} (h : MemI w base mb pb fb F M g) {k : Nat} (hk : MemO mb pb fb g k) : k < w.heap.size ∧ base ≤ k := by
  obtain ⟨D, hD, hPG⟩ := h.map
  rcases hk with rfl | rfl | rfl | ⟨j, hj, hjk⟩
  · exact ⟨h.own.lt, h.low.1⟩
  · exact ⟨hD.lt, h.low.2.1⟩
  · exact ⟨h.first.lt, h.low.2.2⟩
  · obtain ⟨p1, p2, p3, p4, p5, p6⟩ := h.pages j hj k hjk
    exact ⟨p5.lt, p1⟩
theorem wIs' (w : World) (base mb pb fb : Nat) (F M : List UInt8) (g : Nat → Option Nat) (hI : MemI w base mb pb fb F M g) : Calls Tryd.prog 26 #[.pointer (some ⟨mb, 0, none⟩)] w fun e w' => e = .returned (.bool true) ∧ w = w' :=
  wIs w base mb M (MemO mb pb fb g) ⟨pb, fb, F, g, hI, fun k => Iff.rfl⟩
/-- The byte at a place of the memory. -/
def memAt (M : List UInt8) (z : Int) : UInt8 := if 0 ≤ z ∧ z < 8192 then M.getD z.toNat 0 else 0
/-- What 'Load' gives. -/
def loadL (M : List UInt8) (a n : Int) : List UInt8 := (List.range (min (max n 0) 8192).toNat).map fun i : Nat => memAt M (a + (i : Int))
def partL (M : List UInt8) (a : Int) (N j : Nat) : List UInt8 := (List.range N).map fun i : Nat => if i < j then memAt M (a + (i : Int)) else 0
theorem partL_len (M : List UInt8) (a : Int) (N j : Nat) : (partL M a N j).length = N := by simp [partL]
theorem partL_zero (M : List UInt8) (a : Int) (N : Nat) : partL M a N 0 = List.replicate N 0 := by
  apply List.ext_getElem
  · simp [partL]
  · intro i h1 h2; simp [partL]
theorem partL_step (M : List UInt8) (a : Int) (N j : Nat) (hj : j < N) : partL M a N (j + 1) = (partL M a N j).set j (memAt M (a + j)) := by
  apply List.ext_getElem
  · simp [partL]
  · intro i h1 h2
    rw [List.getElem_set]
    simp only [partL, List.getElem_map, List.getElem_range]
    by_cases e : j = i
    · subst e; simp
    · rw [if_neg e]
      by_cases h : i < j
      · rw [if_pos h, if_pos (by omega)]
      · rw [if_neg h, if_neg (by omega)]
theorem partL_out (M : List UInt8) (a : Int) (N j : Nat) (hj : j < N) (h : ¬ (0 ≤ a + j ∧ a + j < 8192)) : partL M a N (j + 1) = partL M a N j := by
  apply List.ext_getElem
  · simp [partL]
  · intro i h1 h2
    simp only [partL, List.getElem_map, List.getElem_range]
    by_cases e : i = j
    · subst e
      rw [if_pos (by omega), if_neg (by omega), memAt, if_neg h]
    · by_cases h3 : i < j
      · rw [if_pos h3, if_pos (by omega)]
      · rw [if_neg h3, if_neg (by omega)]
/-- What 'Load' does. -/
def LoadP (w w' : World) (base mb pb fb : Nat) (F M : List UInt8) (g : Nat → Option Nat) (L : List UInt8) (e : Ending) : Prop :=
  ∃ v' g', e = .returned v' ∧ Bs w' w.heap.size v' L ∧ MemI w' base mb pb fb F M g' ∧ w.grownBy w' (some pb) ∧ (∀ j k, g' j = some k → g j = some k ∨ w.heap.size ≤ k) ∧ ∀ k, v'.ownBlock = some k → ¬ MemO mb pb fb g' k
theorem held_cell {w : World} {h kN : Nat} {F M : List UInt8} {t : TypeId} (hB : Blk w h (cb (page F (kN / 64) ++ page M (kN / 64))).toArray t) (hF : F.length = 8192) (hM : M.length = 8192) (hk : kN < 8192) :
    w.cell? ⟨h, 64 + kN % 64, none⟩ = some (.int .u8 ((M[kN]'(by rw [hM]; exact hk)).toNat : Int)) ∧ w.frozen? ⟨h, 64 + kN % 64, none⟩ = false := by
  have hq : kN / 64 < 128 := by omega
  have hr : kN % 64 < 64 := Nat.mod_lt _ (by omega)
  have h1 := page_len hF hq
  have h2 := page_len hM hq
  have h3 := page_at hM hq hr
  refine ⟨?_, hB.frozen _⟩
  rw [hB.cell, List.getElem?_toArray]
  unfold cb
  rw [List.getElem?_map, List.getElem?_append_right (by omega), h1, Nat.add_sub_cancel_left, List.getElem?_eq_getElem (by omega), h3]
  have e : 64 * (kN / 64) + kN % 64 = kN := by omega
  simp only [e]
  rfl
theorem grown_trans {w w1 w2 : World} {r : Option Nat} (h : w.grownBy w1 r) (h2 : w1.grownBy w2 r) : w.grownBy w2 r :=
  ⟨h2.os.trans h.os, h2.tape.trans h.tape, h2.output.trans h.output, Nat.le_trans h.size h2.size, fun k hk hne => (h2.block k (Nat.lt_of_lt_of_le hk h.size) hne).trans (h.block k hk hne)⟩
theorem grown_set {w w1 : World} {r : Option Nat} (h : w.grownBy w1 r) {b o : Nat} (hb : w.heap.size ≤ b) (v : Value) : w.grownBy (w1.setCell ⟨b, o, none⟩ v) r :=
  ⟨h.os, h.tape, h.output, by simpa using h.size, fun k hk hne => (Below.heap_setCell _ _ _ _ (by intro e; simp at e; omega)).trans (h.block k hk hne)⟩
set_option maxRecDepth 100000 in
set_option maxHeartbeats 1600000 in
theorem wLoad (w : World) (base mb pb fb : Nat) (F M : List UInt8) (g : Nat → Option Nat) (hI : MemI w base mb pb fb F M g) (hbase : base ≤ w.heap.size) (a n : Int) (ha : isI a) :
    Calls Tryd.prog 28 #[.pointer (some ⟨mb, 0, none⟩), .int .i64 a, .int .i64 n] w fun e w' => LoadP w w' base mb pb fb F M g (loadL M a n) e := by
  unfold isI at ha
  obtain ⟨N, hN⟩ : ∃ N : Nat, N = (min (max n 0) 8192).toNat := ⟨_, rfl⟩
  have hloadL : loadL M a n = partL M a N N := by
    unfold loadL partL
    rw [← hN]
    apply List.map_congr_left
    intro i hi
    rw [if_pos (List.mem_range.1 hi)]
  rw [hloadL]
  have hmin : (if (8192 : Int) < (if n < 0 then 0 else n) then 8192 else (if n < 0 then 0 else n)) = (N : Int) := by split <;> split <;> omega
  obtain ⟨m0, hm0⟩ : ∃ m0, (if n < 0 then (0 : Int) else n) = m0 := ⟨_, rfl⟩
  rw [hm0] at hmin
  have hN8 : N ≤ 8192 := by omega
  have hmk := run_made w N (by omega)
  clear hN hloadL
  have hg1 : w.grownBy (w.alloc (.cells (cb (List.replicate N 0)).toArray 5)) none := World.grownBy_alloc w _ none
  have hI1 := hI.kept hg1 (fun k e => by cases e)
  have hB1 : Bs (w.alloc (.cells (cb (List.replicate N 0)).toArray 5)) w.heap.size (.slice (some ⟨w.heap.size, 0, none⟩) N N) (List.replicate N 0) := by
    have h := Bs.of_blk (n := N) (Blk.new w (cb (List.replicate N 0)).toArray 5) (by simp)
    rcases h with ⟨h, _⟩ | ⟨b, o, cap, he, h2, h3⟩
    · cases h
    · have := he
      simp only [Value.slice.injEq, Option.some.injEq, Addr.mk.injEq] at this
      exact .inr ⟨b, o, cap, he, by omega, h3⟩
  have his := Lib.hid (wIs' _ base mb pb fb F M g hI1)
  replace hI := Lib.hid hI
  go_enter Tryd.func28, Tryd.ntmps28
  go_upto_region 2 with fail
  generalize hw1 : w.alloc (.cells (cb (List.replicate N 0)).toArray 5) = w1 at *
  by_cases h8 : 8192 < a
  · have t1 : ((8192 : Int) < a) = True := by simp; exact h8
    have e1 : ∀ j, j ≤ N → partL M a N j = List.replicate N 0 := by
      intro j
      induction j with
      | zero => intro _; exact partL_zero M a N
      | succ j ih => intro hj; rw [partL_out M a N j (by omega) (by omega), ih (by omega)]
    go_wp2_with (go_at_call 26; refine his.out.mono ?_; rintro e w2 ⟨rfl, rfl⟩)
    go_ret
    refine ⟨_, g, rfl, by rw [e1 N (Nat.le_refl _)]; exact hB1, hI1, ⟨hg1.os, hg1.tape, hg1.output, hg1.size, fun k hk _ => hg1.block k hk (by simp)⟩, fun j k h => .inl h, fun k hk hO => ?_⟩
    have hk2 : w.heap.size = k := Option.some.inj hk
    have := (hI.out.lt hO).1
    omega
  have t1 : ((8192 : Int) < a) = False := by simp; omega
  go_upto_region 4 with (go_at_call 26; refine his.out.mono ?_; rintro e w2 ⟨rfl, rfl⟩)
  have hob : w.heap.size < w1.heap.size := by rw [← hw1]; simp
  have hg1' := Lib.hid hg1
  have hbl : ∀ k, w.heap.size = k → ¬ MemO mb pb fb g k := fun k hk hO => by
    have := (hI.out.lt hO).1
    omega
  have ha8 : a ≤ 8192 := by omega
  clear hm0 hmin hmk hw1 hg1 h8 t1 his
  go_wp2
  go_loopw [24] (fun i wr => ∃ (j : Nat) (g' : Nat → Option Nat), j ≤ N ∧ i = .int .i64 (j : Int) ∧ MemI wr base mb pb fb F M g' ∧ Bs wr w.heap.size (.slice (some ⟨w.heap.size, 0, none⟩) N N) (partL M a N j) ∧ w.grownBy wr (some pb) ∧ (∀ j k, g' j = some k → g j = some k ∨ w.heap.size < k)) (fun i _ => (N - (intOf i).toNat))
  case atStart =>
    exact ⟨0, g, by omega, rfl, hI1, by rw [partL_zero]; exact hB1, ⟨hg1'.out.os, hg1'.out.tape, hg1'.out.output, hg1'.out.size, fun k hk _ => hg1'.out.block k hk (by simp)⟩, fun j k h => .inl h⟩
  case round =>
    clear hI1 hB1
    obtain ⟨j, g', hj, rfl, hI2, hB2, hT, hnew⟩ := hrel
    have hnotO : ¬ MemO mb pb fb g' w.heap.size := by
      rintro (h | h | h | ⟨q, hq, h⟩)
      · exact hbl _ rfl (.inl h)
      · exact hbl _ rfl (.inr (.inl h))
      · exact hbl _ rfl (.inr (.inr (.inl h)))
      · rcases hnew q _ h with h2 | h2
        · exact hbl _ rfl (.inr (.inr (.inr ⟨q, hq, h2⟩)))
        · omega
    have hwr : w.heap.size < wr.heap.size := by
      rcases hB2.lt with e | ⟨x, e, _, hx⟩
      · cases e
      · cases e; exact hx
    by_cases hjN : j < N
    · have w1' : IntKind.i64.wrap ((j : Int) + 1) = ((j + 1 : Nat) : Int) := by rw [IntKind.wrap_i64]; omega
      have t2 : ((j : Int) < (N : Int)) = True := by simp; omega
      obtain ⟨jz, hjz⟩ : ∃ jz : Int, jz = (j : Int) := ⟨_, rfl⟩
      by_cases hin : 0 ≤ a + j ∧ a + j < 8192
      · obtain ⟨kN, hkN⟩ : ∃ kN : Nat, (kN : Int) = a + j := ⟨(a + j).toNat, by omega⟩
        have w2 : IntKind.i64.wrap (a + (j : Int)) = (kN : Int) := by rw [IntKind.wrap_i64]; omega
        have t3 : ((kN : Int) < 8192) = True := by simp; omega
        have hk8 : kN < 8192 := by omega
        have hat := Lib.hid (wAt _ base mb pb fb F M g' hI2 (by have := hT.size; omega) kN hk8)
        have hstep := partL_step M a N j hjN
        have hmem : memAt M (a + j) = M[kN]'(by rw [hI2.lenM]; exact hk8) := by
          rw [memAt, if_pos hin, ← hkN, Int.toNat_natCast, List.getD_eq_getElem?_getD, List.getElem?_eq_getElem (by rw [hI2.lenM]; exact hk8)]
          rfl
        rw [hmem] at hstep
        replace hstep := Lib.hid hstep
        replace hmem := Lib.hid hmem
        clear hin hkN hjz
        have hpb : pb ≠ w.heap.size := fun e => hnotO (.inr (.inl e.symm))
        replace hI2 := Lib.hid hI2
        have hB2' := Lib.hid hB2
        have hsz := hT.size
        replace hT := Lib.hid hT
        clear hB2
        go_upto_region 9 with fail
        have w1w : True := trivial
        go_upto_region 10 with (go_at_call 27; refine hat.out.mono ?_; rintro e w5 ⟨g2, h, rfl, hI3, hgh, hgu, hT3, hn3⟩; obtain ⟨p1, p2, p3, p4, p5, p6⟩ := hI3.pages (kN / 64) (by omega) h hgh; obtain ⟨q1, q2⟩ := held_cell p5 hI3.lenF hI3.lenM hk8; replace p5 := Lib.hid p5; have hB3 := hB2'.out.kept hT3 (.inr (by intro e; exact hpb (Option.some.inj e).symm)); obtain ⟨r1, r2⟩ := hB3.at j (by rw [partL_len]; exact hjN); rw [Nat.zero_add] at r1 r2; have hb5 := hT3.size; replace hT3 := Lib.hid hT3; replace hI3 := Lib.hid hI3; replace hB3 := Lib.hid hB3; clear p1 p2 p3 p4 p6 hgh hgu)
        have hB6 := hB3.out.setAt j (M[kN]'(by rw [hI2.out.lenM]; exact hk8)) (by rw [partL_len]; exact hjN)
        rw [Nat.zero_add, ← hstep.out] at hB6
        have hI6 := hI3.out.kept (grownBy_setCell w5 w.heap.size j (.int .u8 ((M[kN]'(by rw [hI2.out.lenM]; exact hk8)).toNat : Int))) (fun k hk => by
          have e := Option.some.inj hk
          subst e
          rintro (h9 | h9 | h9 | ⟨q, hq, h9⟩)
          · exact hnotO (.inl h9)
          · exact hnotO (.inr (.inl h9))
          · exact hnotO (.inr (.inr (.inl h9)))
          · rcases hn3 q _ h9 with h10 | h10
            · exact hnotO (.inr (.inr (.inr ⟨q, hq, h10⟩)))
            · omega)
        have hT6 := grown_set (grown_trans hT.out hT3.out) (Nat.le_refl _) (o := j) (.int .u8 ((M[kN]'(by rw [hI2.out.lenM]; exact hk8)).toNat : Int))
        replace hB6 := Lib.hid hB6
        replace hI6 := Lib.hid hI6
        replace hT6 := Lib.hid hT6
        clear q1 q2 r1 r2 hB3 hT3 p5
        go_wp2
        go_roundw
        case rel => exact ⟨j + 1, g2, by omega, rfl, hI6.out, hB6.out, hT6.out, fun q k hq => by
          rcases hn3 q k hq with h1 | h1
          · exact hnew q k h1
          · exact .inr (by omega)⟩
        case measure => simp [intOf]; omega
      · obtain ⟨i, hi⟩ : ∃ i : Int, i = a + j := ⟨_, rfl⟩
        have w2 : IntKind.i64.wrap (a + (j : Int)) = i := by rw [IntKind.wrap_i64]; omega
        have hout := Lib.hid (partL_out M a N j hjN hin)
        replace hI2 := Lib.hid hI2
        replace hB2 := Lib.hid hB2
        replace hT := Lib.hid hT
        by_cases h0 : 0 ≤ i
        · have t3 : ((0 : Int) ≤ i) = True := by simp; exact h0
          have t4 : (i < 8192) = False := by simp; omega
          clear hi hin h0 hjz
          go_wp2
          go_roundw
          case rel => exact ⟨j + 1, g', by omega, rfl, hI2.out, by rw [hout.out]; exact hB2.out, hT.out, hnew⟩
          case measure => simp [intOf]; omega
        · have t3 : ((0 : Int) ≤ i) = False := by simp; omega
          clear hi hin h0 hjz
          go_wp2
          go_roundw
          case rel => exact ⟨j + 1, g', by omega, rfl, hI2.out, by rw [hout.out]; exact hB2.out, hT.out, hnew⟩
          case measure => simp [intOf]; omega
    · have hjs : j = N := by omega
      subst hjs
      have t2 : ((j : Int) < (j : Int)) = False := by simp
      replace hI2 := Lib.hid hI2
      replace hB2 := Lib.hid hB2
      replace hT := Lib.hid hT
      clear hj
      go_wp2
      go_ret
      exact ⟨_, g', rfl, hB2.out, hI2.out, hT.out, fun q k hq => by
        rcases hnew q k hq with h1 | h1
        · exact .inl h1
        · exact .inr (by omega), fun k hk => by
        have e : w.heap.size = k := Option.some.inj hk
        rw [← e]
        exact hnotO⟩
end Go.Proofs.YtjkpapkjlmglbaaDoor
