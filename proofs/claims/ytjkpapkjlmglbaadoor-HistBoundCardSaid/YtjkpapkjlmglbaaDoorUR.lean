/- The line feeds of a text of any size are taken out: 'ReplaceAll' at one byte, walked anew (the shelf's contract ends below 2^32 bytes). -/
import Derived.Test.YtjkpapkjlmglbaaDoorU2
import Derived.Shelf.Strings.Builder2
namespace Go.Proofs
open Go.Shelf
namespace YtjkpapkjlmglbaaDoor
open Go.RowKit
/-- What is kept of a text. -/
def keptL (l : List UInt8) : List UInt8 := l.filter (fun c => decide (c ≠ 10))
def feeds (l : List UInt8) : Nat := l.count 10
theorem feeds_le (l : List UInt8) : feeds l ≤ l.length := List.count_le_length
theorem kept_none (l : List UInt8) (h : feeds l = 0) : keptL l = l := by
  unfold keptL
  rw [List.filter_eq_self]
  intro x hx
  have h1 : (10 : UInt8) ∉ l := List.count_eq_zero.1 h
  exact decide_eq_true (fun e => h1 (e ▸ hx))
/-- The first line feed. -/
theorem feed_at (l : List UInt8) (h : feeds l ≠ 0) : ∃ j : Nat, Lib.indexByte l 10 = (j : Int) ∧ j < l.length ∧ keptL l = l.take j ++ keptL (l.drop (j + 1)) ∧ feeds (l.drop (j + 1)) + 1 = feeds l := by
  induction l with
  | nil => exact absurd rfl h
  | cons b l ih =>
    by_cases hb : b = 10
    · subst hb
      refine ⟨0, by simp [Lib.indexByte], by simp, by simp [keptL], by simp [feeds]⟩
    · have hbe : (b == (10 : UInt8)) = false := beq_false_of_ne hb
      have hf : feeds (b :: l) = feeds l := by unfold feeds; rw [List.count_cons_of_ne hb]
      rw [hf] at h ⊢
      obtain ⟨j, h1, h2, h3, h4⟩ := ih h
      refine ⟨j + 1, ?_, by simp; omega, ?_, by simpa using h4⟩
      · have hn : ((j : Int) == -1) = false := by simp only [beq_eq_false_iff_ne]; omega
        simp only [Lib.indexByte, hbe, h1, hn]
        rfl
      · have : keptL (b :: l) = b :: keptL l := by unfold keptL; rw [List.filter_cons_of_pos (by simpa using hb)]
        rw [this, h3]
        simp
theorem drop_take (l : List UInt8) (a b : Nat) (S : ByteArray) (hS : S = ⟨l.toArray⟩) : S.extract a b = ⟨((l.drop a).take (b - a)).toArray⟩ := by
  subst hS
  rw [Lib.extract_eq]
set_option maxRecDepth 100000 in
set_option maxHeartbeats 4000000 in
theorem replace_far (l : List UInt8) (w : World) (hl : l.length ≤ 140737488355328) : Calls Tryd.prog 36 #[.string ⟨l.toArray⟩, .string ⟨#[10]⟩, .string ⟨#[]⟩, .int .i64 (-1)] w fun e w' =>
    e = .returned (.string ⟨(keptL l).toArray⟩) ∧ Below w.heap.size w w' := by
  obtain ⟨S, hS⟩ : ∃ S : ByteArray, S = ⟨l.toArray⟩ := ⟨_, rfl⟩
  rw [← hS]
  have hSz : S.size = l.length := by rw [hS, str_size]
  have hC : Calls Tryd.prog 45 #[.string S, .string ⟨#[10]⟩] w fun e w' => e = .returned (.int .i64 (feeds l : Int)) ∧ w' = w := by
    have := Any.strings_Count_one { laysRep with } S 10 w
    rw [hS] at this ⊢
    exact this
  obtain ⟨od, hod⟩ : ∃ od : ByteArray, od = ⟨#[10]⟩ := ⟨_, rfl⟩
  obtain ⟨nw, hnw⟩ : ∃ nw : ByteArray, nw = ⟨#[]⟩ := ⟨_, rfl⟩
  have hbeq : (od.toList == nw.toList) = false := (Lib.bytes_beq_false_iff od nw).2 (by rw [hod, hnw]; decide)
  have ho1 : od.size = 1 := by rw [hod]; rfl
  have hn0 : nw.size = 0 := by rw [hnw]; rfl
  rw [← hod] at hC ⊢
  rw [← hnw]
  have hle := feeds_le l
  by_cases hz : feeds l = 0
  · rw [kept_none l hz, ← hS]
    rw [hz] at hC
    replace hC := Lib.hid hC
    clear hS hSz hle hz hl hod hnw ho1 hn0
    go_enter Tryd.func36, Tryd.ntmps36
    go_wp2_with (go_at_call 45; refine hC.out.mono ?_; rintro e w2 ⟨rfl, rfl⟩)
    go_ret
    exact ⟨rfl, Below.refl _ _⟩
  obtain ⟨K, hK⟩ : ∃ K, K = feeds l := ⟨_, rfl⟩
  rw [← hK] at hC hz hle
  have t0 : ((K : Int) == 0) = false := by simp only [beq_eq_false_iff_ne]; omega
  have t0' : ((K : Int) = 0) = False := eq_false (by omega)
  have wg : IntKind.i64.wrap ((S.size : Int) + IntKind.i64.wrap ((K : Int) * -1)) = ((S.size - K : Nat) : Int) := by
    rw [IntKind.wrap_i64, IntKind.wrap_i64]; omega
  replace hC := Lib.hid hC
  replace hK := Lib.hid hK
  replace hS := Lib.hid hS
  replace hod := Lib.hid hod
  replace hnw := Lib.hid hnw
  go_enter Tryd.func36, Tryd.ntmps36
  go_wp2_with (go_at_call 45; refine hC.out.mono ?_; rintro e w2 ⟨rfl, rfl⟩)
  rw [show (l.length : Int) + -(K : Int) = ((l.length - K : Nat) : Int) by omega]
  refine (Any.Builder_Grow_fresh { laysRep with } exRep w2.heap.size w2.heap.size (l.length - K) _ (Nat.le_refl _) (World.alloc_heap_new _ _) (by simp) (by omega)).mono ?_
  rintro e w3 ⟨rfl, hB3, hb3⟩
  have hI0 := Lib.hid (show Lib.IsBuilder (laysRep_ren.t 72) (laysRep_ren.t 5) w2.heap.size w2.heap.size (Lib.byteCells []) w3 from .inr hB3)
  have hb0 := Lib.hid ((bel_alloc (Below.refl _ _) _).trans hb3)
  clear hB3 hb3 hC wg
  go_wp2
  go_loopw [11, 53] (fun p q wr => ∃ (i s : Nat) (acc : List UInt8), q = .int .i64 (i : Int) ∧ p = .int .i64 (s : Int) ∧ s ≤ l.length ∧ feeds (l.drop s) + i = K ∧ acc ++ keptL (l.drop s) = keptL l ∧ acc.length ≤ s ∧ Lib.IsBuilder (laysRep_ren.t 72) (laysRep_ren.t 5) w2.heap.size w2.heap.size (Lib.byteCells acc) wr ∧ Below w2.heap.size w2 wr) (fun p q wr => K - (intOf q).toNat)
  case atStart => exact ⟨0, 0, [], rfl, rfl, Nat.zero_le _, by rw [List.drop_zero]; exact hK.out.symm, by simp, by simp, hI0.out, hb0.out⟩
  case round =>
    clear hI0 hb0
    obtain ⟨i, s, acc, rfl, rfl, hs, hf, ha, hal, hI, hb⟩ := hrel
    have c1 : (0 : Int) ≤ (s : Int) := by omega
    have c2' : (s : Int) ≤ (l.length : Int) := by omega
    have hX := drop_take l s l.length S hS.out
    rw [show (l.drop s).take (l.length - s) = l.drop s from List.take_of_length_le (by rw [List.length_drop]; omega)] at hX
    by_cases hlt : i < K
    · have t2 : ((i : Int) < (K : Int)) = True := eq_true (by omega)
      obtain ⟨j, hj1, hj2, hj3, hj4⟩ := feed_at (l.drop s) (by omega)
      rw [List.length_drop] at hj2
      obtain ⟨r, hr⟩ : ∃ r, r = s + j := ⟨_, rfl⟩
      have wr0 : IntKind.i64.wrap ((s : Int) + (j : Int)) = (r : Int) := by rw [IntKind.wrap_i64]; omega
      have wr1 : IntKind.i64.wrap ((r : Int) + 1) = ((r + 1 : Nat) : Int) := by rw [IntKind.wrap_i64]; omega
      have wi : IntKind.i64.wrap ((i : Int) + 1) = ((i + 1 : Nat) : Int) := by rw [IntKind.wrap_i64]; omega
      have c3 : (s : Int) ≤ (r : Int) := by omega
      have c4 : (r : Int) ≤ (l.length : Int) := by omega
      have hI1 : ∀ w9, Calls Tryd.prog 47 #[.string (S.extract s l.length), .string od] w9 fun e w' => e = .returned (.int .i64 (j : Int)) ∧ w' = w9 := fun w9 => by
        have := Any.strings_Index_one { laysRep with } (S.extract s l.length) 10 w9
        rw [hX] at this ⊢
        rw [hod.out]
        rw [show (⟨(l.drop s).toArray⟩ : ByteArray).data.toList = l.drop s by simp, hj1] at this
        exact this
      have hY := drop_take l s r S hS.out
      rw [show r - s = j by omega] at hY
      have hW1 := Any.Builder_WriteString laysWrS exRep w2.heap.size w2.heap.size _ (S.extract s r) wr hI (by rw [Lib.byteCells_length, hY, str_size, List.length_take, List.length_drop]; omega) hb.size
      rw [show Lib.byteCells acc ++ Lib.strCells (S.extract s r) = Lib.byteCells (acc ++ (l.drop s).take j) by rw [hY, Lib.byteCells_append]; rfl] at hW1
      have hal2 : (acc ++ (l.drop s).take j).length ≤ r := by rw [List.length_append, List.length_take, List.length_drop]; omega
      have hd : (l.drop s).drop (j + 1) = l.drop (r + 1) := by rw [List.drop_drop]; congr 1; omega
      rw [hd] at hj3 hj4
      have ha2 : (acc ++ (l.drop s).take j) ++ keptL (l.drop (r + 1)) = keptL l := by rw [← ha, hj3, List.append_assoc]
      have hf2 : feeds (l.drop (r + 1)) + (i + 1) = K := by omega
      generalize acc ++ (l.drop s).take j = acc2 at *
      have hW2 : ∀ w9 : World, Lib.IsBuilder (laysRep_ren.t 72) (laysRep_ren.t 5) w2.heap.size w2.heap.size (Lib.byteCells acc2) w9 → w2.heap.size ≤ w9.heap.size → Calls Tryd.prog 34 #[.pointer (some ⟨w2.heap.size, 0, none⟩), .string nw] w9 fun e w' => e = .returned (.tuple #[.int .i64 0, .nilIface]) ∧ (Lib.BuilderAt (laysRep_ren.t 72) (laysRep_ren.t 5) w2.heap.size w2.heap.size (.pointer (some ⟨w2.heap.size, 0, none⟩)) (Lib.byteCells acc2) w' ∧ Below w2.heap.size w9 w') := fun w9 h9 h8 => by
        have := Any.Builder_WriteString laysWrS exRep w2.heap.size w2.heap.size _ nw w9 h9 (by rw [Lib.byteCells_length, hn0]; omega) h8
        rw [show Lib.strCells nw = [] by rw [hnw.out]; rfl, List.append_nil, hn0] at this
        exact this
      have hr2 : r + 1 ≤ l.length := by omega
      replace hI1 := Lib.hid hI1
      replace hW1 := Lib.hid hW1
      replace hW2 := Lib.hid hW2
      replace hb := Lib.hid hb
      replace ha2 := Lib.hid ha2
      replace hf2 := Lib.hid hf2
      replace hal2 := Lib.hid hal2
      replace hr2 := Lib.hid hr2
      replace hlt := Lib.hid hlt
      clear hX hY hj1 hj2 hj3 hj4 hd ha hal hf hI hs hr t0 t0' hle hl
      go_wp2_with (first
        | (go_at_call 47; refine (hI1.out _).mono ?_; rintro e w4 ⟨rfl, rfl⟩)
        | (go_at_call_of 34 nw; refine (hW2.out _ (.inr hB4.out) hb4.out.size).mono ?_; rintro e w5 ⟨rfl, hB5, hb5⟩; replace hB5 := Lib.hid hB5; replace hb5 := Lib.hid (hb4.out.trans hb5))
        | (go_at_call 34; refine hW1.out.mono ?_; rintro e w4 ⟨rfl, hB4, hb4⟩; replace hB4 := Lib.hid hB4; replace hb4 := Lib.hid (hb.out.trans hb4)))
      go_roundw
      case rel => exact ⟨i + 1, r + 1, acc2, rfl, rfl, hr2.out, hf2.out, ha2.out, Nat.le_succ_of_le hal2.out, .inr hB5.out, hb5.out⟩
      case measure => have := hlt.out; simp [intOf]; omega
    · have hie : i = K := by omega
      subst hie
      have t2 : ((i : Int) < (i : Int)) = False := eq_false (by omega)
      rw [kept_none _ (by omega)] at ha
      have hW1 := Any.Builder_WriteString laysWrS exRep w2.heap.size w2.heap.size _ (S.extract s l.length) wr hI (by rw [Lib.byteCells_length, hX, str_size, List.length_drop]; omega) hb.size
      rw [show Lib.byteCells acc ++ Lib.strCells (S.extract s l.length) = Lib.byteCells (keptL l) by rw [hX, ← ha, Lib.byteCells_append]; rfl] at hW1
      have hS2 : ∀ w9 : World, Lib.IsBuilder (laysRep_ren.t 72) (laysRep_ren.t 5) w2.heap.size w2.heap.size (Lib.byteCells (keptL l)) w9 → w2.heap.size ≤ w9.heap.size → Calls Tryd.prog 35 #[.pointer (some ⟨w2.heap.size, 0, none⟩)] w9 fun e w' => e = .returned (.string ⟨(keptL l).toArray⟩) ∧ Below w2.heap.size w9 w' := fun w9 h9 h8 => Any.Builder_String_any { laysStr with } exStr w2.heap.size w2.heap.size (keptL l) w9 h9 h8
      replace hW1 := Lib.hid hW1
      replace hS2 := Lib.hid hS2
      replace hb := Lib.hid hb
      clear hX ha hal hf hI hs hlt t0 t0' hle hl
      go_wp2_with (first
        | (go_at_call 34; refine hW1.out.mono ?_; rintro e w4 ⟨rfl, hB4, hb4⟩; replace hB4 := Lib.hid hB4; replace hb4 := Lib.hid (hb.out.trans hb4))
        | (go_at_call 35; refine (hS2.out _ (.inr hB4.out) hb4.out.size).mono ?_; rintro e w5 ⟨rfl, hb5⟩; replace hb5 := Lib.hid (hb4.out.trans hb5)))
      go_ret
      exact ⟨rfl, hb5.out⟩
set_option maxRecDepth 100000 in
set_option maxHeartbeats 1000000 in
theorem replace_any (l : List UInt8) (w : World) (hl : l.length ≤ 140737488355328) : Calls Tryd.prog 23 #[.string ⟨l.toArray⟩, .string ⟨#[10]⟩, .string ⟨#[]⟩] w fun e w' =>
    e = .returned (.string ⟨(l.filter (fun c => decide (c ≠ 10))).toArray⟩) ∧ Below w.heap.size w w' := by
  have c := Lib.hid (replace_far l w hl)
  go_enter Tryd.func23, Tryd.ntmps23
  go_wp2_with (go_at_call 36; refine c.out.mono ?_; rintro e w2 ⟨rfl, hb2⟩; replace hb2 := Lib.hid hb2)
  go_ret
  exact ⟨rfl, hb2.out⟩
end YtjkpapkjlmglbaaDoor
end Go.Proofs
