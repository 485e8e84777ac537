/- 'CodeNone'. -/
import Derived.Test.YtjihhojlakapnaaDoorC8
namespace Go.Proofs.YtjihhojlakapnaaDoor
open Go.RowKit Go.Shelf
set_option linter.unusedVariables false
set_option linter.unusedSimpArgs false
attribute [local go_sem] cell_set set_set m_undef

theorem nCellC (w : World) (a : Int) (ha : isI a) : Calls Tryd.prog 22 #[.pointer none, .int .i64 a] w fun e w' => e = .returned (.tuple #[.int .i64 0, .bool false]) ∧ Below w.heap.size w w' := by
  have hH := Lib.hid (fun (w9 : World) => nHere w9)
  have e7 := and7 a ha
  obtain ⟨r, hr⟩ : ∃ r, r = a % 8 := ⟨_, rfl⟩
  rw [← hr] at e7
  by_cases g1 : r = 0
  · have t1 : (r != 0) = false := by simp; exact g1
    by_cases g2 : 1536 ≤ a
    · have t2 : (a < 1536) = False := by simp; exact g2
      have t3 : ((1528 : Int) < a) = True := by simp; omega
      clear g1 g2 ha hr
      go_enter Tryd.func22, Tryd.ntmps22
      go_wp2_with (go_at_call 26; refine (hH.out _).mono ?_; rintro e w1 ⟨rfl, hb⟩)
      refine ⟨rfl, .tuple #[.int .i64 0, .bool false], ?_, rfl, hb⟩
      simp [results, Tryd.results22, go_sem]
    · have t2 : (a < 1536) = True := by simp; omega
      clear g1 g2 ha hr
      go_enter Tryd.func22, Tryd.ntmps22
      go_wp2
      refine ⟨rfl, .tuple #[.int .i64 0, .bool false], ?_, rfl, Below.refl _ _⟩
      simp [results, Tryd.results22, go_sem]
  · have t1 : (r != 0) = true := by simp; exact g1
    clear g1 ha hr
    go_enter Tryd.func22, Tryd.ntmps22
    go_wp2
    refine ⟨rfl, .tuple #[.int .i64 0, .bool false], ?_, rfl, Below.refl _ _⟩
    simp [results, Tryd.results22, go_sem]
theorem nLook (w : World) (a : Int) (ha : isI a) : Calls Tryd.prog 10 #[.pointer none, .int .i64 a] w fun e w' => e = .returned (.tuple #[.string ⟨#[]⟩, .int .i64 0, .bool false]) ∧ Below w.heap.size w w' := by
  have hC := Lib.hid (nCellC w a ha)
  clear ha
  go_enter Tryd.func10, Tryd.ntmps10
  go_wp2_with (go_at_call 22; refine hC.out.mono ?_; rintro e w1 ⟨rfl, hb⟩)
  refine ⟨rfl, .tuple #[.string ⟨#[]⟩, .int .i64 0, .bool false], ?_, rfl, hb⟩
  simp [results, Tryd.results10, go_sem]
theorem same_below {f : Nat} {args : Array Value} {w : World} {a : Ending} (h : Calls Tryd.prog f args w fun e w' => e = a ∧ w' = w) : Calls Tryd.prog f args w fun e w' => e = a ∧ Below w.heap.size w w' := h.mono fun e w' ⟨h1, h2⟩ => ⟨h1, by subst h2; exact Below.refl _ _⟩
theorem nLayU {w w1 : World} {u : Value} {l : List UInt8} (hb : Below w.heap.size w w1) (hu : Bs w1 w.heap.size u l) : Calls Tryd.prog 38 #[.pointer none, u, .bool true] w1 fun e w' => ∃ t, e = .returned (.int .i64 t) ∧ (t = -9 ∧ Below w.heap.size w w') := by
  obtain ⟨a, n, c, rfl⟩ := hu.form
  exact (nLayC w1 a n c).mono fun e w' ⟨he, h⟩ => ⟨_, he, rfl, bel_trans hb h⟩
theorem nComma (w : World) (v : Value) (l : List Int) (hv : Rv w 1 v l.length (ic l)) (hl : ∀ x ∈ l, isI x) (hlen : l.length ≤ 1000) : Calls Tryd.prog 15 #[.pointer none, v] w fun e w' => e = .returned (.int .i64 (-9)) ∧ Below w.heap.size w w' :=
  (wComma w none v l hv hl hlen (Q := fun t w' => t = -9 ∧ Below w.heap.size w w') (fun w1 u hb hu => nLayU hb hu)).mono fun e w' ⟨t, he, ht, hT⟩ => ⟨by rw [he, ht], hT⟩
theorem nLiteral (w : World) (n : Int) (hn : isI n) : Calls Tryd.prog 12 #[.pointer none, .int .i64 n] w fun e w' => e = .returned (.int .i64 (-9)) ∧ Below w.heap.size w w' :=
  (wLiteral w none n hn (Q := fun t w' => t = -9 ∧ Below w.heap.size w w') (fun w1 u hb hu => nLayU hb hu)).mono fun e w' ⟨t, he, ht, hT⟩ => ⟨by rw [he, ht], hT⟩
theorem nText (w : World) (nm : List UInt8) (hlen : nm.length ≤ 100000) : Calls Tryd.prog 14 #[.pointer none, .string ⟨nm.toArray⟩] w fun e w' => e = .returned (.int .i64 (-9)) ∧ Below w.heap.size w w' :=
  (wText w none nm hlen (Q := fun t w' => t = -9 ∧ Below w.heap.size w w') (fun w1 u hb hu => nLayU hb hu)).mono fun e w' ⟨t, he, ht, hT⟩ => ⟨by rw [he, ht], hT⟩
theorem Rv.below' {W w : World} {k n : Nat} {v : Value} {cs : List Value} (h : Rv W k v n cs) (hb : Below W.heap.size W w) : Rv w k v n cs := h.below hb
set_option maxRecDepth 100000 in
set_option maxHeartbeats 2000000 in
theorem codeNone {w : World} (d n : Int) (ad : Option Addr) (cap : Nat) (l : List Int) (hv : Rv w 1 (.slice ad l.length cap) l.length (ic l)) (hl : ∀ x ∈ l, isI x) (s : ByteArray) (hn : isI n) (hPW : Pow10 w) :
    Calls Tryd.prog 6 #[.agg #[.int .i64 d, .int .i64 n, .slice ad l.length cap, .string s]] w fun e w' => e = .returned (.bool true) ∧ Below w.heap.size w w' := by
  have hA0 := fun (w9 : World) (h9 : Below w.heap.size w w9) => wAwake w9 (hPW.below h9) (pow_pos (hPW.below h9))
  have hA := Lib.hid hA0
  obtain ⟨C, hC⟩ : ∃ C : Array Value, C = #[.int .i64 d, .int .i64 n, .slice ad l.length cap, .string s] := ⟨_, rfl⟩
  have hb0 := Lib.hid (bel_alloc (Below.refl w.heap.size w) (.cells C 43))
  have hB0 := Blk.new w C 43
  rw [hC] at hb0 hB0
  obtain ⟨w0, hw0⟩ : ∃ w0, w0 = w.alloc (.cells #[.int .i64 d, .int .i64 n, .slice ad l.length cap, .string s] 43) := ⟨_, rfl⟩
  obtain ⟨b, hb⟩ : ∃ b, b = w.heap.size := ⟨_, rfl⟩
  rw [← hw0] at hb0 hB0
  rw [← hb] at hB0
  replace hB0 := Lib.hid hB0
  clear hC hA0 hPW
  go_enter Tryd.func6, Tryd.ntmps6
  go_upto_region 1 with fail
  rw [← hw0, ← hb]
  clear hw0 hb
  by_cases h1 : 100 < l.length
  · have t1 : ((100 : Int) < (l.length : Int)) = True := by simp; omega
    clear h1 hv hl hn
    go_wp2_with (go_at_call 7; refine (hA.out _ hb0.out).mono ?_; rintro e w1 ⟨rfl, hb1⟩; obtain ⟨y1, y2, y3, y4, -⟩ := (hB0.out.below hb1).four; have hb2 := Lib.hid (bel_trans hb0.out hb1))
    go_ret
    exact ⟨rfl, hb2.out⟩
  have t1 : ((100 : Int) < (l.length : Int)) = False := by simp; omega
  by_cases h2 : 1000 < s.size
  · have t2 : ((1000 : Int) < (s.size : Int)) = True := by simp; omega
    clear h1 h2 hv hl hn
    go_wp2_with (go_at_call 7; refine (hA.out _ hb0.out).mono ?_; rintro e w1 ⟨rfl, hb1⟩; obtain ⟨y1, y2, y3, y4, -⟩ := (hB0.out.below hb1).four; have hb2 := Lib.hid (bel_trans hb0.out hb1))
    go_ret
    exact ⟨rfl, hb2.out⟩
  have t2 : ((1000 : Int) < (s.size : Int)) = False := by simp; omega
  obtain ⟨nm, hs⟩ : ∃ nm : List UInt8, s = ⟨nm.toArray⟩ := ⟨s.data.toList, by simp⟩
  have hsz : s.size = nm.length := by rw [hs]; simp [ByteArray.size]
  have c1 := fun (w9 : World) => nLook w9 n hn
  have c2 := fun (w9 : World) (h9 : Below w.heap.size w w9) => nComma w9 _ l (hv.below h9) hl (by omega)
  have c3 := fun (w9 : World) => nByte w9 n
  have c4 := fun (w9 : World) => same_below (nAllot w9 n)
  have c5 := fun (w9 : World) => same_below (nAlign w9)
  have c6 := fun (w9 : World) => nLiteral w9 n hn
  have c7 := fun (w9 : World) => nText w9 nm (by omega)
  rw [← hs] at c7
  replace c1 := Lib.hid c1
  replace c2 := Lib.hid c2
  replace c3 := Lib.hid c3
  replace c4 := Lib.hid c4
  replace c5 := Lib.hid c5
  replace c6 := Lib.hid c6
  replace c7 := Lib.hid c7
  have hBn := Lib.hid (fun (w1 w2 : World) (h : Blk w1 b #[.int .i64 d, .int .i64 n, .slice ad l.length cap, .string s] 43) (h2 : Below w1.heap.size w1 w2) => h.below h2)
  clear h1 h2 hv hl hn hs hsz
  go_wp2_with (first
    | (go_at_call 7; refine (hA.out _ hb0.out).mono ?_; rintro e w1 ⟨rfl, hb1⟩; have hB := hB0.out.below hb1; obtain ⟨y1, y2, y3, y4, -⟩ := hB.four; have hW := Lib.hid (bel_trans hb0.out hb1); clear hb1)
    | (go_at_call 10; refine (c1.out _).mono ?_; rintro e w2 ⟨rfl, hb1⟩; have hB2 := hB.below hb1; clear hB y1 y2 y3 y4; have hB := hB2; clear hB2; obtain ⟨y1, y2, y3, y4, -⟩ := hB.four; have hW2 := Lib.hid (bel_trans hW.out hb1); clear hb1 hW; have hW := hW2; clear hW2)
    | (go_at_call 15; refine (c2.out _ hW.out).mono ?_; rintro e w2 ⟨rfl, hb1⟩; have hB2 := hB.below hb1; clear hB y1 y2 y3 y4; have hB := hB2; clear hB2; obtain ⟨y1, y2, y3, y4, -⟩ := hB.four; have hW2 := Lib.hid (bel_trans hW.out hb1); clear hb1 hW; have hW := hW2; clear hW2)
    | (go_at_call 19; refine (c3.out _).mono ?_; rintro e w2 ⟨rfl, hb1⟩; have hB2 := hB.below hb1; clear hB y1 y2 y3 y4; have hB := hB2; clear hB2; obtain ⟨y1, y2, y3, y4, -⟩ := hB.four; have hW2 := Lib.hid (bel_trans hW.out hb1); clear hb1 hW; have hW := hW2; clear hW2)
    | (go_at_call 20; refine (c4.out _).mono ?_; rintro e w2 ⟨rfl, hb1⟩; have hB2 := hB.below hb1; clear hB y1 y2 y3 y4; have hB := hB2; clear hB2; obtain ⟨y1, y2, y3, y4, -⟩ := hB.four; have hW2 := Lib.hid (bel_trans hW.out hb1); clear hb1 hW; have hW := hW2; clear hW2)
    | (go_at_call 21; refine (c5.out _).mono ?_; rintro e w2 ⟨rfl, hb1⟩; have hB2 := hB.below hb1; clear hB y1 y2 y3 y4; have hB := hB2; clear hB2; obtain ⟨y1, y2, y3, y4, -⟩ := hB.four; have hW2 := Lib.hid (bel_trans hW.out hb1); clear hb1 hW; have hW := hW2; clear hW2)
    | (go_at_call 12; refine (c6.out _).mono ?_; rintro e w2 ⟨rfl, hb1⟩; have hB2 := hB.below hb1; clear hB y1 y2 y3 y4; have hB := hB2; clear hB2; obtain ⟨y1, y2, y3, y4, -⟩ := hB.four; have hW2 := Lib.hid (bel_trans hW.out hb1); clear hb1 hW; have hW := hW2; clear hW2)
    | (go_at_call 14; refine (c7.out _).mono ?_; rintro e w2 ⟨rfl, hb1⟩; have hB2 := hB.below hb1; clear hB y1 y2 y3 y4; have hB := hB2; clear hB2; obtain ⟨y1, y2, y3, y4, -⟩ := hB.four; have hW2 := Lib.hid (bel_trans hW.out hb1); clear hb1 hW; have hW := hW2; clear hW2))
  go_ret
  exact ⟨rfl, hW.out⟩
end Go.Proofs.YtjihhojlakapnaaDoor
