/- EditorMoves. -/
import Derived.Test.YtfmlbnkmckkjnaaE13
namespace Go.Proofs.Ytfmlbnkmckkjnaa
open Go.RowKit
set_option linter.unusedVariables false
set_option linter.unusedSimpArgs false
attribute [local go_sem] cell_set set_set m_undef ba_get field0 field1 field2

theorem keyL_moves (c : Int) (hc : c = 1 ∨ c = 2 ∨ c = 5 ∨ c = 6) (A Z : List UInt8) : (keyL c A Z).1 ++ (keyL c A Z).2 = A ++ Z := by
  rcases hc with rfl | rfl | rfl | rfl
  · rfl
  · show A.take (A.length - 1) ++ (A.drop (A.length - 1) ++ Z) = A ++ Z
    rw [← List.append_assoc, List.take_append_drop]
  · show (A ++ Z) ++ [] = A ++ Z
    rw [List.append_nil]
  · show (A ++ Z.take 1) ++ Z.drop 1 = A ++ Z
    rw [List.append_assoc, List.take_append_drop]
theorem key_moves (v : Vw) (x : UInt8) (hx : x.toNat = 1 ∨ x.toNat = 2 ∨ x.toNat = 5 ∨ x.toNat = 6) : ∃ n : Nat, n ≤ v.t.length ∧ v.key x = ⟨v.t, (n : Int), v.d⟩ := by
  have hk := clampN_le v.t v.a
  unfold Vw.key
  cases hd : v.d with
  | true => exact ⟨_, hk, by rw [if_pos rfl]⟩
  | false =>
    rw [if_neg (by simp), if_neg (by omega)]
    have e : keyT v.t (clampN v.t v.a) x = keyL (x.toNat : Int) (v.t.take (clampN v.t v.a)) (v.t.drop (clampN v.t v.a)) := by
      unfold keyT
      rw [if_neg (by omega)]
    rw [e]
    have h1 := keyL_moves (x.toNat : Int) (by omega) (v.t.take (clampN v.t v.a)) (v.t.drop (clampN v.t v.a))
    rw [List.take_append_drop] at h1
    have h2 := congrArg List.length h1
    rw [List.length_append] at h2
    exact ⟨(keyL (x.toNat : Int) (v.t.take (clampN v.t v.a)) (v.t.drop (clampN v.t v.a))).1.length, by omega, by rw [h1]⟩
theorem wKeyB (w : World) (t : List UInt8) (a : Int) (d : Bool) (x : UInt8) (ht : t.length ≤ 4000) (V : Vw) (hV : Vw.key ⟨t, a, d⟩ x = V) :
    Calls Try.prog 9 #[.agg #[.string ⟨t.toArray⟩, .int .i64 a, .bool d], .int .u8 (x.toNat : Int)] w fun e w' => e = .returned (.agg #[.string ⟨V.t.toArray⟩, .int .i64 V.a, .bool V.d]) ∧ Below w.heap.size w w' := by
  subst hV
  have h := wKeyF w t a d x ht
  rw [Vw.key_val ⟨t, a, d⟩ x] at h
  exact h
/-- A key that moves the cursor. -/
theorem wMove (w : World) (t : List UInt8) (a : Int) (d : Bool) (c : Int) (hc : c = 1 ∨ c = 2 ∨ c = 5 ∨ c = 6) (ht : t.length ≤ 4000) :
    Calls Try.prog 9 #[.agg #[.string ⟨t.toArray⟩, .int .i64 a, .bool d], .int .u8 c] w fun e w' => (∃ n : Nat, n ≤ t.length ∧ e = .returned (.agg #[.string ⟨t.toArray⟩, .int .i64 (n : Int), .bool d])) ∧ Below w.heap.size w w' := by
  obtain ⟨x, hx⟩ : ∃ x : UInt8, (x.toNat : Int) = c := ⟨UInt8.ofNat c.toNat, by rw [UInt8.toNat_ofNat']; omega⟩
  obtain ⟨n, hn, e⟩ := key_moves ⟨t, a, d⟩ x (by omega)
  rw [← hx]
  exact (wKeyB w t a d x ht _ e).mono fun e w' h => ⟨⟨n, hn, h.1⟩, h.2⟩
/-- A slice of numbers. -/
def Ints (w : World) (hv : Value) (K : List Int) : Prop :=
  (hv = .slice none 0 0 ∧ K = []) ∨ ∃ a cap, hv = .slice (some a) K.length cap ∧ ∀ j (hj : j < K.length), w.cell? (a.add j) = some (.int .i64 K[j])
theorem Ints.form {w : World} {hv : Value} {K : List Int} (h : Ints w hv K) : ∃ a cap, hv = .slice a K.length cap := by
  rcases h with ⟨rfl, rfl⟩ | ⟨a, cap, h1, _⟩
  · exact ⟨_, _, rfl⟩
  · exact ⟨_, _, h1⟩

set_option maxHeartbeats 2000000 in
theorem law_moves (w : World) (t : List UInt8) (a : Int) (d : Bool) (hv : Value) (K : List Int) (hK : Ints w hv K) :
    Calls Try.prog 5 #[vw t a d, hv] w fun e w' => e = .returned (.bool true) ∧ Below w.heap.size w w' := by
  obtain ⟨a0, cap0, rfl⟩ := hK.form
  have hK2 := Lib.hid hK
  clear hK
  unfold vw
  go_enter Try.func5, Try.ntmps5
  go_upto_region 3 with (go_at_call 8; refine (wAwake _).mono ?_; rintro e w1 ⟨rfl, hb1⟩)
  have B1 : Blk w1 w.heap.size #[.string ⟨t.toArray⟩, .int .i64 a, .bool d] 23 := (Blk.new _ _ _).below hb1
  have hb : Below w.heap.size w w1 := bel_trans (bel_alloc (Below.refl _ _) _) hb1
  clear hb1
  obtain ⟨c1, c2, c3, f1, f2, f3, l1⟩ := B1.three
  by_cases h1 : 1000 < t.length
  · have t1 : ((1000 : Int) < (t.length : Int)) = True := by simp; omega
    go_wp2
    go_ret
    exact ⟨rfl, hb⟩
  have t1 : ((1000 : Int) < (t.length : Int)) = False := by simp; omega
  by_cases h2 : 200 < K.length
  · have t2 : ((200 : Int) < (K.length : Int)) = True := by simp; omega
    go_wp2
    go_ret
    exact ⟨rfl, hb⟩
  have t2 : ((200 : Int) < (K.length : Int)) = False := by simp; omega
  go_upto_region 6 with fail
  have C1 := B1.alloc (.cells #[.string ⟨t.toArray⟩, .int .i64 a, .bool d] 23)
  have C2 : Blk (w1.alloc (.cells #[.string ⟨t.toArray⟩, .int .i64 a, .bool d] 23)) w1.heap.size #[.string ⟨t.toArray⟩, .int .i64 a, .bool d] 23 := Blk.new _ _ _
  have hb2 := bel_alloc hb (.cells #[.string ⟨t.toArray⟩, .int .i64 a, .bool d] 23)
  have hl := hb.size
  clear B1 hb c1 c2 c3 f1 f2 f3 t1 t2
  generalize w1.alloc (.cells #[.string ⟨t.toArray⟩, .int .i64 a, .bool d] 23) = w2 at *
  generalize w1.heap.size = b5 at *
  go_wp2
  go_loopw [22] (fun i wr => ∃ (j : Nat) (a' : Int), j ≤ K.length ∧ i = .int .i64 (j : Int) ∧ Blk wr w.heap.size #[.string ⟨t.toArray⟩, .int .i64 a, .bool d] 23 ∧ Blk wr b5 #[.string ⟨t.toArray⟩, .int .i64 a', .bool d] 23 ∧ Below w.heap.size w wr) (fun i _ => (K.length - (intOf i).toNat))
  case atStart => exact ⟨0, a, by omega, rfl, C1, C2, hb2⟩
  case round =>
    clear C1 C2 hb2
    obtain ⟨j, a', hj, rfl, B1, B2, hb⟩ := hrel
    by_cases hjl : j < K.length
    · obtain ⟨aa, cp, he, hcell⟩ : ∃ a cap, (Value.slice a0 K.length cap0) = .slice (some a) K.length cap ∧ ∀ j (hj : j < K.length), w.cell? (a.add j) = some (.int .i64 K[j]) := by
        rcases hK2.out with ⟨_, h0⟩ | h
        · rw [h0] at hjl; exact absurd hjl (Nat.not_lt_zero _)
        · exact h
      cases he
      obtain ⟨x, hx⟩ : ∃ x, K[j] = x := ⟨_, rfl⟩
      have hcl := hcell j hjl
      rw [hx, ← hb.cell (World.block_lt_of_cell? _ _ hcl)] at hcl
      have t1 : ((j : Int) < (K.length : Int)) = True := by simp; omega
      have w1 : IntKind.i64.wrap ((j : Int) + 1) = ((j + 1 : Nat) : Int) := by rw [IntKind.wrap_i64]; omega
      clear hcell hx
      by_cases hm : x = 1 ∨ x = 2 ∨ x = 5 ∨ x = 6
      · have hmv := Lib.hid (fun w a' => wMove w t a' d x hm (by omega))
        rcases hm with rfl | rfl | rfl | rfl
        all_goals
          obtain ⟨d1, d2, d3, g1, g2, g3, l2⟩ := B2.three
          go_upto_region 11 with (go_at_call 9; refine (hmv.out wr a').mono ?_; rintro e w5 ⟨⟨n, hn, rfl⟩, hb5⟩; replace B1 := B1.below hb5; replace B2 := B2.below hb5; clear d1 d2 d3 g1 g2 g3 l2; obtain ⟨d1, d2, d3, g1, g2, g3, l2⟩ := B2.three)
          have B3 : Blk (((w5.setCell ⟨b5, 0, none⟩ (.string ⟨t.toArray⟩)).setCell ⟨b5, 1, none⟩ (.int .i64 (n : Int))).setCell ⟨b5, 2, none⟩ (.bool d)) b5 #[.string ⟨t.toArray⟩, .int .i64 (n : Int), .bool d] 23 := by simpa using ((B2.set 0 (.string ⟨t.toArray⟩)).set 1 (.int .i64 (n : Int))).set 2 (.bool d)
          have B4 := ((B1.set_other (b' := b5) (by omega) 0 (.string ⟨t.toArray⟩)).set_other (b' := b5) (by omega) 1 (.int .i64 (n : Int))).set_other (b' := b5) (by omega) 2 (.bool d)
          have hb6 := bel_set (bel_set (bel_set (bel_trans hb hb5) (b := b5) (by omega) (o := 0) (.string ⟨t.toArray⟩)) (b := b5) (by omega) (o := 1) (.int .i64 (n : Int))) (b := b5) (by omega) (o := 2) (.bool d)
          clear B1 B2 hb hb5 d1 d2 d3 g1 g2 g3 l2
          generalize ((w5.setCell ⟨b5, 0, none⟩ (.string ⟨t.toArray⟩)).setCell ⟨b5, 1, none⟩ (.int .i64 (n : Int))).setCell ⟨b5, 2, none⟩ (.bool d) = w6 at *
          obtain ⟨d1, d2, d3, g1, g2, g3, l2⟩ := B3.three
          obtain ⟨c1, c2, c3, f1, f2, f3, l3⟩ := B4.three
          obtain ⟨n', hn'⟩ : ∃ n' : Int, n' = (n : Int) := ⟨_, rfl⟩
          have t3 : (n' < 0) = False := by simp; omega
          have t4 : ((t.length : Int) < n') = False := by simp; omega
          rw [← hn'] at d2
          rw [← hn'] at B3
          clear hn'
          replace B3 := Lib.hid B3
          replace B4 := Lib.hid B4
          replace hb6 := Lib.hid hb6
          go_wp2
          go_roundw
          case rel => exact ⟨j + 1, n', by omega, rfl, B4.out, B3.out, hb6.out⟩
          case measure => simp [intOf]; omega
      · have n1 : (x != 1) = true := by simp; omega
        have n2 : (x != 2) = true := by simp; omega
        have n5 : (x != 5) = true := by simp; omega
        have n6 : (x != 6) = true := by simp; omega
        clear hm
        replace B1 := Lib.hid B1
        replace B2 := Lib.hid B2
        replace hb := Lib.hid hb
        go_wp2
        go_roundw
        case rel => exact ⟨j + 1, a', by omega, rfl, B1.out, B2.out, hb.out⟩
        case measure => simp [intOf]; omega
    · have t1 : ((j : Int) < (K.length : Int)) = False := by simp; omega
      replace B1 := Lib.hid B1
      replace B2 := Lib.hid B2
      go_wp2
      go_ret
      exact ⟨rfl, hb⟩
theorem lawMoves {w : World} (s : ByteArray) (a : Int) (d : Bool) (hv : Value) (K : List Int) (hK : Ints w hv K) : Calls Try.prog 5 #[.agg #[.string s, .int .i64 a, .bool d], hv] w fun e w' => e = .returned (.bool true) ∧ Below w.heap.size w w' := by
  have h := law_moves w s.data.toList a d hv K hK
  unfold vw at h
  rw [str_list] at h
  exact h
end Go.Proofs.Ytfmlbnkmckkjnaa
