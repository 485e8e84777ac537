/- EditorBack. -/
import Derived.Test.YtfmlbnkmckkjnaaE13
namespace Go.Proofs.Ytfmlbnkmckkjnaa
open Go.RowKit
set_option linter.unusedVariables false
set_option linter.unusedSimpArgs false
attribute [local go_sem] cell_set set_set m_undef ba_get field0 field1 field2

theorem key_back (v : Vw) (x : UInt8) (hd : v.d = false) (h1 : 32 ≤ x.toNat) (h2 : x.toNat ≤ 126) (hl : v.t.length < 200) : (v.key x).key 8 = ⟨v.t, clampN v.t v.a, false⟩ := by
  have hk := clampN_le v.t v.a
  obtain ⟨k, hkk⟩ : ∃ k, clampN v.t v.a = k := ⟨_, rfl⟩
  rw [hkk] at hk
  have e1 : v.key x = ⟨v.t.take k ++ [x] ++ v.t.drop k, (v.t.take k ++ [x]).length, false⟩ := by
    unfold Vw.key keyT
    rw [hkk, if_neg (by simp [hd]), if_neg (by omega), if_pos ⟨h1, h2⟩, if_pos hl]
  rw [e1, hkk]
  have hk1 : (v.t.take k ++ [x]).length = k + 1 := by simp; omega
  have hT : (v.t.take k ++ [x] ++ v.t.drop k).length = v.t.length + 1 := by simp; omega
  have e2 : clampN (v.t.take k ++ [x] ++ v.t.drop k) ((v.t.take k ++ [x]).length : Nat) = k + 1 := by
    unfold clampN
    rw [hT, hk1]; omega
  unfold Vw.key keyT
  simp only [e2]
  rw [if_neg (by simp), if_neg (by decide), if_neg (by decide)]
  have e3 : (v.t.take k ++ [x] ++ v.t.drop k).take (k + 1) = v.t.take k ++ [x] := by
    rw [List.take_append_of_le_length (by omega), List.take_of_length_le (by omega)]
  have e4 : (v.t.take k ++ [x] ++ v.t.drop k).drop (k + 1) = v.t.drop k := by
    rw [← hk1, List.drop_left]
  have e5 : ((8 : UInt8).toNat : Int) = 8 := by decide
  rw [e3, e4, e5]
  unfold keyL
  rw [if_pos (Or.inl rfl), hk1]
  have e6 : (v.t.take k ++ [x]).take (k + 1 - 1) = v.t.take k := by
    rw [Nat.add_sub_cancel, List.take_append_of_le_length (by simp; omega), List.take_of_length_le (by simp; omega)]
  simp only [e6, List.take_append_drop, List.length_take]
  congr 2
  omega
set_option maxHeartbeats 1000000 in
theorem law_back (w : World) (t : List UInt8) (a : Int) (d : Bool) (c : UInt8) :
    Calls Try.prog 6 #[vw t a d, .int .u8 (c.toNat : Int)] w fun e w' => e = .returned (.bool true) ∧ Below w.heap.size w w' := by
  obtain ⟨x, hx⟩ : ∃ x : Int, x = (c.toNat : Int) := ⟨_, rfl⟩
  have hx' := Lib.hid hx
  rw [← hx]
  clear hx
  have hc2 := Lib.hid (UInt8.toNat_lt c)
  unfold vw
  go_enter Try.func6, Try.ntmps6
  go_upto_region 3 with (go_at_call 8; refine (wAwake _).mono ?_; rintro e w1 ⟨rfl, hb1⟩)
  have B1 : Blk w1 w.heap.size #[.string ⟨t.toArray⟩, .int .i64 a, .bool d] 23 := (Blk.new _ _ _).below hb1
  have hb : Below w.heap.size w w1 := bel_trans (bel_alloc (Below.refl _ _) _) hb1
  clear hb1
  obtain ⟨c1, c2, c3, f1, f2, f3, l1⟩ := B1.three
  by_cases h200 : 200 ≤ t.length
  · have t1 : ((200 : Int) ≤ (t.length : Int)) = True := by simp; omega
    go_wp2
    go_ret
    exact ⟨rfl, hb⟩
  have t1 : ((200 : Int) ≤ (t.length : Int)) = False := by simp; omega
  cases d with
  | true =>
    go_wp2
    go_ret
    exact ⟨rfl, hb⟩
  | false =>
    by_cases h32 : c.toNat < 32
    · have t2 : (x < 32) = True := by rw [hx'.out]; simp; omega
      go_wp2
      go_ret
      exact ⟨rfl, hb⟩
    have t2 : (x < 32) = False := by rw [hx'.out]; simp; omega
    by_cases h126 : 126 < c.toNat
    · have t3 : ((126 : Int) < x) = True := by rw [hx'.out]; simp; omega
      go_wp2
      go_ret
      exact ⟨rfl, hb⟩
    have t3 : ((126 : Int) < x) = False := by rw [hx'.out]; simp; omega
    have hk := key_back ⟨t, a, false⟩ c rfl (by omega) (by omega) (by simpa using h200)
    have hmin : (if (t.length : Int) < (if a < 0 then 0 else a) then (t.length : Int) else (if a < 0 then 0 else a)) = (clampN t a : Int) := by
      rw [clampN_eq]; split <;> split <;> omega
    obtain ⟨m0, hm0⟩ : ∃ m0, (if a < 0 then (0 : Int) else a) = m0 := ⟨_, rfl⟩
    rw [hm0] at hmin
    obtain ⟨V1, hV1⟩ : ∃ V1, Vw.key ⟨t, a, false⟩ c = V1 := ⟨_, rfl⟩
    rw [hV1] at hk
    have hk1 := Lib.hid (wKeyA w1 ⟨t, a, false⟩ rfl c (by simp; omega) V1 hV1)
    rw [← hx'.out] at hk1
    simp only at hk1
    have hd1 : V1.d = false := by rw [← hV1]; unfold Vw.key; rw [if_neg (by simp), if_neg (by omega)]
    have hl1 : V1.t.length ≤ 200 := by rw [← hV1]; exact Vw.key_len _ _ (by simp; omega)
    rw [hd1] at hk1
    have hk2 := Lib.hid (fun w => wKeyA w V1 hd1 8 (by omega) _ hk)
    simp only at hk2
    generalize clampN t a = k at *
    clear hk hV1 hd1 hl1
    replace h200 := Lib.hid h200
    replace h32 := Lib.hid h32
    replace h126 := Lib.hid h126
    go_upto_region 5 with fail
    go_upto_region 6 with (first
      | (go_at_call_of 9 x; refine hk1.out.mono ?_; rintro e w2 ⟨rfl, hb2⟩)
      | (go_at_call 9; refine (hk2.out w2).mono ?_; rintro e w3 ⟨rfl, hb3⟩))
    have C1 := ((B1.below hb2).below hb3).alloc (.cells #[.string ⟨t.toArray⟩, .int .i64 (k : Int), .bool false] 23)
    have C2 : Blk (w3.alloc (.cells #[.string ⟨t.toArray⟩, .int .i64 (k : Int), .bool false] 23)) w3.heap.size #[.string ⟨t.toArray⟩, .int .i64 (k : Int), .bool false] 23 := Blk.new _ _ _
    have hb4 := bel_alloc (bel_trans (bel_trans hb hb2) hb3) (.cells #[.string ⟨t.toArray⟩, .int .i64 (k : Int), .bool false] 23)
    clear B1 hb2 hb3 hb c1 c2 c3 f1 f2 f3 l1 hk1 hk2 t2 t3
    generalize w3.alloc (.cells #[.string ⟨t.toArray⟩, .int .i64 (k : Int), .bool false] 23) = w4 at *
    generalize w3.heap.size = b3 at *
    obtain ⟨c1, c2, c3, f1, f2, f3, l1⟩ := C1.three
    obtain ⟨d1, d2, d3, g1, g2, g3, l2⟩ := C2.three
    go_wp2
    go_ret
    exact ⟨rfl, hb4⟩
theorem u8_of (c : Int) (h : 0 ≤ c ∧ c < 256) : ∃ x : UInt8, (x.toNat : Int) = c := ⟨UInt8.ofNat c.toNat, by rw [UInt8.toNat_ofNat']; omega⟩
theorem lawBack (s : ByteArray) (a : Int) (d : Bool) (c : Int) (hc : 0 ≤ c ∧ c < 256) (w : World) : Calls Try.prog 6 #[.agg #[.string s, .int .i64 a, .bool d], .int .u8 c] w fun e w' => e = .returned (.bool true) ∧ Below w.heap.size w w' := by
  obtain ⟨x, rfl⟩ := u8_of c hc
  have h := law_back w s.data.toList a d x
  unfold vw at h
  rw [str_list] at h
  exact h
end Go.Proofs.Ytfmlbnkmckkjnaa
