/- EditorEnds. -/
import Derived.Test.YtfmlbnkmckkjnaaE13
namespace Go.Proofs.Ytfmlbnkmckkjnaa
open Go.RowKit
set_option linter.unusedVariables false
set_option linter.unusedSimpArgs false
attribute [local go_sem] cell_set set_set m_undef ba_get field0 field1 field2

theorem editS_d (H : List (List UInt8)) (p : Nat) (v : Vw) (c : UInt8) : True := trivial
theorem editR_le (H : List (List UInt8)) (s : List UInt8) : ∀ k p v, k ≤ (editR H s k p v).2 := by
  induction s with
  | nil => intro k p v; exact Nat.le_refl _
  | cons c r ih =>
    intro k p v
    rw [editR]
    split
    · exact Nat.le_succ _
    · exact Nat.le_trans (Nat.le_succ _) (ih _ _ _)
theorem editR_ends (H : List (List UInt8)) (more s : List UInt8) : ∀ k p v, v.d = false →
    ((editR H s k p v).1.d = true → editR H (s ++ more) k p v = editR H s k p v ∧ k + 1 ≤ (editR H s k p v).2 ∧ (editR H s k p v).2 ≤ k + s.length) ∧
    ((editR H s k p v).1.d = false → (editR H s k p v).2 = k + s.length ∧ (editR H s k p v).2 ≤ (editR H (s ++ more) k p v).2) := by
  induction s with
  | nil =>
    intro k p v hv
    refine ⟨fun h => ?_, fun h => ⟨rfl, editR_le _ _ _ _ _⟩⟩
    rw [editR, hv] at h
    cases h
  | cons c r ih =>
    intro k p v hv
    rw [List.cons_append, editR, editR]
    by_cases hd : (editS H p v c).2.d = true
    · rw [if_pos hd, if_pos hd]
      refine ⟨fun _ => ⟨rfl, Nat.le_refl _, by simp⟩, fun h => ?_⟩
      rw [hd] at h
      cases h
    · rw [if_neg hd, if_neg hd]
      obtain ⟨h1, h2⟩ := ih (k + 1) (editS H p v c).1 (editS H p v c).2 (by simpa using hd)
      refine ⟨fun h => ?_, fun h => ?_⟩
      · obtain ⟨a1, a2, a3⟩ := h1 h
        exact ⟨a1, by omega, by simp only [List.length_cons]; omega⟩
      · obtain ⟨a1, a2⟩ := h2 h
        exact ⟨by simp only [List.length_cons]; omega, a2⟩
set_option maxHeartbeats 2000000 in
theorem law_ends (w : World) (hv : Value) (H : List (List UInt8)) (s more : List UInt8) (hH : Hist w hv H) (hn : H.length ≤ 1000000000000000) (hHx : ∀ x ∈ H, x.length ≤ 9223372036854775807) (hs : s.length ≤ 1000000000000000) (hm : more.length ≤ 1000000000000000) :
    Calls Try.prog 7 #[hv, .string ⟨s.toArray⟩, .string ⟨more.toArray⟩] w fun e w' => e = .returned (.bool true) ∧ Below w.heap.size w w' := by
  obtain ⟨a0, cap0, rfl⟩ := hH.form
  have hH2 := Lib.hid hH
  clear hH
  have w0 : IntKind.i64.wrap ((s.length : Int) + (more.length : Int)) = ((s.length + more.length : Nat) : Int) := by rw [IntKind.wrap_i64]; omega
  go_enter Try.func7, Try.ntmps7
  go_upto_region 3 with (go_at_call 8; refine (wAwake w).mono ?_; rintro e wa ⟨rfl, hba⟩)
  have hba' := Lib.hid hba
  go_wp2
  go_loopw [7, 23] (fun n i wr => wr = wa ∧ ∃ j : Nat, j ≤ H.length ∧ i = .int .i64 (j : Int) ∧ ∃ z : Int, n = .int .i64 z) (fun n i _ => (H.length - (intOf i).toNat))
  case atStart =>
    exact ⟨rfl, 0, by omega, rfl, _, rfl⟩
  case round =>
    obtain ⟨rfl, j, hj, rfl, n0, rfl⟩ := hrel
    by_cases hjl : j < H.length
    · obtain ⟨y, hy⟩ : ∃ y, H[j] = y := ⟨_, rfl⟩
      obtain ⟨aa, cp, he, hcell⟩ : ∃ a cap, (Value.slice a0 H.length cap0) = .slice (some a) H.length cap ∧ ∀ j (hj : j < H.length), w.cell? (a.add j) = some (.string ⟨(H[j]).toArray⟩) := by
        rcases hH2.out with ⟨_, h0⟩ | h
        · rw [h0] at hjl; exact absurd hjl (Nat.not_lt_zero _)
        · exact h
      cases he
      have hcl := hcell j hjl
      rw [hy, ← hba.cell (World.block_lt_of_cell? _ _ hcl)] at hcl
      have t1 : ((j : Int) < (H.length : Int)) = True := by simp; omega
      have w1 : IntKind.i64.wrap ((j : Int) + 1) = ((j + 1 : Nat) : Int) := by rw [IntKind.wrap_i64]; omega
      obtain ⟨n1, hn1⟩ : ∃ n1 : Int, IntKind.i64.wrap (n0 + IntKind.i64.wrap (10 + (y.length : Int))) = n1 := ⟨_, rfl⟩
      obtain ⟨n2, hn2⟩ : ∃ n2 : Int, IntKind.i64.wrap (10 + (y.length : Int)) = n2 := ⟨_, rfl⟩
      rw [hn2] at hn1
      clear hcell hy
      go_wp2
      go_roundw
      case rel => exact ⟨trivial, j + 1, by omega, rfl, _, rfl⟩
      case measure => simp [intOf]; omega
    · have hjs : j = H.length := by omega
      subst hjs
      have t1 : ((H.length : Int) < (H.length : Int)) = False := by simp
      by_cases h3 : 3000 < n0
      · have t2 : ((3000 : Int) < n0) = True := by simp; omega
        go_wp2
        go_ret
        exact ⟨rfl, hba⟩
      · have t2 : ((3000 : Int) < n0) = False := by simp; omega
        have h1 := Lib.hid (wEdit wr _ H s (by omega) (hH2.out.below hba) (by omega) hHx)
        have h2 := Lib.hid (fun wx (hx : Below wr.heap.size wr wx) => wEdit wx _ H (s ++ more) (by simp; omega) ((hH2.out.below hba).below hx) (by omega) hHx)
        have hE := editR_ends H more s 0 H.length ⟨[], 0, false⟩ rfl
        have e1 : editR H s 0 H.length ⟨[], 0, false⟩ = editL H s := rfl
        have e2 : editR H (s ++ more) 0 H.length ⟨[], 0, false⟩ = editL H (s ++ more) := rfl
        rw [e1, e2] at hE
        obtain ⟨⟨V, A⟩, hA⟩ : ∃ x, editL H s = x := ⟨_, rfl⟩
        obtain ⟨⟨V2, A2⟩, hA2⟩ : ∃ x, editL H (s ++ more) = x := ⟨_, rfl⟩
        rw [hA, hA2] at hE
        rw [hA] at h1
        rw [hA2] at h2
        simp only [Nat.zero_add] at hE
        unfold EditP at h1 h2
        simp only at h1 h2
        replace hE := Lib.hid hE
        have hcat := ba_append s more
        have hbig : ¬ (9223372036854775807 : Int) < ((s.length + more.length : Nat) : Int) := by omega
        go_upto_region 12 with (go_at_call 12; refine h1.out.mono ?_; rintro e w2 ⟨rfl, hb2⟩)
        have B1 : Blk (w2.alloc (.cells #[.string ⟨V.t.toArray⟩, .int .i64 V.a, .bool V.d] 23)) w2.heap.size #[.string ⟨V.t.toArray⟩, .int .i64 V.a, .bool V.d] 23 := Blk.new _ _ _
        have hb3 := bel_alloc hb2 (.cells #[.string ⟨V.t.toArray⟩, .int .i64 V.a, .bool V.d] 23)
        clear h1 hb2
        generalize w2.alloc (.cells #[.string ⟨V.t.toArray⟩, .int .i64 V.a, .bool V.d] 23) = w3 at *
        generalize w2.heap.size = b1 at *
        go_upto_region 13 with (go_at_call 12; refine (h2.out w3 hb3).mono ?_; rintro e w4 ⟨rfl, hb4⟩)
        have B2 := (B1.below hb4).alloc (.cells #[.string ⟨V2.t.toArray⟩, .int .i64 V2.a, .bool V2.d] 23)
        have B3 : Blk (w4.alloc (.cells #[.string ⟨V2.t.toArray⟩, .int .i64 V2.a, .bool V2.d] 23)) w4.heap.size #[.string ⟨V2.t.toArray⟩, .int .i64 V2.a, .bool V2.d] 23 := Blk.new _ _ _
        have hb5 := bel_trans hba (bel_alloc (bel_trans hb3 hb4) (.cells #[.string ⟨V2.t.toArray⟩, .int .i64 V2.a, .bool V2.d] 23))
        clear B1 hb3 hb4 h2 hba
        generalize w4.alloc (.cells #[.string ⟨V2.t.toArray⟩, .int .i64 V2.a, .bool V2.d] 23) = w6 at *
        generalize w4.heap.size = b2 at *
        obtain ⟨hE1, hE2⟩ := hE.out
        cases hVd : V.d with
        | true =>
          obtain ⟨f1, f2, f3⟩ := hE1 hVd
          simp only [Prod.mk.injEq] at f1
          obtain ⟨rfl, rfl⟩ := f1
          rw [hVd] at B2 B3
          clear hE hE1 hE2
          obtain ⟨c1, c2, c3, f1, f2, f3, l1⟩ := B2.three
          obtain ⟨d1, d2, d3, g1, g2, g3, l2⟩ := B3.three
          have t3 : ((1 : Int) ≤ (A2 : Int)) = True := by simp; omega
          have t4 : ((A2 : Int) ≤ (s.length : Int)) = True := by simp; omega
          replace hVd := Lib.hid hVd
          go_wp2
          go_ret
          exact ⟨rfl, hb5⟩
        | false =>
          obtain ⟨f1, f2⟩ := hE2 hVd
          subst f1
          rw [hVd] at B2
          clear hE hE1 hE2
          obtain ⟨c1, c2, c3, f1, f2, f3, l1⟩ := B2.three
          have t3 : ((s.length : Int) ≤ (A2 : Int)) = True := by simp; omega
          replace hVd := Lib.hid hVd
          go_wp2
          go_ret
          exact ⟨rfl, hb5⟩
theorem lawEnds {w : World} (hv : Value) (H : List (List UInt8)) (hH : Hist w hv H) (hHx : ∀ x ∈ H, x.length ≤ 9223372036854775807) (hn : H.length ≤ 1000000000000000) (s more : ByteArray) (hs : s.size ≤ 1000000000000000) (hm : more.size ≤ 1000000000000000) :
    Calls Try.prog 7 #[hv, .string s, .string more] w fun e w' => e = .returned (.bool true) ∧ Below w.heap.size w w' := by
  have h := law_ends w hv H s.data.toList more.data.toList hH hn hHx (by rw [str_len]; exact hs) (by rw [str_len]; exact hm)
  rw [str_list, str_list] at h
  exact h
end Go.Proofs.Ytfmlbnkmckkjnaa

