/- 'Hold', 'Drop', 'Count', 'Take'. -/
import Derived.Test.YtekfceolignihaaDoorS2
import Derived.Shelf.Spec.TrailingZeros
namespace Go.Proofs.YtekfceolignihaaDoor
open Go.RowKit
set_option linter.unusedVariables false
set_option linter.unusedSimpArgs false
attribute [local go_sem] cell_set set_set m_undef

theorem TabAt.below {g : Nat} {tab : List Nat} {W w : World} (h : TabAt g tab W) (hb : Below W.heap.size W w) : TabAt g tab w := fun j hj => (hb.cell (World.block_lt_of_cell? W _ (h j hj))).trans (h j hj)
set_option maxHeartbeats 1000000 in
theorem tz64_core (x k idx : Nat) (w : World) (hx0 : ((x : Int) == 0) = false)
    (key : IntKind.u64.wrap (bits BinOp.and IntKind.u64 (x : Int) (IntKind.u64.wrap (-(x : Int))) * 285870213051353865) / 288230376151711744 = (idx : Int))
    (hi : idx < 64) (hk : k < 64) (hcell : w.cell? ⟨0, idx, none⟩ = some (.int .u8 k)) :
    Calls Tryd.prog 21 #[.int .u64 x] w fun e w' => e = .returned (.int .i64 k) ∧ w' = w := by
  go_enter Tryd.func21, Tryd.ntmps21
  go_wp2_with (simp only [key])
  go_ret
  exact ⟨rfl, rfl⟩
theorem tz64_zero (w : World) :
    Calls Tryd.prog 21 #[.int .u64 0] w fun e w' => e = .returned (.int .i64 64) ∧ w' = w := by
  go_enter Tryd.func21, Tryd.ntmps21
  go_wp2
  go_ret
  exact ⟨rfl, rfl⟩
theorem tz64 (x : Nat) (hx : x < 18446744073709551616) (w : World) (hT : x ≠ 0 → TabAt 0 Lib.deBruijn64tab w) :
    Calls Tryd.prog 21 #[.int .u64 (x : Int)] w fun e w' => e = .returned (.int .i64 (Lib.ctz 64 x)) ∧ w' = w := by
  by_cases hx0 : x = 0
  · subst hx0
    exact tz64_zero w
  · obtain ⟨hlow, hk⟩ := Lib.lowest_bit 64 x hx0 hx
    obtain ⟨hi, htab⟩ := Lib.deBruijn64_at _ hk
    have hcell := hT hx0 _ hi
    rw [htab] at hcell
    exact tz64_core x _ _ w (by simp; omega) (tz64_key x _ hx hx0 hlow) hi hk hcell
section
variable {W w : World} {K : Kp} {mb cb fb cc fc : Nat} {C F : List Int} {T U : List Value} {mk : Bool}
theorem kHold_no (h : (MapB mb cb fb C F cc fc T U mk).P w) (n : Int) (hn : ¬ (2 ≤ n ∧ n < (C.length : Int))) :
    Calls Tryd.prog 9 #[.pointer (some ⟨mb, 0, none⟩), .int .i64 n] w fun e w' => e = .returned (.int .i64 1) ∧ w' = w := by
  have hH := kHas h n
  rw [decide_eq_false hn] at hH
  clear h hn
  replace hH := Lib.hid hH
  go_enter Tryd.func9, Tryd.ntmps9
  go_wp2_with (go_at_call 19; refine hH.out.mono ?_; rintro e w' ⟨rfl, rfl⟩)
  go_ret
  exact ⟨rfl, rfl⟩
theorem kHold (h : Pls W w (K.and (MapB mb cb fb C F cc fc T U mk))) (ha : Apart K mb cb fb) (n : Nat) (x x2 f : Int) (h2 : 2 ≤ n) (hx : C[n]? = some x) (hf : F[n / 64]? = some f) (hn : C.length ≤ 1000000) (hx2 : IntKind.i64.wrap (x + 1) = x2) :
    Calls Tryd.prog 9 #[.pointer (some ⟨mb, 0, none⟩), .int .i64 (n : Int)] w fun e w' => e = .returned (.int .i64 0) ∧ Pls W w' (K.and (MapB mb cb fb (C.set n x2) (F.set (n / 64) (newW f n x2)) cc fc T U mk)) := by
  have hH := kHas h.fact.2 (n : Int)
  have hl := (List.getElem?_eq_some_iff.1 hx).1
  rw [decide_eq_true ⟨by omega, by omega⟩] at hH
  have hC := kChange h ha n 1 x x2 f hx hf hn hx2
  clear h hn hl
  replace hH := Lib.hid hH
  replace hC := Lib.hid hC
  go_enter Tryd.func9, Tryd.ntmps9
  go_wp2_with (first
    | (go_at_call 19; refine hH.out.mono ?_; rintro e w' ⟨rfl, rfl⟩)
    | (go_at_call 20; refine hC.out.mono ?_; rintro e w2 ⟨rfl, hS⟩))
  go_ret
  exact ⟨rfl, hS⟩
theorem kDrop_no (h : (MapB mb cb fb C F cc fc T U mk).P w) (n : Int) (hn : ¬ (2 ≤ n ∧ n < (C.length : Int))) :
    Calls Tryd.prog 10 #[.pointer (some ⟨mb, 0, none⟩), .int .i64 n] w fun e w' => e = .returned (.int .i64 1) ∧ w' = w := by
  have hH := kHas h n
  rw [decide_eq_false hn] at hH
  clear h hn
  replace hH := Lib.hid hH
  go_enter Tryd.func10, Tryd.ntmps10
  go_wp2_with (go_at_call 19; refine hH.out.mono ?_; rintro e w' ⟨rfl, rfl⟩)
  go_ret
  exact ⟨rfl, rfl⟩
theorem kDrop_zero (h : (MapB mb cb fb C F cc fc T U mk).P w) (n : Nat) (h2 : 2 ≤ n) (hx : C[n]? = some 0) :
    Calls Tryd.prog 10 #[.pointer (some ⟨mb, 0, none⟩), .int .i64 (n : Int)] w fun e w' => e = .returned (.int .i64 3) ∧ w' = w := by
  have hH := kHas h (n : Int)
  have hl := (List.getElem?_eq_some_iff.1 hx).1
  rw [decide_eq_true ⟨by omega, by omega⟩] at hH
  obtain ⟨y1, y2, y3⟩ := MapB.cells h
  obtain ⟨c1, c2⟩ := MapB.cnt h n 0 hx
  have i1 : (0 : Int) ≤ (n : Int) := by omega
  have i2 : (n : Int) < (C.length : Int) := by omega
  clear h
  replace hH := Lib.hid hH
  go_enter Tryd.func10, Tryd.ntmps10
  go_wp2_with (go_at_call 19; refine hH.out.mono ?_; rintro e w' ⟨rfl, rfl⟩)
  go_ret
  exact ⟨rfl, rfl⟩
theorem kDrop (h : Pls W w (K.and (MapB mb cb fb C F cc fc T U mk))) (ha : Apart K mb cb fb) (n : Nat) (x x2 f : Int) (h2 : 2 ≤ n) (hx : C[n]? = some x) (hx0 : x ≠ 0) (hf : F[n / 64]? = some f) (hn : C.length ≤ 1000000) (hx2 : IntKind.i64.wrap (x + -1) = x2) :
    Calls Tryd.prog 10 #[.pointer (some ⟨mb, 0, none⟩), .int .i64 (n : Int)] w fun e w' => e = .returned (.int .i64 0) ∧ Pls W w' (K.and (MapB mb cb fb (C.set n x2) (F.set (n / 64) (newW f n x2)) cc fc T U mk)) := by
  have hH := kHas h.fact.2 (n : Int)
  have hl := (List.getElem?_eq_some_iff.1 hx).1
  rw [decide_eq_true ⟨by omega, by omega⟩] at hH
  have hC := kChange h ha n (-1) x x2 f hx hf hn hx2
  obtain ⟨y1, y2, y3⟩ := MapB.cells h.fact.2
  obtain ⟨c1, c2⟩ := MapB.cnt h.fact.2 n x hx
  have i1 : (0 : Int) ≤ (n : Int) := by omega
  have i2 : (n : Int) < (C.length : Int) := by omega
  have t0 : (x == 0) = false := by simp; exact hx0
  clear h hn hl hx0
  replace hH := Lib.hid hH
  replace hC := Lib.hid hC
  go_enter Tryd.func10, Tryd.ntmps10
  go_wp2_with (first
    | (go_at_call 19; refine hH.out.mono ?_; rintro e w' ⟨rfl, rfl⟩)
    | (go_at_call 20; refine hC.out.mono ?_; rintro e w2 ⟨rfl, hS⟩))
  go_ret
  exact ⟨rfl, hS⟩
theorem kCount_no (h : (MapB mb cb fb C F cc fc T U mk).P w) (n : Int) (hn : ¬ (2 ≤ n ∧ n < (C.length : Int))) :
    Calls Tryd.prog 18 #[.pointer (some ⟨mb, 0, none⟩), .int .i64 n] w fun e w' => e = .returned (.int .i64 0) ∧ w' = w := by
  have hH := kHas h n
  rw [decide_eq_false hn] at hH
  clear h hn
  replace hH := Lib.hid hH
  go_enter Tryd.func18, Tryd.ntmps18
  go_wp2_with (go_at_call 19; refine hH.out.mono ?_; rintro e w' ⟨rfl, rfl⟩)
  go_ret
  exact ⟨rfl, rfl⟩
theorem kCount (h : (MapB mb cb fb C F cc fc T U mk).P w) (n : Nat) (h2 : 2 ≤ n) (x : Int) (hx : C[n]? = some x) :
    Calls Tryd.prog 18 #[.pointer (some ⟨mb, 0, none⟩), .int .i64 (n : Int)] w fun e w' => e = .returned (.int .i64 x) ∧ w' = w := by
  have hH := kHas h (n : Int)
  have hl := (List.getElem?_eq_some_iff.1 hx).1
  rw [decide_eq_true ⟨by omega, by omega⟩] at hH
  obtain ⟨y1, y2, y3⟩ := MapB.cells h
  obtain ⟨c1, c2⟩ := MapB.cnt h n x hx
  have i1 : (0 : Int) ≤ (n : Int) := by omega
  have i2 : (n : Int) < (C.length : Int) := by omega
  clear h
  replace hH := Lib.hid hH
  go_enter Tryd.func18, Tryd.ntmps18
  go_wp2_with (go_at_call 19; refine hH.out.mono ?_; rintro e w' ⟨rfl, rfl⟩)
  go_ret
  exact ⟨rfl, rfl⟩
/-- Where the first word is that isn't 0. -/
theorem kTake_full (h : (MapB mb cb fb C F cc fc T U mk).P w) (hF : ∀ f ∈ F, f = 0) (hl : F.length ≤ 1000000) :
    Calls Tryd.prog 11 #[.pointer (some ⟨mb, 0, none⟩)] w fun e w' => e = .returned (.tuple #[.int .i64 0, .int .i64 50]) ∧ w' = w := by
  obtain ⟨y1, y2, y3⟩ := MapB.cells h
  have hW := Lib.hid (fun (n : Nat) (x : Int) (hx : F[n]? = some x) => MapB.wrd h n x hx)
  clear h
  go_enter Tryd.func11, Tryd.ntmps11
  go_wp2
  refine wp_scope_straight ?_
  go_wp2
  refine wp_label ?_
  go_wp2
  go_loopw [4, 14] (fun p i wr => ∃ k : Nat, p = .int .i64 (-1) ∧ i = .int .i64 (k : Int) ∧ k ≤ F.length ∧ wr = w) (fun p i wr => F.length - (intOf i).toNat)
  case atStart => exact ⟨0, rfl, rfl, Nat.zero_le _, rfl⟩
  case round =>
    obtain ⟨k, rfl, rfl, hk, rfl⟩ := hrel
    by_cases hlt : k < F.length
    · have t1 : ((k : Int) < (F.length : Int)) = True := eq_true (by omega)
      have i1 : (0 : Int) ≤ (k : Int) := by omega
      have i2 : (k : Int) < (F.length : Int) := by omega
      have wk : IntKind.i64.wrap ((k : Int) + 1) = ((k + 1 : Nat) : Int) := by rw [IntKind.wrap_i64]; omega
      obtain ⟨d1, d2⟩ := hW.out k 0 (by rw [List.getElem?_eq_getElem hlt, hF _ (List.getElem_mem hlt)])
      replace hlt := Lib.hid hlt
      clear hk hl hF
      go_wp2
      go_roundw
      case rel => exact ⟨k + 1, rfl, rfl, hlt.out, by trivial⟩
      case measure => have := hlt.out; simp [intOf]; omega
    · have t1 : ((k : Int) < (F.length : Int)) = False := eq_false (by omega)
      clear hlt hk
      go_wp2
      simp only [Exit.noGoto]
      go_ret2
      exact ⟨rfl, rfl⟩
theorem kTake (h : Pls W w (K.and (MapB mb cb fb C F cc fc T U mk))) (ha : Apart K mb cb fb) (hT : TabAt 0 Lib.deBruijn64tab w) (i0 f x2 : Nat) (x : Int) (hf : F[i0]? = some (f : Int)) (hf0 : f ≠ 0) (hf64 : f < 18446744073709551616) (hz : ∀ j, j < i0 → F[j]? = some 0)
    (hx : C[64 * i0 + Lib.ctz 64 f]? = some x) (hn : C.length ≤ 1000000) (hx2 : IntKind.i64.wrap (x + 1) = x2) :
    Calls Tryd.prog 11 #[.pointer (some ⟨mb, 0, none⟩)] w fun e w' => e = .returned (.tuple #[.int .i64 ((64 * i0 + Lib.ctz 64 f : Nat) : Int), .int .i64 0]) ∧ Pls W w' (K.and (MapB mb cb fb (C.set (64 * i0 + Lib.ctz 64 f) x2) (F.set i0 (newW f (64 * i0 + Lib.ctz 64 f) x2)) cc fc T U mk)) := by
  obtain ⟨y1, y2, y3⟩ := MapB.cells h.fact.2
  have hW := Lib.hid (fun (n : Nat) (x : Int) (hx : F[n]? = some x) => MapB.wrd h.fact.2 n x hx)
  have hct : Lib.ctz 64 f < 64 := (Lib.lowest_bit 64 f hf0 hf64).2
  have htz := tz64 f hf64 w (fun _ => hT)
  have hxl := (List.getElem?_eq_some_iff.1 hx).1
  have hfl := (List.getElem?_eq_some_iff.1 hf).1
  have hC := kChange h ha (64 * i0 + Lib.ctz 64 f) 1 x x2 f hx (by rw [show (64 * i0 + Lib.ctz 64 f) / 64 = i0 by omega]; exact hf) hn hx2
  rw [show (64 * i0 + Lib.ctz 64 f) / 64 = i0 by omega] at hC
  generalize Lib.ctz 64 f = ct at *
  have w1 : IntKind.i64.wrap (64 * (i0 : Int)) = 64 * (i0 : Int) := by rw [IntKind.wrap_i64]; omega
  have w2 : IntKind.i64.wrap (64 * (i0 : Int) + (ct : Int)) = ((64 * i0 + ct : Nat) : Int) := by rw [IntKind.wrap_i64]; omega
  have s0 : (((64 * i0 + ct : Nat) : Int) < 0) = False := eq_false (by omega)
  have hil : i0 < 1000000 := by omega
  have tf : ((f : Int) == 0) = false := by simp; exact hf0
  obtain ⟨n, hnn⟩ : ∃ n, n = 64 * i0 + ct := ⟨_, rfl⟩
  rw [← hnn] at hC w2 s0 ⊢
  replace hC := Lib.hid hC
  replace htz := Lib.hid htz
  clear hct hxl hnn hf0 hf64 hx hT h ha
  go_enter Tryd.func11, Tryd.ntmps11
  go_wp2
  refine wp_scope_straight ?_
  go_wp2
  refine wp_label ?_
  go_wp2
  go_loopw [4, 14] (fun p i wr => ∃ k : Nat, p = .int .i64 (-1) ∧ i = .int .i64 (k : Int) ∧ k ≤ i0 ∧ wr = w) (fun p i wr => F.length - (intOf i).toNat)
  case atStart => exact ⟨0, rfl, rfl, Nat.zero_le _, rfl⟩
  case round =>
    obtain ⟨k, rfl, rfl, hk, rfl⟩ := hrel
    have t1 : ((k : Int) < (F.length : Int)) = True := eq_true (by omega)
    have i1 : (0 : Int) ≤ (k : Int) := by omega
    have i2 : (k : Int) < (F.length : Int) := by omega
    by_cases hlt : k < i0
    · have wk : IntKind.i64.wrap ((k : Int) + 1) = ((k + 1 : Nat) : Int) := by rw [IntKind.wrap_i64]; omega
      obtain ⟨d1, d2⟩ := hW.out k 0 (hz k hlt)
      replace hlt := Lib.hid hlt
      replace hfl := Lib.hid hfl
      clear hk hz hf hil
      go_wp2
      go_roundw
      case rel => exact ⟨k + 1, rfl, rfl, hlt.out, by trivial⟩
      case measure => have := hlt.out; have := hfl.out; simp [intOf]; omega
    · obtain rfl : k = i0 := by omega
      obtain ⟨d1, d2⟩ := hW.out k f hf
      clear hlt hk hz hf hil hfl
      go_wp2_with (first
        | (go_at_call 21; refine htz.out.mono ?_; rintro e w' ⟨rfl, rfl⟩)
        | (go_at_call 20; refine hC.out.mono ?_; rintro e w2 ⟨rfl, hS⟩))
      simp only [Exit.noGoto]
      go_ret2
      exact ⟨rfl, hS⟩
end
end Go.Proofs.YtekfceolignihaaDoor
