/- 'types', 'Clone', 'drop'. -/
import Derived.Test.YtfmlbnkmckkjnaaAP
namespace Go.Proofs.Ytfmlbnkmckkjnaa
open Go.RowKit
set_option linter.unusedVariables false
set_option linter.unusedSimpArgs false
attribute [local go_sem] cell_set set_set m_undef

theorem info5 : (Try.prog.info? 5).map (fun i => (i.zero, i.size, i.bytes)) = some (some (.int .u8 0), 1, 1) := by kernel_rfl
theorem ret_bool {a b : Bool} (h : a = b) : Ending.returned (.bool a) = .returned (.bool b) := by rw [h]
theorem wTypes (c : Int) (w : World) : Calls Try.prog 16 #[.int .u8 c] w fun e w' => e = .returned (.bool (decide (32 ≤ c) && decide (c ≤ 126))) ∧ w = w' := by
  by_cases h1 : 32 ≤ c
  · go_enter Try.func16, Try.ntmps16
    go_wp2
    go_ret
    exact ⟨ret_bool (by simp [h1]), rfl⟩
  · go_enter Try.func16, Try.ntmps16
    go_wp2
    go_ret
    exact ⟨ret_bool (by simp; omega), rfl⟩
theorem eqlN (w : World) (a : Option Addr) (l c : Nat) : (binOp .eql 39 (.slice a l c) (.slice none 0 0)).run Try.prog w = .ok (.bool a.isNone) w := by
  exact run_eql_slice_nil w 39 5 a l c Try.underlying39
attribute [local go_sem high] eqlN

set_option maxHeartbeats 400000 in
theorem wClone (w : World) (B : Nat) (v : Value) (l : List UInt8) (h : Bs w B v l) (hl : l.length ≤ 100000) : Calls Try.prog 28 #[v] w fun e w' => ∃ v', e = .returned v' ∧ Bs w' w.heap.size v' l ∧ Below w.heap.size w w' := by
  rcases h with ⟨rfl, rfl⟩ | ⟨b, o, cap, rfl, h2⟩
  · clear hl
    go_enter Try.func28, Try.ntmps28
    go_wp2
    go_ret
    exact ⟨_, rfl, Bs.nil _ _, Below.refl _ _⟩
  · have hv : Bs w B (.slice (some ⟨b, o, none⟩) l.length cap) l := .inr ⟨b, o, cap, rfl, h2⟩
    have hnew : Bs (w.alloc (.cells #[] 5)) w.heap.size (.slice (some ⟨w.heap.size, 0, none⟩) 0 0) [] := .inr ⟨w.heap.size, 0, 0, rfl, Nat.le_refl _, by simp, Nat.le_refl _, fun j hj => by simp at hj, fun j hj => by omega⟩
    clear h2
    go_enter Try.func28, Try.ntmps28
    go_wp2_with (at_builtin; obtain ⟨v', w2, hr, hb2, hg2, ho2⟩ := Bs.append (ty := 39) hnew (hv.kept (World.grownBy_alloc w _ none) (.inr (by simp [Value.ownBlock]))) Try.underlying39 info5 (by simpa using Nat.le_trans hl (by omega)) (by simp); refine wpList_append_bs rfl _ _ 39 rfl hr rfl rfl ?_)
    go_ret
    exact ⟨_, rfl, hb2, ((Below.refl _ w).alloc (Nat.le_refl _) _).grown hg2 (by simp) (fun k e => by cases e; exact Nat.le_refl _)⟩
theorem Bs.below {w w' : World} {B : Nat} {v : Value} {l : List UInt8} (h : Bs w B v l) (hb : Below w.heap.size w w') : Bs w' B v l :=
  h.kept (row := none) ⟨hb.os, hb.tape, hb.output, hb.size, fun k hk _ => hb.block k hk⟩ (by cases v.ownBlock <;> simp)
theorem grownBy_setCell (w : World) (b o : Nat) (v : Value) : w.grownBy (w.setCell ⟨b, o, none⟩ v) (some b) := ⟨rfl, rfl, rfl, by simp, fun k _ hk => Below.heap_setCell _ _ _ _ (fun e => hk (by rw [e]))⟩
/-- A line: bytes ahead of the cursor and behind it, in blocks of their own. -/
def LineV (w : World) (base Lb : Nat) (va vz : Value) (A Z : List UInt8) : Prop := Blk w Lb #[va, vz] 41 ∧ Bs w base va A ∧ Bs w base vz Z ∧ (va.ownBlock = none ∨ va.ownBlock ≠ vz.ownBlock) ∧ va.ownBlock ≠ some Lb ∧ vz.ownBlock ≠ some Lb ∧ base ≤ Lb
theorem Bs.drop0 {w : World} {B b o n cap : Nat} {l : List UInt8} (h : Bs w B (.slice (some ⟨b, o, none⟩) n cap) l) (hk : cap ≤ l.length) : Bs w B (.slice (some ⟨b, o, none⟩) 0 0) [] := by
  rcases h with ⟨h, _⟩ | ⟨b', o', cap', he, h2, h3, h4, h5, h6⟩
  · cases h
  · cases he
    exact .inr ⟨b, o, 0, rfl, h2, h3, Nat.le_refl _, fun j hj => by simp at hj, fun j hj => by omega⟩
theorem Bs.ne {w : World} {B Lb : Nat} {v : Value} {l : List UInt8} (h : Bs w B v l) (hb : Lb < B) : v.ownBlock ≠ some Lb := by
  rcases h with ⟨rfl, _⟩ | ⟨b, o, cap, rfl, h2, _⟩
  · simp [Value.ownBlock]
  · simp [Value.ownBlock]; omega
/-- The new value ahead, stored. -/
theorem Line.set0 {w' : World} {base Lb : Nat} {A' Z : List UInt8} {va vz x : Value} (hB : Blk w' Lb #[va, vz] 41) (ha : Bs w' base x A') (hz : Bs w' base vz Z) (h1 : x.ownBlock = none ∨ x.ownBlock ≠ vz.ownBlock) (h2 : x.ownBlock ≠ some Lb) (h3 : vz.ownBlock ≠ some Lb) (h4 : base ≤ Lb) :
    LineV (w'.setCell ⟨Lb, 0, none⟩ x) base Lb x vz A' Z :=
  ⟨hB.set0, ha.kept (grownBy_setCell w' Lb 0 x) (.inr h2), hz.kept (grownBy_setCell w' Lb 0 x) (.inr h3), h1, h2, h3, h4⟩
set_option maxHeartbeats 200000 in
theorem wDrop (w : World) (base Lb : Nat) (A Z : List UInt8) (va vz : Value) (n : Int) (h : LineV w base Lb va vz A Z) (hn : 0 ≤ n ∧ n ≤ 100000) (hA : A.length + Z.length ≤ 5000) :
    Calls Try.prog 23 #[.pointer (some ⟨Lb, 0, none⟩), .int .i64 n] w fun e w' => ∃ v' va', e = .returned v' ∧ Bs w' w.heap.size v' (A.drop (A.length - n.toNat)) ∧ LineV w' base Lb va' vz (A.take (A.length - n.toNat)) Z ∧ Below base w w' ∧ va'.ownBlock = va.ownBlock := by
  obtain ⟨hB, ha, hz, h1, h2, h3, h4⟩ := h
  obtain ⟨c0, c1, f0, f1, hlt⟩ := hB.two
  have ha' := ha
  rcases ha with ⟨rfl, rfl⟩ | ⟨b, o, cap, rfl, h5⟩
  · have HC := Lib.hid (wClone w base _ [] ha' (by simp))
    have htk := ha'
    rw [show ([] : List UInt8).drop (([] : List UInt8).length - n.toNat) = [] by simp, show ([] : List UInt8).take (([] : List UInt8).length - n.toNat) = [] by simp]
    by_cases hn0 : n = 0
    · subst hn0
      clear hn hA
      go_enter Try.func23, Try.ntmps23
      go_wp2_with (go_at_call 28; refine (HC.out).mono ?_; rintro e w1 ⟨v1, rfl, hv1, hb_w1⟩; obtain ⟨k1, k2, k3, k4, k5⟩ := (show Blk w1 (Lb) #[.slice none 0 0, vz] 41 from (by repeat (first | (with_reducible assumption) | (with_reducible refine Blk.new' ?_; first | rfl | (simp; done) | (simp; omega)) | (with_reducible apply Blk.setFive) | (with_reducible apply Blk.set0) | (with_reducible apply Blk.set1) | (with_reducible apply Blk.setOne) | (with_reducible refine Blk.set_other ?_ (by omega) _ _) | (with_reducible apply Blk.alloc) | (with_reducible apply Blk.drew) | (with_reducible refine Blk.below ?_ (by with_reducible assumption))))).two)
      refine bodyPost_ret (v := v1) (by simp [results, Try.results23, go_sem]) rfl ⟨v1, _, rfl, hv1.kept (grownBy_setCell w1 Lb 0 _) (.inr (hv1.ne hlt)), Line.set0 (hB.below hb_w1) (htk.below hb_w1) (hz.below hb_w1) h1 h2 h3 h4, (hb_w1.mono (by omega)).setCell (p := ⟨Lb, 0, none⟩) h4 _, rfl⟩
    · obtain ⟨d, hd⟩ : ∃ d : Int, d = 0 - n := ⟨_, rfl⟩
      have hw : IntKind.i64.wrap (0 - n) = d := by rw [IntKind.wrap_i64]; omega
      have hw' : IntKind.i64.wrap (- n) = d := by rw [IntKind.wrap_i64]; omega
      have hk0 : d < 0 := by omega
      clear hn hA hd hn0
      go_enter Try.func23, Try.ntmps23
      go_wp2_with (go_at_call 28; refine (HC.out).mono ?_; rintro e w1 ⟨v1, rfl, hv1, hb_w1⟩; obtain ⟨k1, k2, k3, k4, k5⟩ := (show Blk w1 (Lb) #[.slice none 0 0, vz] 41 from (by repeat (first | (with_reducible assumption) | (with_reducible refine Blk.new' ?_; first | rfl | (simp; done) | (simp; omega)) | (with_reducible apply Blk.setFive) | (with_reducible apply Blk.set0) | (with_reducible apply Blk.set1) | (with_reducible apply Blk.setOne) | (with_reducible refine Blk.set_other ?_ (by omega) _ _) | (with_reducible apply Blk.alloc) | (with_reducible apply Blk.drew) | (with_reducible refine Blk.below ?_ (by with_reducible assumption))))).two)
      refine bodyPost_ret (v := v1) (by simp [results, Try.results23, go_sem]) rfl ⟨v1, _, rfl, hv1.kept (grownBy_setCell w1 Lb 0 _) (.inr (hv1.ne hlt)), Line.set0 (hB.below hb_w1) (htk.below hb_w1) (hz.below hb_w1) h1 h2 h3 h4, (hb_w1.mono (by omega)).setCell (p := ⟨Lb, 0, none⟩) h4 _, rfl⟩
  have hcap := h5.2.2.1
  clear h5
  obtain ⟨La, hLa⟩ : ∃ La, La = A.length := ⟨_, rfl⟩
  rw [← hLa] at hcap ha' c0 hB hA ⊢
  have hcl := fun (w : World) (v : Value) (l : List UInt8) (hl : l.length ≤ La) (hb : Bs w base v l) => wClone w base v l hb (by omega)
  by_cases hk0 : (La : Int) - n < 0
  · rw [show La - n.toNat = 0 by omega, List.drop_zero, List.take_zero]
    have htk := ha'.take 0 (by omega)
    rw [List.take_zero] at htk
    have HC := Lib.hid (hcl w _ A (by omega) ha')
    obtain ⟨d, hd⟩ : ∃ d, d = (La : Int) - n := ⟨_, rfl⟩
    rw [← hd] at hk0
    have hw : IntKind.i64.wrap ((La : Int) - n) = d := by rw [IntKind.wrap_i64]; omega
    clear hA hn hLa hd hcl
    go_enter Try.func23, Try.ntmps23
    go_wp2_with (go_at_call 28; refine (HC.out).mono ?_; rintro e w1 ⟨v1, rfl, hv1, hb_w1⟩; obtain ⟨k1, k2, k3, k4, k5⟩ := (show Blk w1 (Lb) #[.slice (some ⟨b, o, none⟩) La cap, vz] 41 from (by repeat (first | (with_reducible assumption) | (with_reducible refine Blk.new' ?_; first | rfl | (simp; done) | (simp; omega)) | (with_reducible apply Blk.setFive) | (with_reducible apply Blk.set0) | (with_reducible apply Blk.set1) | (with_reducible apply Blk.setOne) | (with_reducible refine Blk.set_other ?_ (by omega) _ _) | (with_reducible apply Blk.alloc) | (with_reducible apply Blk.drew) | (with_reducible refine Blk.below ?_ (by with_reducible assumption))))).two)
    refine bodyPost_ret (v := v1) (by simp [results, Try.results23, go_sem]) rfl ⟨v1, _, rfl, hv1.kept (grownBy_setCell w1 Lb 0 _) (.inr (hv1.ne hlt)), Line.set0 (hB.below hb_w1) (htk.below hb_w1) (hz.below hb_w1) h1 h2 h3 h4, (hb_w1.mono (by omega)).setCell (p := ⟨Lb, 0, none⟩) h4 _, rfl⟩
  · obtain ⟨k, hk⟩ : ∃ k, k = La - n.toNat := ⟨_, rfl⟩
    have hw : IntKind.i64.wrap ((La : Int) - n) = (k : Int) := by rw [IntKind.wrap_i64]; omega
    have hkL : k ≤ La := by omega
    rw [← hk]
    have htk := ha'.take k (by omega)
    by_cases hkc : cap = k
    · have hd0 := ha'.drop0 (by omega)
      have e : A.drop k = [] := List.drop_eq_nil_of_le (by omega)
      have hLk : La = k := by omega
      rw [e]
      have HC := Lib.hid (hcl w _ [] (by simp) hd0)
      have t1 : ¬ (cap : Int) < 0 := by omega
      clear hA hn hcl hk hk0 e hLa hkL hcap
      subst hLk
      subst hkc
      go_enter Try.func23, Try.ntmps23
      go_wp2_with (go_at_call 28; refine (HC.out).mono ?_; rintro e w1 ⟨v1, rfl, hv1, hb_w1⟩; obtain ⟨k1, k2, k3, k4, k5⟩ := (show Blk w1 (Lb) #[.slice (some ⟨b, o, none⟩) cap cap, vz] 41 from (by repeat (first | (with_reducible assumption) | (with_reducible refine Blk.new' ?_; first | rfl | (simp; done) | (simp; omega)) | (with_reducible apply Blk.setFive) | (with_reducible apply Blk.set0) | (with_reducible apply Blk.set1) | (with_reducible apply Blk.setOne) | (with_reducible refine Blk.set_other ?_ (by omega) _ _) | (with_reducible apply Blk.alloc) | (with_reducible apply Blk.drew) | (with_reducible refine Blk.below ?_ (by with_reducible assumption))))).two)
      refine bodyPost_ret (v := v1) (by simp [results, Try.results23, go_sem]) rfl ⟨v1, _, rfl, hv1.kept (grownBy_setCell w1 Lb 0 _) (.inr (hv1.ne hlt)), Line.set0 (hB.below hb_w1) (htk.below hb_w1) (hz.below hb_w1) h1 h2 h3 h4, (hb_w1.mono (by omega)).setCell (p := ⟨Lb, 0, none⟩) h4 _, rfl⟩
    · have HC := Lib.hid (hcl w _ (A.drop k) (by rw [List.length_drop]; omega) (ha'.drop k (by omega)))
      have t1 : ¬ (k : Int) < 0 := by omega
      clear hA hn hLa hcl hk hk0
      go_enter Try.func23, Try.ntmps23
      go_wp2_with (go_at_call 28; refine (HC.out).mono ?_; rintro e w1 ⟨v1, rfl, hv1, hb_w1⟩; obtain ⟨k1, k2, k3, k4, k5⟩ := (show Blk w1 (Lb) #[.slice (some ⟨b, o, none⟩) La cap, vz] 41 from (by repeat (first | (with_reducible assumption) | (with_reducible refine Blk.new' ?_; first | rfl | (simp; done) | (simp; omega)) | (with_reducible apply Blk.setFive) | (with_reducible apply Blk.set0) | (with_reducible apply Blk.set1) | (with_reducible apply Blk.setOne) | (with_reducible refine Blk.set_other ?_ (by omega) _ _) | (with_reducible apply Blk.alloc) | (with_reducible apply Blk.drew) | (with_reducible refine Blk.below ?_ (by with_reducible assumption))))).two)
      refine bodyPost_ret (v := v1) (by simp [results, Try.results23, go_sem]) rfl ⟨v1, _, rfl, hv1.kept (grownBy_setCell w1 Lb 0 _) (.inr (hv1.ne hlt)), Line.set0 (hB.below hb_w1) (htk.below hb_w1) (hz.below hb_w1) h1 h2 h3 h4, (hb_w1.mono (by omega)).setCell (p := ⟨Lb, 0, none⟩) h4 _, rfl⟩
end Go.Proofs.Ytfmlbnkmckkjnaa
