/- 'back', 'on'. -/
import Derived.Test.YtfmlbnkmckkjnaaE1
namespace Go.Proofs.Ytfmlbnkmckkjnaa
open Go.RowKit
set_option linter.unusedVariables false
set_option linter.unusedSimpArgs false
attribute [local go_sem] cell_set set_set m_undef

theorem Blk.kept {w w' : World} {row : Option Nat} {b : Nat} {c : Array Value} {t : TypeId} (h : Blk w b c t) (hg : w.grownBy w' row) (hne : some b ≠ row) : Blk w' b c t := (hg.block b h.lt hne).trans h
theorem Bs.form {w : World} {B : Nat} {v : Value} {l : List UInt8} (h : Bs w B v l) : ∃ a n c, v = .slice a n c := by
  obtain ⟨a, c, h, _⟩ := h.len
  exact ⟨a, _, c, h⟩
theorem Bs.lt {w : World} {B : Nat} {v : Value} {l : List UInt8} (h : Bs w B v l) : v.ownBlock = none ∨ ∃ k, v.ownBlock = some k ∧ B ≤ k ∧ k < w.heap.size := by
  rcases h with ⟨rfl, _⟩ | ⟨b, o, cap, rfl, h2, h3, _⟩
  · exact .inl rfl
  · exact .inr ⟨b, rfl, h2, h3⟩
theorem Bs.ge {w : World} {B N k : Nat} {v : Value} {l : List UInt8} (h : Bs w B v l) (hN : N ≤ B) (e : v.ownBlock = some k) : N ≤ k := by
  rcases h.lt with h1 | ⟨k2, h1, h2, _⟩
  · rw [h1] at e; cases e
  · rw [h1] at e; cases e; omega
theorem Bs.sep {w w1 : World} {B : Nat} {va v : Value} {A l : List UInt8} (ha : Bs w B va A) (hv : Bs w1 w.heap.size v l) : va.ownBlock = none ∨ va.ownBlock ≠ v.ownBlock := by
  rcases ha.lt with h1 | ⟨k, h1, _, h2⟩
  · exact .inl h1
  · right
    intro e
    rw [h1] at e
    have := hv.ge (Nat.le_refl _) e.symm
    omega
theorem Line.set1 {w' : World} {base Lb : Nat} {A Z' : List UInt8} {va vz x : Value} (hB : Blk w' Lb #[va, vz] 41) (ha : Bs w' base va A) (hz : Bs w' base x Z') (h1 : va.ownBlock = none ∨ va.ownBlock ≠ x.ownBlock) (h2 : va.ownBlock ≠ some Lb) (h3 : x.ownBlock ≠ some Lb) (h4 : base ≤ Lb) :
    LineV (w'.setCell ⟨Lb, 1, none⟩ x) base Lb va x A Z' :=
  ⟨hB.set1, ha.kept (grownBy_setCell w' Lb 1 x) (.inr h2), hz.kept (grownBy_setCell w' Lb 1 x) (.inr h3), h1, h2, h3, h4⟩
set_option maxHeartbeats 800000 in
theorem wBack (w : World) (base Lb : Nat) (A Z : List UInt8) (va vz : Value) (n : Int) (h : LineV w base Lb va vz A Z) (hn : 0 ≤ n ∧ n ≤ 100000) (hA : A.length + Z.length ≤ 5000) :
    Calls Try.prog 24 #[.pointer (some ⟨Lb, 0, none⟩), .int .i64 n] w fun e w' => e = .returned (.tuple #[]) ∧ ∃ va' vz', LineV w' base Lb va' vz' (A.take (A.length - n.toNat)) (A.drop (A.length - n.toNat) ++ Z) ∧ Below base w w' := by
  have HD := Lib.hid (fun w (h : LineV w base Lb va vz A Z) => wDrop w base Lb A Z va vz n h hn hA)
  have hLd : LineV w.drew base Lb va vz A Z := h
  obtain ⟨hB, ha, hz, h1, h2, h3, h4⟩ := h
  obtain ⟨c0, c1, f0, f1, hlt⟩ := hB.two
  go_enter Try.func24, Try.ntmps24
  go_upto_region 0 with fail
  refine wp_region_noPanic ?_
  refine wp_region_held_drew (S := (fun _ => True)) (by kernel_rfl) ?_ (fun hHeld => ?_)
  · (try dsimp only); (try trivial)
  refine wpAnyH_take (i := 0) (oi := { dst := some 4, op := Go.Op.move (Go.Operand.tmp 0), type := 36, pos := "editor.go:33", after := #[], guard := none }) (v := ?v1) rfl (by kernel_rfl) (by kernel_rfl) (by kernel_rfl) (fun _ _ _ h => h) (Or.inl ⟨by rfl, ?hy1⟩) (by assumption) ?rest1
  case hy1 => (intro w hSw; (try dsimp only at hSw); go_simp <;> with_reducible rfl)
  try simp only [Act.put, List.setIfInBounds_toArray, List.set_cons_zero, List.set_cons_succ]
  refine wpAnyH_take (i := 1) (oi := { dst := some 5, op := Go.Op.move (Go.Operand.tmp 0), type := 36, pos := "editor.go:33", after := #[], guard := none }) (v := ?v2) rfl (by kernel_rfl) (by kernel_rfl) (by kernel_rfl) (fun _ _ _ h => h) (Or.inl ⟨by rfl, ?hy2⟩) (by assumption) ?rest2
  case hy2 => (intro w hSw; (try dsimp only at hSw); go_simp <;> with_reducible rfl)
  try simp only [Act.put, List.setIfInBounds_toArray, List.set_cons_zero, List.set_cons_succ]
  refine wpAnyH_take (i := 2) (oi := { dst := some 6, op := Go.Op.move (Go.Operand.tmp 1), type := 3, pos := "editor.go:33", after := #[], guard := none }) (v := ?v3) rfl (by kernel_rfl) (by kernel_rfl) (by kernel_rfl) (fun _ _ _ h => h) (Or.inl ⟨by rfl, ?hy3⟩) (by assumption) ?rest3
  case hy3 => (intro w hSw; (try dsimp only at hSw); go_simp <;> with_reducible rfl)
  try simp only [Act.put, List.setIfInBounds_toArray, List.set_cons_zero, List.set_cons_succ]
  refine wpAnyH_take (i := 4) (oi := { dst := some 8, op := Go.Op.move (Go.Operand.tmp 0), type := 36, pos := "editor.go:33", after := #[], guard := none }) (v := ?v4) rfl (by kernel_rfl) (by kernel_rfl) (by kernel_rfl) (fun _ _ _ h => h) (Or.inl ⟨by rfl, ?hy4⟩) (by assumption) ?rest4
  case hy4 => (intro w hSw; (try dsimp only at hSw); go_simp <;> with_reducible rfl)
  try simp only [Act.put, List.setIfInBounds_toArray, List.set_cons_zero, List.set_cons_succ]
  refine wpAnyH_take (i := 5) (oi := { dst := some 9, op := Go.Op.nilCheck (Go.Operand.tmp 8), type := 0, pos := "editor.go:33", after := #[{ on := 4, ground := Go.Ground.data }], guard := none }) (v := ?v5) rfl (by kernel_rfl) (by kernel_rfl) (by kernel_rfl) (fun _ _ _ h => h) (Or.inl ⟨by rfl, ?hy5⟩) (by assumption) ?rest5
  case hy5 => (intro w hSw; (try dsimp only at hSw); go_simp <;> with_reducible rfl)
  try simp only [Act.put, List.setIfInBounds_toArray, List.set_cons_zero, List.set_cons_succ]
  refine wpAnyH_take (i := 6) (oi := { dst := some 10, op := Go.Op.fieldAddr 41 (Go.Operand.tmp 9) 1, type := 0, pos := "editor.go:33", after := #[{ on := 5, ground := Go.Ground.data }], guard := none }) (v := ?v6) rfl (by kernel_rfl) (by kernel_rfl) (by kernel_rfl) (fun _ _ _ h => h) (Or.inl ⟨by rfl, ?hy6⟩) (by assumption) ?rest6
  case hy6 => (intro w hSw; (try dsimp only at hSw); go_simp <;> with_reducible rfl)
  try simp only [Act.put, List.setIfInBounds_toArray, List.set_cons_zero, List.set_cons_succ]
  refine wpAnyH_ready (rs := [3, 7]) (by kernel_rfl) (by simp) ?_
  refine AllReadyH.cons (o := { dst := some 7, op := Go.Op.call { callee := Go.Callee.value (Go.Operand.func 23), args := #[Go.Operand.tmp 5, Go.Operand.tmp 6], argTypes := #[36, 3] }, type := 39, pos := "editor.go:33", after := #[{ on := 1, ground := Go.Ground.data }, { on := 2, ground := Go.Ground.data }], guard := none }) rfl (fun K hK => ?_) ?_
  ·
    go_simp
    go_at_call 23; refine (HD.out _ hLd).mono ?_; rintro e w1 ⟨v1, va1, rfl, hv1, hL1, hb_w1, ho1⟩; obtain ⟨p0, p1, p2, p3, p4⟩ := hL1.1.two
    refine hK.out _ _ ?_ (fun hHeld2 => ?_)
    · (try dsimp only); (try trivial)
    clear hK K hHeld
    have hHeld := hHeld2
    clear hHeld2
    try simp only [Act.put, List.setIfInBounds_toArray, List.set_cons_zero, List.set_cons_succ]
    refine wpAnyH_ready (rs := [7]) (by kernel_rfl) (by simp) ?_
    refine AllReadyH.cons (o := { dst := some 11, op := Go.Op.load 39 (Go.Operand.tmp 10), type := 39, pos := "editor.go:33", after := #[{ on := 6, ground := Go.Ground.data }], guard := none }) rfl (fun K hK => ?_) AllReadyH.nil
    go_simp
    refine hK.out _ _ ?_ (fun hHeld2 => ?_)
    · (try dsimp only); (try trivial)
    clear hK K hHeld
    have hHeld := hHeld2
    clear hHeld2
    try simp only [Act.put, List.setIfInBounds_toArray, List.set_cons_zero, List.set_cons_succ]
    refine wpAnyH_ready (rs := [8]) (by kernel_rfl) (by simp) ?_
    refine AllReadyH.cons (o := { dst := some 12, op := Go.Op.call { callee := Go.Callee.builtin Go.Builtin.append, args := #[Go.Operand.tmp 7, Go.Operand.tmp 11], argTypes := #[39, 39] }, type := 39, pos := "editor.go:33", after := #[{ on := 3, ground := Go.Ground.data }, { on := 7, ground := Go.Ground.data }, { on := 3, ground := Go.Ground.chain }], guard := none }) rfl (fun K hK => ?_) AllReadyH.nil
    obtain ⟨v2, w2, hr, hv2, hg2, ho2⟩ := Bs.append (ty := 39) hv1 hL1.2.2.1 Try.underlying39 info5 (by have h1 := List.length_take_le (A.length - n.toNat) A; rw [List.length_drop]; omega) hb_w1.size; obtain ⟨a2, n2, cap2, rfl⟩ := hv2.form; refine step_append_bs rfl _ _ 39 rfl hr rfl rfl ?_; have hB2 := hL1.1.kept hg2 (fun e => hv1.ne hlt e.symm); obtain ⟨q0, q1, q2, q3, q4⟩ := hB2.two
    refine hK.out _ _ ?_ (fun hHeld2 => ?_)
    · (try dsimp only); (try trivial)
    clear hK K hHeld
    have hHeld := hHeld2
    clear hHeld2
    try simp only [Act.put, List.setIfInBounds_toArray, List.set_cons_zero, List.set_cons_succ]
    refine wpAnyH_take (i := 9) (oi := { dst := some 13, op := Go.Op.nilCheck (Go.Operand.tmp 4), type := 0, pos := "editor.go:33", after := #[{ on := 0, ground := Go.Ground.data }, { on := 0, ground := Go.Ground.phase }, { on := 1, ground := Go.Ground.phase }, { on := 2, ground := Go.Ground.phase }, { on := 3, ground := Go.Ground.phase }, { on := 4, ground := Go.Ground.phase }, { on := 5, ground := Go.Ground.phase }, { on := 6, ground := Go.Ground.phase }, { on := 7, ground := Go.Ground.phase }, { on := 8, ground := Go.Ground.phase }], guard := none }) (v := ?v7) rfl (by kernel_rfl) (by kernel_rfl) (by kernel_rfl) (fun _ _ _ h => h) (Or.inl ⟨by rfl, ?hy7⟩) (by assumption) ?rest7
    case hy7 => (intro w hSw; (try dsimp only at hSw); go_simp <;> with_reducible rfl)
    try simp only [Act.put, List.setIfInBounds_toArray, List.set_cons_zero, List.set_cons_succ]
    refine wpAnyH_take (i := 10) (oi := { dst := some 14, op := Go.Op.fieldAddr 41 (Go.Operand.tmp 13) 1, type := 0, pos := "editor.go:33", after := #[{ on := 9, ground := Go.Ground.data }, { on := 0, ground := Go.Ground.phase }, { on := 1, ground := Go.Ground.phase }, { on := 2, ground := Go.Ground.phase }, { on := 3, ground := Go.Ground.phase }, { on := 4, ground := Go.Ground.phase }, { on := 5, ground := Go.Ground.phase }, { on := 6, ground := Go.Ground.phase }, { on := 7, ground := Go.Ground.phase }, { on := 8, ground := Go.Ground.phase }], guard := none }) (v := ?v8) rfl (by kernel_rfl) (by kernel_rfl) (by kernel_rfl) (fun _ _ _ h => h) (Or.inl ⟨by rfl, ?hy8⟩) (by assumption) ?rest8
    case hy8 => (intro w hSw; (try dsimp only at hSw); go_simp <;> with_reducible rfl)
    try simp only [Act.put, List.setIfInBounds_toArray, List.set_cons_zero, List.set_cons_succ]
    refine wpAnyH_ready (rs := [11]) (by kernel_rfl) (by simp) ?_
    refine AllReadyH.cons (o := { dst := none, op := Go.Op.store 39 (Go.Operand.tmp 14) (Go.Operand.tmp 12), type := 0, pos := "editor.go:33", after := #[{ on := 10, ground := Go.Ground.data }, { on := 8, ground := Go.Ground.data }, { on := 8, ground := Go.Ground.chain }, { on := 0, ground := Go.Ground.phase }, { on := 1, ground := Go.Ground.phase }, { on := 2, ground := Go.Ground.phase }, { on := 3, ground := Go.Ground.phase }, { on := 4, ground := Go.Ground.phase }, { on := 5, ground := Go.Ground.phase }, { on := 6, ground := Go.Ground.phase }, { on := 7, ground := Go.Ground.phase }, { on := 8, ground := Go.Ground.phase }], guard := none }) rfl (fun K hK => ?_) AllReadyH.nil
    go_simp
    refine hK.out _ _ ?_ (fun hHeld2 => ?_)
    · (try dsimp only); (try trivial)
    clear hK K hHeld
    have hHeld := hHeld2
    clear hHeld2
    try simp only [Act.put, List.setIfInBounds_toArray, List.set_cons_zero, List.set_cons_succ]
    refine wpAnyH_done (by kernel_rfl) ?_ _
    refine NoPanic.normal ?_
    go_end0
    have hN : base ≤ w.heap.size := by omega
    exact ⟨rfl, _, _, Line.set1 hB2 (hL1.2.1.kept hg2 (by rw [ho1]; exact ha.sep hv1)) (hv2.mono hN) (by rw [ho1]; exact ha.sep hv2) (by rw [ho1]; exact h2) (hv2.ne hlt) h4, ((((Below.refl base w).drew.trans hb_w1).grown hg2 (Nat.le_trans hN hb_w1.size) (fun k e => hv1.ge hN e)).setCell (p := ⟨Lb, 1, none⟩) h4 _)⟩
  refine AllReadyH.cons (o := { dst := some 11, op := Go.Op.load 39 (Go.Operand.tmp 10), type := 39, pos := "editor.go:33", after := #[{ on := 6, ground := Go.Ground.data }], guard := none }) rfl (fun K hK => ?_) ?_
  ·
    go_simp
    refine hK.out _ _ ?_ (fun hHeld2 => ?_)
    · (try dsimp only); (try trivial)
    clear hK K hHeld
    have hHeld := hHeld2
    clear hHeld2
    try simp only [Act.put, List.setIfInBounds_toArray, List.set_cons_zero, List.set_cons_succ]
    refine wpAnyH_ready (rs := [3]) (by kernel_rfl) (by simp) ?_
    refine AllReadyH.cons (o := { dst := some 7, op := Go.Op.call { callee := Go.Callee.value (Go.Operand.func 23), args := #[Go.Operand.tmp 5, Go.Operand.tmp 6], argTypes := #[36, 3] }, type := 39, pos := "editor.go:33", after := #[{ on := 1, ground := Go.Ground.data }, { on := 2, ground := Go.Ground.data }], guard := none }) rfl (fun K hK => ?_) AllReadyH.nil
    go_simp
    go_at_call 23; refine (HD.out _ hLd).mono ?_; rintro e w1 ⟨v1, va1, rfl, hv1, hL1, hb_w1, ho1⟩; obtain ⟨p0, p1, p2, p3, p4⟩ := hL1.1.two
    refine hK.out _ _ ?_ (fun hHeld2 => ?_)
    · (try dsimp only); (try trivial)
    clear hK K hHeld
    have hHeld := hHeld2
    clear hHeld2
    try simp only [Act.put, List.setIfInBounds_toArray, List.set_cons_zero, List.set_cons_succ]
    refine wpAnyH_ready (rs := [8]) (by kernel_rfl) (by simp) ?_
    refine AllReadyH.cons (o := { dst := some 12, op := Go.Op.call { callee := Go.Callee.builtin Go.Builtin.append, args := #[Go.Operand.tmp 7, Go.Operand.tmp 11], argTypes := #[39, 39] }, type := 39, pos := "editor.go:33", after := #[{ on := 3, ground := Go.Ground.data }, { on := 7, ground := Go.Ground.data }, { on := 3, ground := Go.Ground.chain }], guard := none }) rfl (fun K hK => ?_) AllReadyH.nil
    obtain ⟨v2, w2, hr, hv2, hg2, ho2⟩ := Bs.append (ty := 39) hv1 hL1.2.2.1 Try.underlying39 info5 (by have h1 := List.length_take_le (A.length - n.toNat) A; rw [List.length_drop]; omega) hb_w1.size; obtain ⟨a2, n2, cap2, rfl⟩ := hv2.form; refine step_append_bs rfl _ _ 39 rfl hr rfl rfl ?_; have hB2 := hL1.1.kept hg2 (fun e => hv1.ne hlt e.symm); obtain ⟨q0, q1, q2, q3, q4⟩ := hB2.two
    refine hK.out _ _ ?_ (fun hHeld2 => ?_)
    · (try dsimp only); (try trivial)
    clear hK K hHeld
    have hHeld := hHeld2
    clear hHeld2
    try simp only [Act.put, List.setIfInBounds_toArray, List.set_cons_zero, List.set_cons_succ]
    refine wpAnyH_take (i := 9) (oi := { dst := some 13, op := Go.Op.nilCheck (Go.Operand.tmp 4), type := 0, pos := "editor.go:33", after := #[{ on := 0, ground := Go.Ground.data }, { on := 0, ground := Go.Ground.phase }, { on := 1, ground := Go.Ground.phase }, { on := 2, ground := Go.Ground.phase }, { on := 3, ground := Go.Ground.phase }, { on := 4, ground := Go.Ground.phase }, { on := 5, ground := Go.Ground.phase }, { on := 6, ground := Go.Ground.phase }, { on := 7, ground := Go.Ground.phase }, { on := 8, ground := Go.Ground.phase }], guard := none }) (v := ?v9) rfl (by kernel_rfl) (by kernel_rfl) (by kernel_rfl) (fun _ _ _ h => h) (Or.inl ⟨by rfl, ?hy9⟩) (by assumption) ?rest9
    case hy9 => (intro w hSw; (try dsimp only at hSw); go_simp <;> with_reducible rfl)
    try simp only [Act.put, List.setIfInBounds_toArray, List.set_cons_zero, List.set_cons_succ]
    refine wpAnyH_take (i := 10) (oi := { dst := some 14, op := Go.Op.fieldAddr 41 (Go.Operand.tmp 13) 1, type := 0, pos := "editor.go:33", after := #[{ on := 9, ground := Go.Ground.data }, { on := 0, ground := Go.Ground.phase }, { on := 1, ground := Go.Ground.phase }, { on := 2, ground := Go.Ground.phase }, { on := 3, ground := Go.Ground.phase }, { on := 4, ground := Go.Ground.phase }, { on := 5, ground := Go.Ground.phase }, { on := 6, ground := Go.Ground.phase }, { on := 7, ground := Go.Ground.phase }, { on := 8, ground := Go.Ground.phase }], guard := none }) (v := ?v10) rfl (by kernel_rfl) (by kernel_rfl) (by kernel_rfl) (fun _ _ _ h => h) (Or.inl ⟨by rfl, ?hy10⟩) (by assumption) ?rest10
    case hy10 => (intro w hSw; (try dsimp only at hSw); go_simp <;> with_reducible rfl)
    try simp only [Act.put, List.setIfInBounds_toArray, List.set_cons_zero, List.set_cons_succ]
    refine wpAnyH_ready (rs := [11]) (by kernel_rfl) (by simp) ?_
    refine AllReadyH.cons (o := { dst := none, op := Go.Op.store 39 (Go.Operand.tmp 14) (Go.Operand.tmp 12), type := 0, pos := "editor.go:33", after := #[{ on := 10, ground := Go.Ground.data }, { on := 8, ground := Go.Ground.data }, { on := 8, ground := Go.Ground.chain }, { on := 0, ground := Go.Ground.phase }, { on := 1, ground := Go.Ground.phase }, { on := 2, ground := Go.Ground.phase }, { on := 3, ground := Go.Ground.phase }, { on := 4, ground := Go.Ground.phase }, { on := 5, ground := Go.Ground.phase }, { on := 6, ground := Go.Ground.phase }, { on := 7, ground := Go.Ground.phase }, { on := 8, ground := Go.Ground.phase }], guard := none }) rfl (fun K hK => ?_) AllReadyH.nil
    go_simp
    refine hK.out _ _ ?_ (fun hHeld2 => ?_)
    · (try dsimp only); (try trivial)
    clear hK K hHeld
    have hHeld := hHeld2
    clear hHeld2
    try simp only [Act.put, List.setIfInBounds_toArray, List.set_cons_zero, List.set_cons_succ]
    refine wpAnyH_done (by kernel_rfl) ?_ _
    refine NoPanic.normal ?_
    go_end0
    have hN : base ≤ w.heap.size := by omega
    exact ⟨rfl, _, _, Line.set1 hB2 (hL1.2.1.kept hg2 (by rw [ho1]; exact ha.sep hv1)) (hv2.mono hN) (by rw [ho1]; exact ha.sep hv2) (by rw [ho1]; exact h2) (hv2.ne hlt) h4, ((((Below.refl base w).drew.trans hb_w1).grown hg2 (Nat.le_trans hN hb_w1.size) (fun k e => hv1.ge hN e)).setCell (p := ⟨Lb, 1, none⟩) h4 _)⟩
  exact AllReadyH.nil
end Go.Proofs.Ytfmlbnkmckkjnaa
