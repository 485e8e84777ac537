/- 'same'. -/
import Derived.Test.YtjkpapkjlmglbaaDoorU11
namespace Go.Proofs.YtjkpapkjlmglbaaDoor
open Go.RowKit
set_option linter.unusedVariables false
set_option linter.unusedSimpArgs false
attribute [local go_sem] cell_set set_set m_undef

theorem ba_ne {X Y : ByteArray} {a b : List UInt8} (hX : X = ⟨a.toArray⟩) (hY : Y = ⟨b.toArray⟩) (h : a ≠ b) : (X.toList == Y.toList) = false := by
  subst hX hY
  rw [ByteArray.toList_eq, ByteArray.toList_eq]
  simpa using h
theorem take_step {A B : List (List UInt8)} {k : Nat} (h : A.take k = B.take k) (h1 : k < A.length) (h2 : k < B.length) (h3 : A[k] = B[k]) : A.take (k + 1) = B.take (k + 1) := by
  rw [List.take_succ_eq_append_getElem h1, List.take_succ_eq_append_getElem h2, h, h3]
set_option maxRecDepth 100000 in
set_option maxHeartbeats 2000000 in
theorem wSame (w : World) (v u : Value) (A B : List (List UInt8)) (hv : Rv w 1 v A.length (sl A)) (hu : Rv w 1 u B.length (sl B)) (hA : A.length ≤ 1000000000) (hB : B.length ≤ 1000000000) :
    Calls Tryd.prog 9 #[v, u] w fun e w' => e = .returned (.bool (decide (A = B))) ∧ Below w.heap.size w w' := by
  obtain ⟨ad, cap, rfl⟩ := Rv.form hv
  obtain ⟨ad2, cap2, rfl⟩ := Rv.form hu
  obtain ⟨r, hr⟩ : ∃ r, r = decide (A = B) := ⟨_, rfl⟩
  rw [← hr]
  replace hv := Lib.hid hv
  replace hu := Lib.hid hu
  by_cases hl : A.length = B.length
  · have t1 : ((A.length : Int) != (B.length : Int)) = false := by simp [hl]
    replace hr := Lib.hid hr
    replace hl := Lib.hid hl
    go_enter Tryd.func9, Tryd.ntmps9
    go_wp2
    go_loopw [13] (fun p wr => ∃ k : Nat, p = .int .i64 (k : Int) ∧ k ≤ A.length ∧ A.take k = B.take k ∧ Below w.heap.size w wr) (fun p wr => A.length - (intOf p).toNat)
    case atStart => exact ⟨0, rfl, Nat.zero_le _, rfl, Below.refl _ _⟩
    case round =>
      obtain ⟨k, rfl, hk, htk, hb⟩ := hrel
      by_cases hlt : k < A.length
      · have t2 : ((k : Int) < (A.length : Int)) = True := eq_true (by omega)
        have i1 : (0 : Int) ≤ (k : Int) := by omega
        have i2 : (k : Int) < (A.length : Int) := by omega
        have hlt2 : k < B.length := by have := hl.out; omega
        have i3 : (k : Int) < (B.length : Int) := by omega
        have wi : IntKind.i64.wrap ((k : Int) + 1) = ((k + 1 : Nat) : Int) := by rw [IntKind.wrap_i64]; omega
        obtain ⟨a, rfl, z0⟩ := hv.out.cellAt k _ (sl_at A k hlt)
        obtain ⟨b, rfl, z3⟩ := hu.out.cellAt k _ (sl_at B k hlt2)
        have z1 := (hb.cell (World.block_lt_of_cell? w _ z0)).trans z0
        have z2 := (hb.cell (World.block_lt_of_cell? w _ z3)).trans z3
        by_cases heq : A[k] = B[k]
        · have htk2 := Lib.hid (take_step htk hlt hlt2 heq)
          rw [← heq] at z2
          obtain ⟨X, hX⟩ : ∃ X : ByteArray, X = ⟨A[k].toArray⟩ := ⟨_, rfl⟩
          rw [← hX] at z1 z2
          obtain ⟨Y, hY⟩ : ∃ Y, Y = X := ⟨_, rfl⟩
          replace hlt := Lib.hid hlt
          clear z0 z3 heq hX htk hk hlt2 hY Y
          go_upto_region 6 with fail
          replace hb := Lib.hid (hb.drew)
          refine wp_region_noPanic ?_
          refine wp_region_held_drew (S := (fun w9 => w9.cell? (a.add k) = some (.string X) ∧ w9.cell? (b.add k) = some (.string X))) (by kernel_rfl) ?_ (fun hHeld => ?_)
          · (try dsimp only); exact ⟨z1, z2⟩
          refine wpAnyH_take (i := 0) (oi := { dst := some 16, op := Go.Op.move (Go.Operand.tmp 0), type := 29, pos := "law.go:30", after := #[], guard := none }) (v := ?v1) rfl (by kernel_rfl) (by kernel_rfl) (by kernel_rfl) (fun _ _ _ h => h) (Or.inl ⟨by rfl, ?hy1⟩) (by assumption) ?rest1
          case hy1 => (intro w hSw; (try dsimp only at hSw); obtain ⟨y0, y1⟩ := (show w.cell? (a.add k) = some (.string X) ∧ w.cell? (b.add k) = some (.string X) from hSw); go_simp <;> with_reducible rfl)
          try simp only [Act.put, List.setIfInBounds_toArray, List.set_cons_zero, List.set_cons_succ]
          refine wpAnyH_take (i := 1) (oi := { dst := some 17, op := Go.Op.move (Go.Operand.tmp 5), type := 3, pos := "law.go:30", after := #[], guard := none }) (v := ?v2) rfl (by kernel_rfl) (by kernel_rfl) (by kernel_rfl) (fun _ _ _ h => h) (Or.inl ⟨by rfl, ?hy2⟩) (by assumption) ?rest2
          case hy2 => (intro w hSw; (try dsimp only at hSw); obtain ⟨y0, y1⟩ := (show w.cell? (a.add k) = some (.string X) ∧ w.cell? (b.add k) = some (.string X) from hSw); go_simp <;> with_reducible rfl)
          try simp only [Act.put, List.setIfInBounds_toArray, List.set_cons_zero, List.set_cons_succ]
          refine wpAnyH_take (i := 2) (oi := { dst := some 18, op := Go.Op.indexAddr 29 (Go.Operand.tmp 16) (Go.Operand.tmp 17), type := 0, pos := "law.go:30", after := #[{ on := 0, ground := Go.Ground.data }, { on := 1, ground := Go.Ground.data }], guard := none }) (v := ?v3) rfl (by kernel_rfl) (by kernel_rfl) (by kernel_rfl) (fun _ _ _ h => h) (Or.inl ⟨by rfl, ?hy3⟩) (by assumption) ?rest3
          case hy3 => (intro w hSw; (try dsimp only at hSw); obtain ⟨y0, y1⟩ := (show w.cell? (a.add k) = some (.string X) ∧ w.cell? (b.add k) = some (.string X) from hSw); go_simp <;> with_reducible rfl)
          try simp only [Act.put, List.setIfInBounds_toArray, List.set_cons_zero, List.set_cons_succ]
          refine wpAnyH_take (i := 3) (oi := { dst := some 19, op := Go.Op.load 9 (Go.Operand.tmp 18), type := 9, pos := "law.go:30", after := #[{ on := 2, ground := Go.Ground.data }], guard := none }) (v := ?v4) rfl (by kernel_rfl) (by kernel_rfl) (by kernel_rfl) (fun _ _ _ h => h) (Or.inl ⟨by rfl, ?hy4⟩) (by assumption) ?rest4
          case hy4 => (intro w hSw; (try dsimp only at hSw); obtain ⟨y0, y1⟩ := (show w.cell? (a.add k) = some (.string X) ∧ w.cell? (b.add k) = some (.string X) from hSw); go_simp <;> with_reducible rfl)
          try simp only [Act.put, List.setIfInBounds_toArray, List.set_cons_zero, List.set_cons_succ]
          refine wpAnyH_take (i := 4) (oi := { dst := some 20, op := Go.Op.move (Go.Operand.tmp 1), type := 29, pos := "law.go:30", after := #[], guard := none }) (v := ?v5) rfl (by kernel_rfl) (by kernel_rfl) (by kernel_rfl) (fun _ _ _ h => h) (Or.inl ⟨by rfl, ?hy5⟩) (by assumption) ?rest5
          case hy5 => (intro w hSw; (try dsimp only at hSw); obtain ⟨y0, y1⟩ := (show w.cell? (a.add k) = some (.string X) ∧ w.cell? (b.add k) = some (.string X) from hSw); go_simp <;> with_reducible rfl)
          try simp only [Act.put, List.setIfInBounds_toArray, List.set_cons_zero, List.set_cons_succ]
          refine wpAnyH_take (i := 5) (oi := { dst := some 21, op := Go.Op.move (Go.Operand.tmp 5), type := 3, pos := "law.go:30", after := #[], guard := none }) (v := ?v6) rfl (by kernel_rfl) (by kernel_rfl) (by kernel_rfl) (fun _ _ _ h => h) (Or.inl ⟨by rfl, ?hy6⟩) (by assumption) ?rest6
          case hy6 => (intro w hSw; (try dsimp only at hSw); obtain ⟨y0, y1⟩ := (show w.cell? (a.add k) = some (.string X) ∧ w.cell? (b.add k) = some (.string X) from hSw); go_simp <;> with_reducible rfl)
          try simp only [Act.put, List.setIfInBounds_toArray, List.set_cons_zero, List.set_cons_succ]
          refine wpAnyH_take (i := 6) (oi := { dst := some 22, op := Go.Op.indexAddr 29 (Go.Operand.tmp 20) (Go.Operand.tmp 21), type := 0, pos := "law.go:30", after := #[{ on := 4, ground := Go.Ground.data }, { on := 5, ground := Go.Ground.data }], guard := none }) (v := ?v7) rfl (by kernel_rfl) (by kernel_rfl) (by kernel_rfl) (fun _ _ _ h => h) (Or.inl ⟨by rfl, ?hy7⟩) (by assumption) ?rest7
          case hy7 => (intro w hSw; (try dsimp only at hSw); obtain ⟨y0, y1⟩ := (show w.cell? (a.add k) = some (.string X) ∧ w.cell? (b.add k) = some (.string X) from hSw); go_simp <;> with_reducible rfl)
          try simp only [Act.put, List.setIfInBounds_toArray, List.set_cons_zero, List.set_cons_succ]
          refine wpAnyH_take (i := 7) (oi := { dst := some 23, op := Go.Op.load 9 (Go.Operand.tmp 22), type := 9, pos := "law.go:30", after := #[{ on := 6, ground := Go.Ground.data }], guard := none }) (v := ?v8) rfl (by kernel_rfl) (by kernel_rfl) (by kernel_rfl) (fun _ _ _ h => h) (Or.inl ⟨by rfl, ?hy8⟩) (by assumption) ?rest8
          case hy8 => (intro w hSw; (try dsimp only at hSw); obtain ⟨y0, y1⟩ := (show w.cell? (a.add k) = some (.string X) ∧ w.cell? (b.add k) = some (.string X) from hSw); go_simp <;> with_reducible rfl)
          try simp only [Act.put, List.setIfInBounds_toArray, List.set_cons_zero, List.set_cons_succ]
          refine wpAnyH_take (i := 8) (oi := { dst := some 24, op := Go.Op.binOp Go.BinOp.neq 9 (Go.Operand.tmp 19) (Go.Operand.tmp 23) 9, type := 4, pos := "law.go:30", after := #[{ on := 3, ground := Go.Ground.data }, { on := 7, ground := Go.Ground.data }], guard := none }) (v := ?v9) rfl (by kernel_rfl) (by kernel_rfl) (by kernel_rfl) (fun _ _ _ h => h) (Or.inl ⟨by rfl, ?hy9⟩) (by assumption) ?rest9
          case hy9 => (intro w hSw; (try dsimp only at hSw); obtain ⟨y0, y1⟩ := (show w.cell? (a.add k) = some (.string X) ∧ w.cell? (b.add k) = some (.string X) from hSw); go_simp <;> with_reducible rfl)
          try simp only [Act.put, List.setIfInBounds_toArray, List.set_cons_zero, List.set_cons_succ]
          refine wpAnyH_done (by kernel_rfl) ?_ _
          refine NoPanic.normal ?_
          go_wp2
          go_roundw
          case rel => exact ⟨k + 1, rfl, hlt.out, htk2.out, hb.out⟩
          case measure => have := hlt.out; simp [intOf]; omega
        · have hne : r = false := by rw [hr.out]; exact decide_eq_false (fun h => heq (by simp only [h]))
          obtain ⟨X, hX⟩ : ∃ X : ByteArray, X = ⟨A[k].toArray⟩ := ⟨_, rfl⟩
          obtain ⟨Y, hY⟩ : ∃ Y : ByteArray, Y = ⟨B[k].toArray⟩ := ⟨_, rfl⟩
          have tn := ba_ne hX hY heq
          rw [← hX] at z1
          rw [← hY] at z2
          subst hne
          clear z0 z3 heq hX hY htk hk hlt hlt2 hr
          go_upto_region 6 with fail
          replace hb := Lib.hid (hb.drew)
          refine wp_region_noPanic ?_
          refine wp_region_held_drew (S := (fun w9 => w9.cell? (a.add k) = some (.string X) ∧ w9.cell? (b.add k) = some (.string Y))) (by kernel_rfl) ?_ (fun hHeld => ?_)
          · (try dsimp only); exact ⟨z1, z2⟩
          refine wpAnyH_take (i := 0) (oi := { dst := some 16, op := Go.Op.move (Go.Operand.tmp 0), type := 29, pos := "law.go:30", after := #[], guard := none }) (v := ?v10) rfl (by kernel_rfl) (by kernel_rfl) (by kernel_rfl) (fun _ _ _ h => h) (Or.inl ⟨by rfl, ?hy10⟩) (by assumption) ?rest10
          case hy10 => (intro w hSw; (try dsimp only at hSw); obtain ⟨y0, y1⟩ := (show w.cell? (a.add k) = some (.string X) ∧ w.cell? (b.add k) = some (.string Y) from hSw); go_simp <;> with_reducible rfl)
          try simp only [Act.put, List.setIfInBounds_toArray, List.set_cons_zero, List.set_cons_succ]
          refine wpAnyH_take (i := 1) (oi := { dst := some 17, op := Go.Op.move (Go.Operand.tmp 5), type := 3, pos := "law.go:30", after := #[], guard := none }) (v := ?v11) rfl (by kernel_rfl) (by kernel_rfl) (by kernel_rfl) (fun _ _ _ h => h) (Or.inl ⟨by rfl, ?hy11⟩) (by assumption) ?rest11
          case hy11 => (intro w hSw; (try dsimp only at hSw); obtain ⟨y0, y1⟩ := (show w.cell? (a.add k) = some (.string X) ∧ w.cell? (b.add k) = some (.string Y) from hSw); go_simp <;> with_reducible rfl)
          try simp only [Act.put, List.setIfInBounds_toArray, List.set_cons_zero, List.set_cons_succ]
          refine wpAnyH_take (i := 2) (oi := { dst := some 18, op := Go.Op.indexAddr 29 (Go.Operand.tmp 16) (Go.Operand.tmp 17), type := 0, pos := "law.go:30", after := #[{ on := 0, ground := Go.Ground.data }, { on := 1, ground := Go.Ground.data }], guard := none }) (v := ?v12) rfl (by kernel_rfl) (by kernel_rfl) (by kernel_rfl) (fun _ _ _ h => h) (Or.inl ⟨by rfl, ?hy12⟩) (by assumption) ?rest12
          case hy12 => (intro w hSw; (try dsimp only at hSw); obtain ⟨y0, y1⟩ := (show w.cell? (a.add k) = some (.string X) ∧ w.cell? (b.add k) = some (.string Y) from hSw); go_simp <;> with_reducible rfl)
          try simp only [Act.put, List.setIfInBounds_toArray, List.set_cons_zero, List.set_cons_succ]
          refine wpAnyH_take (i := 3) (oi := { dst := some 19, op := Go.Op.load 9 (Go.Operand.tmp 18), type := 9, pos := "law.go:30", after := #[{ on := 2, ground := Go.Ground.data }], guard := none }) (v := ?v13) rfl (by kernel_rfl) (by kernel_rfl) (by kernel_rfl) (fun _ _ _ h => h) (Or.inl ⟨by rfl, ?hy13⟩) (by assumption) ?rest13
          case hy13 => (intro w hSw; (try dsimp only at hSw); obtain ⟨y0, y1⟩ := (show w.cell? (a.add k) = some (.string X) ∧ w.cell? (b.add k) = some (.string Y) from hSw); go_simp <;> with_reducible rfl)
          try simp only [Act.put, List.setIfInBounds_toArray, List.set_cons_zero, List.set_cons_succ]
          refine wpAnyH_take (i := 4) (oi := { dst := some 20, op := Go.Op.move (Go.Operand.tmp 1), type := 29, pos := "law.go:30", after := #[], guard := none }) (v := ?v14) rfl (by kernel_rfl) (by kernel_rfl) (by kernel_rfl) (fun _ _ _ h => h) (Or.inl ⟨by rfl, ?hy14⟩) (by assumption) ?rest14
          case hy14 => (intro w hSw; (try dsimp only at hSw); obtain ⟨y0, y1⟩ := (show w.cell? (a.add k) = some (.string X) ∧ w.cell? (b.add k) = some (.string Y) from hSw); go_simp <;> with_reducible rfl)
          try simp only [Act.put, List.setIfInBounds_toArray, List.set_cons_zero, List.set_cons_succ]
          refine wpAnyH_take (i := 5) (oi := { dst := some 21, op := Go.Op.move (Go.Operand.tmp 5), type := 3, pos := "law.go:30", after := #[], guard := none }) (v := ?v15) rfl (by kernel_rfl) (by kernel_rfl) (by kernel_rfl) (fun _ _ _ h => h) (Or.inl ⟨by rfl, ?hy15⟩) (by assumption) ?rest15
          case hy15 => (intro w hSw; (try dsimp only at hSw); obtain ⟨y0, y1⟩ := (show w.cell? (a.add k) = some (.string X) ∧ w.cell? (b.add k) = some (.string Y) from hSw); go_simp <;> with_reducible rfl)
          try simp only [Act.put, List.setIfInBounds_toArray, List.set_cons_zero, List.set_cons_succ]
          refine wpAnyH_take (i := 6) (oi := { dst := some 22, op := Go.Op.indexAddr 29 (Go.Operand.tmp 20) (Go.Operand.tmp 21), type := 0, pos := "law.go:30", after := #[{ on := 4, ground := Go.Ground.data }, { on := 5, ground := Go.Ground.data }], guard := none }) (v := ?v16) rfl (by kernel_rfl) (by kernel_rfl) (by kernel_rfl) (fun _ _ _ h => h) (Or.inl ⟨by rfl, ?hy16⟩) (by assumption) ?rest16
          case hy16 => (intro w hSw; (try dsimp only at hSw); obtain ⟨y0, y1⟩ := (show w.cell? (a.add k) = some (.string X) ∧ w.cell? (b.add k) = some (.string Y) from hSw); go_simp <;> with_reducible rfl)
          try simp only [Act.put, List.setIfInBounds_toArray, List.set_cons_zero, List.set_cons_succ]
          refine wpAnyH_take (i := 7) (oi := { dst := some 23, op := Go.Op.load 9 (Go.Operand.tmp 22), type := 9, pos := "law.go:30", after := #[{ on := 6, ground := Go.Ground.data }], guard := none }) (v := ?v17) rfl (by kernel_rfl) (by kernel_rfl) (by kernel_rfl) (fun _ _ _ h => h) (Or.inl ⟨by rfl, ?hy17⟩) (by assumption) ?rest17
          case hy17 => (intro w hSw; (try dsimp only at hSw); obtain ⟨y0, y1⟩ := (show w.cell? (a.add k) = some (.string X) ∧ w.cell? (b.add k) = some (.string Y) from hSw); go_simp <;> with_reducible rfl)
          try simp only [Act.put, List.setIfInBounds_toArray, List.set_cons_zero, List.set_cons_succ]
          refine wpAnyH_take (i := 8) (oi := { dst := some 24, op := Go.Op.binOp Go.BinOp.neq 9 (Go.Operand.tmp 19) (Go.Operand.tmp 23) 9, type := 4, pos := "law.go:30", after := #[{ on := 3, ground := Go.Ground.data }, { on := 7, ground := Go.Ground.data }], guard := none }) (v := ?v18) rfl (by kernel_rfl) (by kernel_rfl) (by kernel_rfl) (fun _ _ _ h => h) (Or.inl ⟨by rfl, ?hy18⟩) (by assumption) ?rest18
          case hy18 => (intro w hSw; (try dsimp only at hSw); obtain ⟨y0, y1⟩ := (show w.cell? (a.add k) = some (.string X) ∧ w.cell? (b.add k) = some (.string Y) from hSw); go_simp <;> with_reducible rfl)
          try simp only [Act.put, List.setIfInBounds_toArray, List.set_cons_zero, List.set_cons_succ]
          refine wpAnyH_done (by kernel_rfl) ?_ _
          refine NoPanic.normal ?_
          go_wp2
          go_ret
          exact ⟨rfl, hb.out⟩
      · have hke : k = A.length := by omega
        subst hke
        have t2 : ((A.length : Int) < (A.length : Int)) = False := eq_false (by omega)
        have hyes : r = true := by
          rw [hr.out]
          refine decide_eq_true ?_
          rw [List.take_length, List.take_of_length_le (by have := hl.out; omega)] at htk
          exact htk
        subst hyes
        clear hlt hk htk hr
        go_wp2
        go_ret
        exact ⟨rfl, hb⟩
  · have t1 : ((A.length : Int) != (B.length : Int)) = true := by simp; omega
    have hne : r = false := by rw [hr]; exact decide_eq_false (fun h => hl (by rw [h]))
    subst hne
    clear hr hl
    go_enter Tryd.func9, Tryd.ntmps9
    go_wp2
    go_ret
    exact ⟨rfl, Below.refl _ _⟩
end Go.Proofs.YtjkpapkjlmglbaaDoor
