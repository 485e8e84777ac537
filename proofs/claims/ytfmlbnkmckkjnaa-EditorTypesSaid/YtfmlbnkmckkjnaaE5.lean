/- 'of'. -/
import Derived.Test.YtfmlbnkmckkjnaaE4
namespace Go.Proofs.Ytfmlbnkmckkjnaa
open Go.RowKit
set_option linter.unusedVariables false
set_option linter.unusedSimpArgs false
attribute [local go_sem] cell_set set_set m_undef

theorem ba_take (t : List UInt8) (k : Nat) : ({ data := t.toArray } : ByteArray).extract 0 k = { data := (t.take k).toArray } := by
  apply ByteArray.ext
  simp
theorem ba_drop (t : List UInt8) (k : Nat) : ({ data := t.toArray } : ByteArray).extract k t.length = { data := (t.drop k).toArray } := by
  apply ByteArray.ext
  simp
  rw [List.take_of_length_le (by simp)]
theorem Bs.neLast {w : World} {B : Nat} {v : Value} {l : List UInt8} (h : Bs w B v l) : v.ownBlock ≠ some w.heap.size := by
  rcases h.lt with h1 | ⟨k, h1, _, h2⟩
  · rw [h1]; simp
  · rw [h1]; intro e; cases e; exact Nat.lt_irrefl _ h2
theorem Bs.alloc {w : World} {B : Nat} {v : Value} {l : List UInt8} (h : Bs w B v l) (o : Obj) : Bs (w.alloc o) B v l := h.kept (World.grownBy_alloc w o none) (by cases v.ownBlock <;> simp)
theorem Bs.grown {w w' : World} {B : Nat} {v : Value} {l : List UInt8} (h : Bs w B v l) (hg : w.grownBy w' none) : Bs w' B v l := h.kept hg (by cases v.ownBlock <;> simp)
/-- What 'of' gives. -/
def OfP (w w' : World) (t : List UInt8) (k : Nat) (e : Ending) : Prop := ∃ Lb va vz, e = .returned (.pointer (some ⟨Lb, 0, none⟩)) ∧ LineV w' w.heap.size Lb va vz (t.take k) (t.drop k) ∧ Below w.heap.size w w'
set_option maxHeartbeats 1600000 in
theorem wOf (w : World) (t : List UInt8) (at_ : Int) (d : Bool) (ht : t.length ≤ 5000) (k : Nat) (hk : (k : Int) = min (max at_ 0) t.length) :
    Calls Try.prog 15 #[vw t at_ d] w fun e w' => OfP w w' t k e := by
  have hkt : k ≤ t.length := by omega
  have hmin : (if (t.length : Int) < (if at_ < 0 then 0 else at_) then (t.length : Int) else (if at_ < 0 then 0 else at_)) = (k : Int) := by split <;> split <;> omega
  have hx1 := ba_take t k
  have hx2 := ba_drop t k
  have hk1 : (k : Int) ≤ (t.length : Int) := by omega
  clear hk
  unfold vw
  go_enter Try.func15, Try.ntmps15
  go_upto_region 2 with fail
  refine wp_region_noPanic ?_
  refine wp_region_held_drew (S := (fun w' => w'.cell? ⟨w.heap.size, 0, none⟩ = some (.string ⟨t.toArray⟩))) (by kernel_rfl) ?_ (fun hHeld => ?_)
  · (try dsimp only); (first | go_keep | assumption | (exact hg1.cell (by assumption) (by simp)) | (exact hg2.cell (by assumption) (by simp)))
  refine wpAnyH_take (i := 0) (oi := { dst := some 11, op := Go.Op.fieldAddr 23 (Go.Operand.tmp 1) 0, type := 0, pos := "editor.go:16", after := #[], guard := none }) (v := ?v1) rfl (by kernel_rfl) (by kernel_rfl) (by kernel_rfl) (fun _ _ _ h => h) (Or.inl ⟨by rfl, ?hy1⟩) (by assumption) ?rest1
  case hy1 => (intro w hSw; (try dsimp only at hSw); go_simp <;> with_reducible rfl)
  try simp only [Act.put, List.setIfInBounds_toArray, List.set_cons_zero, List.set_cons_succ]
  refine wpAnyH_take (i := 1) (oi := { dst := some 12, op := Go.Op.load 9 (Go.Operand.tmp 11), type := 9, pos := "editor.go:16", after := #[{ on := 0, ground := Go.Ground.data }], guard := none }) (v := ?v2) rfl (by kernel_rfl) (by kernel_rfl) (by kernel_rfl) (fun _ _ _ h => h) (Or.inl ⟨by rfl, ?hy2⟩) (by assumption) ?rest2
  case hy2 => (intro w hSw; (try dsimp only at hSw); go_simp <;> with_reducible rfl)
  try simp only [Act.put, List.setIfInBounds_toArray, List.set_cons_zero, List.set_cons_succ]
  refine wpAnyH_take (i := 2) (oi := { dst := some 13, op := Go.Op.move (Go.Operand.tmp 3), type := 3, pos := "editor.go:16", after := #[], guard := none }) (v := ?v3) rfl (by kernel_rfl) (by kernel_rfl) (by kernel_rfl) (fun _ _ _ h => h) (Or.inl ⟨by rfl, ?hy3⟩) (by assumption) ?rest3
  case hy3 => (intro w hSw; (try dsimp only at hSw); go_simp <;> with_reducible rfl)
  try simp only [Act.put, List.setIfInBounds_toArray, List.set_cons_zero, List.set_cons_succ]
  refine wpAnyH_take (i := 3) (oi := { dst := some 14, op := Go.Op.slice 9 (Go.Operand.tmp 12) none (some (Go.Operand.tmp 13)) none, type := 9, pos := "editor.go:16", after := #[{ on := 1, ground := Go.Ground.data }, { on := 2, ground := Go.Ground.data }], guard := none }) (v := ?v4) rfl (by kernel_rfl) (by kernel_rfl) (by kernel_rfl) (fun _ _ _ h => h) (Or.inl ⟨by rfl, ?hy4⟩) (by assumption) ?rest4
  case hy4 => (intro w hSw; (try dsimp only at hSw); go_simp <;> with_reducible rfl)
  try simp only [Act.put, List.setIfInBounds_toArray, List.set_cons_zero, List.set_cons_succ]
  refine wpAnyH_take (i := 5) (oi := { dst := some 16, op := Go.Op.fieldAddr 23 (Go.Operand.tmp 1) 0, type := 0, pos := "editor.go:16", after := #[], guard := none }) (v := ?v5) rfl (by kernel_rfl) (by kernel_rfl) (by kernel_rfl) (fun _ _ _ h => h) (Or.inl ⟨by rfl, ?hy5⟩) (by assumption) ?rest5
  case hy5 => (intro w hSw; (try dsimp only at hSw); go_simp <;> with_reducible rfl)
  try simp only [Act.put, List.setIfInBounds_toArray, List.set_cons_zero, List.set_cons_succ]
  refine wpAnyH_take (i := 6) (oi := { dst := some 17, op := Go.Op.load 9 (Go.Operand.tmp 16), type := 9, pos := "editor.go:16", after := #[{ on := 5, ground := Go.Ground.data }], guard := none }) (v := ?v6) rfl (by kernel_rfl) (by kernel_rfl) (by kernel_rfl) (fun _ _ _ h => h) (Or.inl ⟨by rfl, ?hy6⟩) (by assumption) ?rest6
  case hy6 => (intro w hSw; (try dsimp only at hSw); go_simp <;> with_reducible rfl)
  try simp only [Act.put, List.setIfInBounds_toArray, List.set_cons_zero, List.set_cons_succ]
  refine wpAnyH_take (i := 7) (oi := { dst := some 18, op := Go.Op.move (Go.Operand.tmp 3), type := 3, pos := "editor.go:16", after := #[], guard := none }) (v := ?v7) rfl (by kernel_rfl) (by kernel_rfl) (by kernel_rfl) (fun _ _ _ h => h) (Or.inl ⟨by rfl, ?hy7⟩) (by assumption) ?rest7
  case hy7 => (intro w hSw; (try dsimp only at hSw); go_simp <;> with_reducible rfl)
  try simp only [Act.put, List.setIfInBounds_toArray, List.set_cons_zero, List.set_cons_succ]
  refine wpAnyH_take (i := 8) (oi := { dst := some 19, op := Go.Op.slice 9 (Go.Operand.tmp 17) (some (Go.Operand.tmp 18)) none none, type := 9, pos := "editor.go:16", after := #[{ on := 6, ground := Go.Ground.data }, { on := 7, ground := Go.Ground.data }], guard := none }) (v := ?v8) rfl (by kernel_rfl) (by kernel_rfl) (by kernel_rfl) (fun _ _ _ h => h) (Or.inl ⟨by rfl, ?hy8⟩) (by assumption) ?rest8
  case hy8 => (intro w hSw; (try dsimp only at hSw); go_simp <;> with_reducible rfl)
  try simp only [Act.put, List.setIfInBounds_toArray, List.set_cons_zero, List.set_cons_succ]
  refine wpAnyH_ready (rs := [4, 9]) (by kernel_rfl) (by simp) ?_
  refine AllReadyH.cons (o := { dst := some 15, op := Go.Op.convert 9 39 (Go.Operand.tmp 14), type := 39, pos := "editor.go:16", after := #[{ on := 3, ground := Go.Ground.data }], guard := none }) rfl (fun K hK => ?_) ?_
  ·
    obtain ⟨va, w1, hr1, hva, hg1, ho1⟩ := Bs.conv (P := Try.prog) (w.alloc (.cells #[.string ⟨t.toArray⟩, .int .i64 at_, .bool d] 23)).drew ⟨(t.take k).toArray⟩ (src := 9) (dst := 39) Try.underlying9 Try.underlying39 Try.underlying5 w.heap.size (by first | (simp; done) | (have := hg1.size; simp at this; omega)); obtain ⟨ava, nva, cva, rfl⟩ := hva.form
    go_simp
    refine hK.out _ _ ?_ (fun hHeld2 => ?_)
    · (try dsimp only); (first | go_keep | assumption | (exact hg1.cell (by assumption) (by simp)) | (exact hg2.cell (by assumption) (by simp)))
    clear hK K hHeld
    have hHeld := hHeld2
    clear hHeld2
    try simp only [Act.put, List.setIfInBounds_toArray, List.set_cons_zero, List.set_cons_succ]
    refine wpAnyH_ready (rs := [9]) (by kernel_rfl) (by simp) ?_
    refine AllReadyH.cons (o := { dst := some 20, op := Go.Op.convert 9 39 (Go.Operand.tmp 19), type := 39, pos := "editor.go:16", after := #[{ on := 8, ground := Go.Ground.data }], guard := none }) rfl (fun K hK => ?_) AllReadyH.nil
    obtain ⟨vz, w2, hr2, hvz, hg2, ho2⟩ := Bs.conv (P := Try.prog) w1 ⟨(t.drop k).toArray⟩ (src := 9) (dst := 39) Try.underlying9 Try.underlying39 Try.underlying5 w.heap.size (by first | (simp; done) | (have := hg1.size; simp at this; omega)); obtain ⟨avz, nvz, cvz, rfl⟩ := hvz.form
    go_simp
    refine hK.out _ _ ?_ (fun hHeld2 => ?_)
    · (try dsimp only); (first | go_keep | assumption | (exact hg1.cell (by assumption) (by simp)) | (exact hg2.cell (by assumption) (by simp)))
    clear hK K hHeld
    have hHeld := hHeld2
    clear hHeld2
    try simp only [Act.put, List.setIfInBounds_toArray, List.set_cons_zero, List.set_cons_succ]
    refine wpAnyH_take (i := 10) (oi := { dst := some 21, op := Go.Op.build 41 #[(0, Go.Operand.tmp 15), (1, Go.Operand.tmp 20)], type := 41, pos := "editor.go:16", after := #[{ on := 4, ground := Go.Ground.data }, { on := 9, ground := Go.Ground.data }], guard := none }) (v := ?v9) rfl (by kernel_rfl) (by kernel_rfl) (by kernel_rfl) (fun _ _ _ h => h) (Or.inl ⟨by rfl, ?hy9⟩) (by assumption) ?rest9
    case hy9 => (intro w hSw; (try dsimp only at hSw); go_simp <;> with_reducible rfl)
    try simp only [Act.put, List.setIfInBounds_toArray, List.set_cons_zero, List.set_cons_succ]
    refine wpAnyH_ready (rs := [11]) (by kernel_rfl) (by simp) ?_
    refine AllReadyH.cons (o := { dst := some 22, op := Go.Op.box 41 (Go.Operand.tmp 21), type := 36, pos := "editor.go:16", after := #[{ on := 10, ground := Go.Ground.data }], guard := none }) rfl (fun K hK => ?_) AllReadyH.nil
    go_simp
    refine hK.out _ _ ?_ (fun hHeld2 => ?_)
    · (try dsimp only); (first | go_keep | assumption | (exact hg1.cell (by assumption) (by simp)) | (exact hg2.cell (by assumption) (by simp)))
    clear hK K hHeld
    have hHeld := hHeld2
    clear hHeld2
    try simp only [Act.put, List.setIfInBounds_toArray, List.set_cons_zero, List.set_cons_succ]
    refine wpAnyH_ready (rs := [12]) (by kernel_rfl) (by simp) ?_
    refine AllReadyH.cons (o := { dst := some 2, op := Go.Op.assign (Go.Operand.tmp 22), type := 36, pos := "editor.go:16", after := #[{ on := 11, ground := Go.Ground.data }, { on := 0, ground := Go.Ground.phase }, { on := 1, ground := Go.Ground.phase }, { on := 2, ground := Go.Ground.phase }, { on := 3, ground := Go.Ground.phase }, { on := 4, ground := Go.Ground.phase }, { on := 5, ground := Go.Ground.phase }, { on := 6, ground := Go.Ground.phase }, { on := 7, ground := Go.Ground.phase }, { on := 8, ground := Go.Ground.phase }, { on := 9, ground := Go.Ground.phase }, { on := 10, ground := Go.Ground.phase }, { on := 11, ground := Go.Ground.phase }], guard := none }) rfl (fun K hK => ?_) AllReadyH.nil
    go_simp
    refine hK.out _ _ ?_ (fun hHeld2 => ?_)
    · (try dsimp only); (first | go_keep | assumption | (exact hg1.cell (by assumption) (by simp)) | (exact hg2.cell (by assumption) (by simp)))
    clear hK K hHeld
    have hHeld := hHeld2
    clear hHeld2
    try simp only [Act.put, List.setIfInBounds_toArray, List.set_cons_zero, List.set_cons_succ]
    refine wpAnyH_done (by kernel_rfl) ?_ _
    refine NoPanic.normal ?_
    go_wp2
    all_goals
      refine bodyPost_ret (v := .pointer (some ⟨w2.heap.size, 0, none⟩)) (by simp [results, Try.results15, go_sem]) rfl ?_
      unfold OfP
      refine ⟨w2.heap.size, _, _, rfl, ⟨Blk.new _ _ _, by simpa using (hva.grown hg2).alloc _, by simpa using hvz.alloc _, (by rw [ho2]; exact .inr hva.neLast), (hva.grown hg2).neLast, hvz.neLast, ?_⟩, ?_⟩
      · have hz1 := hg1.size
        have hz2 := hg2.size
        simp at hz1
        omega
      · exact ((((Below.refl _ w).alloc (Nat.le_refl _) _).drew.grown hg1 (by simp) (fun k e => by cases e)).grown hg2 (by have := hg1.size; simp at this; omega) (fun k e => by cases e)).alloc (by have := hg1.size; have := hg2.size; simp at *; omega) _
  refine AllReadyH.cons (o := { dst := some 20, op := Go.Op.convert 9 39 (Go.Operand.tmp 19), type := 39, pos := "editor.go:16", after := #[{ on := 8, ground := Go.Ground.data }], guard := none }) rfl (fun K hK => ?_) ?_
  ·
    obtain ⟨vz, w1, hr1, hvz, hg1, ho1⟩ := Bs.conv (P := Try.prog) (w.alloc (.cells #[.string ⟨t.toArray⟩, .int .i64 at_, .bool d] 23)).drew ⟨(t.drop k).toArray⟩ (src := 9) (dst := 39) Try.underlying9 Try.underlying39 Try.underlying5 w.heap.size (by first | (simp; done) | (have := hg1.size; simp at this; omega)); obtain ⟨avz, nvz, cvz, rfl⟩ := hvz.form
    go_simp
    refine hK.out _ _ ?_ (fun hHeld2 => ?_)
    · (try dsimp only); (first | go_keep | assumption | (exact hg1.cell (by assumption) (by simp)) | (exact hg2.cell (by assumption) (by simp)))
    clear hK K hHeld
    have hHeld := hHeld2
    clear hHeld2
    try simp only [Act.put, List.setIfInBounds_toArray, List.set_cons_zero, List.set_cons_succ]
    refine wpAnyH_ready (rs := [4]) (by kernel_rfl) (by simp) ?_
    refine AllReadyH.cons (o := { dst := some 15, op := Go.Op.convert 9 39 (Go.Operand.tmp 14), type := 39, pos := "editor.go:16", after := #[{ on := 3, ground := Go.Ground.data }], guard := none }) rfl (fun K hK => ?_) AllReadyH.nil
    obtain ⟨va, w2, hr2, hva, hg2, ho2⟩ := Bs.conv (P := Try.prog) w1 ⟨(t.take k).toArray⟩ (src := 9) (dst := 39) Try.underlying9 Try.underlying39 Try.underlying5 w.heap.size (by first | (simp; done) | (have := hg1.size; simp at this; omega)); obtain ⟨ava, nva, cva, rfl⟩ := hva.form
    go_simp
    refine hK.out _ _ ?_ (fun hHeld2 => ?_)
    · (try dsimp only); (first | go_keep | assumption | (exact hg1.cell (by assumption) (by simp)) | (exact hg2.cell (by assumption) (by simp)))
    clear hK K hHeld
    have hHeld := hHeld2
    clear hHeld2
    try simp only [Act.put, List.setIfInBounds_toArray, List.set_cons_zero, List.set_cons_succ]
    refine wpAnyH_take (i := 10) (oi := { dst := some 21, op := Go.Op.build 41 #[(0, Go.Operand.tmp 15), (1, Go.Operand.tmp 20)], type := 41, pos := "editor.go:16", after := #[{ on := 4, ground := Go.Ground.data }, { on := 9, ground := Go.Ground.data }], guard := none }) (v := ?v10) rfl (by kernel_rfl) (by kernel_rfl) (by kernel_rfl) (fun _ _ _ h => h) (Or.inl ⟨by rfl, ?hy10⟩) (by assumption) ?rest10
    case hy10 => (intro w hSw; (try dsimp only at hSw); go_simp <;> with_reducible rfl)
    try simp only [Act.put, List.setIfInBounds_toArray, List.set_cons_zero, List.set_cons_succ]
    refine wpAnyH_ready (rs := [11]) (by kernel_rfl) (by simp) ?_
    refine AllReadyH.cons (o := { dst := some 22, op := Go.Op.box 41 (Go.Operand.tmp 21), type := 36, pos := "editor.go:16", after := #[{ on := 10, ground := Go.Ground.data }], guard := none }) rfl (fun K hK => ?_) AllReadyH.nil
    go_simp
    refine hK.out _ _ ?_ (fun hHeld2 => ?_)
    · (try dsimp only); (first | go_keep | assumption | (exact hg1.cell (by assumption) (by simp)) | (exact hg2.cell (by assumption) (by simp)))
    clear hK K hHeld
    have hHeld := hHeld2
    clear hHeld2
    try simp only [Act.put, List.setIfInBounds_toArray, List.set_cons_zero, List.set_cons_succ]
    refine wpAnyH_ready (rs := [12]) (by kernel_rfl) (by simp) ?_
    refine AllReadyH.cons (o := { dst := some 2, op := Go.Op.assign (Go.Operand.tmp 22), type := 36, pos := "editor.go:16", after := #[{ on := 11, ground := Go.Ground.data }, { on := 0, ground := Go.Ground.phase }, { on := 1, ground := Go.Ground.phase }, { on := 2, ground := Go.Ground.phase }, { on := 3, ground := Go.Ground.phase }, { on := 4, ground := Go.Ground.phase }, { on := 5, ground := Go.Ground.phase }, { on := 6, ground := Go.Ground.phase }, { on := 7, ground := Go.Ground.phase }, { on := 8, ground := Go.Ground.phase }, { on := 9, ground := Go.Ground.phase }, { on := 10, ground := Go.Ground.phase }, { on := 11, ground := Go.Ground.phase }], guard := none }) rfl (fun K hK => ?_) AllReadyH.nil
    go_simp
    refine hK.out _ _ ?_ (fun hHeld2 => ?_)
    · (try dsimp only); (first | go_keep | assumption | (exact hg1.cell (by assumption) (by simp)) | (exact hg2.cell (by assumption) (by simp)))
    clear hK K hHeld
    have hHeld := hHeld2
    clear hHeld2
    try simp only [Act.put, List.setIfInBounds_toArray, List.set_cons_zero, List.set_cons_succ]
    refine wpAnyH_done (by kernel_rfl) ?_ _
    refine NoPanic.normal ?_
    go_wp2
    all_goals
      refine bodyPost_ret (v := .pointer (some ⟨w2.heap.size, 0, none⟩)) (by simp [results, Try.results15, go_sem]) rfl ?_
      unfold OfP
      refine ⟨w2.heap.size, _, _, rfl, ⟨Blk.new _ _ _, by simpa using hva.alloc _, by simpa using (hvz.grown hg2).alloc _, (by rw [ho2]; exact .inr (Ne.symm hvz.neLast)), hva.neLast, (hvz.grown hg2).neLast, ?_⟩, ?_⟩
      · have hz1 := hg1.size
        have hz2 := hg2.size
        simp at hz1
        omega
      · exact ((((Below.refl _ w).alloc (Nat.le_refl _) _).drew.grown hg1 (by simp) (fun k e => by cases e)).grown hg2 (by have := hg1.size; simp at this; omega) (fun k e => by cases e)).alloc (by have := hg1.size; have := hg2.size; simp at *; omega) _
  exact AllReadyH.nil
end Go.Proofs.Ytfmlbnkmckkjnaa
