/- 'on'. -/
import Derived.Test.YtfmlbnkmckkjnaaE2
namespace Go.Proofs.Ytfmlbnkmckkjnaa
open Go.RowKit
set_option linter.unusedVariables false
set_option linter.unusedSimpArgs false
attribute [local go_sem] cell_set set_set m_undef

theorem Bs.from {w : World} {B b o n cap : Nat} {l : List UInt8} (h : Bs w B (.slice (some ⟨b, o, none⟩) n cap) l) (k : Nat) (hk : k ≤ l.length) : Bs w B (.slice (if cap = k then some ⟨b, o, none⟩ else some ⟨b, o + k, none⟩) (n - k) (cap - k)) (l.drop k) := by
  by_cases e : cap = k
  · rw [if_pos e]
    have h0 := h.drop0 (by omega)
    have hn : n = l.length ∧ l.length ≤ cap := by
      obtain ⟨a, c, e1, e2⟩ := h.len
      cases e1
      exact ⟨rfl, e2⟩
    rw [List.drop_eq_nil_of_le (by omega), show n - k = 0 by omega, show cap - k = 0 by omega]
    exact h0
  · rw [if_neg e]
    exact h.drop k hk
theorem own_from (b o n cap k c : Nat) : (Value.slice (if cap = k then some ⟨b, o, none⟩ else some ⟨b, o + k, none⟩) n c).ownBlock = some b := by
  split <;> rfl
theorem cell01 {w : World} {b : Nat} {u v : Value} (h : w.cell? ⟨b, 1, none⟩ = some u) : (w.setCell ⟨b, 0, none⟩ v).cell? ⟨b, 1, none⟩ = some u :=
  (World.cell?_setCell_other w (a := ⟨b, 0, none⟩) (b := ⟨b, 1, none⟩) _ (by intro h; cases h)).trans h
theorem own_new {v va vz : Value} {N : Nat} (h1 : va.ownBlock = none ∨ va.ownBlock ≠ vz.ownBlock) (ho : v.ownBlock = va.ownBlock ∨ v.ownBlock = some N) (hlt : ∀ k, vz.ownBlock = some k → k < N) : v.ownBlock = none ∨ v.ownBlock ≠ vz.ownBlock := by
  rcases ho with h | h
  · rw [h]; exact h1
  · right
    intro e
    rw [h] at e
    exact Nat.lt_irrefl _ (hlt N e.symm)

set_option maxHeartbeats 1600000 in
theorem wOn (w : World) (base Lb : Nat) (A Z : List UInt8) (va vz : Value) (n : Int) (h : LineV w base Lb va vz A Z) (hn : 0 ≤ n ∧ n ≤ 100000) (hA : A.length + Z.length ≤ 5000) :
    Calls Try.prog 25 #[.pointer (some ⟨Lb, 0, none⟩), .int .i64 n] w fun e w' => e = .returned (.tuple #[]) ∧ ∃ va' vz', LineV w' base Lb va' vz' (A ++ Z.take (min n.toNat Z.length)) (Z.drop (min n.toNat Z.length)) ∧ Below base w w' := by
  obtain ⟨hB, ha, hz, h1, h2, h3, h4⟩ := h
  obtain ⟨c0, c1, f0, f1, hlt⟩ := hB.two
  have hN : base ≤ w.drew.heap.size := by show base ≤ w.heap.size; omega
  have haD : Bs w.drew base va A := ha
  have hzD : Bs w.drew base vz Z := hz
  have hBD : Blk w.drew Lb #[va, vz] 41 := hB
  obtain ⟨m, hm⟩ : ∃ m, m = min n.toNat Z.length := ⟨_, rfl⟩
  rw [← hm]
  have hmZ : m ≤ Z.length := by omega
  have hsep : vz.ownBlock = none ∨ vz.ownBlock ≠ va.ownBlock := by
    rcases h1 with h1 | h1
    · rw [h1]; cases vz.ownBlock <;> simp
    · exact .inr (Ne.symm h1)
  have hzlt : ∀ k, vz.ownBlock = some k → k < w.heap.size := fun k e => by
    rcases hz.lt with h | ⟨k2, h, _, h'⟩
    · rw [h] at e; cases e
    · rw [h] at e; cases e; exact h'
  obtain ⟨aa, na, ca, rfl⟩ := ha.form
  rcases hz with ⟨rfl, rfl⟩ | ⟨b, o, cap, rfl, h5⟩
  · have hm0 : m = 0 := by simpa using hmZ
    rw [hm0]
    have hmin : (if (0 : Int) < n then (0 : Int) else n) = 0 := by split <;> omega
    clear hm hn
    go_enter Try.func25, Try.ntmps25
    go_upto_region 1 with fail
    refine wp_region_noPanic ?_
    refine wp_region_held_drew (S := (fun w' => w'.cell? ⟨Lb, 1, none⟩ = some (.slice none 0 0))) (by kernel_rfl) ?_ (fun hHeld => ?_)
    · (try dsimp only); (first | go_keep | assumption | (exact cell01 (by assumption)))
    refine wpAnyH_take (i := 0) (oi := { dst := some 11, op := Go.Op.move (Go.Operand.tmp 0), type := 36, pos := "editor.go:37", after := #[], guard := none }) (v := ?v1) rfl (by kernel_rfl) (by kernel_rfl) (by kernel_rfl) (fun _ _ _ h => h) (Or.inl ⟨by rfl, ?hy1⟩) (by assumption) ?rest1
    case hy1 => (intro w hSw; (try dsimp only at hSw); go_simp <;> with_reducible rfl)
    try simp only [Act.put, List.setIfInBounds_toArray, List.set_cons_zero, List.set_cons_succ]
    refine wpAnyH_take (i := 1) (oi := { dst := some 12, op := Go.Op.move (Go.Operand.tmp 0), type := 36, pos := "editor.go:37", after := #[], guard := none }) (v := ?v2) rfl (by kernel_rfl) (by kernel_rfl) (by kernel_rfl) (fun _ _ _ h => h) (Or.inl ⟨by rfl, ?hy2⟩) (by assumption) ?rest2
    case hy2 => (intro w hSw; (try dsimp only at hSw); go_simp <;> with_reducible rfl)
    try simp only [Act.put, List.setIfInBounds_toArray, List.set_cons_zero, List.set_cons_succ]
    refine wpAnyH_take (i := 2) (oi := { dst := some 13, op := Go.Op.nilCheck (Go.Operand.tmp 12), type := 0, pos := "editor.go:37", after := #[{ on := 1, ground := Go.Ground.data }], guard := none }) (v := ?v3) rfl (by kernel_rfl) (by kernel_rfl) (by kernel_rfl) (fun _ _ _ h => h) (Or.inl ⟨by rfl, ?hy3⟩) (by assumption) ?rest3
    case hy3 => (intro w hSw; (try dsimp only at hSw); go_simp <;> with_reducible rfl)
    try simp only [Act.put, List.setIfInBounds_toArray, List.set_cons_zero, List.set_cons_succ]
    refine wpAnyH_take (i := 3) (oi := { dst := some 14, op := Go.Op.fieldAddr 41 (Go.Operand.tmp 13) 0, type := 0, pos := "editor.go:37", after := #[{ on := 2, ground := Go.Ground.data }], guard := none }) (v := ?v4) rfl (by kernel_rfl) (by kernel_rfl) (by kernel_rfl) (fun _ _ _ h => h) (Or.inl ⟨by rfl, ?hy4⟩) (by assumption) ?rest4
    case hy4 => (intro w hSw; (try dsimp only at hSw); go_simp <;> with_reducible rfl)
    try simp only [Act.put, List.setIfInBounds_toArray, List.set_cons_zero, List.set_cons_succ]
    refine wpAnyH_take (i := 5) (oi := { dst := some 16, op := Go.Op.move (Go.Operand.tmp 0), type := 36, pos := "editor.go:37", after := #[], guard := none }) (v := ?v5) rfl (by kernel_rfl) (by kernel_rfl) (by kernel_rfl) (fun _ _ _ h => h) (Or.inl ⟨by rfl, ?hy5⟩) (by assumption) ?rest5
    case hy5 => (intro w hSw; (try dsimp only at hSw); go_simp <;> with_reducible rfl)
    try simp only [Act.put, List.setIfInBounds_toArray, List.set_cons_zero, List.set_cons_succ]
    refine wpAnyH_take (i := 6) (oi := { dst := some 17, op := Go.Op.nilCheck (Go.Operand.tmp 16), type := 0, pos := "editor.go:37", after := #[{ on := 5, ground := Go.Ground.data }], guard := none }) (v := ?v6) rfl (by kernel_rfl) (by kernel_rfl) (by kernel_rfl) (fun _ _ _ h => h) (Or.inl ⟨by rfl, ?hy6⟩) (by assumption) ?rest6
    case hy6 => (intro w hSw; (try dsimp only at hSw); go_simp <;> with_reducible rfl)
    try simp only [Act.put, List.setIfInBounds_toArray, List.set_cons_zero, List.set_cons_succ]
    refine wpAnyH_take (i := 7) (oi := { dst := some 18, op := Go.Op.fieldAddr 41 (Go.Operand.tmp 17) 1, type := 0, pos := "editor.go:37", after := #[{ on := 6, ground := Go.Ground.data }], guard := none }) (v := ?v7) rfl (by kernel_rfl) (by kernel_rfl) (by kernel_rfl) (fun _ _ _ h => h) (Or.inl ⟨by rfl, ?hy7⟩) (by assumption) ?rest7
    case hy7 => (intro w hSw; (try dsimp only at hSw); go_simp <;> with_reducible rfl)
    try simp only [Act.put, List.setIfInBounds_toArray, List.set_cons_zero, List.set_cons_succ]
    refine wpAnyH_take (i := 8) (oi := { dst := some 19, op := Go.Op.load 39 (Go.Operand.tmp 18), type := 39, pos := "editor.go:37", after := #[{ on := 7, ground := Go.Ground.data }], guard := none }) (v := ?v8) rfl (by kernel_rfl) (by kernel_rfl) (by kernel_rfl) (fun _ _ _ h => h) (Or.inl ⟨by rfl, ?hy8⟩) (by assumption) ?rest8
    case hy8 => (intro w hSw; (try dsimp only at hSw); go_simp <;> with_reducible rfl)
    try simp only [Act.put, List.setIfInBounds_toArray, List.set_cons_zero, List.set_cons_succ]
    refine wpAnyH_take (i := 9) (oi := { dst := some 20, op := Go.Op.move (Go.Operand.tmp 1), type := 3, pos := "editor.go:37", after := #[], guard := none }) (v := ?v9) rfl (by kernel_rfl) (by kernel_rfl) (by kernel_rfl) (fun _ _ _ h => h) (Or.inl ⟨by rfl, ?hy9⟩) (by assumption) ?rest9
    case hy9 => (intro w hSw; (try dsimp only at hSw); go_simp <;> with_reducible rfl)
    try simp only [Act.put, List.setIfInBounds_toArray, List.set_cons_zero, List.set_cons_succ]
    refine wpAnyH_take (i := 10) (oi := { dst := some 21, op := Go.Op.slice 39 (Go.Operand.tmp 19) none (some (Go.Operand.tmp 20)) none, type := 39, pos := "editor.go:37", after := #[{ on := 8, ground := Go.Ground.data }, { on := 9, ground := Go.Ground.data }], guard := none }) (v := ?v10) rfl (by kernel_rfl) (by kernel_rfl) (by kernel_rfl) (fun _ _ _ h => h) (Or.inl ⟨by rfl, ?hy10⟩) (by assumption) ?rest10
    case hy10 => (intro w hSw; (try dsimp only at hSw); go_simp <;> with_reducible rfl)
    try simp only [Act.put, List.setIfInBounds_toArray, List.set_cons_zero, List.set_cons_succ]
    refine wpAnyH_ready (rs := [4]) (by kernel_rfl) (by simp) ?_
    refine AllReadyH.cons (o := { dst := some 15, op := Go.Op.load 39 (Go.Operand.tmp 14), type := 39, pos := "editor.go:37", after := #[{ on := 3, ground := Go.Ground.data }], guard := none }) rfl (fun K hK => ?_) AllReadyH.nil
    go_simp
    refine hK.out _ _ ?_ (fun hHeld2 => ?_)
    · (try dsimp only); (first | go_keep | assumption | (exact cell01 (by assumption)))
    clear hK K hHeld
    have hHeld := hHeld2
    clear hHeld2
    try simp only [Act.put, List.setIfInBounds_toArray, List.set_cons_zero, List.set_cons_succ]
    refine wpAnyH_ready (rs := [11]) (by kernel_rfl) (by simp) ?_
    refine AllReadyH.cons (o := { dst := some 22, op := Go.Op.call { callee := Go.Callee.builtin Go.Builtin.append, args := #[Go.Operand.tmp 15, Go.Operand.tmp 21], argTypes := #[39, 39] }, type := 39, pos := "editor.go:37", after := #[{ on := 4, ground := Go.Ground.data }, { on := 10, ground := Go.Ground.data }], guard := none }) rfl (fun K hK => ?_) AllReadyH.nil
    obtain ⟨v2, w2, hr, hv2, hg2, ho2⟩ := Bs.append (ty := 39) haD hzD Try.underlying39 info5 (by simp only [List.length_nil] at hA ⊢; omega) hN; obtain ⟨a2, n2, cap2, rfl⟩ := hv2.form; refine step_append_bs rfl _ _ 39 rfl hr rfl rfl ?_; have hB2 := hBD.kept hg2 (fun e => h2 e.symm); obtain ⟨q0, q1, q2, q3, q4⟩ := hB2.two
    refine hK.out _ _ ?_ (fun hHeld2 => ?_)
    · (try dsimp only); (first | go_keep | assumption | (exact cell01 (by assumption)))
    clear hK K hHeld
    have hHeld := hHeld2
    clear hHeld2
    try simp only [Act.put, List.setIfInBounds_toArray, List.set_cons_zero, List.set_cons_succ]
    refine wpAnyH_take (i := 12) (oi := { dst := some 23, op := Go.Op.nilCheck (Go.Operand.tmp 11), type := 0, pos := "editor.go:37", after := #[{ on := 0, ground := Go.Ground.data }, { on := 0, ground := Go.Ground.phase }, { on := 1, ground := Go.Ground.phase }, { on := 2, ground := Go.Ground.phase }, { on := 3, ground := Go.Ground.phase }, { on := 4, ground := Go.Ground.phase }, { on := 5, ground := Go.Ground.phase }, { on := 6, ground := Go.Ground.phase }, { on := 7, ground := Go.Ground.phase }, { on := 8, ground := Go.Ground.phase }, { on := 9, ground := Go.Ground.phase }, { on := 10, ground := Go.Ground.phase }, { on := 11, ground := Go.Ground.phase }], guard := none }) (v := ?v11) rfl (by kernel_rfl) (by kernel_rfl) (by kernel_rfl) (fun _ _ _ h => h) (Or.inl ⟨by rfl, ?hy11⟩) (by assumption) ?rest11
    case hy11 => (intro w hSw; (try dsimp only at hSw); go_simp <;> with_reducible rfl)
    try simp only [Act.put, List.setIfInBounds_toArray, List.set_cons_zero, List.set_cons_succ]
    refine wpAnyH_take (i := 13) (oi := { dst := some 24, op := Go.Op.fieldAddr 41 (Go.Operand.tmp 23) 0, type := 0, pos := "editor.go:37", after := #[{ on := 12, ground := Go.Ground.data }, { on := 0, ground := Go.Ground.phase }, { on := 1, ground := Go.Ground.phase }, { on := 2, ground := Go.Ground.phase }, { on := 3, ground := Go.Ground.phase }, { on := 4, ground := Go.Ground.phase }, { on := 5, ground := Go.Ground.phase }, { on := 6, ground := Go.Ground.phase }, { on := 7, ground := Go.Ground.phase }, { on := 8, ground := Go.Ground.phase }, { on := 9, ground := Go.Ground.phase }, { on := 10, ground := Go.Ground.phase }, { on := 11, ground := Go.Ground.phase }], guard := none }) (v := ?v12) rfl (by kernel_rfl) (by kernel_rfl) (by kernel_rfl) (fun _ _ _ h => h) (Or.inl ⟨by rfl, ?hy12⟩) (by assumption) ?rest12
    case hy12 => (intro w hSw; (try dsimp only at hSw); go_simp <;> with_reducible rfl)
    try simp only [Act.put, List.setIfInBounds_toArray, List.set_cons_zero, List.set_cons_succ]
    refine wpAnyH_ready (rs := [14]) (by kernel_rfl) (by simp) ?_
    refine AllReadyH.cons (o := { dst := none, op := Go.Op.store 39 (Go.Operand.tmp 24) (Go.Operand.tmp 22), type := 0, pos := "editor.go:37", after := #[{ on := 13, ground := Go.Ground.data }, { on := 11, ground := Go.Ground.data }, { on := 11, ground := Go.Ground.chain }, { on := 0, ground := Go.Ground.phase }, { on := 1, ground := Go.Ground.phase }, { on := 2, ground := Go.Ground.phase }, { on := 3, ground := Go.Ground.phase }, { on := 4, ground := Go.Ground.phase }, { on := 5, ground := Go.Ground.phase }, { on := 6, ground := Go.Ground.phase }, { on := 7, ground := Go.Ground.phase }, { on := 8, ground := Go.Ground.phase }, { on := 9, ground := Go.Ground.phase }, { on := 10, ground := Go.Ground.phase }, { on := 11, ground := Go.Ground.phase }], guard := none }) rfl (fun K hK => ?_) AllReadyH.nil
    go_simp
    refine hK.out _ _ ?_ (fun hHeld2 => ?_)
    · (try dsimp only); (first | go_keep | assumption | (exact cell01 (by assumption)))
    clear hK K hHeld
    have hHeld := hHeld2
    clear hHeld2
    try simp only [Act.put, List.setIfInBounds_toArray, List.set_cons_zero, List.set_cons_succ]
    refine wpAnyH_done (by kernel_rfl) ?_ _
    refine NoPanic.normal ?_
    have hz2 := hzD.kept hg2 hsep
    have hs2 := own_new h1 ho2 hzlt
    have h2x : (Value.slice a2 n2 cap2).ownBlock ≠ some Lb := by
      rcases ho2 with h | h
      · rw [h]; exact h2
      · rw [h]; intro e; cases e; exact Nat.lt_irrefl _ hlt
    have hL3 := Line.set0 hB2 hv2 hz2 hs2 h2x h3 h4
    have hf := hL3.2.2.1
    go_wp2
    (try go_end0)
    have hfin := Line.set1 hL3.1 hL3.2.1 hf hs2 hL3.2.2.2.2.1 h3 h4
    first | exact ⟨rfl, ⟨_, _, hfin⟩, ((((Below.refl base w).drew).grown hg2 hN (fun k e => ha.ge (Nat.le_refl _) e)).setCell (p := ⟨Lb, 0, none⟩) h4 _).setCell (p := ⟨Lb, 1, none⟩) h4 _⟩ | exact ⟨rfl, _, _, hfin, ((((Below.refl base w).drew).grown hg2 hN (fun k e => ha.ge (Nat.le_refl _) e)).setCell (p := ⟨Lb, 0, none⟩) h4 _).setCell (p := ⟨Lb, 1, none⟩) h4 _⟩
  have hmin : (if (Z.length : Int) < n then (Z.length : Int) else n) = (m : Int) := by split <;> omega
  have hcap := h5.2.2.1
  clear h5
  have hslD := hzD.take m hmZ
  have hm1 : (m : Int) ≤ (Z.length : Int) := by omega
  have hm2 : (m : Int) ≤ (cap : Int) := by omega
  clear hm hn
  by_cases hcm : cap = m
  · subst hcm
    go_enter Try.func25, Try.ntmps25
    go_upto_region 1 with fail
    refine wp_region_noPanic ?_
    refine wp_region_held_drew (S := (fun w' => w'.cell? ⟨Lb, 1, none⟩ = some (.slice (some ⟨b, o, none⟩) Z.length cap))) (by kernel_rfl) ?_ (fun hHeld => ?_)
    · (try dsimp only); (first | go_keep | assumption | (exact cell01 (by assumption)))
    refine wpAnyH_take (i := 0) (oi := { dst := some 11, op := Go.Op.move (Go.Operand.tmp 0), type := 36, pos := "editor.go:37", after := #[], guard := none }) (v := ?v13) rfl (by kernel_rfl) (by kernel_rfl) (by kernel_rfl) (fun _ _ _ h => h) (Or.inl ⟨by rfl, ?hy13⟩) (by assumption) ?rest13
    case hy13 => (intro w hSw; (try dsimp only at hSw); go_simp <;> with_reducible rfl)
    try simp only [Act.put, List.setIfInBounds_toArray, List.set_cons_zero, List.set_cons_succ]
    refine wpAnyH_take (i := 1) (oi := { dst := some 12, op := Go.Op.move (Go.Operand.tmp 0), type := 36, pos := "editor.go:37", after := #[], guard := none }) (v := ?v14) rfl (by kernel_rfl) (by kernel_rfl) (by kernel_rfl) (fun _ _ _ h => h) (Or.inl ⟨by rfl, ?hy14⟩) (by assumption) ?rest14
    case hy14 => (intro w hSw; (try dsimp only at hSw); go_simp <;> with_reducible rfl)
    try simp only [Act.put, List.setIfInBounds_toArray, List.set_cons_zero, List.set_cons_succ]
    refine wpAnyH_take (i := 2) (oi := { dst := some 13, op := Go.Op.nilCheck (Go.Operand.tmp 12), type := 0, pos := "editor.go:37", after := #[{ on := 1, ground := Go.Ground.data }], guard := none }) (v := ?v15) rfl (by kernel_rfl) (by kernel_rfl) (by kernel_rfl) (fun _ _ _ h => h) (Or.inl ⟨by rfl, ?hy15⟩) (by assumption) ?rest15
    case hy15 => (intro w hSw; (try dsimp only at hSw); go_simp <;> with_reducible rfl)
    try simp only [Act.put, List.setIfInBounds_toArray, List.set_cons_zero, List.set_cons_succ]
    refine wpAnyH_take (i := 3) (oi := { dst := some 14, op := Go.Op.fieldAddr 41 (Go.Operand.tmp 13) 0, type := 0, pos := "editor.go:37", after := #[{ on := 2, ground := Go.Ground.data }], guard := none }) (v := ?v16) rfl (by kernel_rfl) (by kernel_rfl) (by kernel_rfl) (fun _ _ _ h => h) (Or.inl ⟨by rfl, ?hy16⟩) (by assumption) ?rest16
    case hy16 => (intro w hSw; (try dsimp only at hSw); go_simp <;> with_reducible rfl)
    try simp only [Act.put, List.setIfInBounds_toArray, List.set_cons_zero, List.set_cons_succ]
    refine wpAnyH_take (i := 5) (oi := { dst := some 16, op := Go.Op.move (Go.Operand.tmp 0), type := 36, pos := "editor.go:37", after := #[], guard := none }) (v := ?v17) rfl (by kernel_rfl) (by kernel_rfl) (by kernel_rfl) (fun _ _ _ h => h) (Or.inl ⟨by rfl, ?hy17⟩) (by assumption) ?rest17
    case hy17 => (intro w hSw; (try dsimp only at hSw); go_simp <;> with_reducible rfl)
    try simp only [Act.put, List.setIfInBounds_toArray, List.set_cons_zero, List.set_cons_succ]
    refine wpAnyH_take (i := 6) (oi := { dst := some 17, op := Go.Op.nilCheck (Go.Operand.tmp 16), type := 0, pos := "editor.go:37", after := #[{ on := 5, ground := Go.Ground.data }], guard := none }) (v := ?v18) rfl (by kernel_rfl) (by kernel_rfl) (by kernel_rfl) (fun _ _ _ h => h) (Or.inl ⟨by rfl, ?hy18⟩) (by assumption) ?rest18
    case hy18 => (intro w hSw; (try dsimp only at hSw); go_simp <;> with_reducible rfl)
    try simp only [Act.put, List.setIfInBounds_toArray, List.set_cons_zero, List.set_cons_succ]
    refine wpAnyH_take (i := 7) (oi := { dst := some 18, op := Go.Op.fieldAddr 41 (Go.Operand.tmp 17) 1, type := 0, pos := "editor.go:37", after := #[{ on := 6, ground := Go.Ground.data }], guard := none }) (v := ?v19) rfl (by kernel_rfl) (by kernel_rfl) (by kernel_rfl) (fun _ _ _ h => h) (Or.inl ⟨by rfl, ?hy19⟩) (by assumption) ?rest19
    case hy19 => (intro w hSw; (try dsimp only at hSw); go_simp <;> with_reducible rfl)
    try simp only [Act.put, List.setIfInBounds_toArray, List.set_cons_zero, List.set_cons_succ]
    refine wpAnyH_take (i := 8) (oi := { dst := some 19, op := Go.Op.load 39 (Go.Operand.tmp 18), type := 39, pos := "editor.go:37", after := #[{ on := 7, ground := Go.Ground.data }], guard := none }) (v := ?v20) rfl (by kernel_rfl) (by kernel_rfl) (by kernel_rfl) (fun _ _ _ h => h) (Or.inl ⟨by rfl, ?hy20⟩) (by assumption) ?rest20
    case hy20 => (intro w hSw; (try dsimp only at hSw); go_simp <;> with_reducible rfl)
    try simp only [Act.put, List.setIfInBounds_toArray, List.set_cons_zero, List.set_cons_succ]
    refine wpAnyH_take (i := 9) (oi := { dst := some 20, op := Go.Op.move (Go.Operand.tmp 1), type := 3, pos := "editor.go:37", after := #[], guard := none }) (v := ?v21) rfl (by kernel_rfl) (by kernel_rfl) (by kernel_rfl) (fun _ _ _ h => h) (Or.inl ⟨by rfl, ?hy21⟩) (by assumption) ?rest21
    case hy21 => (intro w hSw; (try dsimp only at hSw); go_simp <;> with_reducible rfl)
    try simp only [Act.put, List.setIfInBounds_toArray, List.set_cons_zero, List.set_cons_succ]
    refine wpAnyH_take (i := 10) (oi := { dst := some 21, op := Go.Op.slice 39 (Go.Operand.tmp 19) none (some (Go.Operand.tmp 20)) none, type := 39, pos := "editor.go:37", after := #[{ on := 8, ground := Go.Ground.data }, { on := 9, ground := Go.Ground.data }], guard := none }) (v := ?v22) rfl (by kernel_rfl) (by kernel_rfl) (by kernel_rfl) (fun _ _ _ h => h) (Or.inl ⟨by rfl, ?hy22⟩) (by assumption) ?rest22
    case hy22 => (intro w hSw; (try dsimp only at hSw); go_simp <;> with_reducible rfl)
    try simp only [Act.put, List.setIfInBounds_toArray, List.set_cons_zero, List.set_cons_succ]
    refine wpAnyH_ready (rs := [4]) (by kernel_rfl) (by simp) ?_
    refine AllReadyH.cons (o := { dst := some 15, op := Go.Op.load 39 (Go.Operand.tmp 14), type := 39, pos := "editor.go:37", after := #[{ on := 3, ground := Go.Ground.data }], guard := none }) rfl (fun K hK => ?_) AllReadyH.nil
    go_simp
    refine hK.out _ _ ?_ (fun hHeld2 => ?_)
    · (try dsimp only); (first | go_keep | assumption | (exact cell01 (by assumption)))
    clear hK K hHeld
    have hHeld := hHeld2
    clear hHeld2
    try simp only [Act.put, List.setIfInBounds_toArray, List.set_cons_zero, List.set_cons_succ]
    refine wpAnyH_ready (rs := [11]) (by kernel_rfl) (by simp) ?_
    refine AllReadyH.cons (o := { dst := some 22, op := Go.Op.call { callee := Go.Callee.builtin Go.Builtin.append, args := #[Go.Operand.tmp 15, Go.Operand.tmp 21], argTypes := #[39, 39] }, type := 39, pos := "editor.go:37", after := #[{ on := 4, ground := Go.Ground.data }, { on := 10, ground := Go.Ground.data }], guard := none }) rfl (fun K hK => ?_) AllReadyH.nil
    obtain ⟨v2, w2, hr, hv2, hg2, ho2⟩ := Bs.append (ty := 39) haD hslD Try.underlying39 info5 (by have h1 := List.length_take_le cap Z; omega) hN; obtain ⟨a2, n2, cap2, rfl⟩ := hv2.form; refine step_append_bs rfl _ _ 39 rfl hr rfl rfl ?_; have hB2 := hBD.kept hg2 (fun e => h2 e.symm); obtain ⟨q0, q1, q2, q3, q4⟩ := hB2.two
    refine hK.out _ _ ?_ (fun hHeld2 => ?_)
    · (try dsimp only); (first | go_keep | assumption | (exact cell01 (by assumption)))
    clear hK K hHeld
    have hHeld := hHeld2
    clear hHeld2
    try simp only [Act.put, List.setIfInBounds_toArray, List.set_cons_zero, List.set_cons_succ]
    refine wpAnyH_take (i := 12) (oi := { dst := some 23, op := Go.Op.nilCheck (Go.Operand.tmp 11), type := 0, pos := "editor.go:37", after := #[{ on := 0, ground := Go.Ground.data }, { on := 0, ground := Go.Ground.phase }, { on := 1, ground := Go.Ground.phase }, { on := 2, ground := Go.Ground.phase }, { on := 3, ground := Go.Ground.phase }, { on := 4, ground := Go.Ground.phase }, { on := 5, ground := Go.Ground.phase }, { on := 6, ground := Go.Ground.phase }, { on := 7, ground := Go.Ground.phase }, { on := 8, ground := Go.Ground.phase }, { on := 9, ground := Go.Ground.phase }, { on := 10, ground := Go.Ground.phase }, { on := 11, ground := Go.Ground.phase }], guard := none }) (v := ?v23) rfl (by kernel_rfl) (by kernel_rfl) (by kernel_rfl) (fun _ _ _ h => h) (Or.inl ⟨by rfl, ?hy23⟩) (by assumption) ?rest23
    case hy23 => (intro w hSw; (try dsimp only at hSw); go_simp <;> with_reducible rfl)
    try simp only [Act.put, List.setIfInBounds_toArray, List.set_cons_zero, List.set_cons_succ]
    refine wpAnyH_take (i := 13) (oi := { dst := some 24, op := Go.Op.fieldAddr 41 (Go.Operand.tmp 23) 0, type := 0, pos := "editor.go:37", after := #[{ on := 12, ground := Go.Ground.data }, { on := 0, ground := Go.Ground.phase }, { on := 1, ground := Go.Ground.phase }, { on := 2, ground := Go.Ground.phase }, { on := 3, ground := Go.Ground.phase }, { on := 4, ground := Go.Ground.phase }, { on := 5, ground := Go.Ground.phase }, { on := 6, ground := Go.Ground.phase }, { on := 7, ground := Go.Ground.phase }, { on := 8, ground := Go.Ground.phase }, { on := 9, ground := Go.Ground.phase }, { on := 10, ground := Go.Ground.phase }, { on := 11, ground := Go.Ground.phase }], guard := none }) (v := ?v24) rfl (by kernel_rfl) (by kernel_rfl) (by kernel_rfl) (fun _ _ _ h => h) (Or.inl ⟨by rfl, ?hy24⟩) (by assumption) ?rest24
    case hy24 => (intro w hSw; (try dsimp only at hSw); go_simp <;> with_reducible rfl)
    try simp only [Act.put, List.setIfInBounds_toArray, List.set_cons_zero, List.set_cons_succ]
    refine wpAnyH_ready (rs := [14]) (by kernel_rfl) (by simp) ?_
    refine AllReadyH.cons (o := { dst := none, op := Go.Op.store 39 (Go.Operand.tmp 24) (Go.Operand.tmp 22), type := 0, pos := "editor.go:37", after := #[{ on := 13, ground := Go.Ground.data }, { on := 11, ground := Go.Ground.data }, { on := 11, ground := Go.Ground.chain }, { on := 0, ground := Go.Ground.phase }, { on := 1, ground := Go.Ground.phase }, { on := 2, ground := Go.Ground.phase }, { on := 3, ground := Go.Ground.phase }, { on := 4, ground := Go.Ground.phase }, { on := 5, ground := Go.Ground.phase }, { on := 6, ground := Go.Ground.phase }, { on := 7, ground := Go.Ground.phase }, { on := 8, ground := Go.Ground.phase }, { on := 9, ground := Go.Ground.phase }, { on := 10, ground := Go.Ground.phase }, { on := 11, ground := Go.Ground.phase }], guard := none }) rfl (fun K hK => ?_) AllReadyH.nil
    go_simp
    refine hK.out _ _ ?_ (fun hHeld2 => ?_)
    · (try dsimp only); (first | go_keep | assumption | (exact cell01 (by assumption)))
    clear hK K hHeld
    have hHeld := hHeld2
    clear hHeld2
    try simp only [Act.put, List.setIfInBounds_toArray, List.set_cons_zero, List.set_cons_succ]
    refine wpAnyH_done (by kernel_rfl) ?_ _
    refine NoPanic.normal ?_
    have hz2 := hzD.kept hg2 hsep
    have hs2 := own_new h1 ho2 hzlt
    have h2x : (Value.slice a2 n2 cap2).ownBlock ≠ some Lb := by
      rcases ho2 with h | h
      · rw [h]; exact h2
      · rw [h]; intro e; cases e; exact Nat.lt_irrefl _ hlt
    have hL3 := Line.set0 hB2 hv2 hz2 hs2 h2x h3 h4
    have hf := hL3.2.2.1.from cap hmZ
    rw [if_pos rfl, Nat.sub_self, show Z.length - cap = 0 by omega] at hf
    go_wp2
    (try go_end0)
    have hfin := Line.set1 hL3.1 hL3.2.1 hf hs2 hL3.2.2.2.2.1 h3 h4
    first | exact ⟨rfl, ⟨_, _, hfin⟩, ((((Below.refl base w).drew).grown hg2 hN (fun k e => ha.ge (Nat.le_refl _) e)).setCell (p := ⟨Lb, 0, none⟩) h4 _).setCell (p := ⟨Lb, 1, none⟩) h4 _⟩ | exact ⟨rfl, _, _, hfin, ((((Below.refl base w).drew).grown hg2 hN (fun k e => ha.ge (Nat.le_refl _) e)).setCell (p := ⟨Lb, 0, none⟩) h4 _).setCell (p := ⟨Lb, 1, none⟩) h4 _⟩
  ·
    go_enter Try.func25, Try.ntmps25
    go_upto_region 1 with fail
    refine wp_region_noPanic ?_
    refine wp_region_held_drew (S := (fun w' => w'.cell? ⟨Lb, 1, none⟩ = some (.slice (some ⟨b, o, none⟩) Z.length cap))) (by kernel_rfl) ?_ (fun hHeld => ?_)
    · (try dsimp only); (first | go_keep | assumption | (exact cell01 (by assumption)))
    refine wpAnyH_take (i := 0) (oi := { dst := some 11, op := Go.Op.move (Go.Operand.tmp 0), type := 36, pos := "editor.go:37", after := #[], guard := none }) (v := ?v25) rfl (by kernel_rfl) (by kernel_rfl) (by kernel_rfl) (fun _ _ _ h => h) (Or.inl ⟨by rfl, ?hy25⟩) (by assumption) ?rest25
    case hy25 => (intro w hSw; (try dsimp only at hSw); go_simp <;> with_reducible rfl)
    try simp only [Act.put, List.setIfInBounds_toArray, List.set_cons_zero, List.set_cons_succ]
    refine wpAnyH_take (i := 1) (oi := { dst := some 12, op := Go.Op.move (Go.Operand.tmp 0), type := 36, pos := "editor.go:37", after := #[], guard := none }) (v := ?v26) rfl (by kernel_rfl) (by kernel_rfl) (by kernel_rfl) (fun _ _ _ h => h) (Or.inl ⟨by rfl, ?hy26⟩) (by assumption) ?rest26
    case hy26 => (intro w hSw; (try dsimp only at hSw); go_simp <;> with_reducible rfl)
    try simp only [Act.put, List.setIfInBounds_toArray, List.set_cons_zero, List.set_cons_succ]
    refine wpAnyH_take (i := 2) (oi := { dst := some 13, op := Go.Op.nilCheck (Go.Operand.tmp 12), type := 0, pos := "editor.go:37", after := #[{ on := 1, ground := Go.Ground.data }], guard := none }) (v := ?v27) rfl (by kernel_rfl) (by kernel_rfl) (by kernel_rfl) (fun _ _ _ h => h) (Or.inl ⟨by rfl, ?hy27⟩) (by assumption) ?rest27
    case hy27 => (intro w hSw; (try dsimp only at hSw); go_simp <;> with_reducible rfl)
    try simp only [Act.put, List.setIfInBounds_toArray, List.set_cons_zero, List.set_cons_succ]
    refine wpAnyH_take (i := 3) (oi := { dst := some 14, op := Go.Op.fieldAddr 41 (Go.Operand.tmp 13) 0, type := 0, pos := "editor.go:37", after := #[{ on := 2, ground := Go.Ground.data }], guard := none }) (v := ?v28) rfl (by kernel_rfl) (by kernel_rfl) (by kernel_rfl) (fun _ _ _ h => h) (Or.inl ⟨by rfl, ?hy28⟩) (by assumption) ?rest28
    case hy28 => (intro w hSw; (try dsimp only at hSw); go_simp <;> with_reducible rfl)
    try simp only [Act.put, List.setIfInBounds_toArray, List.set_cons_zero, List.set_cons_succ]
    refine wpAnyH_take (i := 5) (oi := { dst := some 16, op := Go.Op.move (Go.Operand.tmp 0), type := 36, pos := "editor.go:37", after := #[], guard := none }) (v := ?v29) rfl (by kernel_rfl) (by kernel_rfl) (by kernel_rfl) (fun _ _ _ h => h) (Or.inl ⟨by rfl, ?hy29⟩) (by assumption) ?rest29
    case hy29 => (intro w hSw; (try dsimp only at hSw); go_simp <;> with_reducible rfl)
    try simp only [Act.put, List.setIfInBounds_toArray, List.set_cons_zero, List.set_cons_succ]
    refine wpAnyH_take (i := 6) (oi := { dst := some 17, op := Go.Op.nilCheck (Go.Operand.tmp 16), type := 0, pos := "editor.go:37", after := #[{ on := 5, ground := Go.Ground.data }], guard := none }) (v := ?v30) rfl (by kernel_rfl) (by kernel_rfl) (by kernel_rfl) (fun _ _ _ h => h) (Or.inl ⟨by rfl, ?hy30⟩) (by assumption) ?rest30
    case hy30 => (intro w hSw; (try dsimp only at hSw); go_simp <;> with_reducible rfl)
    try simp only [Act.put, List.setIfInBounds_toArray, List.set_cons_zero, List.set_cons_succ]
    refine wpAnyH_take (i := 7) (oi := { dst := some 18, op := Go.Op.fieldAddr 41 (Go.Operand.tmp 17) 1, type := 0, pos := "editor.go:37", after := #[{ on := 6, ground := Go.Ground.data }], guard := none }) (v := ?v31) rfl (by kernel_rfl) (by kernel_rfl) (by kernel_rfl) (fun _ _ _ h => h) (Or.inl ⟨by rfl, ?hy31⟩) (by assumption) ?rest31
    case hy31 => (intro w hSw; (try dsimp only at hSw); go_simp <;> with_reducible rfl)
    try simp only [Act.put, List.setIfInBounds_toArray, List.set_cons_zero, List.set_cons_succ]
    refine wpAnyH_take (i := 8) (oi := { dst := some 19, op := Go.Op.load 39 (Go.Operand.tmp 18), type := 39, pos := "editor.go:37", after := #[{ on := 7, ground := Go.Ground.data }], guard := none }) (v := ?v32) rfl (by kernel_rfl) (by kernel_rfl) (by kernel_rfl) (fun _ _ _ h => h) (Or.inl ⟨by rfl, ?hy32⟩) (by assumption) ?rest32
    case hy32 => (intro w hSw; (try dsimp only at hSw); go_simp <;> with_reducible rfl)
    try simp only [Act.put, List.setIfInBounds_toArray, List.set_cons_zero, List.set_cons_succ]
    refine wpAnyH_take (i := 9) (oi := { dst := some 20, op := Go.Op.move (Go.Operand.tmp 1), type := 3, pos := "editor.go:37", after := #[], guard := none }) (v := ?v33) rfl (by kernel_rfl) (by kernel_rfl) (by kernel_rfl) (fun _ _ _ h => h) (Or.inl ⟨by rfl, ?hy33⟩) (by assumption) ?rest33
    case hy33 => (intro w hSw; (try dsimp only at hSw); go_simp <;> with_reducible rfl)
    try simp only [Act.put, List.setIfInBounds_toArray, List.set_cons_zero, List.set_cons_succ]
    refine wpAnyH_take (i := 10) (oi := { dst := some 21, op := Go.Op.slice 39 (Go.Operand.tmp 19) none (some (Go.Operand.tmp 20)) none, type := 39, pos := "editor.go:37", after := #[{ on := 8, ground := Go.Ground.data }, { on := 9, ground := Go.Ground.data }], guard := none }) (v := ?v34) rfl (by kernel_rfl) (by kernel_rfl) (by kernel_rfl) (fun _ _ _ h => h) (Or.inl ⟨by rfl, ?hy34⟩) (by assumption) ?rest34
    case hy34 => (intro w hSw; (try dsimp only at hSw); go_simp <;> with_reducible rfl)
    try simp only [Act.put, List.setIfInBounds_toArray, List.set_cons_zero, List.set_cons_succ]
    refine wpAnyH_ready (rs := [4]) (by kernel_rfl) (by simp) ?_
    refine AllReadyH.cons (o := { dst := some 15, op := Go.Op.load 39 (Go.Operand.tmp 14), type := 39, pos := "editor.go:37", after := #[{ on := 3, ground := Go.Ground.data }], guard := none }) rfl (fun K hK => ?_) AllReadyH.nil
    go_simp
    refine hK.out _ _ ?_ (fun hHeld2 => ?_)
    · (try dsimp only); (first | go_keep | assumption | (exact cell01 (by assumption)))
    clear hK K hHeld
    have hHeld := hHeld2
    clear hHeld2
    try simp only [Act.put, List.setIfInBounds_toArray, List.set_cons_zero, List.set_cons_succ]
    refine wpAnyH_ready (rs := [11]) (by kernel_rfl) (by simp) ?_
    refine AllReadyH.cons (o := { dst := some 22, op := Go.Op.call { callee := Go.Callee.builtin Go.Builtin.append, args := #[Go.Operand.tmp 15, Go.Operand.tmp 21], argTypes := #[39, 39] }, type := 39, pos := "editor.go:37", after := #[{ on := 4, ground := Go.Ground.data }, { on := 10, ground := Go.Ground.data }], guard := none }) rfl (fun K hK => ?_) AllReadyH.nil
    obtain ⟨v2, w2, hr, hv2, hg2, ho2⟩ := Bs.append (ty := 39) haD hslD Try.underlying39 info5 (by have h1 := List.length_take_le m Z; omega) hN; obtain ⟨a2, n2, cap2, rfl⟩ := hv2.form; refine step_append_bs rfl _ _ 39 rfl hr rfl rfl ?_; have hB2 := hBD.kept hg2 (fun e => h2 e.symm); obtain ⟨q0, q1, q2, q3, q4⟩ := hB2.two
    refine hK.out _ _ ?_ (fun hHeld2 => ?_)
    · (try dsimp only); (first | go_keep | assumption | (exact cell01 (by assumption)))
    clear hK K hHeld
    have hHeld := hHeld2
    clear hHeld2
    try simp only [Act.put, List.setIfInBounds_toArray, List.set_cons_zero, List.set_cons_succ]
    refine wpAnyH_take (i := 12) (oi := { dst := some 23, op := Go.Op.nilCheck (Go.Operand.tmp 11), type := 0, pos := "editor.go:37", after := #[{ on := 0, ground := Go.Ground.data }, { on := 0, ground := Go.Ground.phase }, { on := 1, ground := Go.Ground.phase }, { on := 2, ground := Go.Ground.phase }, { on := 3, ground := Go.Ground.phase }, { on := 4, ground := Go.Ground.phase }, { on := 5, ground := Go.Ground.phase }, { on := 6, ground := Go.Ground.phase }, { on := 7, ground := Go.Ground.phase }, { on := 8, ground := Go.Ground.phase }, { on := 9, ground := Go.Ground.phase }, { on := 10, ground := Go.Ground.phase }, { on := 11, ground := Go.Ground.phase }], guard := none }) (v := ?v35) rfl (by kernel_rfl) (by kernel_rfl) (by kernel_rfl) (fun _ _ _ h => h) (Or.inl ⟨by rfl, ?hy35⟩) (by assumption) ?rest35
    case hy35 => (intro w hSw; (try dsimp only at hSw); go_simp <;> with_reducible rfl)
    try simp only [Act.put, List.setIfInBounds_toArray, List.set_cons_zero, List.set_cons_succ]
    refine wpAnyH_take (i := 13) (oi := { dst := some 24, op := Go.Op.fieldAddr 41 (Go.Operand.tmp 23) 0, type := 0, pos := "editor.go:37", after := #[{ on := 12, ground := Go.Ground.data }, { on := 0, ground := Go.Ground.phase }, { on := 1, ground := Go.Ground.phase }, { on := 2, ground := Go.Ground.phase }, { on := 3, ground := Go.Ground.phase }, { on := 4, ground := Go.Ground.phase }, { on := 5, ground := Go.Ground.phase }, { on := 6, ground := Go.Ground.phase }, { on := 7, ground := Go.Ground.phase }, { on := 8, ground := Go.Ground.phase }, { on := 9, ground := Go.Ground.phase }, { on := 10, ground := Go.Ground.phase }, { on := 11, ground := Go.Ground.phase }], guard := none }) (v := ?v36) rfl (by kernel_rfl) (by kernel_rfl) (by kernel_rfl) (fun _ _ _ h => h) (Or.inl ⟨by rfl, ?hy36⟩) (by assumption) ?rest36
    case hy36 => (intro w hSw; (try dsimp only at hSw); go_simp <;> with_reducible rfl)
    try simp only [Act.put, List.setIfInBounds_toArray, List.set_cons_zero, List.set_cons_succ]
    refine wpAnyH_ready (rs := [14]) (by kernel_rfl) (by simp) ?_
    refine AllReadyH.cons (o := { dst := none, op := Go.Op.store 39 (Go.Operand.tmp 24) (Go.Operand.tmp 22), type := 0, pos := "editor.go:37", after := #[{ on := 13, ground := Go.Ground.data }, { on := 11, ground := Go.Ground.data }, { on := 11, ground := Go.Ground.chain }, { on := 0, ground := Go.Ground.phase }, { on := 1, ground := Go.Ground.phase }, { on := 2, ground := Go.Ground.phase }, { on := 3, ground := Go.Ground.phase }, { on := 4, ground := Go.Ground.phase }, { on := 5, ground := Go.Ground.phase }, { on := 6, ground := Go.Ground.phase }, { on := 7, ground := Go.Ground.phase }, { on := 8, ground := Go.Ground.phase }, { on := 9, ground := Go.Ground.phase }, { on := 10, ground := Go.Ground.phase }, { on := 11, ground := Go.Ground.phase }], guard := none }) rfl (fun K hK => ?_) AllReadyH.nil
    go_simp
    refine hK.out _ _ ?_ (fun hHeld2 => ?_)
    · (try dsimp only); (first | go_keep | assumption | (exact cell01 (by assumption)))
    clear hK K hHeld
    have hHeld := hHeld2
    clear hHeld2
    try simp only [Act.put, List.setIfInBounds_toArray, List.set_cons_zero, List.set_cons_succ]
    refine wpAnyH_done (by kernel_rfl) ?_ _
    refine NoPanic.normal ?_
    have hz2 := hzD.kept hg2 hsep
    have hs2 := own_new h1 ho2 hzlt
    have h2x : (Value.slice a2 n2 cap2).ownBlock ≠ some Lb := by
      rcases ho2 with h | h
      · rw [h]; exact h2
      · rw [h]; intro e; cases e; exact Nat.lt_irrefl _ hlt
    have hL3 := Line.set0 hB2 hv2 hz2 hs2 h2x h3 h4
    have hf := hL3.2.2.1.from m hmZ
    rw [if_neg hcm] at hf
    go_wp2
    (try go_end0)
    have hfin := Line.set1 hL3.1 hL3.2.1 hf hs2 hL3.2.2.2.2.1 h3 h4
    first | exact ⟨rfl, ⟨_, _, hfin⟩, ((((Below.refl base w).drew).grown hg2 hN (fun k e => ha.ge (Nat.le_refl _) e)).setCell (p := ⟨Lb, 0, none⟩) h4 _).setCell (p := ⟨Lb, 1, none⟩) h4 _⟩ | exact ⟨rfl, _, _, hfin, ((((Below.refl base w).drew).grown hg2 hN (fun k e => ha.ge (Nat.le_refl _) e)).setCell (p := ⟨Lb, 0, none⟩) h4 _).setCell (p := ⟨Lb, 1, none⟩) h4 _⟩
end Go.Proofs.Ytfmlbnkmckkjnaa
