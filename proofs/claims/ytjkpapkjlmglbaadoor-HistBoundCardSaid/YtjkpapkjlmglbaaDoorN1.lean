/- The reference's memory: 'Flat', 'Get', 'Set'. -/
import Derived.Test.YtjkpapkjlmglbaaDoorM8
namespace Go.Proofs.YtjkpapkjlmglbaaDoor
open Go.RowKit
set_option linter.unusedVariables false
set_option linter.unusedSimpArgs false
attribute [local go_sem] cell_set set_set m_undef

/-- A reference's memory. -/
def RefI (w : World) (base rb vb ob : Nat) (M : List UInt8) : Prop :=
  M.length = 8192 ∧ base ≤ rb ∧ vb ≠ rb ∧ ∃ cap ws nn, Blk w rb #[.slice (some ⟨vb, ob, none⟩) 8192 cap, ws, .bool nn] 41 ∧ Bs w base (.slice (some ⟨vb, ob, none⟩) 8192 cap) M
def RefP (w : World) (base rb : Nat) (M : List UInt8) (R : Nat → Prop) : Prop := ∃ vb ob, RefI w base rb vb ob M ∧ ∀ k, R k ↔ (k = rb ∨ k = vb)
theorem Bs.lt2 {w : World} {B b o n cap : Nat} {l : List UInt8} (h : Bs w B (.slice (some ⟨b, o, none⟩) n cap) l) : B ≤ b ∧ b < w.heap.size := by
  rcases h.lt with e | ⟨k, e, h1, h2⟩
  · cases e
  · have e' : b = k := Option.some.inj e
    exact ⟨by omega, by omega⟩
theorem Bs.len2 {w : World} {B b o n cap : Nat} {l : List UInt8} (h : Bs w B (.slice (some ⟨b, o, none⟩) n cap) l) : l.length = n ∧ n ≤ cap := by
  obtain ⟨a, c, e, h2⟩ := h.len
  cases e
  exact ⟨rfl, h2⟩
theorem RefP.len {w : World} {base rb : Nat} {M : List UInt8} {R : Nat → Prop} (h : RefP w base rb M R) : M.length = 8192 := by
  obtain ⟨vb, ob, hI, _⟩ := h
  exact hI.1
theorem RefP.lt {w : World} {base rb : Nat} {M : List UInt8} {R : Nat → Prop} (h : RefP w base rb M R) {k : Nat} (hk : R k) : k < w.heap.size ∧ base ≤ k := by
  obtain ⟨vb, ob, ⟨h1, h2, h3, cap, ws, nn, hB, hv⟩, hR⟩ := h
  rcases (hR k).1 hk with rfl | rfl
  · exact ⟨hB.lt, h2⟩
  · exact ⟨hv.lt2.2, hv.lt2.1⟩
theorem RefP.kept {w w' : World} {base rb : Nat} {M : List UInt8} {R : Nat → Prop} {row : Option Nat} (h : RefP w base rb M R) (hg : w.grownBy w' row) (hrow : ∀ k, row = some k → ¬ R k) : RefP w' base rb M R := by
  obtain ⟨vb, ob, ⟨h1, h2, h3, cap, ws, nn, hB, hv⟩, hR⟩ := h
  refine ⟨vb, ob, ⟨h1, h2, h3, cap, ws, nn, hB.kept hg (fun e => hrow rb e.symm ((hR _).2 (.inl rfl))), hv.kept hg (.inr (fun e => hrow vb e.symm ((hR _).2 (.inr rfl))))⟩, hR⟩
theorem RefP.below {w w' : World} {base rb : Nat} {M : List UInt8} {R : Nat → Prop} (h : RefP w base rb M R) (hb : Below w.heap.size w w') : RefP w' base rb M R :=
  h.kept (row := none) ⟨hb.os, hb.tape, hb.output, hb.size, fun k hk _ => hb.block k hk⟩ (fun k e => by cases e)
/-- It stands while another memory turns. -/
theorem RefP.turn {w w' : World} {base rb : Nat} {M : List UInt8} {R O O' : Nat → Prop} (h : RefP w base rb M R) (hT : Turn w w' O O') (hd : ∀ k, R k → ¬ O k) : RefP w' base rb M R := by
  obtain ⟨vb, ob, ⟨h1, h2, h3, cap, ws, nn, hB, hv⟩, hR⟩ := h
  exact ⟨vb, ob, ⟨h1, h2, h3, cap, ws, nn, hB.turn hT (hd _ ((hR _).2 (.inl rfl))), hv.turn hT (fun k hk => hd _ ((hR k).2 (.inr (Option.some.inj hk).symm)))⟩, hR⟩
theorem MemI.turn {w w' : World} {base mb pb fb : Nat} {F M : List UInt8} {g : Nat → Option Nat} {R R' : Nat → Prop} (h : MemI w base mb pb fb F M g) (hT : Turn w w' R R') (hd : ∀ k, MemO mb pb fb g k → ¬ R k) : MemI w' base mb pb fb F M g := by
  obtain ⟨D, hD, hPG⟩ := h.map
  have hb : ∀ k, MemO mb pb fb g k → w'.heap[k]? = w.heap[k]? := fun k hk => hT.block k (h.lt hk).1 (hd k hk)
  refine ⟨h.lenM, h.lenF, h.own.turn hT (hd _ (.inl rfl)), h.first.turn hT (hd _ (.inr (.inr (.inl rfl)))), ⟨D, ?_, hPG⟩, h.low, h.ne, fun q hq b hgb => ?_, h.rest⟩
  · obtain ⟨Es, e0, e1, e2⟩ := hD
    exact ⟨Es, e0, (hb pb (.inr (.inl rfl))).trans e1, e2⟩
  · obtain ⟨r1, r2, r3, r4, r5, r6⟩ := h.pages q hq b hgb
    exact ⟨r1, r2, r3, r4, r5.turn hT (hd _ (.inr (.inr (.inr ⟨q, hq, hgb⟩)))), r6⟩
theorem MemP.turn {w w' : World} {base mb : Nat} {M : List UInt8} {O R R' : Nat → Prop} (h : MemP w base mb M O) (hT : Turn w w' R R') (hd : ∀ k, O k → ¬ R k) : MemP w' base mb M O := by
  obtain ⟨pb, fb, F, g, hI, hO⟩ := h
  exact ⟨pb, fb, F, g, hI.turn hT (fun k hk => hd k ((hO k).2 hk)), hO⟩
/-- What leaves a reference's memory behind. -/
def RefQ (w w' : World) (base rb : Nat) (M' : List UInt8) (R : Nat → Prop) (v : Value) (e : Ending) : Prop := e = .returned v ∧ ∃ R', RefP w' base rb M' R' ∧ Turn w w' R R'
theorem flat_fin {w w2 : World} {A B : Nat} {Z : Array Value} (hZ : Z = (cb (List.replicate 8192 0)).toArray) (hA : Blk w2 A Z 5) (hB : Blk w2 B Z 5) (hne : A ≠ B) (hNA : w.heap.size ≤ A) (hNB : w.heap.size ≤ B) {v : Value} {l : List UInt8} (hv : Rb w v l) (hb : Below w.heap.size w w2) :
    ∃ w4 w5, (Builtin.copy_ #[22, 22] 3 #[.slice (some ⟨A, 0, none⟩) 8192 8192, v]).run Tryd.prog (w2.alloc (.cells #[.slice (some ⟨A, 0, none⟩) 8192 8192, .slice (some ⟨B, 0, none⟩) 8192 8192, .bool false] 41)).drew = .ok (.int .i64 ((min l.length 8192 : Nat) : Int)) w4 ∧
      w4.cell? ⟨w2.heap.size, 1, none⟩ = some (.slice (some ⟨B, 0, none⟩) 8192 8192) ∧
      (Builtin.copy_ #[22, 22] 3 #[.slice (some ⟨B, 0, none⟩) 8192 8192, v]).run Tryd.prog w4 = .ok (.int .i64 ((min l.length 8192 : Nat) : Int)) w5 ∧ (∃ R, RefP w5 w.heap.size w2.heap.size (flatL l) R) ∧ Below w.heap.size w w5 := by
  subst hZ
  obtain ⟨w3, hw3⟩ : ∃ w3, w3 = (w2.alloc (.cells #[.slice (some ⟨A, 0, none⟩) 8192 8192, .slice (some ⟨B, 0, none⟩) 8192 8192, .bool false] 41)).drew := ⟨_, rfl⟩
  rw [← hw3]
  have hb23 : Below w2.heap.size w2 w3 := by subst hw3; exact bel_drew (bel_alloc (Below.refl _ _) _)
  have hS3 : Blk w3 w2.heap.size #[.slice (some ⟨A, 0, none⟩) 8192 8192, .slice (some ⟨B, 0, none⟩) 8192 8192, .bool false] 41 := by subst hw3; exact (Blk.new _ _ _).drew
  have hb3 := bel_trans hb hb23
  have hAl := hA.lt
  have hBl := hB.lt
  obtain ⟨w4, hr4, hA4, hg4⟩ := Rb.copy (P := Tryd.prog) (dT := 22) (sT := 22) (ty := 3) (e := 5) (hA.below hb23) 8192 8192 (by rw [List.length_replicate]; exact Nat.le_refl _) (hv.below hb3) Tryd.underlying22 (by kernel_rfl)
  have hb4 : Below w.heap.size w w4 := hb3.grown hg4 hb3.size (fun k e => by have := Option.some.inj e; omega)
  obtain ⟨w5, hr5, hB5, hg5⟩ := Rb.copy (P := Tryd.prog) (dT := 22) (sT := 22) (ty := 3) (e := 5) ((hB.below hb23).kept hg4 (fun e => hne (Option.some.inj e).symm)) 8192 8192 (by rw [List.length_replicate]; exact Nat.le_refl _) (hv.below hb4) Tryd.underlying22 (by kernel_rfl)
  have hS4 := hS3.kept hg4 (fun e => by have := Option.some.inj e; omega)
  have hS5 := hS4.kept hg5 (fun e => by have := Option.some.inj e; omega)
  have hA5 := hA4.kept hg5 (fun e => hne (Option.some.inj e))
  have hFl : l.take 8192 ++ (List.replicate 8192 0).drop (min l.length 8192) = flatL l := rfl
  rw [hFl] at hA5
  refine ⟨w4, w5, hr4, by rw [hS4.cell]; rfl, hr5, ⟨fun k => k = w2.heap.size ∨ k = A, A, 0, ⟨flatL_len l, hb.size, by omega, 8192, _, false, hS5, ?_⟩, fun k => Iff.rfl⟩, hb4.grown hg5 hb4.size (fun k e => by have := Option.some.inj e; omega)⟩
  exact (Bs.of_blk hA5 (flatL_len l)).rebase (fun k hk => by have e' : A = k := Option.some.inj hk; omega)
set_option maxRecDepth 100000 in
set_option maxHeartbeats 1000000 in
theorem rFlat (w : World) (v : Value) (l : List UInt8) (h : Rb w v l) : Calls Tryd.prog 8 #[v] w fun e w' => ∃ rb R, e = .returned (.pointer (some ⟨rb, 0, none⟩)) ∧ RefP w' w.heap.size rb (flatL l) R ∧ Below w.heap.size w w' := by
  obtain ⟨Z, hZ⟩ : ∃ Z, Z = (cb (List.replicate 8192 0)).toArray := ⟨_, rfl⟩
  have hm1 : (Instr.makeSlice 22 (.int .i64 8192) (.int .i64 8192)).run Tryd.prog w.drew = .ok (.slice (some ⟨w.heap.size, 0, none⟩) 8192 8192) (w.drew.alloc (.cells Z 5)) := by rw [hZ]; exact run_made w.drew 8192 (by omega)
  have hm2 : (Instr.makeSlice 22 (.int .i64 8192) (.int .i64 8192)).run Tryd.prog (w.alloc (.cells Z 5)).drew = .ok (.slice (some ⟨w.heap.size + 1, 0, none⟩) 8192 8192) ((w.alloc (.cells Z 5)).drew.alloc (.cells Z 5)) := by
    have h2 := run_made (w.alloc (.cells Z 5)).drew 8192 (by omega)
    rw [show (w.alloc (.cells Z 5)).drew.heap.size = w.heap.size + 1 from World.size_alloc _ _] at h2
    rw [hZ] at h2 ⊢
    exact h2
  have hF1 : Blk ((w.alloc (.cells Z 5)).alloc (.cells Z 5)) w.heap.size Z 5 := (Blk.new w Z 5).alloc _
  have hF2 : Blk ((w.alloc (.cells Z 5)).alloc (.cells Z 5)) (w.heap.size + 1) Z 5 := by
    have h2 := Blk.new (w.alloc (.cells Z 5)) Z 5
    rw [World.size_alloc] at h2
    exact h2
  have hb2 : Below w.heap.size w ((w.alloc (.cells Z 5)).alloc (.cells Z 5)) := bel_alloc (bel_alloc (Below.refl _ _) _) _
  have hs2 : ((w.alloc (.cells Z 5)).alloc (.cells Z 5)).heap.size = w.heap.size + 1 + 1 := by rw [World.size_alloc, World.size_alloc]
  replace hZ := Lib.hid hZ
  obtain ⟨ad, cap, rfl⟩ := h.form
  go_enter Tryd.func8, Tryd.ntmps8
  go_upto_region 1 with fail
  refine wp_region_noPanic ?_
  refine wp_region_held_drew (S := (fun _ => True)) (by kernel_rfl) ?_ (fun hHeld => ?_)
  · (try dsimp only); (try exact trivial)
  refine wpAnyH_ready (rs := [0, 1]) (by kernel_rfl) (by simp) ?_
  refine AllReadyH.cons (o := { dst := some 4, op := Go.Op.makeSlice 22 (Go.Operand.const (Go.Value.int Go.IntKind.i64 8192)) (Go.Operand.const (Go.Value.int Go.IntKind.i64 8192)), type := 22, pos := "ref.go:18", after := #[], guard := none }) rfl (fun K hK => ?_) ?_
  ·
    go_simp
    refine hK.out _ _ ?_ (fun hHeld2 => ?_)
    · (try dsimp only); (try exact trivial)
    clear hK K hHeld
    have hHeld := hHeld2
    clear hHeld2
    try simp only [Act.put, List.setIfInBounds_toArray, List.set_cons_zero, List.set_cons_succ]
    refine wpAnyH_ready (rs := [1]) (by kernel_rfl) (by simp) ?_
    refine AllReadyH.cons (o := { dst := some 5, op := Go.Op.makeSlice 22 (Go.Operand.const (Go.Value.int Go.IntKind.i64 8192)) (Go.Operand.const (Go.Value.int Go.IntKind.i64 8192)), type := 22, pos := "ref.go:18", after := #[], guard := none }) rfl (fun K hK => ?_) AllReadyH.nil
    go_simp
    refine hK.out _ _ ?_ (fun hHeld2 => ?_)
    · (try dsimp only); (try exact trivial)
    clear hK K hHeld
    have hHeld := hHeld2
    clear hHeld2
    try simp only [Act.put, List.setIfInBounds_toArray, List.set_cons_zero, List.set_cons_succ]
    refine wpAnyH_take (i := 2) (oi := { dst := some 6, op := Go.Op.build 41 #[(0, Go.Operand.tmp 4), (1, Go.Operand.tmp 5)], type := 41, pos := "ref.go:18", after := #[{ on := 0, ground := Go.Ground.data }, { on := 1, ground := Go.Ground.data }], guard := none }) (v := ?v1) rfl (by kernel_rfl) (by kernel_rfl) (by kernel_rfl) (fun _ _ _ h => h) (Or.inl ⟨by rfl, ?hy1⟩) (by assumption) ?rest1
    case hy1 => (intro w hSw; (try dsimp only at hSw); go_simp <;> with_reducible rfl)
    try simp only [Act.put, List.setIfInBounds_toArray, List.set_cons_zero, List.set_cons_succ]
    refine wpAnyH_ready (rs := [3]) (by kernel_rfl) (by simp) ?_
    refine AllReadyH.cons (o := { dst := some 7, op := Go.Op.box 41 (Go.Operand.tmp 6), type := 26, pos := "ref.go:18", after := #[{ on := 2, ground := Go.Ground.data }], guard := none }) rfl (fun K hK => ?_) AllReadyH.nil
    go_simp
    refine hK.out _ _ ?_ (fun hHeld2 => ?_)
    · (try dsimp only); (try exact trivial)
    clear hK K hHeld
    have hHeld := hHeld2
    clear hHeld2
    try simp only [Act.put, List.setIfInBounds_toArray, List.set_cons_zero, List.set_cons_succ]
    refine wpAnyH_take (i := 4) (oi := { dst := some 3, op := Go.Op.assign (Go.Operand.tmp 7), type := 26, pos := "ref.go:18", after := #[{ on := 3, ground := Go.Ground.data }, { on := 0, ground := Go.Ground.phase }, { on := 1, ground := Go.Ground.phase }, { on := 2, ground := Go.Ground.phase }, { on := 3, ground := Go.Ground.phase }], guard := none }) (v := ?v2) rfl (by kernel_rfl) (by kernel_rfl) (by kernel_rfl) (fun _ _ _ h => h) (Or.inl ⟨by rfl, ?hy2⟩) (by assumption) ?rest2
    case hy2 => (intro w hSw; (try dsimp only at hSw); go_simp <;> with_reducible rfl)
    try simp only [Act.put, List.setIfInBounds_toArray, List.set_cons_zero, List.set_cons_succ]
    refine wpAnyH_done (by kernel_rfl) ?_ _
    refine NoPanic.normal ?_
    first
      | (obtain ⟨w4, w5, hr4, hc4, hr5, hP5, hb5⟩ := flat_fin hZ.out hF1 hF2 (by omega) (Nat.le_refl _) (by omega) h hb2; rw [hs2] at hc4 hP5; generalize ((min l.length 8192 : Nat) : Int) = m at hr4 hr5; replace hP5 := Lib.hid hP5; replace hb5 := Lib.hid hb5; go_wp2; go_ret; exact ⟨_, _, rfl, hP5.out.choose_spec, hb5.out⟩)
      | (obtain ⟨w4, w5, hr4, hc4, hr5, hP5, hb5⟩ := flat_fin hZ.out hF2 hF1 (by omega) (by omega) (Nat.le_refl _) h hb2; rw [hs2] at hc4 hP5; generalize ((min l.length 8192 : Nat) : Int) = m at hr4 hr5; replace hP5 := Lib.hid hP5; replace hb5 := Lib.hid hb5; go_wp2; go_ret; exact ⟨_, _, rfl, hP5.out.choose_spec, hb5.out⟩)
  refine AllReadyH.cons (o := { dst := some 5, op := Go.Op.makeSlice 22 (Go.Operand.const (Go.Value.int Go.IntKind.i64 8192)) (Go.Operand.const (Go.Value.int Go.IntKind.i64 8192)), type := 22, pos := "ref.go:18", after := #[], guard := none }) rfl (fun K hK => ?_) ?_
  ·
    go_simp
    refine hK.out _ _ ?_ (fun hHeld2 => ?_)
    · (try dsimp only); (try exact trivial)
    clear hK K hHeld
    have hHeld := hHeld2
    clear hHeld2
    try simp only [Act.put, List.setIfInBounds_toArray, List.set_cons_zero, List.set_cons_succ]
    refine wpAnyH_ready (rs := [0]) (by kernel_rfl) (by simp) ?_
    refine AllReadyH.cons (o := { dst := some 4, op := Go.Op.makeSlice 22 (Go.Operand.const (Go.Value.int Go.IntKind.i64 8192)) (Go.Operand.const (Go.Value.int Go.IntKind.i64 8192)), type := 22, pos := "ref.go:18", after := #[], guard := none }) rfl (fun K hK => ?_) AllReadyH.nil
    go_simp
    refine hK.out _ _ ?_ (fun hHeld2 => ?_)
    · (try dsimp only); (try exact trivial)
    clear hK K hHeld
    have hHeld := hHeld2
    clear hHeld2
    try simp only [Act.put, List.setIfInBounds_toArray, List.set_cons_zero, List.set_cons_succ]
    refine wpAnyH_take (i := 2) (oi := { dst := some 6, op := Go.Op.build 41 #[(0, Go.Operand.tmp 4), (1, Go.Operand.tmp 5)], type := 41, pos := "ref.go:18", after := #[{ on := 0, ground := Go.Ground.data }, { on := 1, ground := Go.Ground.data }], guard := none }) (v := ?v3) rfl (by kernel_rfl) (by kernel_rfl) (by kernel_rfl) (fun _ _ _ h => h) (Or.inl ⟨by rfl, ?hy3⟩) (by assumption) ?rest3
    case hy3 => (intro w hSw; (try dsimp only at hSw); go_simp <;> with_reducible rfl)
    try simp only [Act.put, List.setIfInBounds_toArray, List.set_cons_zero, List.set_cons_succ]
    refine wpAnyH_ready (rs := [3]) (by kernel_rfl) (by simp) ?_
    refine AllReadyH.cons (o := { dst := some 7, op := Go.Op.box 41 (Go.Operand.tmp 6), type := 26, pos := "ref.go:18", after := #[{ on := 2, ground := Go.Ground.data }], guard := none }) rfl (fun K hK => ?_) AllReadyH.nil
    go_simp
    refine hK.out _ _ ?_ (fun hHeld2 => ?_)
    · (try dsimp only); (try exact trivial)
    clear hK K hHeld
    have hHeld := hHeld2
    clear hHeld2
    try simp only [Act.put, List.setIfInBounds_toArray, List.set_cons_zero, List.set_cons_succ]
    refine wpAnyH_take (i := 4) (oi := { dst := some 3, op := Go.Op.assign (Go.Operand.tmp 7), type := 26, pos := "ref.go:18", after := #[{ on := 3, ground := Go.Ground.data }, { on := 0, ground := Go.Ground.phase }, { on := 1, ground := Go.Ground.phase }, { on := 2, ground := Go.Ground.phase }, { on := 3, ground := Go.Ground.phase }], guard := none }) (v := ?v4) rfl (by kernel_rfl) (by kernel_rfl) (by kernel_rfl) (fun _ _ _ h => h) (Or.inl ⟨by rfl, ?hy4⟩) (by assumption) ?rest4
    case hy4 => (intro w hSw; (try dsimp only at hSw); go_simp <;> with_reducible rfl)
    try simp only [Act.put, List.setIfInBounds_toArray, List.set_cons_zero, List.set_cons_succ]
    refine wpAnyH_done (by kernel_rfl) ?_ _
    refine NoPanic.normal ?_
    first
      | (obtain ⟨w4, w5, hr4, hc4, hr5, hP5, hb5⟩ := flat_fin hZ.out hF1 hF2 (by omega) (Nat.le_refl _) (by omega) h hb2; rw [hs2] at hc4 hP5; generalize ((min l.length 8192 : Nat) : Int) = m at hr4 hr5; replace hP5 := Lib.hid hP5; replace hb5 := Lib.hid hb5; go_wp2; go_ret; exact ⟨_, _, rfl, hP5.out.choose_spec, hb5.out⟩)
      | (obtain ⟨w4, w5, hr4, hc4, hr5, hP5, hb5⟩ := flat_fin hZ.out hF2 hF1 (by omega) (by omega) (Nat.le_refl _) h hb2; rw [hs2] at hc4 hP5; generalize ((min l.length 8192 : Nat) : Int) = m at hr4 hr5; replace hP5 := Lib.hid hP5; replace hb5 := Lib.hid hb5; go_wp2; go_ret; exact ⟨_, _, rfl, hP5.out.choose_spec, hb5.out⟩)
  exact AllReadyH.nil
end Go.Proofs.YtjkpapkjlmglbaaDoor
