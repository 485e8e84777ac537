/- The reference's 'New'; a call on both. -/
import Derived.Test.YtekfceolignihaaDoorS19
namespace Go.Proofs.YtekfceolignihaaDoor
open Go.RowKit
set_option linter.unusedVariables false
set_option linter.unusedSimpArgs false
attribute [local go_sem] cell_set set_set m_undef
attribute [local irreducible] freeW cnt freeL

theorem Pls.swap {W w : World} {K A B C : Kp} (h : Pls W w (((K.and A).and B).and C)) : Pls W w (((K.and C).and B).and A) :=
  h.keep (fun h => ⟨⟨⟨h.1.1.1, h.2⟩, h.1.2⟩, h.1.1.2⟩) (fun k hk => by
    rcases hk with ((hk | hk) | hk) | hk
    · exact .inl (.inl (.inl hk))
    · exact .inr hk
    · exact .inl (.inr hk)
    · exact .inl (.inl (.inr hk)))
theorem Pls.swap2 {W w : World} {K A B : Kp} (h : Pls W w ((K.and A).and B)) : Pls W w ((K.and B).and A) :=
  h.keep (fun h => ⟨⟨h.1.1, h.2⟩, h.1.2⟩) (fun k hk => by
    rcases hk with (hk | hk) | hk
    · exact .inl (.inl hk)
    · exact .inr hk
    · exact .inl (.inr hk))
theorem Pls.mid {W w : World} {K A B : Kp} (h : Pls W w ((K.and A).and B)) : Pls W w (K.and B) :=
  h.keep (fun h => ⟨h.1.1, h.2⟩) (fun k hk => by
    rcases hk with hk | hk
    · exact .inl (.inl hk)
    · exact .inr hk)
/-- Between the middle and the last: the new block goes there. -/
theorem Pls.under {W w : World} {K A B : Kp} (h : Pls W w ((K.and A).and B)) : Pls W w ((K.and B).and A) := h.swap2
theorem Apart.grow {K : Kp} {mb cb fb b : Nat} {c : Array Value} {t : TypeId} (h : Apart K mb cb fb) (hb : mb ≠ b ∧ cb ≠ b ∧ fb ≠ b) : Apart (K.and (.blk b c t)) mb cb fb :=
  ⟨h.1, h.2.1, h.2.2.1, fun e => e.elim h.2.2.2.1 hb.1, fun e => e.elim h.2.2.2.2.1 hb.2.1, fun e => e.elim h.2.2.2.2.2 hb.2.2⟩
theorem ApartR.grow {K : Kp} {rb hb b : Nat} {c : Array Value} {t : TypeId} (h : ApartR K rb hb) (hn : rb ≠ b ∧ hb ≠ b) : ApartR (K.and (.blk b c t)) rb hb :=
  ⟨h.1, fun e => e.elim h.2.1 hn.1, fun e => e.elim h.2.2 hn.2⟩
theorem ApartR.turn {K : Kp} {mb cb fb cc fc rb hb rc : Nat} {C C2 : List Int} {T U R : List Value} {mk : Bool} (ha : Apart K mb cb fb) (h : ApartR (K.and (MapC mb cb fb C cc fc T U mk)) rb hb) : Apart (K.and (RefB rb hb C2 rc R)) mb cb fb := by
  obtain ⟨a1, a2, a3, a4, a5, a6⟩ := ha
  obtain ⟨b1, b2, b3⟩ := h
  refine ⟨a1, a2, a3, ?_, ?_, ?_⟩
  · rintro (e | e | e)
    · exact a4 e
    · exact b3 (.inr (.inr (Eq.symm e)))
    · exact b2 (.inr (.inr (Eq.symm e)))
  · rintro (e | e | e)
    · exact a5 e
    · exact b3 (.inr (.inl (.inl (Eq.symm e))))
    · exact b2 (.inr (.inl (.inl (Eq.symm e))))
  · rintro (e | e | e)
    · exact a6 e
    · exact b3 (.inr (.inl (.inr (Eq.symm e))))
    · exact b2 (.inr (.inl (.inr (Eq.symm e))))
def actC (C : List Int) (d n : Int) : List Int := if d = 0 then holdC C n else if d = 1 then dropC C n else if d = 2 then takeC C else C
theorem actC_len (C : List Int) (d n : Int) : (actC C d n).length = C.length := by
  unfold actC
  split
  · exact holdC_len C n
  · split
    · exact dropC_len C n
    · split
      · exact takeC_len C
      · rfl
theorem Good.act {b : Int} {C : List Int} (h : Good b C) (hb : 0 ≤ b) (d n : Int) : Good (b + 1) (actC C d n) := by
  unfold actC
  split
  · exact h.hold n
  · split
    · exact h.drop n
    · split
      · exact h.take hb
      · exact h.mono (by omega)
theorem takeR_form (C : List Int) : ∃ x e : Int, takeR C = .tuple #[.int .i64 x, .int .i64 e] := by
  unfold takeR; split <;> exact ⟨_, _, rfl⟩
set_option maxHeartbeats 1000000 in
theorem rNew {W w : World} {K : Kp} (h : Pls W w K) (s : Int) (n : Nat) (hn : (n : Int) = min (max s 0) 2000) :
    Calls Tryd.prog 14 #[.int .i64 s] w fun e w' => ∃ rb hb, e = .returned (.pointer (some ⟨rb, 0, none⟩)) ∧ ApartR K rb hb ∧ Pls W w' (K.and (RefB rb hb (List.replicate n 0) n [])) := by
  obtain ⟨m, hm⟩ : ∃ m : Int, (if s < 0 then (0 : Int) else s) = m := ⟨_, rfl⟩
  have hmn : (if 2000 < m then (2000 : Int) else m) = (n : Int) := by
    rw [hn, ← hm]
    split <;> split <;> omega
  have hn2 : n ≤ 2000 := by omega
  have hI := fun w9 => madeI w9 n (by omega)
  clear hn
  have hS := (h.new (ints (List.replicate n 0)).toArray 3).new #[.slice (some ⟨w.heap.size, 0, none⟩) n n] 52
  simp only [World.size_alloc] at hS
  have hap : ApartR K (w.heap.size + 1) w.heap.size := ⟨by omega, fun e => by have := h.slt e; omega, fun e => by have := h.slt e; omega⟩
  have hS2 : Pls W _ (K.and (RefB (w.heap.size + 1) w.heap.size (List.replicate n 0) n [])) := hS.keep (fun h => ⟨h.1.1, by rw [List.append_nil]; exact h.1.2, by rw [List.length_replicate]; exact h.2⟩) (fun k hk => by
    rcases hk with hk | (hk | hk)
    · exact .inl (.inl hk)
    · exact .inl (.inr hk)
    · exact .inr hk)
  clear hS
  replace h := Lib.hid h
  go_enter Tryd.func14, Tryd.ntmps14
  go_wp2
  go_ret
  exact ⟨_, _, rfl, hap, hS2⟩
set_option maxHeartbeats 4000000 in
theorem wAct {W w : World} {K : Kp} {mb cb fb cc fc rb hb rc : Nat} {C : List Int} {T U R : List Value} {mk : Bool} (h : Pls W w ((K.and (RefB rb hb C rc R)).and (MapC mb cb fb C cc fc T U mk)))
    (ha : Apart K mb cb fb) (har : ApartR (K.and (MapC mb cb fb C cc fc T U mk)) rb hb) (hT : TabAt 0 Lib.deBruijn64tab w) (hn : C.length ≤ 1000000) {b : Int} (hg : Good b C) (hb1 : b ≤ 9223372036854775806) (d n : Int) :
    Calls Tryd.prog 15 #[.pointer (some ⟨mb, 0, none⟩), .pointer (some ⟨rb, 0, none⟩), .agg #[.int .i64 d, .int .i64 n]] w fun e w' => e = .returned (.bool true) ∧ Pls W w' ((K.and (RefB rb hb (actC C d n) rc R)).and (MapC mb cb fb (actC C d n) cc fc T U mk)) := by
  have ha2 := ApartR.turn (C2 := C) (rc := rc) (R := R) ha har
  have hS0 := h.new #[.int .i64 d, .int .i64 n] 27
  have hT2 := Lib.hid (TabAt.below hT (bel_alloc (Below.refl w.heap.size w) (.cells #[.int .i64 d, .int .i64 n] 27)))
  have ha3 : Apart ((K.and (RefB rb hb C rc R)).and (.blk w.heap.size #[.int .i64 d, .int .i64 n] 27)) mb cb fb := ha2.grow ⟨by have := h.slt (k := mb) (.inr (.inr rfl)); omega, by have := h.slt (k := cb) (.inr (.inl (.inl rfl))); omega, by have := h.slt (k := fb) (.inr (.inl (.inr rfl))); omega⟩
  have hr3 : ApartR ((K.and (MapC mb cb fb C cc fc T U mk)).and (.blk w.heap.size #[.int .i64 d, .int .i64 n] 27)) rb hb := har.grow ⟨by have := h.slt (k := rb) (.inl (.inr (.inr rfl))); omega, by have := h.slt (k := hb) (.inl (.inr (.inl rfl))); omega⟩
  have hS : Pls W _ (((K.and (RefB rb hb C rc R)).and (.blk w.heap.size #[.int .i64 d, .int .i64 n] 27)).and (MapC mb cb fb C cc fc T U mk)) := Pls.swap2 hS0
  clear hS0 ha2 ha har hT h
  have hout : ∀ (w9 : World) (b5 : Nat) (C9 : List Int), Pls W w9 (((K.and (RefB rb hb C9 rc R)).and (.blk b5 #[.int .i64 d, .int .i64 n] 27)).and (MapC mb cb fb C9 cc fc T U mk)) → Pls W w9 ((K.and (RefB rb hb C9 rc R)).and (MapC mb cb fb C9 cc fc T U mk)) := fun w9 b5 C9 h => Pls.mid h
  obtain ⟨C9, hC9⟩ : ∃ C9, C9 = actC C d n := ⟨_, rfl⟩
  rw [← hC9]
  go_enter Tryd.func15, Tryd.ntmps15
  go_upto_region 1 with fail
  obtain ⟨b5, hb5⟩ : ∃ b5, b5 = w.heap.size := ⟨_, rfl⟩
  obtain ⟨w5, hw5⟩ : ∃ w5, w5 = w.alloc (.cells #[.int .i64 d, .int .i64 n] 27) := ⟨_, rfl⟩
  rw [← hw5] at hS hT2 ⊢
  rw [← hb5] at hS ha3 hr3 ⊢
  clear hw5 hb5
  have y0 : w5.cell? ⟨b5, 0, none⟩ = some (.int .i64 d) := Blk.cell hS.fact.1.2 0
  have y1 : w5.cell? ⟨b5, 1, none⟩ = some (.int .i64 n) := Blk.cell hS.fact.1.2 1
  by_cases d0 : d = 0
  · have e0 : (d == 0) = true := by simp; exact d0
    obtain rfl : C9 = holdC C n := by rw [hC9]; unfold actC; rw [if_pos d0]
    clear d0 hC9
    go_upto_region 3 with fail
    refine wp_region_noPanic ?_
    refine wp_region_held_drew (S := (fun w' => w'.cell? ⟨b5, 1, none⟩ = some (.int .i64 n))) (by kernel_rfl) ?_ (fun hHeld => ?_)
    · (try dsimp only); exact y1
    refine wpAnyH_take (i := 0) (oi := { dst := some 15, op := Go.Op.move (Go.Operand.tmp 0), type := 24, pos := "law.go:34", after := #[], guard := none }) (v := ?v1) rfl (by kernel_rfl) (by kernel_rfl) (by kernel_rfl) (fun _ _ _ h => h) (Or.inl ⟨by rfl, ?hy1⟩) (by assumption) ?rest1
    case hy1 => (intro w hSw; (try dsimp only at hSw); have y1 := hSw; go_simp <;> with_reducible rfl)
    try simp only [Act.put, List.setIfInBounds_toArray, List.set_cons_zero, List.set_cons_succ]
    refine wpAnyH_take (i := 1) (oi := { dst := some 16, op := Go.Op.fieldAddr 27 (Go.Operand.tmp 5) 1, type := 0, pos := "law.go:34", after := #[], guard := none }) (v := ?v2) rfl (by kernel_rfl) (by kernel_rfl) (by kernel_rfl) (fun _ _ _ h => h) (Or.inl ⟨by rfl, ?hy2⟩) (by assumption) ?rest2
    case hy2 => (intro w hSw; (try dsimp only at hSw); have y1 := hSw; go_simp <;> with_reducible rfl)
    try simp only [Act.put, List.setIfInBounds_toArray, List.set_cons_zero, List.set_cons_succ]
    refine wpAnyH_take (i := 2) (oi := { dst := some 17, op := Go.Op.load 3 (Go.Operand.tmp 16), type := 3, pos := "law.go:34", after := #[{ on := 1, ground := Go.Ground.data }], guard := none }) (v := ?v3) rfl (by kernel_rfl) (by kernel_rfl) (by kernel_rfl) (fun _ _ _ h => h) (Or.inl ⟨by rfl, ?hy3⟩) (by assumption) ?rest3
    case hy3 => (intro w hSw; (try dsimp only at hSw); have y1 := hSw; go_simp <;> with_reducible rfl)
    try simp only [Act.put, List.setIfInBounds_toArray, List.set_cons_zero, List.set_cons_succ]
    refine wpAnyH_take (i := 4) (oi := { dst := some 19, op := Go.Op.move (Go.Operand.tmp 1), type := 36, pos := "law.go:34", after := #[], guard := none }) (v := ?v4) rfl (by kernel_rfl) (by kernel_rfl) (by kernel_rfl) (fun _ _ _ h => h) (Or.inl ⟨by rfl, ?hy4⟩) (by assumption) ?rest4
    case hy4 => (intro w hSw; (try dsimp only at hSw); have y1 := hSw; go_simp <;> with_reducible rfl)
    try simp only [Act.put, List.setIfInBounds_toArray, List.set_cons_zero, List.set_cons_succ]
    refine wpAnyH_take (i := 5) (oi := { dst := some 20, op := Go.Op.fieldAddr 27 (Go.Operand.tmp 5) 1, type := 0, pos := "law.go:34", after := #[], guard := none }) (v := ?v5) rfl (by kernel_rfl) (by kernel_rfl) (by kernel_rfl) (fun _ _ _ h => h) (Or.inl ⟨by rfl, ?hy5⟩) (by assumption) ?rest5
    case hy5 => (intro w hSw; (try dsimp only at hSw); have y1 := hSw; go_simp <;> with_reducible rfl)
    try simp only [Act.put, List.setIfInBounds_toArray, List.set_cons_zero, List.set_cons_succ]
    refine wpAnyH_take (i := 6) (oi := { dst := some 21, op := Go.Op.load 3 (Go.Operand.tmp 20), type := 3, pos := "law.go:34", after := #[{ on := 5, ground := Go.Ground.data }], guard := none }) (v := ?v6) rfl (by kernel_rfl) (by kernel_rfl) (by kernel_rfl) (fun _ _ _ h => h) (Or.inl ⟨by rfl, ?hy6⟩) (by assumption) ?rest6
    case hy6 => (intro w hSw; (try dsimp only at hSw); have y1 := hSw; go_simp <;> with_reducible rfl)
    try simp only [Act.put, List.setIfInBounds_toArray, List.set_cons_zero, List.set_cons_succ]
    refine wpAnyH_ready (rs := [3]) (by kernel_rfl) (by simp) ?_
    refine AllReadyH.cons (o := { dst := some 18, op := Go.Op.call { callee := Go.Callee.value (Go.Operand.func 9), args := #[Go.Operand.tmp 15, Go.Operand.tmp 17], argTypes := #[24, 3] }, type := 28, pos := "law.go:34", after := #[{ on := 0, ground := Go.Ground.data }, { on := 2, ground := Go.Ground.data }], guard := none }) rfl (fun K hK => ?_) AllReadyH.nil
    go_simp
    go_at_call 9; refine (kHoldF hS.drew ha3 hn hg hb1 n).mono ?_; rintro e w2 ⟨rfl, hS2⟩; have hS3 := Pls.swap hS2; clear hS2; have y1 := Blk.cell (hS3.fact.1.2) 1
    refine hK.out _ _ ?_ (fun hHeld2 => ?_)
    · (try dsimp only); exact y1
    clear hK K hHeld
    have hHeld := hHeld2
    clear hHeld2
    try simp only [Act.put, List.setIfInBounds_toArray, List.set_cons_zero, List.set_cons_succ]
    refine wpAnyH_ready (rs := [7]) (by kernel_rfl) (by simp) ?_
    refine AllReadyH.cons (o := { dst := some 22, op := Go.Op.call { callee := Go.Callee.value (Go.Operand.func 23), args := #[Go.Operand.tmp 19, Go.Operand.tmp 21], argTypes := #[36, 3] }, type := 3, pos := "law.go:34", after := #[{ on := 4, ground := Go.Ground.data }, { on := 6, ground := Go.Ground.data }, { on := 3, ground := Go.Ground.chain }], guard := none }) rfl (fun K hK => ?_) AllReadyH.nil
    go_simp
    go_at_call 23; refine (rHoldF hS3 hr3 hg hb1 n).mono ?_; rintro e w3 ⟨rfl, hS4⟩; have hS5 := Pls.swap hS4; clear hS4; have y1 := Blk.cell (hS5.fact.1.2) 1
    refine hK.out _ _ ?_ (fun hHeld2 => ?_)
    · (try dsimp only); exact y1
    clear hK K hHeld
    have hHeld := hHeld2
    clear hHeld2
    try simp only [Act.put, List.setIfInBounds_toArray, List.set_cons_zero, List.set_cons_succ]
    refine wpAnyH_take (i := 8) (oi := { dst := some 23, op := Go.Op.binOp Go.BinOp.eql 3 (Go.Operand.tmp 18) (Go.Operand.tmp 22) 3, type := 4, pos := "law.go:34", after := #[{ on := 3, ground := Go.Ground.data }, { on := 7, ground := Go.Ground.data }], guard := none }) (v := ?v7) rfl (by kernel_rfl) (by kernel_rfl) (by kernel_rfl) (fun _ _ _ h => h) (Or.inl ⟨by rfl, ?hy7⟩) (by assumption) ?rest7
    case hy7 => (intro w hSw; (try dsimp only at hSw); have y1 := hSw; go_simp <;> with_reducible rfl)
    try simp only [Act.put, List.setIfInBounds_toArray, List.set_cons_zero, List.set_cons_succ]
    refine wpAnyH_take (i := 9) (oi := { dst := some 6, op := Go.Op.assign (Go.Operand.tmp 23), type := 4, pos := "law.go:34", after := #[{ on := 8, ground := Go.Ground.data }, { on := 7, ground := Go.Ground.chain }, { on := 0, ground := Go.Ground.phase }, { on := 1, ground := Go.Ground.phase }, { on := 2, ground := Go.Ground.phase }, { on := 3, ground := Go.Ground.phase }, { on := 4, ground := Go.Ground.phase }, { on := 5, ground := Go.Ground.phase }, { on := 6, ground := Go.Ground.phase }, { on := 7, ground := Go.Ground.phase }, { on := 8, ground := Go.Ground.phase }], guard := none }) (v := ?v8) rfl (by kernel_rfl) (by kernel_rfl) (by kernel_rfl) (fun _ _ _ h => h) (Or.inl ⟨by rfl, ?hy8⟩) (by assumption) ?rest8
    case hy8 => (intro w hSw; (try dsimp only at hSw); have y1 := hSw; go_simp <;> with_reducible rfl)
    try simp only [Act.put, List.setIfInBounds_toArray, List.set_cons_zero, List.set_cons_succ]
    refine wpAnyH_done (by kernel_rfl) ?_ _
    refine NoPanic.normal ?_
    go_wp2
    go_ret
    exact ⟨by simp, hout _ _ _ hS5⟩
  · have e0 : (d == 0) = false := by simp; exact d0
    by_cases d1 : d = 1
    · have e1 : (d == 1) = true := by simp; exact d1
      obtain rfl : C9 = dropC C n := by rw [hC9]; unfold actC; rw [if_neg d0, if_pos d1]
      clear d0 d1 hC9
      go_upto_region 5 with fail
      refine wp_region_noPanic ?_
      refine wp_region_held_drew (S := (fun w' => w'.cell? ⟨b5, 1, none⟩ = some (.int .i64 n))) (by kernel_rfl) ?_ (fun hHeld => ?_)
      · (try dsimp only); exact y1
      refine wpAnyH_take (i := 0) (oi := { dst := some 26, op := Go.Op.move (Go.Operand.tmp 0), type := 24, pos := "law.go:36", after := #[], guard := none }) (v := ?v9) rfl (by kernel_rfl) (by kernel_rfl) (by kernel_rfl) (fun _ _ _ h => h) (Or.inl ⟨by rfl, ?hy9⟩) (by assumption) ?rest9
      case hy9 => (intro w hSw; (try dsimp only at hSw); have y1 := hSw; go_simp <;> with_reducible rfl)
      try simp only [Act.put, List.setIfInBounds_toArray, List.set_cons_zero, List.set_cons_succ]
      refine wpAnyH_take (i := 1) (oi := { dst := some 27, op := Go.Op.fieldAddr 27 (Go.Operand.tmp 5) 1, type := 0, pos := "law.go:36", after := #[], guard := none }) (v := ?v10) rfl (by kernel_rfl) (by kernel_rfl) (by kernel_rfl) (fun _ _ _ h => h) (Or.inl ⟨by rfl, ?hy10⟩) (by assumption) ?rest10
      case hy10 => (intro w hSw; (try dsimp only at hSw); have y1 := hSw; go_simp <;> with_reducible rfl)
      try simp only [Act.put, List.setIfInBounds_toArray, List.set_cons_zero, List.set_cons_succ]
      refine wpAnyH_take (i := 2) (oi := { dst := some 28, op := Go.Op.load 3 (Go.Operand.tmp 27), type := 3, pos := "law.go:36", after := #[{ on := 1, ground := Go.Ground.data }], guard := none }) (v := ?v11) rfl (by kernel_rfl) (by kernel_rfl) (by kernel_rfl) (fun _ _ _ h => h) (Or.inl ⟨by rfl, ?hy11⟩) (by assumption) ?rest11
      case hy11 => (intro w hSw; (try dsimp only at hSw); have y1 := hSw; go_simp <;> with_reducible rfl)
      try simp only [Act.put, List.setIfInBounds_toArray, List.set_cons_zero, List.set_cons_succ]
      refine wpAnyH_take (i := 4) (oi := { dst := some 30, op := Go.Op.move (Go.Operand.tmp 1), type := 36, pos := "law.go:36", after := #[], guard := none }) (v := ?v12) rfl (by kernel_rfl) (by kernel_rfl) (by kernel_rfl) (fun _ _ _ h => h) (Or.inl ⟨by rfl, ?hy12⟩) (by assumption) ?rest12
      case hy12 => (intro w hSw; (try dsimp only at hSw); have y1 := hSw; go_simp <;> with_reducible rfl)
      try simp only [Act.put, List.setIfInBounds_toArray, List.set_cons_zero, List.set_cons_succ]
      refine wpAnyH_take (i := 5) (oi := { dst := some 31, op := Go.Op.fieldAddr 27 (Go.Operand.tmp 5) 1, type := 0, pos := "law.go:36", after := #[], guard := none }) (v := ?v13) rfl (by kernel_rfl) (by kernel_rfl) (by kernel_rfl) (fun _ _ _ h => h) (Or.inl ⟨by rfl, ?hy13⟩) (by assumption) ?rest13
      case hy13 => (intro w hSw; (try dsimp only at hSw); have y1 := hSw; go_simp <;> with_reducible rfl)
      try simp only [Act.put, List.setIfInBounds_toArray, List.set_cons_zero, List.set_cons_succ]
      refine wpAnyH_take (i := 6) (oi := { dst := some 32, op := Go.Op.load 3 (Go.Operand.tmp 31), type := 3, pos := "law.go:36", after := #[{ on := 5, ground := Go.Ground.data }], guard := none }) (v := ?v14) rfl (by kernel_rfl) (by kernel_rfl) (by kernel_rfl) (fun _ _ _ h => h) (Or.inl ⟨by rfl, ?hy14⟩) (by assumption) ?rest14
      case hy14 => (intro w hSw; (try dsimp only at hSw); have y1 := hSw; go_simp <;> with_reducible rfl)
      try simp only [Act.put, List.setIfInBounds_toArray, List.set_cons_zero, List.set_cons_succ]
      refine wpAnyH_ready (rs := [3]) (by kernel_rfl) (by simp) ?_
      refine AllReadyH.cons (o := { dst := some 29, op := Go.Op.call { callee := Go.Callee.value (Go.Operand.func 10), args := #[Go.Operand.tmp 26, Go.Operand.tmp 28], argTypes := #[24, 3] }, type := 28, pos := "law.go:36", after := #[{ on := 0, ground := Go.Ground.data }, { on := 2, ground := Go.Ground.data }], guard := none }) rfl (fun K hK => ?_) AllReadyH.nil
      go_simp
      go_at_call 10; refine (kDropF hS.drew ha3 hn hg hb1 n).mono ?_; rintro e w2 ⟨rfl, hS2⟩; have hS3 := Pls.swap hS2; clear hS2; have y1 := Blk.cell (hS3.fact.1.2) 1
      refine hK.out _ _ ?_ (fun hHeld2 => ?_)
      · (try dsimp only); exact y1
      clear hK K hHeld
      have hHeld := hHeld2
      clear hHeld2
      try simp only [Act.put, List.setIfInBounds_toArray, List.set_cons_zero, List.set_cons_succ]
      refine wpAnyH_ready (rs := [7]) (by kernel_rfl) (by simp) ?_
      refine AllReadyH.cons (o := { dst := some 33, op := Go.Op.call { callee := Go.Callee.value (Go.Operand.func 24), args := #[Go.Operand.tmp 30, Go.Operand.tmp 32], argTypes := #[36, 3] }, type := 3, pos := "law.go:36", after := #[{ on := 4, ground := Go.Ground.data }, { on := 6, ground := Go.Ground.data }, { on := 3, ground := Go.Ground.chain }], guard := none }) rfl (fun K hK => ?_) AllReadyH.nil
      go_simp
      go_at_call 24; refine (rDropF hS3 hr3 hg hb1 n).mono ?_; rintro e w3 ⟨rfl, hS4⟩; have hS5 := Pls.swap hS4; clear hS4; have y1 := Blk.cell (hS5.fact.1.2) 1
      refine hK.out _ _ ?_ (fun hHeld2 => ?_)
      · (try dsimp only); exact y1
      clear hK K hHeld
      have hHeld := hHeld2
      clear hHeld2
      try simp only [Act.put, List.setIfInBounds_toArray, List.set_cons_zero, List.set_cons_succ]
      refine wpAnyH_take (i := 8) (oi := { dst := some 34, op := Go.Op.binOp Go.BinOp.eql 3 (Go.Operand.tmp 29) (Go.Operand.tmp 33) 3, type := 4, pos := "law.go:36", after := #[{ on := 3, ground := Go.Ground.data }, { on := 7, ground := Go.Ground.data }], guard := none }) (v := ?v15) rfl (by kernel_rfl) (by kernel_rfl) (by kernel_rfl) (fun _ _ _ h => h) (Or.inl ⟨by rfl, ?hy15⟩) (by assumption) ?rest15
      case hy15 => (intro w hSw; (try dsimp only at hSw); have y1 := hSw; go_simp <;> with_reducible rfl)
      try simp only [Act.put, List.setIfInBounds_toArray, List.set_cons_zero, List.set_cons_succ]
      refine wpAnyH_take (i := 9) (oi := { dst := some 6, op := Go.Op.assign (Go.Operand.tmp 34), type := 4, pos := "law.go:36", after := #[{ on := 8, ground := Go.Ground.data }, { on := 7, ground := Go.Ground.chain }, { on := 0, ground := Go.Ground.phase }, { on := 1, ground := Go.Ground.phase }, { on := 2, ground := Go.Ground.phase }, { on := 3, ground := Go.Ground.phase }, { on := 4, ground := Go.Ground.phase }, { on := 5, ground := Go.Ground.phase }, { on := 6, ground := Go.Ground.phase }, { on := 7, ground := Go.Ground.phase }, { on := 8, ground := Go.Ground.phase }], guard := none }) (v := ?v16) rfl (by kernel_rfl) (by kernel_rfl) (by kernel_rfl) (fun _ _ _ h => h) (Or.inl ⟨by rfl, ?hy16⟩) (by assumption) ?rest16
      case hy16 => (intro w hSw; (try dsimp only at hSw); have y1 := hSw; go_simp <;> with_reducible rfl)
      try simp only [Act.put, List.setIfInBounds_toArray, List.set_cons_zero, List.set_cons_succ]
      refine wpAnyH_done (by kernel_rfl) ?_ _
      refine NoPanic.normal ?_
      go_wp2
      go_ret
      exact ⟨by simp, hout _ _ _ hS5⟩

    · have e1 : (d == 1) = false := by simp; exact d1
      by_cases d2 : d = 2
      · have e2 : (d == 2) = true := by simp; exact d2
        obtain rfl : C9 = takeC C := by rw [hC9]; unfold actC; rw [if_neg d0, if_neg d1, if_pos d2]
        obtain ⟨x, er, hx⟩ := takeR_form C
        clear d0 d1 d2 hC9
        go_upto_region 8 with (go_at_call 11; refine (kTakeF hS ha3 hT2.out hn).mono ?_; rintro e w2 ⟨rfl, hS2⟩; rw [hx]; have hS3 := Pls.swap hS2; clear hS2)
        go_upto_region 9 with (go_at_call 25; refine (rTakeF hS3 hr3 hn).mono ?_; rintro e w3 ⟨rfl, hS4⟩; rw [hx]; have hS5 := Pls.swap hS4; clear hS4)
        go_wp2
        go_ret
        exact ⟨by simp, hout _ _ _ hS5⟩
      · have e2 : (d == 2) = false := by simp; exact d2
        obtain rfl : C9 = C := by rw [hC9]; unfold actC; rw [if_neg d0, if_neg d1, if_neg d2]
        clear d0 d1 d2 hC9
        go_upto_region 10 with fail
        refine wp_region_noPanic ?_
        refine wp_region_held_drew (S := (fun w' => w'.cell? ⟨b5, 1, none⟩ = some (.int .i64 n))) (by kernel_rfl) ?_ (fun hHeld => ?_)
        · (try dsimp only); exact y1
        refine wpAnyH_take (i := 0) (oi := { dst := some 55, op := Go.Op.move (Go.Operand.tmp 0), type := 24, pos := "law.go:42", after := #[], guard := none }) (v := ?v17) rfl (by kernel_rfl) (by kernel_rfl) (by kernel_rfl) (fun _ _ _ h => h) (Or.inl ⟨by rfl, ?hy17⟩) (by assumption) ?rest17
        case hy17 => (intro w hSw; (try dsimp only at hSw); have y1 := hSw; go_simp <;> with_reducible rfl)
        try simp only [Act.put, List.setIfInBounds_toArray, List.set_cons_zero, List.set_cons_succ]
        refine wpAnyH_take (i := 1) (oi := { dst := some 56, op := Go.Op.fieldAddr 27 (Go.Operand.tmp 5) 1, type := 0, pos := "law.go:42", after := #[], guard := none }) (v := ?v18) rfl (by kernel_rfl) (by kernel_rfl) (by kernel_rfl) (fun _ _ _ h => h) (Or.inl ⟨by rfl, ?hy18⟩) (by assumption) ?rest18
        case hy18 => (intro w hSw; (try dsimp only at hSw); have y1 := hSw; go_simp <;> with_reducible rfl)
        try simp only [Act.put, List.setIfInBounds_toArray, List.set_cons_zero, List.set_cons_succ]
        refine wpAnyH_take (i := 2) (oi := { dst := some 57, op := Go.Op.load 3 (Go.Operand.tmp 56), type := 3, pos := "law.go:42", after := #[{ on := 1, ground := Go.Ground.data }], guard := none }) (v := ?v19) rfl (by kernel_rfl) (by kernel_rfl) (by kernel_rfl) (fun _ _ _ h => h) (Or.inl ⟨by rfl, ?hy19⟩) (by assumption) ?rest19
        case hy19 => (intro w hSw; (try dsimp only at hSw); have y1 := hSw; go_simp <;> with_reducible rfl)
        try simp only [Act.put, List.setIfInBounds_toArray, List.set_cons_zero, List.set_cons_succ]
        refine wpAnyH_take (i := 4) (oi := { dst := some 59, op := Go.Op.move (Go.Operand.tmp 1), type := 36, pos := "law.go:42", after := #[], guard := none }) (v := ?v20) rfl (by kernel_rfl) (by kernel_rfl) (by kernel_rfl) (fun _ _ _ h => h) (Or.inl ⟨by rfl, ?hy20⟩) (by assumption) ?rest20
        case hy20 => (intro w hSw; (try dsimp only at hSw); have y1 := hSw; go_simp <;> with_reducible rfl)
        try simp only [Act.put, List.setIfInBounds_toArray, List.set_cons_zero, List.set_cons_succ]
        refine wpAnyH_take (i := 5) (oi := { dst := some 60, op := Go.Op.fieldAddr 27 (Go.Operand.tmp 5) 1, type := 0, pos := "law.go:42", after := #[], guard := none }) (v := ?v21) rfl (by kernel_rfl) (by kernel_rfl) (by kernel_rfl) (fun _ _ _ h => h) (Or.inl ⟨by rfl, ?hy21⟩) (by assumption) ?rest21
        case hy21 => (intro w hSw; (try dsimp only at hSw); have y1 := hSw; go_simp <;> with_reducible rfl)
        try simp only [Act.put, List.setIfInBounds_toArray, List.set_cons_zero, List.set_cons_succ]
        refine wpAnyH_take (i := 6) (oi := { dst := some 61, op := Go.Op.load 3 (Go.Operand.tmp 60), type := 3, pos := "law.go:42", after := #[{ on := 5, ground := Go.Ground.data }], guard := none }) (v := ?v22) rfl (by kernel_rfl) (by kernel_rfl) (by kernel_rfl) (fun _ _ _ h => h) (Or.inl ⟨by rfl, ?hy22⟩) (by assumption) ?rest22
        case hy22 => (intro w hSw; (try dsimp only at hSw); have y1 := hSw; go_simp <;> with_reducible rfl)
        try simp only [Act.put, List.setIfInBounds_toArray, List.set_cons_zero, List.set_cons_succ]
        refine wpAnyH_ready (rs := [3]) (by kernel_rfl) (by simp) ?_
        refine AllReadyH.cons (o := { dst := some 58, op := Go.Op.call { callee := Go.Callee.value (Go.Operand.func 18), args := #[Go.Operand.tmp 55, Go.Operand.tmp 57], argTypes := #[24, 3] }, type := 3, pos := "law.go:42", after := #[{ on := 0, ground := Go.Ground.data }, { on := 2, ground := Go.Ground.data }], guard := none }) rfl (fun K hK => ?_) AllReadyH.nil
        go_simp
        go_at_call 18; refine (kCountF hS.drew.fact.2 n).mono ?_; rintro e w2 ⟨rfl, rfl⟩
        refine hK.out _ _ ?_ (fun hHeld2 => ?_)
        · (try dsimp only); exact y1
        clear hK K hHeld
        have hHeld := hHeld2
        clear hHeld2
        try simp only [Act.put, List.setIfInBounds_toArray, List.set_cons_zero, List.set_cons_succ]
        refine wpAnyH_ready (rs := [7]) (by kernel_rfl) (by simp) ?_
        refine AllReadyH.cons (o := { dst := some 62, op := Go.Op.call { callee := Go.Callee.value (Go.Operand.func 26), args := #[Go.Operand.tmp 59, Go.Operand.tmp 61], argTypes := #[36, 3] }, type := 3, pos := "law.go:42", after := #[{ on := 4, ground := Go.Ground.data }, { on := 6, ground := Go.Ground.data }, { on := 3, ground := Go.Ground.chain }], guard := none }) rfl (fun K hK => ?_) AllReadyH.nil
        go_simp
        go_at_call 26; refine (rCountF hS.drew.fact.1.1.2 n).mono ?_; rintro e w3 ⟨rfl, rfl⟩
        refine hK.out _ _ ?_ (fun hHeld2 => ?_)
        · (try dsimp only); exact y1
        clear hK K hHeld
        have hHeld := hHeld2
        clear hHeld2
        try simp only [Act.put, List.setIfInBounds_toArray, List.set_cons_zero, List.set_cons_succ]
        refine wpAnyH_take (i := 8) (oi := { dst := some 63, op := Go.Op.binOp Go.BinOp.eql 3 (Go.Operand.tmp 58) (Go.Operand.tmp 62) 3, type := 4, pos := "law.go:42", after := #[{ on := 3, ground := Go.Ground.data }, { on := 7, ground := Go.Ground.data }], guard := none }) (v := ?v23) rfl (by kernel_rfl) (by kernel_rfl) (by kernel_rfl) (fun _ _ _ h => h) (Or.inl ⟨by rfl, ?hy23⟩) (by assumption) ?rest23
        case hy23 => (intro w hSw; (try dsimp only at hSw); have y1 := hSw; go_simp <;> with_reducible rfl)
        try simp only [Act.put, List.setIfInBounds_toArray, List.set_cons_zero, List.set_cons_succ]
        refine wpAnyH_take (i := 9) (oi := { dst := some 6, op := Go.Op.assign (Go.Operand.tmp 63), type := 4, pos := "law.go:42", after := #[{ on := 8, ground := Go.Ground.data }, { on := 7, ground := Go.Ground.chain }, { on := 0, ground := Go.Ground.phase }, { on := 1, ground := Go.Ground.phase }, { on := 2, ground := Go.Ground.phase }, { on := 3, ground := Go.Ground.phase }, { on := 4, ground := Go.Ground.phase }, { on := 5, ground := Go.Ground.phase }, { on := 6, ground := Go.Ground.phase }, { on := 7, ground := Go.Ground.phase }, { on := 8, ground := Go.Ground.phase }], guard := none }) (v := ?v24) rfl (by kernel_rfl) (by kernel_rfl) (by kernel_rfl) (fun _ _ _ h => h) (Or.inl ⟨by rfl, ?hy24⟩) (by assumption) ?rest24
        case hy24 => (intro w hSw; (try dsimp only at hSw); have y1 := hSw; go_simp <;> with_reducible rfl)
        try simp only [Act.put, List.setIfInBounds_toArray, List.set_cons_zero, List.set_cons_succ]
        refine wpAnyH_done (by kernel_rfl) ?_ _
        refine NoPanic.normal ?_
        go_wp2
        go_ret
        exact ⟨by simp, hout _ _ _ hS.drew⟩

end Go.Proofs.YtekfceolignihaaDoor
