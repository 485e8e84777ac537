/- Texts merged: W1 W2. -/
import Derived.Test.YtkcmphjgflbchaaZ6
/- Plans: their state; 'take', 'fill', 'lay', 'open'. -/
namespace Go.Proofs.Ytkcmphjgflbchaa
open Go.RowKit
set_option linter.unusedVariables false
set_option linter.unusedSimpArgs false
attribute [local go_sem] cell_set set_set m_undef

theorem Blk.c7 {w : World} {b : Nat} {x0 x1 x2 x3 x4 x5 x6 : Value} {t : TypeId} (h : Blk w b #[x0, x1, x2, x3, x4, x5, x6] t) : (w.cell? ⟨b, 0, none⟩ = some x0 ∧ w.frozen? ⟨b, 0, none⟩ = false) ∧ (w.cell? ⟨b, 1, none⟩ = some x1 ∧ w.frozen? ⟨b, 1, none⟩ = false) ∧ (w.cell? ⟨b, 2, none⟩ = some x2 ∧ w.frozen? ⟨b, 2, none⟩ = false) ∧ (w.cell? ⟨b, 3, none⟩ = some x3 ∧ w.frozen? ⟨b, 3, none⟩ = false) ∧ (w.cell? ⟨b, 4, none⟩ = some x4 ∧ w.frozen? ⟨b, 4, none⟩ = false) ∧ (w.cell? ⟨b, 5, none⟩ = some x5 ∧ w.frozen? ⟨b, 5, none⟩ = false) ∧ (w.cell? ⟨b, 6, none⟩ = some x6 ∧ w.frozen? ⟨b, 6, none⟩ = false) :=
  ⟨⟨h.cell 0, h.frozen 0⟩, ⟨h.cell 1, h.frozen 1⟩, ⟨h.cell 2, h.frozen 2⟩, ⟨h.cell 3, h.frozen 3⟩, ⟨h.cell 4, h.frozen 4⟩, ⟨h.cell 5, h.frozen 5⟩, ⟨h.cell 6, h.frozen 6⟩⟩
/-- What is thrown. -/
abbrev Thr (n : Int) : Ending := .panicked [{ v := .iface 60 (.agg #[.int .i64 n]), recovered := false }]
theorem must_ok (w : World) (n : Int) : Calls Try.prog 27 #[.bool true, .int .i64 n] w fun e w' => e = .returned (.tuple #[]) ∧ w = w' := by
  go_enter Try.func27, Try.ntmps27
  go_wp2
  (try go_end0)
  exact ⟨rfl, rfl⟩
theorem must_no (w : World) (n : Int) : Calls Try.prog 27 #[.bool false, .int .i64 n] w fun e w' => e = Thr n ∧ w = w' := by
  go_enter Try.func27, Try.ntmps27
  go_wp2
  (try go_end0)
  first | exact ⟨rfl, rfl, rfl⟩ | exact ⟨rfl, rfl⟩
/-- The walk's state with a plan. -/
def PlK (mb pb : Nat) (here tk : Int) (cv : Value) (cl : List Int) (lv : Value) (ll : List Int) (hole tgt : Int) : Kp := ((Kp.vs 1 cv cl.length (ic cl)).and (Kp.vs 1 lv ll.length (ic ll))).and (.blk pb #[.pointer (some ⟨mb, 0, none⟩), .int .i64 here, .int .i64 tk, cv, lv, .int .i64 hole, .int .i64 tgt] 70)
def PlS (W w : World) (B mb : Nat) (M : List UInt8) (O0 : Nat → Prop) (pb : Nat) (here tk : Int) (cl ll : List Int) (hole tgt : Int) : Prop :=
  ∃ cv lv, One W w B mb M O0 (PlK mb pb here tk cv cl lv ll hole tgt) ∧ W.heap.size ≤ pb ∧ (∀ b, cv.ownBlock = some b → W.heap.size ≤ b ∧ b ≠ pb) ∧ (∀ b, lv.ownBlock = some b → W.heap.size ≤ b ∧ b ≠ pb)
theorem PlS.one {W w : World} {B mb : Nat} {M : List UInt8} {O0 : Nat → Prop} {pb : Nat} {here tk hole tgt : Int} {cl ll : List Int} (h : PlS W w B mb M O0 pb here tk cl ll hole tgt) : One W w B mb M O0 .emp := by
  obtain ⟨cv, lv, hS, -⟩ := h
  exact hS.keep fun O h => Keep.emp _ _
theorem PlK.no {mb pb : Nat} {here tk hole tgt : Int} {cv lv : Value} {cl ll : List Int} (h1 : ∀ b, cv.ownBlock = some b → b ≠ pb) (h2 : ∀ b, lv.ownBlock = some b → b ≠ pb) : ¬ ((Kp.vs 1 cv cl.length (ic cl)).and (Kp.vs 1 lv ll.length (ic ll)) : Kp).S pb := fun hj => by
  rcases hj with hj | hj
  · exact h1 pb hj rfl
  · exact h2 pb hj rfl
def takeT (M : List UInt8) (here tk room : Int) : Int := if 0 ≤ tk ∧ tk < depL M 32 256 512 then (if peekV M 32 256 512 tk % 8 = 0 ∧ 1536 ≤ peekV M 32 256 512 tk ∧ peekV M 32 256 512 tk ≤ here - room then 0 else -22) else -4
theorem peekV_isI (M : List UInt8) (n : Int) : isI (peekV M 32 256 512 n) := by
  unfold peekV
  split
  · exact isI_get M _
  · unfold isI; omega
set_option maxRecDepth 100000 in
set_option maxHeartbeats 2000000 in
theorem pTake {W w : World} {B mb : Nat} {M : List UInt8} {O0 : Nat → Prop} {pb : Nat} {here tk hole tgt : Int} {cl ll : List Int} (h : PlS W w B mb M O0 pb here tk cl ll hole tgt) (room : Int) (hr : room = 0 ∨ room = 8) (hh : 1536 ≤ here ∧ here ≤ 5632) (htk : 0 ≤ tk ∧ tk ≤ 2) :
    Calls Try.prog 92 #[.pointer (some ⟨pb, 0, none⟩), .int .i64 room] w fun e w' =>
      if takeT M here tk room = 0 then e = .returned (.int .i64 (peekV M 32 256 512 tk)) ∧ PlS W w' B mb M O0 pb here (tk + 1) cl ll hole tgt else e = Thr (takeT M here tk room) ∧ One W w' B mb M O0 .emp := by
  obtain ⟨cv, lv, hS, hpb, hcv, hlv⟩ := h
  have hno := PlK.no (mb := mb) (here := here) (tk := tk) (hole := hole) (tgt := tgt) (cl := cl) (ll := ll) (fun b hb => (hcv b hb).2) (fun b hb => (hlv b hb).2)
  have hAt := Lib.hid (fun (w9 : World) (O : Nat → Prop) (h : MemP w9 B mb M O) (hb : B ≤ w9.heap.size) => kAt h hb tk (by unfold isI; omega))
  have hai := peekV_isI M tk
  have hpt : peekT M 32 256 512 (-4) tk = if 0 ≤ tk ∧ tk < depL M 32 256 512 then 0 else -4 := rfl
  unfold takeT
  rw [hpt] at hAt
  generalize peekV M 32 256 512 tk = a at *
  generalize depL M 32 256 512 = d at *
  clear hpt
  unfold PlK at hS
  have wk : IntKind.i64.wrap (tk + 1) = tk + 1 := by rw [IntKind.wrap_i64]; omega
  obtain ⟨tk1, htk1⟩ : ∃ tk1, tk1 = tk + 1 := ⟨_, rfl⟩
  have wk2 : IntKind.i64.wrap (tk + 1) = tk1 := by rw [htk1]; exact wk
  rw [← htk1]
  have e7 := and7 a hai
  have wr : IntKind.i64.wrap (here - room) = here - room := by rw [IntKind.wrap_i64]; omega
  obtain ⟨hr2, hhr2⟩ : ∃ hr2, hr2 = here - room := ⟨_, rfl⟩
  have wr2 : IntKind.i64.wrap (here - room) = hr2 := by rw [hhr2]; exact wr
  obtain ⟨r, hrr⟩ : ∃ r, r = a % 8 := ⟨_, rfl⟩
  rw [← hrr] at e7
  rw [← hhr2, ← hrr]
  clear wk wr hai hr
  obtain ⟨y0, y1, y2, y3, y4, y5, y6⟩ := (show Blk w pb _ _ from hS.fact.2).c7
  by_cases c1 : 0 ≤ tk ∧ tk < d
  · rw [if_pos c1] at hAt ⊢
    clear c1 htk hh hhr2 htk1
    have fin : ∀ w3, One W w3 B mb M O0 (((Kp.vs 1 cv cl.length (ic cl)).and (Kp.vs 1 lv ll.length (ic ll))).and (.blk pb #[.pointer (some ⟨mb, 0, none⟩), .int .i64 here, .int .i64 tk1, cv, lv, .int .i64 hole, .int .i64 tgt] 70)) → PlS W w3 B mb M O0 pb here tk1 cl ll hole tgt := fun w3 h3 => ⟨cv, lv, h3, hpb, hcv, hlv⟩
    replace fin := Lib.hid fin
    by_cases g1 : r = 0
    · have t1 : (r == 0) = true := by simp; exact g1
      by_cases g2 : 1536 ≤ a
      · have t2 : ((1536 : Int) ≤ a) = True := eq_true g2
        by_cases g3 : a ≤ hr2
        · have t3 : (a ≤ hr2) = True := eq_true g3
          rw [if_pos (show r = 0 ∧ 1536 ≤ a ∧ a ≤ hr2 from ⟨g1, g2, g3⟩)]
          simp only [if_true]
          clear g1 g2 g3 hrr
          go_enter Try.func92, Try.ntmps92
          go_upto_region 1 with fail
          replace hS := hS.drew
          refine wp_region_noPanic ?_
          refine wp_region_held_drew (S := (fun w9 => Blk w9 pb #[.pointer (some ⟨mb, 0, none⟩), .int .i64 here, .int .i64 tk, cv, lv, .int .i64 hole, .int .i64 tgt] 70)) (by kernel_rfl) ?_ (fun hHeld => ?_)
          · (try dsimp only); exact hS.fact.2
          refine wpAnyH_take (i := 0) (oi := { dst := some 8, op := Go.Op.move (Go.Operand.tmp 0), type := 67, pos := "control.go:36", after := #[], guard := none }) (v := ?v19) rfl (by kernel_rfl) (by kernel_rfl) (by kernel_rfl) (fun _ _ _ h => h) (Or.inl ⟨by rfl, ?hy19⟩) (by assumption) ?rest19
          case hy19 => (intro w hSw; (try dsimp only at hSw); obtain ⟨y0, y1, y2, y3, y4, y5, y6⟩ := (show Blk w pb _ _ from hSw).c7; go_simp <;> with_reducible rfl)
          try simp only [Act.put, List.setIfInBounds_toArray, List.set_cons_zero, List.set_cons_succ]
          refine wpAnyH_take (i := 1) (oi := { dst := some 9, op := Go.Op.nilCheck (Go.Operand.tmp 8), type := 0, pos := "control.go:36", after := #[{ on := 0, ground := Go.Ground.data }], guard := none }) (v := ?v20) rfl (by kernel_rfl) (by kernel_rfl) (by kernel_rfl) (fun _ _ _ h => h) (Or.inl ⟨by rfl, ?hy20⟩) (by assumption) ?rest20
          case hy20 => (intro w hSw; (try dsimp only at hSw); obtain ⟨y0, y1, y2, y3, y4, y5, y6⟩ := (show Blk w pb _ _ from hSw).c7; go_simp <;> with_reducible rfl)
          try simp only [Act.put, List.setIfInBounds_toArray, List.set_cons_zero, List.set_cons_succ]
          refine wpAnyH_take (i := 2) (oi := { dst := some 10, op := Go.Op.fieldAddr 70 (Go.Operand.tmp 9) 0, type := 0, pos := "control.go:36", after := #[{ on := 1, ground := Go.Ground.data }], guard := none }) (v := ?v21) rfl (by kernel_rfl) (by kernel_rfl) (by kernel_rfl) (fun _ _ _ h => h) (Or.inl ⟨by rfl, ?hy21⟩) (by assumption) ?rest21
          case hy21 => (intro w hSw; (try dsimp only at hSw); obtain ⟨y0, y1, y2, y3, y4, y5, y6⟩ := (show Blk w pb _ _ from hSw).c7; go_simp <;> with_reducible rfl)
          try simp only [Act.put, List.setIfInBounds_toArray, List.set_cons_zero, List.set_cons_succ]
          refine wpAnyH_take (i := 3) (oi := { dst := some 11, op := Go.Op.load 26 (Go.Operand.tmp 10), type := 26, pos := "control.go:36", after := #[{ on := 2, ground := Go.Ground.data }], guard := none }) (v := ?v22) rfl (by kernel_rfl) (by kernel_rfl) (by kernel_rfl) (fun _ _ _ h => h) (Or.inl ⟨by rfl, ?hy22⟩) (by assumption) ?rest22
          case hy22 => (intro w hSw; (try dsimp only at hSw); obtain ⟨y0, y1, y2, y3, y4, y5, y6⟩ := (show Blk w pb _ _ from hSw).c7; go_simp <;> with_reducible rfl)
          try simp only [Act.put, List.setIfInBounds_toArray, List.set_cons_zero, List.set_cons_succ]
          refine wpAnyH_take (i := 4) (oi := { dst := some 12, op := Go.Op.move (Go.Operand.tmp 0), type := 67, pos := "control.go:36", after := #[], guard := none }) (v := ?v23) rfl (by kernel_rfl) (by kernel_rfl) (by kernel_rfl) (fun _ _ _ h => h) (Or.inl ⟨by rfl, ?hy23⟩) (by assumption) ?rest23
          case hy23 => (intro w hSw; (try dsimp only at hSw); obtain ⟨y0, y1, y2, y3, y4, y5, y6⟩ := (show Blk w pb _ _ from hSw).c7; go_simp <;> with_reducible rfl)
          try simp only [Act.put, List.setIfInBounds_toArray, List.set_cons_zero, List.set_cons_succ]
          refine wpAnyH_take (i := 5) (oi := { dst := some 13, op := Go.Op.nilCheck (Go.Operand.tmp 12), type := 0, pos := "control.go:36", after := #[{ on := 4, ground := Go.Ground.data }], guard := none }) (v := ?v24) rfl (by kernel_rfl) (by kernel_rfl) (by kernel_rfl) (fun _ _ _ h => h) (Or.inl ⟨by rfl, ?hy24⟩) (by assumption) ?rest24
          case hy24 => (intro w hSw; (try dsimp only at hSw); obtain ⟨y0, y1, y2, y3, y4, y5, y6⟩ := (show Blk w pb _ _ from hSw).c7; go_simp <;> with_reducible rfl)
          try simp only [Act.put, List.setIfInBounds_toArray, List.set_cons_zero, List.set_cons_succ]
          refine wpAnyH_take (i := 6) (oi := { dst := some 14, op := Go.Op.fieldAddr 70 (Go.Operand.tmp 13) 2, type := 0, pos := "control.go:36", after := #[{ on := 5, ground := Go.Ground.data }], guard := none }) (v := ?v25) rfl (by kernel_rfl) (by kernel_rfl) (by kernel_rfl) (fun _ _ _ h => h) (Or.inl ⟨by rfl, ?hy25⟩) (by assumption) ?rest25
          case hy25 => (intro w hSw; (try dsimp only at hSw); obtain ⟨y0, y1, y2, y3, y4, y5, y6⟩ := (show Blk w pb _ _ from hSw).c7; go_simp <;> with_reducible rfl)
          try simp only [Act.put, List.setIfInBounds_toArray, List.set_cons_zero, List.set_cons_succ]
          refine wpAnyH_take (i := 7) (oi := { dst := some 15, op := Go.Op.load 3 (Go.Operand.tmp 14), type := 3, pos := "control.go:36", after := #[{ on := 6, ground := Go.Ground.data }], guard := none }) (v := ?v26) rfl (by kernel_rfl) (by kernel_rfl) (by kernel_rfl) (fun _ _ _ h => h) (Or.inl ⟨by rfl, ?hy26⟩) (by assumption) ?rest26
          case hy26 => (intro w hSw; (try dsimp only at hSw); obtain ⟨y0, y1, y2, y3, y4, y5, y6⟩ := (show Blk w pb _ _ from hSw).c7; go_simp <;> with_reducible rfl)
          try simp only [Act.put, List.setIfInBounds_toArray, List.set_cons_zero, List.set_cons_succ]
          refine wpAnyH_ready (rs := [8]) (by kernel_rfl) (by simp) ?_
          refine AllReadyH.cons (o := { dst := some 16, op := Go.Op.call { callee := Go.Callee.value (Go.Operand.func 98), args := #[Go.Operand.tmp 11, Go.Operand.tmp 15], argTypes := #[26, 3] }, type := 74, pos := "control.go:36", after := #[{ on := 3, ground := Go.Ground.data }, { on := 7, ground := Go.Ground.data }], guard := none }) rfl (fun K hK => ?_) AllReadyH.nil
          go_simp
          go_at_call 98; refine (hS.mem (fun O h hb => hAt.out _ O h hb)).mono ?_; rintro e w2 ⟨rfl, hS2⟩; clear hS; have hS := hS2; clear hS2
          refine hK.out _ _ ?_ (fun hHeld2 => ?_)
          · (try dsimp only); exact hS.fact.2
          clear hK K hHeld
          have hHeld := hHeld2
          clear hHeld2
          try simp only [Act.put, List.setIfInBounds_toArray, List.set_cons_zero, List.set_cons_succ]
          refine wpAnyH_take (i := 9) (oi := { dst := some 7, op := Go.Op.move (Go.Operand.tmp 16), type := 74, pos := "control.go:36", after := #[{ on := 8, ground := Go.Ground.data }], guard := none }) (v := ?v27) rfl (by kernel_rfl) (by kernel_rfl) (by kernel_rfl) (fun _ _ _ h => h) (Or.inl ⟨by rfl, ?hy27⟩) (by assumption) ?rest27
          case hy27 => (intro w hSw; (try dsimp only at hSw); obtain ⟨y0, y1, y2, y3, y4, y5, y6⟩ := (show Blk w pb _ _ from hSw).c7; go_simp <;> with_reducible rfl)
          try simp only [Act.put, List.setIfInBounds_toArray, List.set_cons_zero, List.set_cons_succ]
          refine wpAnyH_take (i := 10) (oi := { dst := some 17, op := Go.Op.extract (Go.Operand.tmp 7) 0, type := 2, pos := "control.go:36", after := #[{ on := 9, ground := Go.Ground.data }], guard := none }) (v := ?v28) rfl (by kernel_rfl) (by kernel_rfl) (by kernel_rfl) (fun _ _ _ h => h) (Or.inl ⟨by rfl, ?hy28⟩) (by assumption) ?rest28
          case hy28 => (intro w hSw; (try dsimp only at hSw); obtain ⟨y0, y1, y2, y3, y4, y5, y6⟩ := (show Blk w pb _ _ from hSw).c7; go_simp <;> with_reducible rfl)
          try simp only [Act.put, List.setIfInBounds_toArray, List.set_cons_zero, List.set_cons_succ]
          refine wpAnyH_take (i := 11) (oi := { dst := some 18, op := Go.Op.extract (Go.Operand.tmp 7) 1, type := 3, pos := "control.go:36", after := #[{ on := 9, ground := Go.Ground.data }, { on := 12, ground := Go.Ground.gcOnly Go.Departure.lateStores }], guard := none }) (v := ?v29) rfl (by kernel_rfl) (by kernel_rfl) (by kernel_rfl) (fun _ _ _ h => h) (Or.inl ⟨by rfl, ?hy29⟩) (by assumption) ?rest29
          case hy29 => (intro w hSw; (try dsimp only at hSw); obtain ⟨y0, y1, y2, y3, y4, y5, y6⟩ := (show Blk w pb _ _ from hSw).c7; go_simp <;> with_reducible rfl)
          try simp only [Act.put, List.setIfInBounds_toArray, List.set_cons_zero, List.set_cons_succ]
          refine wpAnyH_take (i := 12) (oi := { dst := some 5, op := Go.Op.assign (Go.Operand.tmp 17), type := 2, pos := "control.go:36", after := #[{ on := 10, ground := Go.Ground.data }, { on := 8, ground := Go.Ground.chain }, { on := 0, ground := Go.Ground.phase }, { on := 1, ground := Go.Ground.phase }, { on := 2, ground := Go.Ground.phase }, { on := 3, ground := Go.Ground.phase }, { on := 4, ground := Go.Ground.phase }, { on := 5, ground := Go.Ground.phase }, { on := 6, ground := Go.Ground.phase }, { on := 7, ground := Go.Ground.phase }, { on := 8, ground := Go.Ground.phase }, { on := 9, ground := Go.Ground.phase }, { on := 10, ground := Go.Ground.phase }, { on := 11, ground := Go.Ground.textOnly Go.Departure.lateStores }], guard := none }) (v := ?v30) rfl (by kernel_rfl) (by kernel_rfl) (by kernel_rfl) (fun _ _ _ h => h) (Or.inl ⟨by rfl, ?hy30⟩) (by assumption) ?rest30
          case hy30 => (intro w hSw; (try dsimp only at hSw); obtain ⟨y0, y1, y2, y3, y4, y5, y6⟩ := (show Blk w pb _ _ from hSw).c7; go_simp <;> with_reducible rfl)
          try simp only [Act.put, List.setIfInBounds_toArray, List.set_cons_zero, List.set_cons_succ]
          refine wpAnyH_take (i := 13) (oi := { dst := some 6, op := Go.Op.assign (Go.Operand.tmp 18), type := 3, pos := "control.go:36", after := #[{ on := 11, ground := Go.Ground.data }, { on := 12, ground := Go.Ground.chain }, { on := 0, ground := Go.Ground.phase }, { on := 1, ground := Go.Ground.phase }, { on := 2, ground := Go.Ground.phase }, { on := 3, ground := Go.Ground.phase }, { on := 4, ground := Go.Ground.phase }, { on := 5, ground := Go.Ground.phase }, { on := 6, ground := Go.Ground.phase }, { on := 7, ground := Go.Ground.phase }, { on := 8, ground := Go.Ground.phase }, { on := 9, ground := Go.Ground.phase }, { on := 10, ground := Go.Ground.phase }, { on := 11, ground := Go.Ground.phase }, { on := 12, ground := Go.Ground.phase }], guard := none }) (v := ?v31) rfl (by kernel_rfl) (by kernel_rfl) (by kernel_rfl) (fun _ _ _ h => h) (Or.inl ⟨by rfl, ?hy31⟩) (by assumption) ?rest31
          case hy31 => (intro w hSw; (try dsimp only at hSw); obtain ⟨y0, y1, y2, y3, y4, y5, y6⟩ := (show Blk w pb _ _ from hSw).c7; go_simp <;> with_reducible rfl)
          try simp only [Act.put, List.setIfInBounds_toArray, List.set_cons_zero, List.set_cons_succ]
          refine wpAnyH_done (by kernel_rfl) ?_ _
          refine NoPanic.normal ?_
          go_upto_region 3 with (go_at_call_of 27 true; refine (must_ok _ _).mono ?_; rintro e _ ⟨rfl, rfl⟩)
          have hS2 := hS.set hpb hno 2 (.int .i64 tk1)
          obtain ⟨z0, z1, z2, z3, z4, z5, z6⟩ := (show Blk _ pb _ _ from hS.fact.2).c7
          obtain ⟨v0, v1, v2, v3, v4, v5, v6⟩ := (show Blk _ pb #[.pointer (some ⟨mb, 0, none⟩), .int .i64 here, .int .i64 tk1, cv, lv, .int .i64 hole, .int .i64 tgt] 70 from hS2.fact.2).c7
          go_wp2_with (go_at_call_of 27 true; refine (must_ok _ _).mono ?_; rintro e _ ⟨rfl, rfl⟩)
          go_ret
          exact ⟨rfl, fin.out _ hS2⟩
        · have t3 : (a ≤ hr2) = False := eq_false g3
          rw [if_neg (show ¬ (r = 0 ∧ 1536 ≤ a ∧ a ≤ hr2) from fun h => g3 h.2.2)]
          simp only [show ((-22 : Int) = 0) = False from by simp, if_false]
          clear g1 g2 g3 hrr fin
          go_enter Try.func92, Try.ntmps92
          go_upto_region 1 with fail
          replace hS := hS.drew
          refine wp_region_noPanic ?_
          refine wp_region_held_drew (S := (fun w9 => Blk w9 pb #[.pointer (some ⟨mb, 0, none⟩), .int .i64 here, .int .i64 tk, cv, lv, .int .i64 hole, .int .i64 tgt] 70)) (by kernel_rfl) ?_ (fun hHeld => ?_)
          · (try dsimp only); exact hS.fact.2
          refine wpAnyH_take (i := 0) (oi := { dst := some 8, op := Go.Op.move (Go.Operand.tmp 0), type := 67, pos := "control.go:36", after := #[], guard := none }) (v := ?v32) rfl (by kernel_rfl) (by kernel_rfl) (by kernel_rfl) (fun _ _ _ h => h) (Or.inl ⟨by rfl, ?hy32⟩) (by assumption) ?rest32
          case hy32 => (intro w hSw; (try dsimp only at hSw); obtain ⟨y0, y1, y2, y3, y4, y5, y6⟩ := (show Blk w pb _ _ from hSw).c7; go_simp <;> with_reducible rfl)
          try simp only [Act.put, List.setIfInBounds_toArray, List.set_cons_zero, List.set_cons_succ]
          refine wpAnyH_take (i := 1) (oi := { dst := some 9, op := Go.Op.nilCheck (Go.Operand.tmp 8), type := 0, pos := "control.go:36", after := #[{ on := 0, ground := Go.Ground.data }], guard := none }) (v := ?v33) rfl (by kernel_rfl) (by kernel_rfl) (by kernel_rfl) (fun _ _ _ h => h) (Or.inl ⟨by rfl, ?hy33⟩) (by assumption) ?rest33
          case hy33 => (intro w hSw; (try dsimp only at hSw); obtain ⟨y0, y1, y2, y3, y4, y5, y6⟩ := (show Blk w pb _ _ from hSw).c7; go_simp <;> with_reducible rfl)
          try simp only [Act.put, List.setIfInBounds_toArray, List.set_cons_zero, List.set_cons_succ]
          refine wpAnyH_take (i := 2) (oi := { dst := some 10, op := Go.Op.fieldAddr 70 (Go.Operand.tmp 9) 0, type := 0, pos := "control.go:36", after := #[{ on := 1, ground := Go.Ground.data }], guard := none }) (v := ?v34) rfl (by kernel_rfl) (by kernel_rfl) (by kernel_rfl) (fun _ _ _ h => h) (Or.inl ⟨by rfl, ?hy34⟩) (by assumption) ?rest34
          case hy34 => (intro w hSw; (try dsimp only at hSw); obtain ⟨y0, y1, y2, y3, y4, y5, y6⟩ := (show Blk w pb _ _ from hSw).c7; go_simp <;> with_reducible rfl)
          try simp only [Act.put, List.setIfInBounds_toArray, List.set_cons_zero, List.set_cons_succ]
          refine wpAnyH_take (i := 3) (oi := { dst := some 11, op := Go.Op.load 26 (Go.Operand.tmp 10), type := 26, pos := "control.go:36", after := #[{ on := 2, ground := Go.Ground.data }], guard := none }) (v := ?v35) rfl (by kernel_rfl) (by kernel_rfl) (by kernel_rfl) (fun _ _ _ h => h) (Or.inl ⟨by rfl, ?hy35⟩) (by assumption) ?rest35
          case hy35 => (intro w hSw; (try dsimp only at hSw); obtain ⟨y0, y1, y2, y3, y4, y5, y6⟩ := (show Blk w pb _ _ from hSw).c7; go_simp <;> with_reducible rfl)
          try simp only [Act.put, List.setIfInBounds_toArray, List.set_cons_zero, List.set_cons_succ]
          refine wpAnyH_take (i := 4) (oi := { dst := some 12, op := Go.Op.move (Go.Operand.tmp 0), type := 67, pos := "control.go:36", after := #[], guard := none }) (v := ?v36) rfl (by kernel_rfl) (by kernel_rfl) (by kernel_rfl) (fun _ _ _ h => h) (Or.inl ⟨by rfl, ?hy36⟩) (by assumption) ?rest36
          case hy36 => (intro w hSw; (try dsimp only at hSw); obtain ⟨y0, y1, y2, y3, y4, y5, y6⟩ := (show Blk w pb _ _ from hSw).c7; go_simp <;> with_reducible rfl)
          try simp only [Act.put, List.setIfInBounds_toArray, List.set_cons_zero, List.set_cons_succ]
          refine wpAnyH_take (i := 5) (oi := { dst := some 13, op := Go.Op.nilCheck (Go.Operand.tmp 12), type := 0, pos := "control.go:36", after := #[{ on := 4, ground := Go.Ground.data }], guard := none }) (v := ?v37) rfl (by kernel_rfl) (by kernel_rfl) (by kernel_rfl) (fun _ _ _ h => h) (Or.inl ⟨by rfl, ?hy37⟩) (by assumption) ?rest37
          case hy37 => (intro w hSw; (try dsimp only at hSw); obtain ⟨y0, y1, y2, y3, y4, y5, y6⟩ := (show Blk w pb _ _ from hSw).c7; go_simp <;> with_reducible rfl)
          try simp only [Act.put, List.setIfInBounds_toArray, List.set_cons_zero, List.set_cons_succ]
          refine wpAnyH_take (i := 6) (oi := { dst := some 14, op := Go.Op.fieldAddr 70 (Go.Operand.tmp 13) 2, type := 0, pos := "control.go:36", after := #[{ on := 5, ground := Go.Ground.data }], guard := none }) (v := ?v38) rfl (by kernel_rfl) (by kernel_rfl) (by kernel_rfl) (fun _ _ _ h => h) (Or.inl ⟨by rfl, ?hy38⟩) (by assumption) ?rest38
          case hy38 => (intro w hSw; (try dsimp only at hSw); obtain ⟨y0, y1, y2, y3, y4, y5, y6⟩ := (show Blk w pb _ _ from hSw).c7; go_simp <;> with_reducible rfl)
          try simp only [Act.put, List.setIfInBounds_toArray, List.set_cons_zero, List.set_cons_succ]
          refine wpAnyH_take (i := 7) (oi := { dst := some 15, op := Go.Op.load 3 (Go.Operand.tmp 14), type := 3, pos := "control.go:36", after := #[{ on := 6, ground := Go.Ground.data }], guard := none }) (v := ?v39) rfl (by kernel_rfl) (by kernel_rfl) (by kernel_rfl) (fun _ _ _ h => h) (Or.inl ⟨by rfl, ?hy39⟩) (by assumption) ?rest39
          case hy39 => (intro w hSw; (try dsimp only at hSw); obtain ⟨y0, y1, y2, y3, y4, y5, y6⟩ := (show Blk w pb _ _ from hSw).c7; go_simp <;> with_reducible rfl)
          try simp only [Act.put, List.setIfInBounds_toArray, List.set_cons_zero, List.set_cons_succ]
          refine wpAnyH_ready (rs := [8]) (by kernel_rfl) (by simp) ?_
          refine AllReadyH.cons (o := { dst := some 16, op := Go.Op.call { callee := Go.Callee.value (Go.Operand.func 98), args := #[Go.Operand.tmp 11, Go.Operand.tmp 15], argTypes := #[26, 3] }, type := 74, pos := "control.go:36", after := #[{ on := 3, ground := Go.Ground.data }, { on := 7, ground := Go.Ground.data }], guard := none }) rfl (fun K hK => ?_) AllReadyH.nil
          go_simp
          go_at_call 98; refine (hS.mem (fun O h hb => hAt.out _ O h hb)).mono ?_; rintro e w2 ⟨rfl, hS2⟩; clear hS; have hS := hS2; clear hS2
          refine hK.out _ _ ?_ (fun hHeld2 => ?_)
          · (try dsimp only); exact hS.fact.2
          clear hK K hHeld
          have hHeld := hHeld2
          clear hHeld2
          try simp only [Act.put, List.setIfInBounds_toArray, List.set_cons_zero, List.set_cons_succ]
          refine wpAnyH_take (i := 9) (oi := { dst := some 7, op := Go.Op.move (Go.Operand.tmp 16), type := 74, pos := "control.go:36", after := #[{ on := 8, ground := Go.Ground.data }], guard := none }) (v := ?v40) rfl (by kernel_rfl) (by kernel_rfl) (by kernel_rfl) (fun _ _ _ h => h) (Or.inl ⟨by rfl, ?hy40⟩) (by assumption) ?rest40
          case hy40 => (intro w hSw; (try dsimp only at hSw); obtain ⟨y0, y1, y2, y3, y4, y5, y6⟩ := (show Blk w pb _ _ from hSw).c7; go_simp <;> with_reducible rfl)
          try simp only [Act.put, List.setIfInBounds_toArray, List.set_cons_zero, List.set_cons_succ]
          refine wpAnyH_take (i := 10) (oi := { dst := some 17, op := Go.Op.extract (Go.Operand.tmp 7) 0, type := 2, pos := "control.go:36", after := #[{ on := 9, ground := Go.Ground.data }], guard := none }) (v := ?v41) rfl (by kernel_rfl) (by kernel_rfl) (by kernel_rfl) (fun _ _ _ h => h) (Or.inl ⟨by rfl, ?hy41⟩) (by assumption) ?rest41
          case hy41 => (intro w hSw; (try dsimp only at hSw); obtain ⟨y0, y1, y2, y3, y4, y5, y6⟩ := (show Blk w pb _ _ from hSw).c7; go_simp <;> with_reducible rfl)
          try simp only [Act.put, List.setIfInBounds_toArray, List.set_cons_zero, List.set_cons_succ]
          refine wpAnyH_take (i := 11) (oi := { dst := some 18, op := Go.Op.extract (Go.Operand.tmp 7) 1, type := 3, pos := "control.go:36", after := #[{ on := 9, ground := Go.Ground.data }, { on := 12, ground := Go.Ground.gcOnly Go.Departure.lateStores }], guard := none }) (v := ?v42) rfl (by kernel_rfl) (by kernel_rfl) (by kernel_rfl) (fun _ _ _ h => h) (Or.inl ⟨by rfl, ?hy42⟩) (by assumption) ?rest42
          case hy42 => (intro w hSw; (try dsimp only at hSw); obtain ⟨y0, y1, y2, y3, y4, y5, y6⟩ := (show Blk w pb _ _ from hSw).c7; go_simp <;> with_reducible rfl)
          try simp only [Act.put, List.setIfInBounds_toArray, List.set_cons_zero, List.set_cons_succ]
          refine wpAnyH_take (i := 12) (oi := { dst := some 5, op := Go.Op.assign (Go.Operand.tmp 17), type := 2, pos := "control.go:36", after := #[{ on := 10, ground := Go.Ground.data }, { on := 8, ground := Go.Ground.chain }, { on := 0, ground := Go.Ground.phase }, { on := 1, ground := Go.Ground.phase }, { on := 2, ground := Go.Ground.phase }, { on := 3, ground := Go.Ground.phase }, { on := 4, ground := Go.Ground.phase }, { on := 5, ground := Go.Ground.phase }, { on := 6, ground := Go.Ground.phase }, { on := 7, ground := Go.Ground.phase }, { on := 8, ground := Go.Ground.phase }, { on := 9, ground := Go.Ground.phase }, { on := 10, ground := Go.Ground.phase }, { on := 11, ground := Go.Ground.textOnly Go.Departure.lateStores }], guard := none }) (v := ?v43) rfl (by kernel_rfl) (by kernel_rfl) (by kernel_rfl) (fun _ _ _ h => h) (Or.inl ⟨by rfl, ?hy43⟩) (by assumption) ?rest43
          case hy43 => (intro w hSw; (try dsimp only at hSw); obtain ⟨y0, y1, y2, y3, y4, y5, y6⟩ := (show Blk w pb _ _ from hSw).c7; go_simp <;> with_reducible rfl)
          try simp only [Act.put, List.setIfInBounds_toArray, List.set_cons_zero, List.set_cons_succ]
          refine wpAnyH_take (i := 13) (oi := { dst := some 6, op := Go.Op.assign (Go.Operand.tmp 18), type := 3, pos := "control.go:36", after := #[{ on := 11, ground := Go.Ground.data }, { on := 12, ground := Go.Ground.chain }, { on := 0, ground := Go.Ground.phase }, { on := 1, ground := Go.Ground.phase }, { on := 2, ground := Go.Ground.phase }, { on := 3, ground := Go.Ground.phase }, { on := 4, ground := Go.Ground.phase }, { on := 5, ground := Go.Ground.phase }, { on := 6, ground := Go.Ground.phase }, { on := 7, ground := Go.Ground.phase }, { on := 8, ground := Go.Ground.phase }, { on := 9, ground := Go.Ground.phase }, { on := 10, ground := Go.Ground.phase }, { on := 11, ground := Go.Ground.phase }, { on := 12, ground := Go.Ground.phase }], guard := none }) (v := ?v44) rfl (by kernel_rfl) (by kernel_rfl) (by kernel_rfl) (fun _ _ _ h => h) (Or.inl ⟨by rfl, ?hy44⟩) (by assumption) ?rest44
          case hy44 => (intro w hSw; (try dsimp only at hSw); obtain ⟨y0, y1, y2, y3, y4, y5, y6⟩ := (show Blk w pb _ _ from hSw).c7; go_simp <;> with_reducible rfl)
          try simp only [Act.put, List.setIfInBounds_toArray, List.set_cons_zero, List.set_cons_succ]
          refine wpAnyH_done (by kernel_rfl) ?_ _
          refine NoPanic.normal ?_
          go_upto_region 3 with (go_at_call_of 27 true; refine (must_ok _ _).mono ?_; rintro e _ ⟨rfl, rfl⟩)
          have hS2 := hS.set hpb hno 2 (.int .i64 tk1)
          obtain ⟨z0, z1, z2, z3, z4, z5, z6⟩ := (show Blk _ pb _ _ from hS.fact.2).c7
          obtain ⟨v0, v1, v2, v3, v4, v5, v6⟩ := (show Blk _ pb #[.pointer (some ⟨mb, 0, none⟩), .int .i64 here, .int .i64 tk1, cv, lv, .int .i64 hole, .int .i64 tgt] 70 from hS2.fact.2).c7
          go_wp2_with (go_at_call_of 27 false; refine (must_no _ _).mono ?_; rintro e _ ⟨rfl, rfl⟩)
          (try go_end0)
          exact ⟨rfl, rfl, hS2.keep fun O h => Keep.emp _ _⟩
      · have t2 : ((1536 : Int) ≤ a) = False := eq_false g2
        rw [if_neg (show ¬ (r = 0 ∧ 1536 ≤ a ∧ a ≤ hr2) from fun h => g2 h.2.1)]
        simp only [show ((-22 : Int) = 0) = False from by simp, if_false]
        clear g1 g2 hrr fin
        go_enter Try.func92, Try.ntmps92
        go_upto_region 1 with fail
        replace hS := hS.drew
        refine wp_region_noPanic ?_
        refine wp_region_held_drew (S := (fun w9 => Blk w9 pb #[.pointer (some ⟨mb, 0, none⟩), .int .i64 here, .int .i64 tk, cv, lv, .int .i64 hole, .int .i64 tgt] 70)) (by kernel_rfl) ?_ (fun hHeld => ?_)
        · (try dsimp only); exact hS.fact.2
        refine wpAnyH_take (i := 0) (oi := { dst := some 8, op := Go.Op.move (Go.Operand.tmp 0), type := 67, pos := "control.go:36", after := #[], guard := none }) (v := ?v45) rfl (by kernel_rfl) (by kernel_rfl) (by kernel_rfl) (fun _ _ _ h => h) (Or.inl ⟨by rfl, ?hy45⟩) (by assumption) ?rest45
        case hy45 => (intro w hSw; (try dsimp only at hSw); obtain ⟨y0, y1, y2, y3, y4, y5, y6⟩ := (show Blk w pb _ _ from hSw).c7; go_simp <;> with_reducible rfl)
        try simp only [Act.put, List.setIfInBounds_toArray, List.set_cons_zero, List.set_cons_succ]
        refine wpAnyH_take (i := 1) (oi := { dst := some 9, op := Go.Op.nilCheck (Go.Operand.tmp 8), type := 0, pos := "control.go:36", after := #[{ on := 0, ground := Go.Ground.data }], guard := none }) (v := ?v46) rfl (by kernel_rfl) (by kernel_rfl) (by kernel_rfl) (fun _ _ _ h => h) (Or.inl ⟨by rfl, ?hy46⟩) (by assumption) ?rest46
        case hy46 => (intro w hSw; (try dsimp only at hSw); obtain ⟨y0, y1, y2, y3, y4, y5, y6⟩ := (show Blk w pb _ _ from hSw).c7; go_simp <;> with_reducible rfl)
        try simp only [Act.put, List.setIfInBounds_toArray, List.set_cons_zero, List.set_cons_succ]
        refine wpAnyH_take (i := 2) (oi := { dst := some 10, op := Go.Op.fieldAddr 70 (Go.Operand.tmp 9) 0, type := 0, pos := "control.go:36", after := #[{ on := 1, ground := Go.Ground.data }], guard := none }) (v := ?v47) rfl (by kernel_rfl) (by kernel_rfl) (by kernel_rfl) (fun _ _ _ h => h) (Or.inl ⟨by rfl, ?hy47⟩) (by assumption) ?rest47
        case hy47 => (intro w hSw; (try dsimp only at hSw); obtain ⟨y0, y1, y2, y3, y4, y5, y6⟩ := (show Blk w pb _ _ from hSw).c7; go_simp <;> with_reducible rfl)
        try simp only [Act.put, List.setIfInBounds_toArray, List.set_cons_zero, List.set_cons_succ]
        refine wpAnyH_take (i := 3) (oi := { dst := some 11, op := Go.Op.load 26 (Go.Operand.tmp 10), type := 26, pos := "control.go:36", after := #[{ on := 2, ground := Go.Ground.data }], guard := none }) (v := ?v48) rfl (by kernel_rfl) (by kernel_rfl) (by kernel_rfl) (fun _ _ _ h => h) (Or.inl ⟨by rfl, ?hy48⟩) (by assumption) ?rest48
        case hy48 => (intro w hSw; (try dsimp only at hSw); obtain ⟨y0, y1, y2, y3, y4, y5, y6⟩ := (show Blk w pb _ _ from hSw).c7; go_simp <;> with_reducible rfl)
        try simp only [Act.put, List.setIfInBounds_toArray, List.set_cons_zero, List.set_cons_succ]
        refine wpAnyH_take (i := 4) (oi := { dst := some 12, op := Go.Op.move (Go.Operand.tmp 0), type := 67, pos := "control.go:36", after := #[], guard := none }) (v := ?v49) rfl (by kernel_rfl) (by kernel_rfl) (by kernel_rfl) (fun _ _ _ h => h) (Or.inl ⟨by rfl, ?hy49⟩) (by assumption) ?rest49
        case hy49 => (intro w hSw; (try dsimp only at hSw); obtain ⟨y0, y1, y2, y3, y4, y5, y6⟩ := (show Blk w pb _ _ from hSw).c7; go_simp <;> with_reducible rfl)
        try simp only [Act.put, List.setIfInBounds_toArray, List.set_cons_zero, List.set_cons_succ]
        refine wpAnyH_take (i := 5) (oi := { dst := some 13, op := Go.Op.nilCheck (Go.Operand.tmp 12), type := 0, pos := "control.go:36", after := #[{ on := 4, ground := Go.Ground.data }], guard := none }) (v := ?v50) rfl (by kernel_rfl) (by kernel_rfl) (by kernel_rfl) (fun _ _ _ h => h) (Or.inl ⟨by rfl, ?hy50⟩) (by assumption) ?rest50
        case hy50 => (intro w hSw; (try dsimp only at hSw); obtain ⟨y0, y1, y2, y3, y4, y5, y6⟩ := (show Blk w pb _ _ from hSw).c7; go_simp <;> with_reducible rfl)
        try simp only [Act.put, List.setIfInBounds_toArray, List.set_cons_zero, List.set_cons_succ]
        refine wpAnyH_take (i := 6) (oi := { dst := some 14, op := Go.Op.fieldAddr 70 (Go.Operand.tmp 13) 2, type := 0, pos := "control.go:36", after := #[{ on := 5, ground := Go.Ground.data }], guard := none }) (v := ?v51) rfl (by kernel_rfl) (by kernel_rfl) (by kernel_rfl) (fun _ _ _ h => h) (Or.inl ⟨by rfl, ?hy51⟩) (by assumption) ?rest51
        case hy51 => (intro w hSw; (try dsimp only at hSw); obtain ⟨y0, y1, y2, y3, y4, y5, y6⟩ := (show Blk w pb _ _ from hSw).c7; go_simp <;> with_reducible rfl)
        try simp only [Act.put, List.setIfInBounds_toArray, List.set_cons_zero, List.set_cons_succ]
        refine wpAnyH_take (i := 7) (oi := { dst := some 15, op := Go.Op.load 3 (Go.Operand.tmp 14), type := 3, pos := "control.go:36", after := #[{ on := 6, ground := Go.Ground.data }], guard := none }) (v := ?v52) rfl (by kernel_rfl) (by kernel_rfl) (by kernel_rfl) (fun _ _ _ h => h) (Or.inl ⟨by rfl, ?hy52⟩) (by assumption) ?rest52
        case hy52 => (intro w hSw; (try dsimp only at hSw); obtain ⟨y0, y1, y2, y3, y4, y5, y6⟩ := (show Blk w pb _ _ from hSw).c7; go_simp <;> with_reducible rfl)
        try simp only [Act.put, List.setIfInBounds_toArray, List.set_cons_zero, List.set_cons_succ]
        refine wpAnyH_ready (rs := [8]) (by kernel_rfl) (by simp) ?_
        refine AllReadyH.cons (o := { dst := some 16, op := Go.Op.call { callee := Go.Callee.value (Go.Operand.func 98), args := #[Go.Operand.tmp 11, Go.Operand.tmp 15], argTypes := #[26, 3] }, type := 74, pos := "control.go:36", after := #[{ on := 3, ground := Go.Ground.data }, { on := 7, ground := Go.Ground.data }], guard := none }) rfl (fun K hK => ?_) AllReadyH.nil
        go_simp
        go_at_call 98; refine (hS.mem (fun O h hb => hAt.out _ O h hb)).mono ?_; rintro e w2 ⟨rfl, hS2⟩; clear hS; have hS := hS2; clear hS2
        refine hK.out _ _ ?_ (fun hHeld2 => ?_)
        · (try dsimp only); exact hS.fact.2
        clear hK K hHeld
        have hHeld := hHeld2
        clear hHeld2
        try simp only [Act.put, List.setIfInBounds_toArray, List.set_cons_zero, List.set_cons_succ]
        refine wpAnyH_take (i := 9) (oi := { dst := some 7, op := Go.Op.move (Go.Operand.tmp 16), type := 74, pos := "control.go:36", after := #[{ on := 8, ground := Go.Ground.data }], guard := none }) (v := ?v53) rfl (by kernel_rfl) (by kernel_rfl) (by kernel_rfl) (fun _ _ _ h => h) (Or.inl ⟨by rfl, ?hy53⟩) (by assumption) ?rest53
        case hy53 => (intro w hSw; (try dsimp only at hSw); obtain ⟨y0, y1, y2, y3, y4, y5, y6⟩ := (show Blk w pb _ _ from hSw).c7; go_simp <;> with_reducible rfl)
        try simp only [Act.put, List.setIfInBounds_toArray, List.set_cons_zero, List.set_cons_succ]
        refine wpAnyH_take (i := 10) (oi := { dst := some 17, op := Go.Op.extract (Go.Operand.tmp 7) 0, type := 2, pos := "control.go:36", after := #[{ on := 9, ground := Go.Ground.data }], guard := none }) (v := ?v54) rfl (by kernel_rfl) (by kernel_rfl) (by kernel_rfl) (fun _ _ _ h => h) (Or.inl ⟨by rfl, ?hy54⟩) (by assumption) ?rest54
        case hy54 => (intro w hSw; (try dsimp only at hSw); obtain ⟨y0, y1, y2, y3, y4, y5, y6⟩ := (show Blk w pb _ _ from hSw).c7; go_simp <;> with_reducible rfl)
        try simp only [Act.put, List.setIfInBounds_toArray, List.set_cons_zero, List.set_cons_succ]
        refine wpAnyH_take (i := 11) (oi := { dst := some 18, op := Go.Op.extract (Go.Operand.tmp 7) 1, type := 3, pos := "control.go:36", after := #[{ on := 9, ground := Go.Ground.data }, { on := 12, ground := Go.Ground.gcOnly Go.Departure.lateStores }], guard := none }) (v := ?v55) rfl (by kernel_rfl) (by kernel_rfl) (by kernel_rfl) (fun _ _ _ h => h) (Or.inl ⟨by rfl, ?hy55⟩) (by assumption) ?rest55
        case hy55 => (intro w hSw; (try dsimp only at hSw); obtain ⟨y0, y1, y2, y3, y4, y5, y6⟩ := (show Blk w pb _ _ from hSw).c7; go_simp <;> with_reducible rfl)
        try simp only [Act.put, List.setIfInBounds_toArray, List.set_cons_zero, List.set_cons_succ]
        refine wpAnyH_take (i := 12) (oi := { dst := some 5, op := Go.Op.assign (Go.Operand.tmp 17), type := 2, pos := "control.go:36", after := #[{ on := 10, ground := Go.Ground.data }, { on := 8, ground := Go.Ground.chain }, { on := 0, ground := Go.Ground.phase }, { on := 1, ground := Go.Ground.phase }, { on := 2, ground := Go.Ground.phase }, { on := 3, ground := Go.Ground.phase }, { on := 4, ground := Go.Ground.phase }, { on := 5, ground := Go.Ground.phase }, { on := 6, ground := Go.Ground.phase }, { on := 7, ground := Go.Ground.phase }, { on := 8, ground := Go.Ground.phase }, { on := 9, ground := Go.Ground.phase }, { on := 10, ground := Go.Ground.phase }, { on := 11, ground := Go.Ground.textOnly Go.Departure.lateStores }], guard := none }) (v := ?v56) rfl (by kernel_rfl) (by kernel_rfl) (by kernel_rfl) (fun _ _ _ h => h) (Or.inl ⟨by rfl, ?hy56⟩) (by assumption) ?rest56
        case hy56 => (intro w hSw; (try dsimp only at hSw); obtain ⟨y0, y1, y2, y3, y4, y5, y6⟩ := (show Blk w pb _ _ from hSw).c7; go_simp <;> with_reducible rfl)
        try simp only [Act.put, List.setIfInBounds_toArray, List.set_cons_zero, List.set_cons_succ]
        refine wpAnyH_take (i := 13) (oi := { dst := some 6, op := Go.Op.assign (Go.Operand.tmp 18), type := 3, pos := "control.go:36", after := #[{ on := 11, ground := Go.Ground.data }, { on := 12, ground := Go.Ground.chain }, { on := 0, ground := Go.Ground.phase }, { on := 1, ground := Go.Ground.phase }, { on := 2, ground := Go.Ground.phase }, { on := 3, ground := Go.Ground.phase }, { on := 4, ground := Go.Ground.phase }, { on := 5, ground := Go.Ground.phase }, { on := 6, ground := Go.Ground.phase }, { on := 7, ground := Go.Ground.phase }, { on := 8, ground := Go.Ground.phase }, { on := 9, ground := Go.Ground.phase }, { on := 10, ground := Go.Ground.phase }, { on := 11, ground := Go.Ground.phase }, { on := 12, ground := Go.Ground.phase }], guard := none }) (v := ?v57) rfl (by kernel_rfl) (by kernel_rfl) (by kernel_rfl) (fun _ _ _ h => h) (Or.inl ⟨by rfl, ?hy57⟩) (by assumption) ?rest57
        case hy57 => (intro w hSw; (try dsimp only at hSw); obtain ⟨y0, y1, y2, y3, y4, y5, y6⟩ := (show Blk w pb _ _ from hSw).c7; go_simp <;> with_reducible rfl)
        try simp only [Act.put, List.setIfInBounds_toArray, List.set_cons_zero, List.set_cons_succ]
        refine wpAnyH_done (by kernel_rfl) ?_ _
        refine NoPanic.normal ?_
        go_upto_region 3 with (go_at_call_of 27 true; refine (must_ok _ _).mono ?_; rintro e _ ⟨rfl, rfl⟩)
        have hS2 := hS.set hpb hno 2 (.int .i64 tk1)
        obtain ⟨z0, z1, z2, z3, z4, z5, z6⟩ := (show Blk _ pb _ _ from hS.fact.2).c7
        go_wp2_with (go_at_call_of 27 false; refine (must_no _ _).mono ?_; rintro e _ ⟨rfl, rfl⟩)
        (try go_end0)
        exact ⟨rfl, rfl, hS2.keep fun O h => Keep.emp _ _⟩
    · have t1 : (r == 0) = false := by simp; exact g1
      rw [if_neg (show ¬ (r = 0 ∧ 1536 ≤ a ∧ a ≤ hr2) from fun h => g1 h.1)]
      simp only [show ((-22 : Int) = 0) = False from by simp, if_false]
      clear g1 hrr fin
      go_enter Try.func92, Try.ntmps92
      go_upto_region 1 with fail
      replace hS := hS.drew
      refine wp_region_noPanic ?_
      refine wp_region_held_drew (S := (fun w9 => Blk w9 pb #[.pointer (some ⟨mb, 0, none⟩), .int .i64 here, .int .i64 tk, cv, lv, .int .i64 hole, .int .i64 tgt] 70)) (by kernel_rfl) ?_ (fun hHeld => ?_)
      · (try dsimp only); exact hS.fact.2
      refine wpAnyH_take (i := 0) (oi := { dst := some 8, op := Go.Op.move (Go.Operand.tmp 0), type := 67, pos := "control.go:36", after := #[], guard := none }) (v := ?v58) rfl (by kernel_rfl) (by kernel_rfl) (by kernel_rfl) (fun _ _ _ h => h) (Or.inl ⟨by rfl, ?hy58⟩) (by assumption) ?rest58
      case hy58 => (intro w hSw; (try dsimp only at hSw); obtain ⟨y0, y1, y2, y3, y4, y5, y6⟩ := (show Blk w pb _ _ from hSw).c7; go_simp <;> with_reducible rfl)
      try simp only [Act.put, List.setIfInBounds_toArray, List.set_cons_zero, List.set_cons_succ]
      refine wpAnyH_take (i := 1) (oi := { dst := some 9, op := Go.Op.nilCheck (Go.Operand.tmp 8), type := 0, pos := "control.go:36", after := #[{ on := 0, ground := Go.Ground.data }], guard := none }) (v := ?v59) rfl (by kernel_rfl) (by kernel_rfl) (by kernel_rfl) (fun _ _ _ h => h) (Or.inl ⟨by rfl, ?hy59⟩) (by assumption) ?rest59
      case hy59 => (intro w hSw; (try dsimp only at hSw); obtain ⟨y0, y1, y2, y3, y4, y5, y6⟩ := (show Blk w pb _ _ from hSw).c7; go_simp <;> with_reducible rfl)
      try simp only [Act.put, List.setIfInBounds_toArray, List.set_cons_zero, List.set_cons_succ]
      refine wpAnyH_take (i := 2) (oi := { dst := some 10, op := Go.Op.fieldAddr 70 (Go.Operand.tmp 9) 0, type := 0, pos := "control.go:36", after := #[{ on := 1, ground := Go.Ground.data }], guard := none }) (v := ?v60) rfl (by kernel_rfl) (by kernel_rfl) (by kernel_rfl) (fun _ _ _ h => h) (Or.inl ⟨by rfl, ?hy60⟩) (by assumption) ?rest60
      case hy60 => (intro w hSw; (try dsimp only at hSw); obtain ⟨y0, y1, y2, y3, y4, y5, y6⟩ := (show Blk w pb _ _ from hSw).c7; go_simp <;> with_reducible rfl)
      try simp only [Act.put, List.setIfInBounds_toArray, List.set_cons_zero, List.set_cons_succ]
      refine wpAnyH_take (i := 3) (oi := { dst := some 11, op := Go.Op.load 26 (Go.Operand.tmp 10), type := 26, pos := "control.go:36", after := #[{ on := 2, ground := Go.Ground.data }], guard := none }) (v := ?v61) rfl (by kernel_rfl) (by kernel_rfl) (by kernel_rfl) (fun _ _ _ h => h) (Or.inl ⟨by rfl, ?hy61⟩) (by assumption) ?rest61
      case hy61 => (intro w hSw; (try dsimp only at hSw); obtain ⟨y0, y1, y2, y3, y4, y5, y6⟩ := (show Blk w pb _ _ from hSw).c7; go_simp <;> with_reducible rfl)
      try simp only [Act.put, List.setIfInBounds_toArray, List.set_cons_zero, List.set_cons_succ]
      refine wpAnyH_take (i := 4) (oi := { dst := some 12, op := Go.Op.move (Go.Operand.tmp 0), type := 67, pos := "control.go:36", after := #[], guard := none }) (v := ?v62) rfl (by kernel_rfl) (by kernel_rfl) (by kernel_rfl) (fun _ _ _ h => h) (Or.inl ⟨by rfl, ?hy62⟩) (by assumption) ?rest62
      case hy62 => (intro w hSw; (try dsimp only at hSw); obtain ⟨y0, y1, y2, y3, y4, y5, y6⟩ := (show Blk w pb _ _ from hSw).c7; go_simp <;> with_reducible rfl)
      try simp only [Act.put, List.setIfInBounds_toArray, List.set_cons_zero, List.set_cons_succ]
      refine wpAnyH_take (i := 5) (oi := { dst := some 13, op := Go.Op.nilCheck (Go.Operand.tmp 12), type := 0, pos := "control.go:36", after := #[{ on := 4, ground := Go.Ground.data }], guard := none }) (v := ?v63) rfl (by kernel_rfl) (by kernel_rfl) (by kernel_rfl) (fun _ _ _ h => h) (Or.inl ⟨by rfl, ?hy63⟩) (by assumption) ?rest63
      case hy63 => (intro w hSw; (try dsimp only at hSw); obtain ⟨y0, y1, y2, y3, y4, y5, y6⟩ := (show Blk w pb _ _ from hSw).c7; go_simp <;> with_reducible rfl)
      try simp only [Act.put, List.setIfInBounds_toArray, List.set_cons_zero, List.set_cons_succ]
      refine wpAnyH_take (i := 6) (oi := { dst := some 14, op := Go.Op.fieldAddr 70 (Go.Operand.tmp 13) 2, type := 0, pos := "control.go:36", after := #[{ on := 5, ground := Go.Ground.data }], guard := none }) (v := ?v64) rfl (by kernel_rfl) (by kernel_rfl) (by kernel_rfl) (fun _ _ _ h => h) (Or.inl ⟨by rfl, ?hy64⟩) (by assumption) ?rest64
      case hy64 => (intro w hSw; (try dsimp only at hSw); obtain ⟨y0, y1, y2, y3, y4, y5, y6⟩ := (show Blk w pb _ _ from hSw).c7; go_simp <;> with_reducible rfl)
      try simp only [Act.put, List.setIfInBounds_toArray, List.set_cons_zero, List.set_cons_succ]
      refine wpAnyH_take (i := 7) (oi := { dst := some 15, op := Go.Op.load 3 (Go.Operand.tmp 14), type := 3, pos := "control.go:36", after := #[{ on := 6, ground := Go.Ground.data }], guard := none }) (v := ?v65) rfl (by kernel_rfl) (by kernel_rfl) (by kernel_rfl) (fun _ _ _ h => h) (Or.inl ⟨by rfl, ?hy65⟩) (by assumption) ?rest65
      case hy65 => (intro w hSw; (try dsimp only at hSw); obtain ⟨y0, y1, y2, y3, y4, y5, y6⟩ := (show Blk w pb _ _ from hSw).c7; go_simp <;> with_reducible rfl)
      try simp only [Act.put, List.setIfInBounds_toArray, List.set_cons_zero, List.set_cons_succ]
      refine wpAnyH_ready (rs := [8]) (by kernel_rfl) (by simp) ?_
      refine AllReadyH.cons (o := { dst := some 16, op := Go.Op.call { callee := Go.Callee.value (Go.Operand.func 98), args := #[Go.Operand.tmp 11, Go.Operand.tmp 15], argTypes := #[26, 3] }, type := 74, pos := "control.go:36", after := #[{ on := 3, ground := Go.Ground.data }, { on := 7, ground := Go.Ground.data }], guard := none }) rfl (fun K hK => ?_) AllReadyH.nil
      go_simp
      go_at_call 98; refine (hS.mem (fun O h hb => hAt.out _ O h hb)).mono ?_; rintro e w2 ⟨rfl, hS2⟩; clear hS; have hS := hS2; clear hS2
      refine hK.out _ _ ?_ (fun hHeld2 => ?_)
      · (try dsimp only); exact hS.fact.2
      clear hK K hHeld
      have hHeld := hHeld2
      clear hHeld2
      try simp only [Act.put, List.setIfInBounds_toArray, List.set_cons_zero, List.set_cons_succ]
      refine wpAnyH_take (i := 9) (oi := { dst := some 7, op := Go.Op.move (Go.Operand.tmp 16), type := 74, pos := "control.go:36", after := #[{ on := 8, ground := Go.Ground.data }], guard := none }) (v := ?v66) rfl (by kernel_rfl) (by kernel_rfl) (by kernel_rfl) (fun _ _ _ h => h) (Or.inl ⟨by rfl, ?hy66⟩) (by assumption) ?rest66
      case hy66 => (intro w hSw; (try dsimp only at hSw); obtain ⟨y0, y1, y2, y3, y4, y5, y6⟩ := (show Blk w pb _ _ from hSw).c7; go_simp <;> with_reducible rfl)
      try simp only [Act.put, List.setIfInBounds_toArray, List.set_cons_zero, List.set_cons_succ]
      refine wpAnyH_take (i := 10) (oi := { dst := some 17, op := Go.Op.extract (Go.Operand.tmp 7) 0, type := 2, pos := "control.go:36", after := #[{ on := 9, ground := Go.Ground.data }], guard := none }) (v := ?v67) rfl (by kernel_rfl) (by kernel_rfl) (by kernel_rfl) (fun _ _ _ h => h) (Or.inl ⟨by rfl, ?hy67⟩) (by assumption) ?rest67
      case hy67 => (intro w hSw; (try dsimp only at hSw); obtain ⟨y0, y1, y2, y3, y4, y5, y6⟩ := (show Blk w pb _ _ from hSw).c7; go_simp <;> with_reducible rfl)
      try simp only [Act.put, List.setIfInBounds_toArray, List.set_cons_zero, List.set_cons_succ]
      refine wpAnyH_take (i := 11) (oi := { dst := some 18, op := Go.Op.extract (Go.Operand.tmp 7) 1, type := 3, pos := "control.go:36", after := #[{ on := 9, ground := Go.Ground.data }, { on := 12, ground := Go.Ground.gcOnly Go.Departure.lateStores }], guard := none }) (v := ?v68) rfl (by kernel_rfl) (by kernel_rfl) (by kernel_rfl) (fun _ _ _ h => h) (Or.inl ⟨by rfl, ?hy68⟩) (by assumption) ?rest68
      case hy68 => (intro w hSw; (try dsimp only at hSw); obtain ⟨y0, y1, y2, y3, y4, y5, y6⟩ := (show Blk w pb _ _ from hSw).c7; go_simp <;> with_reducible rfl)
      try simp only [Act.put, List.setIfInBounds_toArray, List.set_cons_zero, List.set_cons_succ]
      refine wpAnyH_take (i := 12) (oi := { dst := some 5, op := Go.Op.assign (Go.Operand.tmp 17), type := 2, pos := "control.go:36", after := #[{ on := 10, ground := Go.Ground.data }, { on := 8, ground := Go.Ground.chain }, { on := 0, ground := Go.Ground.phase }, { on := 1, ground := Go.Ground.phase }, { on := 2, ground := Go.Ground.phase }, { on := 3, ground := Go.Ground.phase }, { on := 4, ground := Go.Ground.phase }, { on := 5, ground := Go.Ground.phase }, { on := 6, ground := Go.Ground.phase }, { on := 7, ground := Go.Ground.phase }, { on := 8, ground := Go.Ground.phase }, { on := 9, ground := Go.Ground.phase }, { on := 10, ground := Go.Ground.phase }, { on := 11, ground := Go.Ground.textOnly Go.Departure.lateStores }], guard := none }) (v := ?v69) rfl (by kernel_rfl) (by kernel_rfl) (by kernel_rfl) (fun _ _ _ h => h) (Or.inl ⟨by rfl, ?hy69⟩) (by assumption) ?rest69
      case hy69 => (intro w hSw; (try dsimp only at hSw); obtain ⟨y0, y1, y2, y3, y4, y5, y6⟩ := (show Blk w pb _ _ from hSw).c7; go_simp <;> with_reducible rfl)
      try simp only [Act.put, List.setIfInBounds_toArray, List.set_cons_zero, List.set_cons_succ]
      refine wpAnyH_take (i := 13) (oi := { dst := some 6, op := Go.Op.assign (Go.Operand.tmp 18), type := 3, pos := "control.go:36", after := #[{ on := 11, ground := Go.Ground.data }, { on := 12, ground := Go.Ground.chain }, { on := 0, ground := Go.Ground.phase }, { on := 1, ground := Go.Ground.phase }, { on := 2, ground := Go.Ground.phase }, { on := 3, ground := Go.Ground.phase }, { on := 4, ground := Go.Ground.phase }, { on := 5, ground := Go.Ground.phase }, { on := 6, ground := Go.Ground.phase }, { on := 7, ground := Go.Ground.phase }, { on := 8, ground := Go.Ground.phase }, { on := 9, ground := Go.Ground.phase }, { on := 10, ground := Go.Ground.phase }, { on := 11, ground := Go.Ground.phase }, { on := 12, ground := Go.Ground.phase }], guard := none }) (v := ?v70) rfl (by kernel_rfl) (by kernel_rfl) (by kernel_rfl) (fun _ _ _ h => h) (Or.inl ⟨by rfl, ?hy70⟩) (by assumption) ?rest70
      case hy70 => (intro w hSw; (try dsimp only at hSw); obtain ⟨y0, y1, y2, y3, y4, y5, y6⟩ := (show Blk w pb _ _ from hSw).c7; go_simp <;> with_reducible rfl)
      try simp only [Act.put, List.setIfInBounds_toArray, List.set_cons_zero, List.set_cons_succ]
      refine wpAnyH_done (by kernel_rfl) ?_ _
      refine NoPanic.normal ?_
      go_upto_region 3 with (go_at_call_of 27 true; refine (must_ok _ _).mono ?_; rintro e _ ⟨rfl, rfl⟩)
      have hS2 := hS.set hpb hno 2 (.int .i64 tk1)
      obtain ⟨z0, z1, z2, z3, z4, z5, z6⟩ := (show Blk _ pb _ _ from hS.fact.2).c7
      go_wp2_with (go_at_call_of 27 false; refine (must_no _ _).mono ?_; rintro e _ ⟨rfl, rfl⟩)
      (try go_end0)
      exact ⟨rfl, rfl, hS2.keep fun O h => Keep.emp _ _⟩
  · rw [if_neg c1] at hAt ⊢
    simp only [show ((-4 : Int) = 0) = False from by simp, if_false]
    clear c1 htk hh hhr2 htk1 hrr
    go_enter Try.func92, Try.ntmps92
    go_upto_region 1 with fail
    replace hS := hS.drew
    refine wp_region_noPanic ?_
    refine wp_region_held_drew (S := (fun w9 => Blk w9 pb #[.pointer (some ⟨mb, 0, none⟩), .int .i64 here, .int .i64 tk, cv, lv, .int .i64 hole, .int .i64 tgt] 70)) (by kernel_rfl) ?_ (fun hHeld => ?_)
    · (try dsimp only); exact hS.fact.2
    refine wpAnyH_take (i := 0) (oi := { dst := some 8, op := Go.Op.move (Go.Operand.tmp 0), type := 67, pos := "control.go:36", after := #[], guard := none }) (v := ?v71) rfl (by kernel_rfl) (by kernel_rfl) (by kernel_rfl) (fun _ _ _ h => h) (Or.inl ⟨by rfl, ?hy71⟩) (by assumption) ?rest71
    case hy71 => (intro w hSw; (try dsimp only at hSw); obtain ⟨y0, y1, y2, y3, y4, y5, y6⟩ := (show Blk w pb _ _ from hSw).c7; go_simp <;> with_reducible rfl)
    try simp only [Act.put, List.setIfInBounds_toArray, List.set_cons_zero, List.set_cons_succ]
    refine wpAnyH_take (i := 1) (oi := { dst := some 9, op := Go.Op.nilCheck (Go.Operand.tmp 8), type := 0, pos := "control.go:36", after := #[{ on := 0, ground := Go.Ground.data }], guard := none }) (v := ?v72) rfl (by kernel_rfl) (by kernel_rfl) (by kernel_rfl) (fun _ _ _ h => h) (Or.inl ⟨by rfl, ?hy72⟩) (by assumption) ?rest72
    case hy72 => (intro w hSw; (try dsimp only at hSw); obtain ⟨y0, y1, y2, y3, y4, y5, y6⟩ := (show Blk w pb _ _ from hSw).c7; go_simp <;> with_reducible rfl)
    try simp only [Act.put, List.setIfInBounds_toArray, List.set_cons_zero, List.set_cons_succ]
    refine wpAnyH_take (i := 2) (oi := { dst := some 10, op := Go.Op.fieldAddr 70 (Go.Operand.tmp 9) 0, type := 0, pos := "control.go:36", after := #[{ on := 1, ground := Go.Ground.data }], guard := none }) (v := ?v73) rfl (by kernel_rfl) (by kernel_rfl) (by kernel_rfl) (fun _ _ _ h => h) (Or.inl ⟨by rfl, ?hy73⟩) (by assumption) ?rest73
    case hy73 => (intro w hSw; (try dsimp only at hSw); obtain ⟨y0, y1, y2, y3, y4, y5, y6⟩ := (show Blk w pb _ _ from hSw).c7; go_simp <;> with_reducible rfl)
    try simp only [Act.put, List.setIfInBounds_toArray, List.set_cons_zero, List.set_cons_succ]
    refine wpAnyH_take (i := 3) (oi := { dst := some 11, op := Go.Op.load 26 (Go.Operand.tmp 10), type := 26, pos := "control.go:36", after := #[{ on := 2, ground := Go.Ground.data }], guard := none }) (v := ?v74) rfl (by kernel_rfl) (by kernel_rfl) (by kernel_rfl) (fun _ _ _ h => h) (Or.inl ⟨by rfl, ?hy74⟩) (by assumption) ?rest74
    case hy74 => (intro w hSw; (try dsimp only at hSw); obtain ⟨y0, y1, y2, y3, y4, y5, y6⟩ := (show Blk w pb _ _ from hSw).c7; go_simp <;> with_reducible rfl)
    try simp only [Act.put, List.setIfInBounds_toArray, List.set_cons_zero, List.set_cons_succ]
    refine wpAnyH_take (i := 4) (oi := { dst := some 12, op := Go.Op.move (Go.Operand.tmp 0), type := 67, pos := "control.go:36", after := #[], guard := none }) (v := ?v75) rfl (by kernel_rfl) (by kernel_rfl) (by kernel_rfl) (fun _ _ _ h => h) (Or.inl ⟨by rfl, ?hy75⟩) (by assumption) ?rest75
    case hy75 => (intro w hSw; (try dsimp only at hSw); obtain ⟨y0, y1, y2, y3, y4, y5, y6⟩ := (show Blk w pb _ _ from hSw).c7; go_simp <;> with_reducible rfl)
    try simp only [Act.put, List.setIfInBounds_toArray, List.set_cons_zero, List.set_cons_succ]
    refine wpAnyH_take (i := 5) (oi := { dst := some 13, op := Go.Op.nilCheck (Go.Operand.tmp 12), type := 0, pos := "control.go:36", after := #[{ on := 4, ground := Go.Ground.data }], guard := none }) (v := ?v76) rfl (by kernel_rfl) (by kernel_rfl) (by kernel_rfl) (fun _ _ _ h => h) (Or.inl ⟨by rfl, ?hy76⟩) (by assumption) ?rest76
    case hy76 => (intro w hSw; (try dsimp only at hSw); obtain ⟨y0, y1, y2, y3, y4, y5, y6⟩ := (show Blk w pb _ _ from hSw).c7; go_simp <;> with_reducible rfl)
    try simp only [Act.put, List.setIfInBounds_toArray, List.set_cons_zero, List.set_cons_succ]
    refine wpAnyH_take (i := 6) (oi := { dst := some 14, op := Go.Op.fieldAddr 70 (Go.Operand.tmp 13) 2, type := 0, pos := "control.go:36", after := #[{ on := 5, ground := Go.Ground.data }], guard := none }) (v := ?v77) rfl (by kernel_rfl) (by kernel_rfl) (by kernel_rfl) (fun _ _ _ h => h) (Or.inl ⟨by rfl, ?hy77⟩) (by assumption) ?rest77
    case hy77 => (intro w hSw; (try dsimp only at hSw); obtain ⟨y0, y1, y2, y3, y4, y5, y6⟩ := (show Blk w pb _ _ from hSw).c7; go_simp <;> with_reducible rfl)
    try simp only [Act.put, List.setIfInBounds_toArray, List.set_cons_zero, List.set_cons_succ]
    refine wpAnyH_take (i := 7) (oi := { dst := some 15, op := Go.Op.load 3 (Go.Operand.tmp 14), type := 3, pos := "control.go:36", after := #[{ on := 6, ground := Go.Ground.data }], guard := none }) (v := ?v78) rfl (by kernel_rfl) (by kernel_rfl) (by kernel_rfl) (fun _ _ _ h => h) (Or.inl ⟨by rfl, ?hy78⟩) (by assumption) ?rest78
    case hy78 => (intro w hSw; (try dsimp only at hSw); obtain ⟨y0, y1, y2, y3, y4, y5, y6⟩ := (show Blk w pb _ _ from hSw).c7; go_simp <;> with_reducible rfl)
    try simp only [Act.put, List.setIfInBounds_toArray, List.set_cons_zero, List.set_cons_succ]
    refine wpAnyH_ready (rs := [8]) (by kernel_rfl) (by simp) ?_
    refine AllReadyH.cons (o := { dst := some 16, op := Go.Op.call { callee := Go.Callee.value (Go.Operand.func 98), args := #[Go.Operand.tmp 11, Go.Operand.tmp 15], argTypes := #[26, 3] }, type := 74, pos := "control.go:36", after := #[{ on := 3, ground := Go.Ground.data }, { on := 7, ground := Go.Ground.data }], guard := none }) rfl (fun K hK => ?_) AllReadyH.nil
    go_simp
    go_at_call 98; refine (hS.mem (fun O h hb => hAt.out _ O h hb)).mono ?_; rintro e w2 ⟨rfl, hS2⟩; clear hS; have hS := hS2; clear hS2
    refine hK.out _ _ ?_ (fun hHeld2 => ?_)
    · (try dsimp only); exact hS.fact.2
    clear hK K hHeld
    have hHeld := hHeld2
    clear hHeld2
    try simp only [Act.put, List.setIfInBounds_toArray, List.set_cons_zero, List.set_cons_succ]
    refine wpAnyH_take (i := 9) (oi := { dst := some 7, op := Go.Op.move (Go.Operand.tmp 16), type := 74, pos := "control.go:36", after := #[{ on := 8, ground := Go.Ground.data }], guard := none }) (v := ?v79) rfl (by kernel_rfl) (by kernel_rfl) (by kernel_rfl) (fun _ _ _ h => h) (Or.inl ⟨by rfl, ?hy79⟩) (by assumption) ?rest79
    case hy79 => (intro w hSw; (try dsimp only at hSw); obtain ⟨y0, y1, y2, y3, y4, y5, y6⟩ := (show Blk w pb _ _ from hSw).c7; go_simp <;> with_reducible rfl)
    try simp only [Act.put, List.setIfInBounds_toArray, List.set_cons_zero, List.set_cons_succ]
    refine wpAnyH_take (i := 10) (oi := { dst := some 17, op := Go.Op.extract (Go.Operand.tmp 7) 0, type := 2, pos := "control.go:36", after := #[{ on := 9, ground := Go.Ground.data }], guard := none }) (v := ?v80) rfl (by kernel_rfl) (by kernel_rfl) (by kernel_rfl) (fun _ _ _ h => h) (Or.inl ⟨by rfl, ?hy80⟩) (by assumption) ?rest80
    case hy80 => (intro w hSw; (try dsimp only at hSw); obtain ⟨y0, y1, y2, y3, y4, y5, y6⟩ := (show Blk w pb _ _ from hSw).c7; go_simp <;> with_reducible rfl)
    try simp only [Act.put, List.setIfInBounds_toArray, List.set_cons_zero, List.set_cons_succ]
    refine wpAnyH_take (i := 11) (oi := { dst := some 18, op := Go.Op.extract (Go.Operand.tmp 7) 1, type := 3, pos := "control.go:36", after := #[{ on := 9, ground := Go.Ground.data }, { on := 12, ground := Go.Ground.gcOnly Go.Departure.lateStores }], guard := none }) (v := ?v81) rfl (by kernel_rfl) (by kernel_rfl) (by kernel_rfl) (fun _ _ _ h => h) (Or.inl ⟨by rfl, ?hy81⟩) (by assumption) ?rest81
    case hy81 => (intro w hSw; (try dsimp only at hSw); obtain ⟨y0, y1, y2, y3, y4, y5, y6⟩ := (show Blk w pb _ _ from hSw).c7; go_simp <;> with_reducible rfl)
    try simp only [Act.put, List.setIfInBounds_toArray, List.set_cons_zero, List.set_cons_succ]
    refine wpAnyH_take (i := 12) (oi := { dst := some 5, op := Go.Op.assign (Go.Operand.tmp 17), type := 2, pos := "control.go:36", after := #[{ on := 10, ground := Go.Ground.data }, { on := 8, ground := Go.Ground.chain }, { on := 0, ground := Go.Ground.phase }, { on := 1, ground := Go.Ground.phase }, { on := 2, ground := Go.Ground.phase }, { on := 3, ground := Go.Ground.phase }, { on := 4, ground := Go.Ground.phase }, { on := 5, ground := Go.Ground.phase }, { on := 6, ground := Go.Ground.phase }, { on := 7, ground := Go.Ground.phase }, { on := 8, ground := Go.Ground.phase }, { on := 9, ground := Go.Ground.phase }, { on := 10, ground := Go.Ground.phase }, { on := 11, ground := Go.Ground.textOnly Go.Departure.lateStores }], guard := none }) (v := ?v82) rfl (by kernel_rfl) (by kernel_rfl) (by kernel_rfl) (fun _ _ _ h => h) (Or.inl ⟨by rfl, ?hy82⟩) (by assumption) ?rest82
    case hy82 => (intro w hSw; (try dsimp only at hSw); obtain ⟨y0, y1, y2, y3, y4, y5, y6⟩ := (show Blk w pb _ _ from hSw).c7; go_simp <;> with_reducible rfl)
    try simp only [Act.put, List.setIfInBounds_toArray, List.set_cons_zero, List.set_cons_succ]
    refine wpAnyH_take (i := 13) (oi := { dst := some 6, op := Go.Op.assign (Go.Operand.tmp 18), type := 3, pos := "control.go:36", after := #[{ on := 11, ground := Go.Ground.data }, { on := 12, ground := Go.Ground.chain }, { on := 0, ground := Go.Ground.phase }, { on := 1, ground := Go.Ground.phase }, { on := 2, ground := Go.Ground.phase }, { on := 3, ground := Go.Ground.phase }, { on := 4, ground := Go.Ground.phase }, { on := 5, ground := Go.Ground.phase }, { on := 6, ground := Go.Ground.phase }, { on := 7, ground := Go.Ground.phase }, { on := 8, ground := Go.Ground.phase }, { on := 9, ground := Go.Ground.phase }, { on := 10, ground := Go.Ground.phase }, { on := 11, ground := Go.Ground.phase }, { on := 12, ground := Go.Ground.phase }], guard := none }) (v := ?v83) rfl (by kernel_rfl) (by kernel_rfl) (by kernel_rfl) (fun _ _ _ h => h) (Or.inl ⟨by rfl, ?hy83⟩) (by assumption) ?rest83
    case hy83 => (intro w hSw; (try dsimp only at hSw); obtain ⟨y0, y1, y2, y3, y4, y5, y6⟩ := (show Blk w pb _ _ from hSw).c7; go_simp <;> with_reducible rfl)
    try simp only [Act.put, List.setIfInBounds_toArray, List.set_cons_zero, List.set_cons_succ]
    refine wpAnyH_done (by kernel_rfl) ?_ _
    refine NoPanic.normal ?_
    go_wp2_with (go_at_call_of 27 false; refine (must_no _ _).mono ?_; rintro e _ ⟨rfl, rfl⟩)
    (try go_end0)
    exact ⟨rfl, rfl, hS.keep fun O h => Keep.emp _ _⟩

set_option maxRecDepth 100000 in
set_option maxHeartbeats 1000000 in
theorem pFill {W w : World} {B mb : Nat} {M : List UInt8} {O0 : Nat → Prop} {pb : Nat} {here tk hole tgt : Int} {cl ll : List Int} (h : PlS W w B mb M O0 pb here tk cl ll hole tgt) (hl : Int) (hhl : isI hl) (hh : 1536 ≤ here ∧ here ≤ 5632) (hc : cl.length ≤ 1000) :
    Calls Try.prog 76 #[.pointer (some ⟨pb, 0, none⟩), .int .i64 hl] w fun e w' => e = .returned (.tuple #[]) ∧ PlS W w' B mb M O0 pb here tk cl ll hl (here + 8 * (cl.length : Int)) := by
  obtain ⟨cv, lv, hS, hpb, hcv, hlv⟩ := h
  have hno := PlK.no (mb := mb) (here := here) (tk := tk) (hole := hole) (tgt := tgt) (cl := cl) (ll := ll) (fun b hb => (hcv b hb).2) (fun b hb => (hlv b hb).2)
  unfold PlK at hS
  obtain ⟨a, cap, rfl, hcap⟩ := hS.fact.1.1.form
  obtain ⟨N, hN⟩ : ∃ N : Int, N = (cl.length : Int) := ⟨_, rfl⟩
  have w8 : IntKind.i64.wrap (8 * (cl.length : Int)) = 8 * (cl.length : Int) := by rw [IntKind.wrap_i64]; omega
  obtain ⟨n8, hn8⟩ : ∃ n8, n8 = 8 * (cl.length : Int) := ⟨_, rfl⟩
  have w82 : IntKind.i64.wrap (8 * (cl.length : Int)) = n8 := by rw [hn8]; exact w8
  have wh : IntKind.i64.wrap (here + n8) = here + n8 := by rw [IntKind.wrap_i64]; omega
  obtain ⟨hn, hhn⟩ : ∃ hn, hn = here + n8 := ⟨_, rfl⟩
  have wh2 : IntKind.i64.wrap (here + n8) = hn := by rw [hhn]; exact wh
  rw [← hn8, ← hhn]
  have hS1 := hS.set hpb hno 5 (.int .i64 hl)
  have hS2 := hS1.set hpb hno 6 (.int .i64 hn)
  have fin : ∀ w3, One W w3 B mb M O0 (((Kp.vs 1 (.slice a cl.length cap) cl.length (ic cl)).and (Kp.vs 1 lv ll.length (ic ll))).and (.blk pb #[.pointer (some ⟨mb, 0, none⟩), .int .i64 here, .int .i64 tk, (.slice a cl.length cap), lv, .int .i64 hl, .int .i64 hn] 70)) → PlS W w3 B mb M O0 pb here tk cl ll hl hn := fun w3 h3 => ⟨_, lv, h3, hpb, hcv, hlv⟩
  replace fin := Lib.hid fin
  clear w8 wh hN hn8 hhn hcap hc hh hhl hS1 hS2
  obtain ⟨y0, y1, y2, y3, y4, y5, y6⟩ := (show Blk w pb _ _ from hS.fact.2).c7
  go_enter Try.func76, Try.ntmps76
  replace hS := hS.drew
  refine wp_region_noPanic ?_
  refine wp_region_held_drew (S := (fun w9 => ∃ p q, Blk w9 pb #[.pointer (some ⟨mb, 0, none⟩), .int .i64 here, .int .i64 tk, (.slice a cl.length cap), lv, .int .i64 p, .int .i64 q] 70)) (by kernel_rfl) ?_ (fun hHeld => ?_)
  · (try dsimp only); exact ⟨_, _, hS.fact.2⟩
  refine wpAnyH_take (i := 0) (oi := { dst := some 4, op := Go.Op.move (Go.Operand.tmp 0), type := 67, pos := "control.go:48", after := #[], guard := none }) (v := ?v1) rfl (by kernel_rfl) (by kernel_rfl) (by kernel_rfl) (fun _ _ _ h => h) (Or.inl ⟨by rfl, ?hy1⟩) (by assumption) ?rest1
  case hy1 => (intro w hSw; (try dsimp only at hSw); obtain ⟨p, q, hq⟩ := hSw; obtain ⟨y0, y1, y2, y3, y4, y5, y6⟩ := hq.c7; go_simp <;> with_reducible rfl)
  try simp only [Act.put, List.setIfInBounds_toArray, List.set_cons_zero, List.set_cons_succ]
  refine wpAnyH_take (i := 1) (oi := { dst := some 5, op := Go.Op.move (Go.Operand.tmp 0), type := 67, pos := "control.go:48", after := #[{ on := 16, ground := Go.Ground.gcOnly Go.Departure.lateStores }], guard := none }) (v := ?v2) rfl (by kernel_rfl) (by kernel_rfl) (by kernel_rfl) (fun _ _ _ h => h) (Or.inl ⟨by rfl, ?hy2⟩) (by assumption) ?rest2
  case hy2 => (intro w hSw; (try dsimp only at hSw); obtain ⟨p, q, hq⟩ := hSw; obtain ⟨y0, y1, y2, y3, y4, y5, y6⟩ := hq.c7; go_simp <;> with_reducible rfl)
  try simp only [Act.put, List.setIfInBounds_toArray, List.set_cons_zero, List.set_cons_succ]
  refine wpAnyH_take (i := 2) (oi := { dst := some 6, op := Go.Op.move (Go.Operand.tmp 1), type := 2, pos := "control.go:48", after := #[], guard := none }) (v := ?v3) rfl (by kernel_rfl) (by kernel_rfl) (by kernel_rfl) (fun _ _ _ h => h) (Or.inl ⟨by rfl, ?hy3⟩) (by assumption) ?rest3
  case hy3 => (intro w hSw; (try dsimp only at hSw); obtain ⟨p, q, hq⟩ := hSw; obtain ⟨y0, y1, y2, y3, y4, y5, y6⟩ := hq.c7; go_simp <;> with_reducible rfl)
  try simp only [Act.put, List.setIfInBounds_toArray, List.set_cons_zero, List.set_cons_succ]
  refine wpAnyH_take (i := 3) (oi := { dst := some 7, op := Go.Op.move (Go.Operand.tmp 0), type := 67, pos := "control.go:48", after := #[], guard := none }) (v := ?v4) rfl (by kernel_rfl) (by kernel_rfl) (by kernel_rfl) (fun _ _ _ h => h) (Or.inl ⟨by rfl, ?hy4⟩) (by assumption) ?rest4
  case hy4 => (intro w hSw; (try dsimp only at hSw); obtain ⟨p, q, hq⟩ := hSw; obtain ⟨y0, y1, y2, y3, y4, y5, y6⟩ := hq.c7; go_simp <;> with_reducible rfl)
  try simp only [Act.put, List.setIfInBounds_toArray, List.set_cons_zero, List.set_cons_succ]
  refine wpAnyH_take (i := 4) (oi := { dst := some 8, op := Go.Op.nilCheck (Go.Operand.tmp 7), type := 0, pos := "control.go:48", after := #[{ on := 3, ground := Go.Ground.data }], guard := none }) (v := ?v5) rfl (by kernel_rfl) (by kernel_rfl) (by kernel_rfl) (fun _ _ _ h => h) (Or.inl ⟨by rfl, ?hy5⟩) (by assumption) ?rest5
  case hy5 => (intro w hSw; (try dsimp only at hSw); obtain ⟨p, q, hq⟩ := hSw; obtain ⟨y0, y1, y2, y3, y4, y5, y6⟩ := hq.c7; go_simp <;> with_reducible rfl)
  try simp only [Act.put, List.setIfInBounds_toArray, List.set_cons_zero, List.set_cons_succ]
  refine wpAnyH_take (i := 5) (oi := { dst := some 9, op := Go.Op.fieldAddr 70 (Go.Operand.tmp 8) 1, type := 0, pos := "control.go:48", after := #[{ on := 4, ground := Go.Ground.data }], guard := none }) (v := ?v6) rfl (by kernel_rfl) (by kernel_rfl) (by kernel_rfl) (fun _ _ _ h => h) (Or.inl ⟨by rfl, ?hy6⟩) (by assumption) ?rest6
  case hy6 => (intro w hSw; (try dsimp only at hSw); obtain ⟨p, q, hq⟩ := hSw; obtain ⟨y0, y1, y2, y3, y4, y5, y6⟩ := hq.c7; go_simp <;> with_reducible rfl)
  try simp only [Act.put, List.setIfInBounds_toArray, List.set_cons_zero, List.set_cons_succ]
  refine wpAnyH_take (i := 6) (oi := { dst := some 10, op := Go.Op.load 2 (Go.Operand.tmp 9), type := 2, pos := "control.go:48", after := #[{ on := 5, ground := Go.Ground.data }], guard := none }) (v := ?v7) rfl (by kernel_rfl) (by kernel_rfl) (by kernel_rfl) (fun _ _ _ h => h) (Or.inl ⟨by rfl, ?hy7⟩) (by assumption) ?rest7
  case hy7 => (intro w hSw; (try dsimp only at hSw); obtain ⟨p, q, hq⟩ := hSw; obtain ⟨y0, y1, y2, y3, y4, y5, y6⟩ := hq.c7; go_simp <;> with_reducible rfl)
  try simp only [Act.put, List.setIfInBounds_toArray, List.set_cons_zero, List.set_cons_succ]
  refine wpAnyH_take (i := 7) (oi := { dst := some 11, op := Go.Op.move (Go.Operand.tmp 0), type := 67, pos := "control.go:48", after := #[], guard := none }) (v := ?v8) rfl (by kernel_rfl) (by kernel_rfl) (by kernel_rfl) (fun _ _ _ h => h) (Or.inl ⟨by rfl, ?hy8⟩) (by assumption) ?rest8
  case hy8 => (intro w hSw; (try dsimp only at hSw); obtain ⟨p, q, hq⟩ := hSw; obtain ⟨y0, y1, y2, y3, y4, y5, y6⟩ := hq.c7; go_simp <;> with_reducible rfl)
  try simp only [Act.put, List.setIfInBounds_toArray, List.set_cons_zero, List.set_cons_succ]
  refine wpAnyH_take (i := 8) (oi := { dst := some 12, op := Go.Op.nilCheck (Go.Operand.tmp 11), type := 0, pos := "control.go:48", after := #[{ on := 7, ground := Go.Ground.data }], guard := none }) (v := ?v9) rfl (by kernel_rfl) (by kernel_rfl) (by kernel_rfl) (fun _ _ _ h => h) (Or.inl ⟨by rfl, ?hy9⟩) (by assumption) ?rest9
  case hy9 => (intro w hSw; (try dsimp only at hSw); obtain ⟨p, q, hq⟩ := hSw; obtain ⟨y0, y1, y2, y3, y4, y5, y6⟩ := hq.c7; go_simp <;> with_reducible rfl)
  try simp only [Act.put, List.setIfInBounds_toArray, List.set_cons_zero, List.set_cons_succ]
  refine wpAnyH_take (i := 9) (oi := { dst := some 13, op := Go.Op.fieldAddr 70 (Go.Operand.tmp 12) 3, type := 0, pos := "control.go:48", after := #[{ on := 8, ground := Go.Ground.data }], guard := none }) (v := ?v10) rfl (by kernel_rfl) (by kernel_rfl) (by kernel_rfl) (fun _ _ _ h => h) (Or.inl ⟨by rfl, ?hy10⟩) (by assumption) ?rest10
  case hy10 => (intro w hSw; (try dsimp only at hSw); obtain ⟨p, q, hq⟩ := hSw; obtain ⟨y0, y1, y2, y3, y4, y5, y6⟩ := hq.c7; go_simp <;> with_reducible rfl)
  try simp only [Act.put, List.setIfInBounds_toArray, List.set_cons_zero, List.set_cons_succ]
  refine wpAnyH_take (i := 10) (oi := { dst := some 14, op := Go.Op.load 24 (Go.Operand.tmp 13), type := 24, pos := "control.go:48", after := #[{ on := 9, ground := Go.Ground.data }], guard := none }) (v := ?v11) rfl (by kernel_rfl) (by kernel_rfl) (by kernel_rfl) (fun _ _ _ h => h) (Or.inl ⟨by rfl, ?hy11⟩) (by assumption) ?rest11
  case hy11 => (intro w hSw; (try dsimp only at hSw); obtain ⟨p, q, hq⟩ := hSw; obtain ⟨y0, y1, y2, y3, y4, y5, y6⟩ := hq.c7; go_simp <;> with_reducible rfl)
  try simp only [Act.put, List.setIfInBounds_toArray, List.set_cons_zero, List.set_cons_succ]
  refine wpAnyH_take (i := 11) (oi := { dst := some 15, op := Go.Op.call { callee := Go.Callee.builtin Go.Builtin.len, args := #[Go.Operand.tmp 14], argTypes := #[24] }, type := 3, pos := "control.go:48", after := #[{ on := 10, ground := Go.Ground.data }], guard := none }) (v := ?v12) rfl (by kernel_rfl) (by kernel_rfl) (by kernel_rfl) (fun _ _ _ h => h) (Or.inl ⟨by rfl, ?hy12⟩) (by assumption) ?rest12
  case hy12 => (intro w hSw; (try dsimp only at hSw); obtain ⟨p, q, hq⟩ := hSw; obtain ⟨y0, y1, y2, y3, y4, y5, y6⟩ := hq.c7; go_simp <;> with_reducible rfl)
  try simp only [Act.put, List.setIfInBounds_toArray, List.set_cons_zero, List.set_cons_succ]
  refine wpAnyH_take (i := 12) (oi := { dst := some 16, op := Go.Op.binOp Go.BinOp.mul 2 (Go.Operand.const (Go.Value.int Go.IntKind.i64 8)) (Go.Operand.tmp 15) 2, type := 2, pos := "control.go:48", after := #[{ on := 11, ground := Go.Ground.data }], guard := none }) (v := ?v13) rfl (by kernel_rfl) (by kernel_rfl) (by kernel_rfl) (fun _ _ _ h => h) (Or.inl ⟨by rfl, ?hy13⟩) (by assumption) ?rest13
  case hy13 => (intro w hSw; (try dsimp only at hSw); obtain ⟨p, q, hq⟩ := hSw; obtain ⟨y0, y1, y2, y3, y4, y5, y6⟩ := hq.c7; go_simp <;> with_reducible rfl)
  try simp only [Act.put, List.setIfInBounds_toArray, List.set_cons_zero, List.set_cons_succ]
  refine wpAnyH_take (i := 13) (oi := { dst := some 17, op := Go.Op.binOp Go.BinOp.add 2 (Go.Operand.tmp 10) (Go.Operand.tmp 16) 2, type := 2, pos := "control.go:48", after := #[{ on := 6, ground := Go.Ground.data }, { on := 12, ground := Go.Ground.data }], guard := none }) (v := ?v14) rfl (by kernel_rfl) (by kernel_rfl) (by kernel_rfl) (fun _ _ _ h => h) (Or.inl ⟨by rfl, ?hy14⟩) (by assumption) ?rest14
  case hy14 => (intro w hSw; (try dsimp only at hSw); obtain ⟨p, q, hq⟩ := hSw; obtain ⟨y0, y1, y2, y3, y4, y5, y6⟩ := hq.c7; go_simp <;> with_reducible rfl)
  try simp only [Act.put, List.setIfInBounds_toArray, List.set_cons_zero, List.set_cons_succ]
  refine wpAnyH_take (i := 14) (oi := { dst := some 18, op := Go.Op.nilCheck (Go.Operand.tmp 4), type := 0, pos := "control.go:48", after := #[{ on := 0, ground := Go.Ground.data }, { on := 0, ground := Go.Ground.phase }, { on := 1, ground := Go.Ground.textOnly Go.Departure.lateStores }, { on := 2, ground := Go.Ground.phase }, { on := 3, ground := Go.Ground.textOnly Go.Departure.lateStores }, { on := 4, ground := Go.Ground.textOnly Go.Departure.lateStoresUnsure }, { on := 5, ground := Go.Ground.textOnly Go.Departure.lateStoresUnsure }, { on := 6, ground := Go.Ground.phase }, { on := 7, ground := Go.Ground.textOnly Go.Departure.lateStores }, { on := 8, ground := Go.Ground.textOnly Go.Departure.lateStoresUnsure }, { on := 9, ground := Go.Ground.textOnly Go.Departure.lateStoresUnsure }, { on := 10, ground := Go.Ground.phase }, { on := 11, ground := Go.Ground.textOnly Go.Departure.lateStoresUnsure }, { on := 12, ground := Go.Ground.textOnly Go.Departure.lateStores }, { on := 13, ground := Go.Ground.textOnly Go.Departure.lateStoresUnsure }], guard := none }) (v := ?v15) rfl (by kernel_rfl) (by kernel_rfl) (by kernel_rfl) (fun _ _ _ h => h) (Or.inl ⟨by rfl, ?hy15⟩) (by assumption) ?rest15
  case hy15 => (intro w hSw; (try dsimp only at hSw); obtain ⟨p, q, hq⟩ := hSw; obtain ⟨y0, y1, y2, y3, y4, y5, y6⟩ := hq.c7; go_simp <;> with_reducible rfl)
  try simp only [Act.put, List.setIfInBounds_toArray, List.set_cons_zero, List.set_cons_succ]
  refine wpAnyH_take (i := 15) (oi := { dst := some 19, op := Go.Op.fieldAddr 70 (Go.Operand.tmp 18) 5, type := 0, pos := "control.go:48", after := #[{ on := 14, ground := Go.Ground.data }, { on := 0, ground := Go.Ground.phase }, { on := 1, ground := Go.Ground.textOnly Go.Departure.lateStores }, { on := 2, ground := Go.Ground.phase }, { on := 3, ground := Go.Ground.textOnly Go.Departure.lateStores }, { on := 4, ground := Go.Ground.textOnly Go.Departure.lateStoresUnsure }, { on := 5, ground := Go.Ground.textOnly Go.Departure.lateStoresUnsure }, { on := 6, ground := Go.Ground.phase }, { on := 7, ground := Go.Ground.textOnly Go.Departure.lateStores }, { on := 8, ground := Go.Ground.textOnly Go.Departure.lateStoresUnsure }, { on := 9, ground := Go.Ground.textOnly Go.Departure.lateStoresUnsure }, { on := 10, ground := Go.Ground.phase }, { on := 11, ground := Go.Ground.textOnly Go.Departure.lateStoresUnsure }, { on := 12, ground := Go.Ground.textOnly Go.Departure.lateStores }, { on := 13, ground := Go.Ground.textOnly Go.Departure.lateStoresUnsure }], guard := none }) (v := ?v16) rfl (by kernel_rfl) (by kernel_rfl) (by kernel_rfl) (fun _ _ _ h => h) (Or.inl ⟨by rfl, ?hy16⟩) (by assumption) ?rest16
  case hy16 => (intro w hSw; (try dsimp only at hSw); obtain ⟨p, q, hq⟩ := hSw; obtain ⟨y0, y1, y2, y3, y4, y5, y6⟩ := hq.c7; go_simp <;> with_reducible rfl)
  try simp only [Act.put, List.setIfInBounds_toArray, List.set_cons_zero, List.set_cons_succ]
  refine wpAnyH_ready (rs := [16]) (by kernel_rfl) (by simp) ?_
  refine AllReadyH.cons (o := { dst := none, op := Go.Op.store 2 (Go.Operand.tmp 19) (Go.Operand.tmp 6), type := 0, pos := "control.go:48", after := #[{ on := 15, ground := Go.Ground.data }, { on := 2, ground := Go.Ground.data }, { on := 0, ground := Go.Ground.phase }, { on := 1, ground := Go.Ground.textOnly Go.Departure.lateStores }, { on := 2, ground := Go.Ground.phase }, { on := 3, ground := Go.Ground.textOnly Go.Departure.lateStores }, { on := 4, ground := Go.Ground.textOnly Go.Departure.lateStoresUnsure }, { on := 5, ground := Go.Ground.textOnly Go.Departure.lateStoresUnsure }, { on := 6, ground := Go.Ground.phase }, { on := 7, ground := Go.Ground.textOnly Go.Departure.lateStores }, { on := 8, ground := Go.Ground.textOnly Go.Departure.lateStoresUnsure }, { on := 9, ground := Go.Ground.textOnly Go.Departure.lateStoresUnsure }, { on := 10, ground := Go.Ground.phase }, { on := 11, ground := Go.Ground.textOnly Go.Departure.lateStoresUnsure }, { on := 12, ground := Go.Ground.textOnly Go.Departure.lateStores }, { on := 13, ground := Go.Ground.textOnly Go.Departure.lateStoresUnsure }], guard := none }) rfl (fun K hK => ?_) AllReadyH.nil
  obtain ⟨y0, y1, y2, y3, y4, y5, y6⟩ := (show Blk _ pb _ _ from hS.fact.2).c7; go_simp; have hS2 := hS.set hpb hno 5 (.int .i64 hl); clear hS y0 y1 y2 y3 y4 y5 y6; have hS := hS2; clear hS2
  refine hK.out _ _ ?_ (fun hHeld2 => ?_)
  · (try dsimp only); exact ⟨_, _, hS.fact.2⟩
  clear hK K hHeld
  have hHeld := hHeld2
  clear hHeld2
  try simp only [Act.put, List.setIfInBounds_toArray, List.set_cons_zero, List.set_cons_succ]
  refine wpAnyH_take (i := 17) (oi := { dst := some 20, op := Go.Op.nilCheck (Go.Operand.tmp 5), type := 0, pos := "control.go:48", after := #[{ on := 1, ground := Go.Ground.data }, { on := 0, ground := Go.Ground.phase }, { on := 1, ground := Go.Ground.phase }, { on := 2, ground := Go.Ground.phase }, { on := 3, ground := Go.Ground.phase }, { on := 4, ground := Go.Ground.phase }, { on := 5, ground := Go.Ground.phase }, { on := 6, ground := Go.Ground.phase }, { on := 7, ground := Go.Ground.phase }, { on := 8, ground := Go.Ground.phase }, { on := 9, ground := Go.Ground.phase }, { on := 10, ground := Go.Ground.phase }, { on := 11, ground := Go.Ground.phase }, { on := 12, ground := Go.Ground.phase }, { on := 13, ground := Go.Ground.phase }, { on := 14, ground := Go.Ground.phase }, { on := 15, ground := Go.Ground.phase }, { on := 16, ground := Go.Ground.phase }], guard := none }) (v := ?v17) rfl (by kernel_rfl) (by kernel_rfl) (by kernel_rfl) (fun _ _ _ h => h) (Or.inl ⟨by rfl, ?hy17⟩) (by assumption) ?rest17
  case hy17 => (intro w hSw; (try dsimp only at hSw); obtain ⟨p, q, hq⟩ := hSw; obtain ⟨y0, y1, y2, y3, y4, y5, y6⟩ := hq.c7; go_simp <;> with_reducible rfl)
  try simp only [Act.put, List.setIfInBounds_toArray, List.set_cons_zero, List.set_cons_succ]
  refine wpAnyH_take (i := 18) (oi := { dst := some 21, op := Go.Op.fieldAddr 70 (Go.Operand.tmp 20) 6, type := 0, pos := "control.go:48", after := #[{ on := 17, ground := Go.Ground.data }, { on := 0, ground := Go.Ground.phase }, { on := 1, ground := Go.Ground.phase }, { on := 2, ground := Go.Ground.phase }, { on := 3, ground := Go.Ground.phase }, { on := 4, ground := Go.Ground.phase }, { on := 5, ground := Go.Ground.phase }, { on := 6, ground := Go.Ground.phase }, { on := 7, ground := Go.Ground.phase }, { on := 8, ground := Go.Ground.phase }, { on := 9, ground := Go.Ground.phase }, { on := 10, ground := Go.Ground.phase }, { on := 11, ground := Go.Ground.phase }, { on := 12, ground := Go.Ground.phase }, { on := 13, ground := Go.Ground.phase }, { on := 14, ground := Go.Ground.phase }, { on := 15, ground := Go.Ground.phase }, { on := 16, ground := Go.Ground.phase }], guard := none }) (v := ?v18) rfl (by kernel_rfl) (by kernel_rfl) (by kernel_rfl) (fun _ _ _ h => h) (Or.inl ⟨by rfl, ?hy18⟩) (by assumption) ?rest18
  case hy18 => (intro w hSw; (try dsimp only at hSw); obtain ⟨p, q, hq⟩ := hSw; obtain ⟨y0, y1, y2, y3, y4, y5, y6⟩ := hq.c7; go_simp <;> with_reducible rfl)
  try simp only [Act.put, List.setIfInBounds_toArray, List.set_cons_zero, List.set_cons_succ]
  refine wpAnyH_ready (rs := [19]) (by kernel_rfl) (by simp) ?_
  refine AllReadyH.cons (o := { dst := none, op := Go.Op.store 2 (Go.Operand.tmp 21) (Go.Operand.tmp 17), type := 0, pos := "control.go:48", after := #[{ on := 18, ground := Go.Ground.data }, { on := 13, ground := Go.Ground.data }, { on := 16, ground := Go.Ground.chain }, { on := 0, ground := Go.Ground.phase }, { on := 1, ground := Go.Ground.phase }, { on := 2, ground := Go.Ground.phase }, { on := 3, ground := Go.Ground.phase }, { on := 4, ground := Go.Ground.phase }, { on := 5, ground := Go.Ground.phase }, { on := 6, ground := Go.Ground.phase }, { on := 7, ground := Go.Ground.phase }, { on := 8, ground := Go.Ground.phase }, { on := 9, ground := Go.Ground.phase }, { on := 10, ground := Go.Ground.phase }, { on := 11, ground := Go.Ground.phase }, { on := 12, ground := Go.Ground.phase }, { on := 13, ground := Go.Ground.phase }, { on := 14, ground := Go.Ground.phase }, { on := 15, ground := Go.Ground.phase }, { on := 16, ground := Go.Ground.phase }], guard := none }) rfl (fun K hK => ?_) AllReadyH.nil
  obtain ⟨y0, y1, y2, y3, y4, y5, y6⟩ := (show Blk _ pb _ _ from hS.fact.2).c7; go_simp; have hS2 := hS.set hpb hno 6 (.int .i64 hn); clear hS y0 y1 y2 y3 y4 y5 y6; have hS := hS2; clear hS2
  refine hK.out _ _ ?_ (fun hHeld2 => ?_)
  · (try dsimp only); exact ⟨_, _, hS.fact.2⟩
  clear hK K hHeld
  have hHeld := hHeld2
  clear hHeld2
  try simp only [Act.put, List.setIfInBounds_toArray, List.set_cons_zero, List.set_cons_succ]
  refine wpAnyH_done (by kernel_rfl) ?_ _
  refine NoPanic.normal ?_
  (try go_end0)
  exact ⟨rfl, fin.out _ hS⟩

end Go.Proofs.Ytkcmphjgflbchaa

/- Plans: 'lay', 'open', what is laid on the stack. -/
namespace Go.Proofs.Ytkcmphjgflbchaa
open Go.RowKit
set_option linter.unusedVariables false
set_option linter.unusedSimpArgs false
attribute [local go_sem] cell_set set_set m_undef

theorem Rv.litC (w : World) (l : List Int) : Rv (w.alloc (.cells (ic l).toArray 2)) 1 (.slice (some ⟨w.heap.size, 0, none⟩) l.length l.length) l.length (ic l) :=
  ⟨by rw [ic_len, Nat.mul_one], fun u hu => by simp only [ic, List.mem_map] at hu; obtain ⟨x, _, rfl⟩ := hu; rfl, .inr ⟨⟨w.heap.size, 0, none⟩, l.length, rfl, fun j u hu => by
    rw [Addr.add_lit, Nat.zero_add, (Blk.new w (ic l).toArray 2).cell, List.getElem?_toArray]
    exact hu⟩⟩
theorem ic_cons (x : Int) (l : List Int) : ic (x :: l) = .int .i64 x :: ic l := rfl
theorem One.consVs {W w : World} {B mb : Nat} {M : List UInt8} {O0 : Nat → Prop} {K : Kp} (h : One W w B mb M O0 K) (x : Int) {u : Value} {l : List Int} (hu : Rv w 1 u l.length (ic l)) (hl : l.length ≤ 1000) {ty : TypeId} :
    ∃ v' w', (Builtin.append_ #[24, 24] ty #[.slice (some ⟨w.heap.size, 0, none⟩) 1 1, u]).run Try.prog (w.alloc (.cells #[.int .i64 x] 2)) = .ok v' w' ∧ One W w' B mb M O0 (K.and (.vs 1 v' (x :: l).length (ic (x :: l)))) ∧ (∀ b, v'.ownBlock = some b → W.heap.size ≤ b ∧ ¬ K.S b) := by
  have hV : Vs (w.alloc (.cells #[.int .i64 x] 2)) w.heap.size 1 (.slice (some ⟨w.heap.size, 0, none⟩) 1 1) 1 [.int .i64 x] :=
    Vs.of_blk (Blk.new w #[.int .i64 x] 2) rfl (by simp) (Nat.le_refl _) (fun j u hj => by simpa using hj) (fun u hu => by rw [List.mem_singleton.1 hu]; rfl) (Nat.le_refl _)
  have hS2 := h.newVs (bel_alloc (Below.refl _ _) (.cells #[.int .i64 x] 2)) hV
  have hws := h.size
  have hown : ∀ b, (Value.slice (some ⟨w.heap.size, 0, none⟩) 1 1).ownBlock = some b → W.heap.size ≤ b ∧ ¬ K.S b := fun b hb => by
    have e : w.heap.size = b := by simpa [Value.ownBlock] using hb
    subst e
    exact ⟨hws, fun hK => by have := h.slt hK; omega⟩
  have hsrc := (hu.below (bel_alloc (Below.refl _ _) (.cells #[.int .i64 x] 2))).src (P := Try.prog) Try.underlying24
  by_cases h0 : l = []
  · subst h0
    obtain ⟨i, hi1, hi2⟩ := Option.map_eq_some_iff.1 infoI
    simp only [Prod.mk.injEq] at hi2
    obtain ⟨hz0, hs1, hb1⟩ := hi2
    have hr := run_append_room_src (P := Try.prog) (w.alloc (.cells #[.int .i64 x] 2)) 24 24 ty _ i Try.underlying24 hi1 w.heap.size 0 1 1 u 0 [] (by rw [hs1]; exact hsrc) (by omega) (fun j hj => by cases hj) (fun j hj => by cases hj)
    exact ⟨_, _, hr, hS2, hown⟩
  · have hm : 0 < l.length := List.length_pos_iff.2 h0
    obtain ⟨v', w', hr, hS3, ho3, -⟩ := hS2.appendVs (P := Try.prog) (ty := ty) hown hsrc Try.underlying24 infoI rfl hm (by omega) (by omega)
    rw [Nat.add_comm] at hS3
    exact ⟨v', w', hr, hS3, ho3⟩
theorem PlS.setCells {W w : World} {B mb : Nat} {M : List UInt8} {O0 : Nat → Prop} {pb : Nat} {here tk hole tgt : Int} {cl ll cl' : List Int} {cv cv' lv : Value} (hS : One W w B mb M O0 ((PlK mb pb here tk cv cl lv ll hole tgt).and (.vs 1 cv' cl'.length (ic cl')))) (hpb : W.heap.size ≤ pb) (h1 : ∀ b, cv'.ownBlock = some b → W.heap.size ≤ b ∧ b ≠ pb) (h2 : ∀ b, lv.ownBlock = some b → W.heap.size ≤ b ∧ b ≠ pb) :
    PlS W (w.setCell ⟨pb, 3, none⟩ cv') B mb M O0 pb here tk cl' ll hole tgt := by
  have hS2 : One W w B mb M O0 (((Kp.vs 1 cv' cl'.length (ic cl')).and (Kp.vs 1 lv ll.length (ic ll))).and (.blk pb #[.pointer (some ⟨mb, 0, none⟩), .int .i64 here, .int .i64 tk, cv, lv, .int .i64 hole, .int .i64 tgt] 70)) := hS.keep fun O h => (h.right.and h.left.left.right).and h.left.right
  exact ⟨cv', lv, hS2.set hpb (PlK.no (mb := mb) (here := here) (tk := tk) (hole := hole) (tgt := tgt) (fun b hb => (h1 b hb).2) (fun b hb => (h2 b hb).2)) 3 cv', hpb, h1, h2⟩
theorem PlS.setLays {W w : World} {B mb : Nat} {M : List UInt8} {O0 : Nat → Prop} {pb : Nat} {here tk hole tgt : Int} {cl ll ll' : List Int} {cv lv lv' : Value} (hS : One W w B mb M O0 ((PlK mb pb here tk cv cl lv ll hole tgt).and (.vs 1 lv' ll'.length (ic ll')))) (hpb : W.heap.size ≤ pb) (h1 : ∀ b, cv.ownBlock = some b → W.heap.size ≤ b ∧ b ≠ pb) (h2 : ∀ b, lv'.ownBlock = some b → W.heap.size ≤ b ∧ b ≠ pb) :
    PlS W (w.setCell ⟨pb, 4, none⟩ lv') B mb M O0 pb here tk cl ll' hole tgt := by
  have hS2 : One W w B mb M O0 (((Kp.vs 1 cv cl.length (ic cl)).and (Kp.vs 1 lv' ll'.length (ic ll'))).and (.blk pb #[.pointer (some ⟨mb, 0, none⟩), .int .i64 here, .int .i64 tk, cv, lv, .int .i64 hole, .int .i64 tgt] 70)) := hS.keep fun O h => (h.left.left.left.and h.right).and h.left.right
  exact ⟨cv, lv', hS2.set hpb (PlK.no (mb := mb) (here := here) (tk := tk) (hole := hole) (tgt := tgt) (fun b hb => (h1 b hb).2) (fun b hb => (h2 b hb).2)) 4 lv', hpb, h1, h2⟩
theorem PlK.pb {mb pb : Nat} {here tk hole tgt : Int} {cv lv : Value} {cl ll : List Int} : (PlK mb pb here tk cv cl lv ll hole tgt).S pb := .inr rfl
set_option maxRecDepth 100000 in
set_option maxHeartbeats 1000000 in
theorem pLay {W w : World} {B mb : Nat} {M : List UInt8} {O0 : Nat → Prop} {pb : Nat} {here tk hole tgt : Int} {cl ll : List Int} (h : PlS W w B mb M O0 pb here tk cl ll hole tgt) (prim : Int) (hp : 1 ≤ prim ∧ prim ≤ 141) {u : Value} {l : List Int} (hu : Rv w 1 u l.length (ic l)) (hl : l.length ≤ 1000) :
    Calls Try.prog 77 #[.pointer (some ⟨pb, 0, none⟩), .int .i64 prim, u] w fun e w' => e = .returned (.tuple #[]) ∧ PlS W w' B mb M O0 pb here tk ((prim * 8) :: l) ll hole tgt := by
  obtain ⟨cv, lv, hS, hpb, hcv, hlv⟩ := h
  have hX := Lib.hid (wXt prim w)
  rw [if_pos hp] at hX
  obtain ⟨x, hx⟩ : ∃ x, x = prim * 8 := ⟨_, rfl⟩
  rw [← hx] at hX ⊢
  obtain ⟨a, cap, rfl⟩ := hu.form
  replace hu := Lib.hid hu
  replace hlv := Lib.hid hlv
  clear hx hp
  go_enter Try.func77, Try.ntmps77
  go_wp2_with (first
    | (go_at_call 93; refine hX.out.mono ?_; rintro e w1 ⟨rfl, hb1⟩
       obtain ⟨v', w2, hr, hS2, hown⟩ := (hS.below hb1).consVs x (hu.out.below hb1) hl (ty := 24)
       obtain ⟨a9, c9, rfl, hcc⟩ := hS2.fact.2.form
       clear hcc
       have hpv : ∀ b, (Value.slice a9 (x :: l).length c9).ownBlock = some b → W.heap.size ≤ b ∧ b ≠ pb := fun b hb => ⟨(hown b hb).1, fun e => (hown b hb).2 (by rw [e]; exact PlK.pb)⟩
       have hfin := Lib.hid (PlS.setCells hS2 hpb hpv hlv.out)
       obtain ⟨y0, y1, y2, y3, y4, y5, y6⟩ := (show Blk _ pb _ _ from hS2.fact.1.2).c7
       clear hS hb1 hS2 hown hpv hcv)
    | (at_builtin; refine wpList_append_bs rfl _ _ 24 rfl hr rfl rfl ?_))
  (try go_end0)
  exact ⟨rfl, hfin.out⟩
set_option maxRecDepth 100000 in
set_option maxHeartbeats 1000000 in
theorem pOpen {W w : World} {B mb : Nat} {M : List UInt8} {O0 : Nat → Prop} {pb : Nat} {here tk hole tgt : Int} {cl ll : List Int} (h : PlS W w B mb M O0 pb here tk cl ll hole tgt) (prim : Int) (hp : 1 ≤ prim ∧ prim ≤ 141) (hh : 1536 ≤ here ∧ here ≤ 5632) :
    Calls Try.prog 74 #[.pointer (some ⟨pb, 0, none⟩), .int .i64 prim] w fun e w' => e = .returned (.int .i64 (here + 8)) ∧ PlS W w' B mb M O0 pb here tk [prim * 8, 0] ll hole tgt := by
  have h2 : PlS W (w.alloc (.cells #[.int .i64 0] 2)) B mb M O0 pb here tk cl ll hole tgt := by
    obtain ⟨cv, lv, hS, hpb, hcv, hlv⟩ := h
    exact ⟨cv, lv, hS.alloc _, hpb, hcv, hlv⟩
  have hL := Lib.hid (pLay h2 prim hp (u := .slice (some ⟨w.heap.size, 0, none⟩) 1 1) (l := [0]) (Rv.litC w [0]) (by simp))
  have w8 : IntKind.i64.wrap (here + 8) = here + 8 := by rw [IntKind.wrap_i64]; omega
  obtain ⟨h8, hh8⟩ : ∃ h8, h8 = here + 8 := ⟨_, rfl⟩
  have w82 : IntKind.i64.wrap (here + 8) = h8 := by rw [hh8]; exact w8
  rw [← hh8]
  clear h h2 w8 hh8 hh hp
  go_enter Try.func74, Try.ntmps74
  go_wp2_with (go_at_call 77; refine hL.out.mono ?_; rintro e w1 ⟨rfl, hP⟩; obtain ⟨cv, lv, hS, hpb, hcv, hlv⟩ := hP; obtain ⟨y0, y1, y2, y3, y4, y5, y6⟩ := (show Blk _ pb _ _ from hS.fact.2).c7)
  go_ret
  exact ⟨rfl, cv, lv, hS, hpb, hcv, hlv⟩
end Go.Proofs.Ytkcmphjgflbchaa
