/- Texts merged: PB9 RF D1 D2. -/
import Derived.Test.YtcfblcgdjhpdaaaZ5
import Derived.RangeFuncNested
import Derived.RangeFuncBound
import Derived.RangeFuncCalls
import Derived.RangeFuncLeaves
import Derived.Shelf.Abstract
import Derived.Shelf.RegionOpen
import Derived.OwnWalkIn
import Derived.TacticsInMore
import Derived.LoopNIn
import Derived.LoopIn
/- The reference's 'Find'. -/
namespace Go.Proofs.Ytcfblcgdjhpdaaa
open Go.RowKit
set_option linter.unusedVariables false
set_option linter.unusedSimpArgs false
attribute [local irreducible] cells19 cells20 rowL tabL
attribute [local go_sem] cell_set set_set m_undef

theorem bel_drewN {W w : World} (h : Below W.heap.size W w) (n : Nat) : Below W.heap.size W (w.drewN n) := h.trans ⟨rfl, rfl, rfl, Nat.le_refl _, fun _ _ => rfl⟩
theorem ba_ne {a b : ByteArray} (h : ¬ a = b) : (a.toList == b.toList) = false := by
  rw [ByteArray.toList_eq, ByteArray.toList_eq]
  simpa using fun e => h (ByteArray.ext (Array.toList_inj.1 e))
/-- No number up to k has this name. -/
def NoHit (L : List UInt8) (k : Nat) : Prop := ∀ x ∈ allIx.take k, ¬ (vis x = true ∧ nameOf x = L)
theorem num_find (L : List UInt8) : (allIx.filter vis).find? (fun x => nameOf x == L) = allIx.find? (fun x => vis x && (nameOf x == L)) := by
  rw [List.find?_filter]; congr 1; funext x; by_cases h : nameOf x = L <;> cases vis x <;> simp [h]
theorem numOf_hit (L : List UInt8) (k : Nat) (hk : k < 141) (h : NoHit L k) (hv : vis ⟨k + 1, by omega, by omega⟩ = true) (hn : nameOf ⟨k + 1, by omega, by omega⟩ = L) : numOf L = (k : Int) + 1 := by
  unfold numOf
  rw [num_find]
  have e : allIx = allIx.take k ++ (⟨k + 1, by omega, by omega⟩ :: allIx.drop (k + 1)) := by
    rw [← List.singleton_append, ← List.append_assoc, allIx_next k hk, List.take_append_drop]
  rw [e, List.find?_append, List.find?_eq_none.2 (fun x hx => by have := h x hx; simpa using this), Option.none_or, List.find?_cons_of_pos (by simp [hv, hn])]
  show ((k + 1 : Nat) : Int) = _
  omega
theorem numOf_miss (L : List UInt8) (h : NoHit L 141) : numOf L = 0 := by
  unfold numOf
  rw [num_find, List.find?_eq_none.2 (fun x hx => by
    have := h x (by rw [← allIx_len, List.take_length]; exact hx)
    simpa using this)]
theorem NoHit.next {L : List UInt8} {k : Nat} (hk : k < 141) (h : NoHit L k) (hx : ¬ (vis ⟨k + 1, by omega, by omega⟩ = true ∧ nameOf ⟨k + 1, by omega, by omega⟩ = L)) : NoHit L (k + 1) := fun x hm => by
  rw [← allIx_next k hk] at hm
  rcases List.mem_append.1 hm with h1 | h1
  · exact h x h1
  · rw [List.mem_singleton.1 h1]; exact hx

set_option maxRecDepth 100000 in
set_option maxHeartbeats 2000000 in
theorem rFind (s : ByteArray) (hs : s.size ≤ 1000) (w : World) : Calls Try.prog 37 #[.string s] w fun e w' => e = .returned (.int .i64 (numOf (large s).data.toList)) ∧ Below w.heap.size w w' := by
  have HL := Lib.hid (fun w => rLarge s hs w)
  obtain ⟨L, hL⟩ : ∃ L, L = large s := ⟨_, rfl⟩
  rw [← hL] at HL ⊢
  clear hL hs
  have hw1 : ∀ k : Nat, k < 141 → IntKind.i64.wrap ((k : Int) + 1) = (k : Int) + 1 := fun k hk => by rw [IntKind.wrap_i64]; omega
  go_enter Try.func37, Try.ntmps37
  go_wp2_with (go_at_call 61; refine (tableB _).mono ?_; rintro e w1 ⟨rfl, hb_w1, hk1⟩)
  go_loopw [7] (fun i wr => ∃ k : Nat, k ≤ 141 ∧ i = .int .i64 (k : Int) ∧ NoHit L.data.toList k ∧ Blk wr w.heap.size cells20 101 ∧ Below w.heap.size w wr) (fun i _ => (141 - (intOf i).toNat))
  case atStart =>
    exact ⟨0, by omega, rfl, fun x hx => by simp at hx, hk1, hb_w1⟩
  case round =>
    obtain ⟨k, hk, rfl, hno, hkr, hbl⟩ := hrel
    clear hk1 hb_w1
    by_cases hk0 : k < 141
    · have hwk := hw1 k hk0
      have t1 : (k : Int) < 141 := by omega
      have hc := fun j hj => tab_cells k hk0 j hj
      have hr := tab_rowL k hk0
      have hnm : nameOf ⟨k + 1, by omega, by omega⟩ = (tabL.getD k default).1.data.toList := by
        unfold nameOf rowAt
        rw [← hr]; rfl
      obtain ⟨r, hr2⟩ : ∃ r, r = tabL.getD k default := ⟨_, rfl⟩
      rw [← hr2] at hc hnm
      clear hr2 hr
      obtain ⟨nm, tk, ly, mk⟩ := r
      have c0 : cells20[k * 4]? = some (.string nm) := hc 0 (by omega)
      have c1 : cells20[k * 4 + 1]? = some (.int .i64 tk) := hc 1 (by omega)
      have c2 : cells20[k * 4 + 2]? = some (.int .i64 ly) := hc 2 (by omega)
      have c3 : cells20[k * 4 + 3]? = some (.int .i64 mk) := hc 3 (by omega)
      have y0 := (hkr.cell (k * 4)).trans c0
      have y1 := (hkr.cell (k * 4 + 1)).trans c1
      have y2 := (hkr.cell (k * 4 + 2)).trans c2
      have y3 := (hkr.cell (k * 4 + 3)).trans c3
      clear hc c0 c1 c2 c3
      have hvis : vis ⟨k + 1, by omega, by omega⟩ = (decide (k < 1) || decide (10 < k)) := by
        show (decide (k + 1 < 2) || decide (11 < k + 1)) = _
        congr 1 <;> (rw [decide_eq_decide]; omega)
      have hhit := numOf_hit L.data.toList k hk0 hno
      have hnext := fun h => hno.next hk0 h
      by_cases t2 : k < 1
      · have t2' : (k : Int) < 1 := by omega
        by_cases hL : nm = L
        · have H := Lib.hid (hhit (by rw [hvis]; simp [t2]) (by rw [hnm, hL]))
          subst hL
          clear hnext hhit hvis hno hnm
          go_upto_region 4 with fail
          refine wp_region_noPanic ?_
          refine wp_region_held_drew (S := (fun w' => w'.cell? ⟨wr.heap.size, 0, none⟩ = some (.string nm))) (by kernel_rfl) ?_ (fun hHeld => ?_)
          · (try dsimp only); (first | go_keep | assumption)
          refine wpAnyH_take (i := 0) (oi := { dst := some 12, op := Go.Op.move (Go.Operand.tmp 3), type := 3, pos := "ref.go:187", after := #[], guard := none }) (v := ?v1) rfl (by kernel_rfl) (by kernel_rfl) (by kernel_rfl) (fun _ _ _ h => h) (Or.inl ⟨by rfl, ?hy1⟩) (by assumption) ?rest1
          case hy1 => (intro w hSw; (try dsimp only at hSw); go_simp <;> with_reducible rfl)
          try simp only [Act.put, List.setIfInBounds_toArray, List.set_cons_zero, List.set_cons_succ]
          refine wpAnyH_take (i := 1) (oi := { dst := some 13, op := Go.Op.binOp Go.BinOp.lss 3 (Go.Operand.tmp 12) (Go.Operand.const (Go.Value.int Go.IntKind.i64 1)) 3, type := 4, pos := "ref.go:187", after := #[{ on := 0, ground := Go.Ground.data }], guard := none }) (v := ?v2) rfl (by kernel_rfl) (by kernel_rfl) (by kernel_rfl) (fun _ _ _ h => h) (Or.inl ⟨by rfl, ?hy2⟩) (by assumption) ?rest2
          case hy2 => (intro w hSw; (try dsimp only at hSw); go_simp <;> with_reducible rfl)
          try simp only [Act.put, List.setIfInBounds_toArray, List.set_cons_zero, List.set_cons_succ]
          refine wpAnyH_take (i := 2) (oi := { dst := some 14, op := Go.Op.move (Go.Operand.tmp 13), type := 4, pos := "ref.go:187", after := #[{ on := 1, ground := Go.Ground.data }], guard := none }) (v := ?v3) rfl (by kernel_rfl) (by kernel_rfl) (by kernel_rfl) (fun _ _ _ h => h) (Or.inl ⟨by rfl, ?hy3⟩) (by assumption) ?rest3
          case hy3 => (intro w hSw; (try dsimp only at hSw); go_simp <;> with_reducible rfl)
          try simp only [Act.put, List.setIfInBounds_toArray, List.set_cons_zero, List.set_cons_succ]
          refine wpAnyH_take (i := 3) (oi := { dst := some 15, op := Go.Op.move (Go.Operand.tmp 3), type := 3, pos := "ref.go:187", after := #[{ on := 2, ground := Go.Ground.guard }], guard := some (2, false) }) (v := undef) rfl (by kernel_rfl) (by kernel_rfl) (by kernel_rfl) (fun _ _ _ h => h) (Or.inr ⟨by rfl, rfl⟩) (by assumption) ?_
          try simp only [Act.put, List.setIfInBounds_toArray, List.set_cons_zero, List.set_cons_succ]
          refine wpAnyH_take (i := 4) (oi := { dst := some 16, op := Go.Op.binOp Go.BinOp.gtr 3 (Go.Operand.tmp 15) (Go.Operand.const (Go.Value.int Go.IntKind.i64 10)) 3, type := 4, pos := "ref.go:187", after := #[{ on := 3, ground := Go.Ground.data }, { on := 2, ground := Go.Ground.guard }], guard := some (2, false) }) (v := undef) rfl (by kernel_rfl) (by kernel_rfl) (by kernel_rfl) (fun _ _ _ h => h) (Or.inr ⟨by rfl, rfl⟩) (by assumption) ?_
          try simp only [Act.put, List.setIfInBounds_toArray, List.set_cons_zero, List.set_cons_succ]
          refine wpAnyH_take (i := 5) (oi := { dst := some 17, op := Go.Op.pick (Go.Operand.tmp 14) (Go.Operand.const (Go.Value.bool true)) (Go.Operand.tmp 16), type := 4, pos := "ref.go:187", after := #[{ on := 2, ground := Go.Ground.data }, { on := 4, ground := Go.Ground.data }], guard := none }) (v := ?v4) rfl (by kernel_rfl) (by kernel_rfl) (by kernel_rfl) (fun _ _ _ h => h) (Or.inl ⟨by rfl, ?hy4⟩) (by assumption) ?rest4
          case hy4 => (intro w hSw; (try dsimp only at hSw); go_simp <;> with_reducible rfl)
          try simp only [Act.put, List.setIfInBounds_toArray, List.set_cons_zero, List.set_cons_succ]
          refine wpAnyH_take (i := 6) (oi := { dst := some 18, op := Go.Op.move (Go.Operand.tmp 17), type := 4, pos := "ref.go:187", after := #[{ on := 5, ground := Go.Ground.data }, { on := 2, ground := Go.Ground.chain }], guard := none }) (v := ?v5) rfl (by kernel_rfl) (by kernel_rfl) (by kernel_rfl) (fun _ _ _ h => h) (Or.inl ⟨by rfl, ?hy5⟩) (by assumption) ?rest5
          case hy5 => (intro w hSw; (try dsimp only at hSw); go_simp <;> with_reducible rfl)
          try simp only [Act.put, List.setIfInBounds_toArray, List.set_cons_zero, List.set_cons_succ]
          refine wpAnyH_take (i := 7) (oi := { dst := some 19, op := Go.Op.fieldAddr 101 (Go.Operand.tmp 4) 0, type := 0, pos := "ref.go:187", after := #[{ on := 6, ground := Go.Ground.guard }], guard := some (6, true) }) (v := ?v6) rfl (by kernel_rfl) (by kernel_rfl) (by kernel_rfl) (fun _ _ _ h => h) (Or.inl ⟨by rfl, ?hy6⟩) (by assumption) ?rest6
          case hy6 => (intro w hSw; (try dsimp only at hSw); go_simp <;> with_reducible rfl)
          try simp only [Act.put, List.setIfInBounds_toArray, List.set_cons_zero, List.set_cons_succ]
          refine wpAnyH_take (i := 8) (oi := { dst := some 20, op := Go.Op.load 9 (Go.Operand.tmp 19), type := 9, pos := "ref.go:187", after := #[{ on := 7, ground := Go.Ground.data }, { on := 6, ground := Go.Ground.guard }], guard := some (6, true) }) (v := ?v7) rfl (by kernel_rfl) (by kernel_rfl) (by kernel_rfl) (fun _ _ _ h => h) (Or.inl ⟨by rfl, ?hy7⟩) (by assumption) ?rest7
          case hy7 => (intro w hSw; (try dsimp only at hSw); go_simp <;> with_reducible rfl)
          try simp only [Act.put, List.setIfInBounds_toArray, List.set_cons_zero, List.set_cons_succ]
          refine wpAnyH_take (i := 9) (oi := { dst := some 21, op := Go.Op.move (Go.Operand.tmp 0), type := 9, pos := "ref.go:187", after := #[{ on := 6, ground := Go.Ground.guard }], guard := some (6, true) }) (v := ?v8) rfl (by kernel_rfl) (by kernel_rfl) (by kernel_rfl) (fun _ _ _ h => h) (Or.inl ⟨by rfl, ?hy8⟩) (by assumption) ?rest8
          case hy8 => (intro w hSw; (try dsimp only at hSw); go_simp <;> with_reducible rfl)
          try simp only [Act.put, List.setIfInBounds_toArray, List.set_cons_zero, List.set_cons_succ]
          refine wpAnyH_ready (rs := [10]) (by kernel_rfl) (by simp) ?_
          refine AllReadyH.cons (o := { dst := some 22, op := Go.Op.call { callee := Go.Callee.value (Go.Operand.func 36), args := #[Go.Operand.tmp 21], argTypes := #[9] }, type := 9, pos := "ref.go:187", after := #[{ on := 9, ground := Go.Ground.data }, { on := 6, ground := Go.Ground.chain }, { on := 6, ground := Go.Ground.guard }], guard := some (6, true) }) rfl (fun K hK => ?_) AllReadyH.nil
          go_simp
          go_at_call 36; refine (HL.out _).mono ?_; rintro e w2 ⟨rfl, hb_w2⟩; obtain ⟨m1, m2, m3, m4, m5, m6, m7, m8, m9⟩ := (show Blk w2 (wr.heap.size) #[.string nm, .int .i64 tk, .int .i64 ly, .int .i64 mk] 101 from (by repeat (first | (with_reducible assumption) | (with_reducible refine Blk.new' ?_; first | rfl | (simp; done) | (simp; omega)) | (with_reducible apply Blk.setFive) | (with_reducible apply Blk.set0) | (with_reducible apply Blk.set1) | (with_reducible apply Blk.setOne) | (with_reducible refine Blk.set_other ?_ (by omega) _ _) | (with_reducible apply Blk.alloc) | (with_reducible apply Blk.drew) | (with_reducible refine Blk.below ?_ (by with_reducible assumption))))).four
          refine hK.out _ _ ?_ (fun hHeld2 => ?_)
          · (try dsimp only); (first | go_keep | assumption)
          clear hK K hHeld
          have hHeld := hHeld2
          clear hHeld2
          try simp only [Act.put, List.setIfInBounds_toArray, List.set_cons_zero, List.set_cons_succ]
          refine wpAnyH_take (i := 11) (oi := { dst := some 23, op := Go.Op.binOp Go.BinOp.eql 9 (Go.Operand.tmp 20) (Go.Operand.tmp 22) 9, type := 4, pos := "ref.go:187", after := #[{ on := 8, ground := Go.Ground.data }, { on := 10, ground := Go.Ground.data }, { on := 6, ground := Go.Ground.guard }], guard := some (6, true) }) (v := ?v9) rfl (by kernel_rfl) (by kernel_rfl) (by kernel_rfl) (fun _ _ _ h => h) (Or.inl ⟨by rfl, ?hy9⟩) (by assumption) ?rest9
          case hy9 => (intro w hSw; (try dsimp only at hSw); go_simp <;> with_reducible rfl)
          try simp only [Act.put, List.setIfInBounds_toArray, List.set_cons_zero, List.set_cons_succ]
          refine wpAnyH_take (i := 12) (oi := { dst := some 24, op := Go.Op.pick (Go.Operand.tmp 18) (Go.Operand.tmp 23) (Go.Operand.const (Go.Value.bool false)), type := 4, pos := "ref.go:187", after := #[{ on := 6, ground := Go.Ground.data }, { on := 11, ground := Go.Ground.data }], guard := none }) (v := ?v10) rfl (by kernel_rfl) (by kernel_rfl) (by kernel_rfl) (fun _ _ _ h => h) (Or.inl ⟨by rfl, ?hy10⟩) (by assumption) ?rest10
          case hy10 => (intro w hSw; (try dsimp only at hSw); go_simp <;> with_reducible rfl)
          try simp only [Act.put, List.setIfInBounds_toArray, List.set_cons_zero, List.set_cons_succ]
          refine wpAnyH_done (by kernel_rfl) ?_ _
          refine NoPanic.normal ?_
          all_goals
            go_wp2
            go_ret
            exact ⟨by rw [H.out]; rfl, by repeat (first | (with_reducible exact Below.refl _ _) | (with_reducible assumption) | (with_reducible apply bel_alloc) | (with_reducible apply bel_drew) | (with_reducible refine bel_set ?_ (by first | exact Nat.le_refl _ | (simp; done) | omega | (simp; omega)) _) | (with_reducible refine bel_trans ?_ (by with_reducible assumption)))⟩
        · have H := Lib.hid (hnext (fun h => hL (by have h2 := h.2; rw [hnm] at h2; exact ByteArray.ext (Array.toList_inj.1 h2))))
          have hLb := ba_ne hL
          clear hnext hhit hvis hno hnm
          go_upto_region 4 with fail
          refine wp_region_noPanic ?_
          refine wp_region_held_drew (S := (fun w' => w'.cell? ⟨wr.heap.size, 0, none⟩ = some (.string nm))) (by kernel_rfl) ?_ (fun hHeld => ?_)
          · (try dsimp only); (first | go_keep | assumption)
          refine wpAnyH_take (i := 0) (oi := { dst := some 12, op := Go.Op.move (Go.Operand.tmp 3), type := 3, pos := "ref.go:187", after := #[], guard := none }) (v := ?v11) rfl (by kernel_rfl) (by kernel_rfl) (by kernel_rfl) (fun _ _ _ h => h) (Or.inl ⟨by rfl, ?hy11⟩) (by assumption) ?rest11
          case hy11 => (intro w hSw; (try dsimp only at hSw); go_simp <;> with_reducible rfl)
          try simp only [Act.put, List.setIfInBounds_toArray, List.set_cons_zero, List.set_cons_succ]
          refine wpAnyH_take (i := 1) (oi := { dst := some 13, op := Go.Op.binOp Go.BinOp.lss 3 (Go.Operand.tmp 12) (Go.Operand.const (Go.Value.int Go.IntKind.i64 1)) 3, type := 4, pos := "ref.go:187", after := #[{ on := 0, ground := Go.Ground.data }], guard := none }) (v := ?v12) rfl (by kernel_rfl) (by kernel_rfl) (by kernel_rfl) (fun _ _ _ h => h) (Or.inl ⟨by rfl, ?hy12⟩) (by assumption) ?rest12
          case hy12 => (intro w hSw; (try dsimp only at hSw); go_simp <;> with_reducible rfl)
          try simp only [Act.put, List.setIfInBounds_toArray, List.set_cons_zero, List.set_cons_succ]
          refine wpAnyH_take (i := 2) (oi := { dst := some 14, op := Go.Op.move (Go.Operand.tmp 13), type := 4, pos := "ref.go:187", after := #[{ on := 1, ground := Go.Ground.data }], guard := none }) (v := ?v13) rfl (by kernel_rfl) (by kernel_rfl) (by kernel_rfl) (fun _ _ _ h => h) (Or.inl ⟨by rfl, ?hy13⟩) (by assumption) ?rest13
          case hy13 => (intro w hSw; (try dsimp only at hSw); go_simp <;> with_reducible rfl)
          try simp only [Act.put, List.setIfInBounds_toArray, List.set_cons_zero, List.set_cons_succ]
          refine wpAnyH_take (i := 3) (oi := { dst := some 15, op := Go.Op.move (Go.Operand.tmp 3), type := 3, pos := "ref.go:187", after := #[{ on := 2, ground := Go.Ground.guard }], guard := some (2, false) }) (v := undef) rfl (by kernel_rfl) (by kernel_rfl) (by kernel_rfl) (fun _ _ _ h => h) (Or.inr ⟨by rfl, rfl⟩) (by assumption) ?_
          try simp only [Act.put, List.setIfInBounds_toArray, List.set_cons_zero, List.set_cons_succ]
          refine wpAnyH_take (i := 4) (oi := { dst := some 16, op := Go.Op.binOp Go.BinOp.gtr 3 (Go.Operand.tmp 15) (Go.Operand.const (Go.Value.int Go.IntKind.i64 10)) 3, type := 4, pos := "ref.go:187", after := #[{ on := 3, ground := Go.Ground.data }, { on := 2, ground := Go.Ground.guard }], guard := some (2, false) }) (v := undef) rfl (by kernel_rfl) (by kernel_rfl) (by kernel_rfl) (fun _ _ _ h => h) (Or.inr ⟨by rfl, rfl⟩) (by assumption) ?_
          try simp only [Act.put, List.setIfInBounds_toArray, List.set_cons_zero, List.set_cons_succ]
          refine wpAnyH_take (i := 5) (oi := { dst := some 17, op := Go.Op.pick (Go.Operand.tmp 14) (Go.Operand.const (Go.Value.bool true)) (Go.Operand.tmp 16), type := 4, pos := "ref.go:187", after := #[{ on := 2, ground := Go.Ground.data }, { on := 4, ground := Go.Ground.data }], guard := none }) (v := ?v14) rfl (by kernel_rfl) (by kernel_rfl) (by kernel_rfl) (fun _ _ _ h => h) (Or.inl ⟨by rfl, ?hy14⟩) (by assumption) ?rest14
          case hy14 => (intro w hSw; (try dsimp only at hSw); go_simp <;> with_reducible rfl)
          try simp only [Act.put, List.setIfInBounds_toArray, List.set_cons_zero, List.set_cons_succ]
          refine wpAnyH_take (i := 6) (oi := { dst := some 18, op := Go.Op.move (Go.Operand.tmp 17), type := 4, pos := "ref.go:187", after := #[{ on := 5, ground := Go.Ground.data }, { on := 2, ground := Go.Ground.chain }], guard := none }) (v := ?v15) rfl (by kernel_rfl) (by kernel_rfl) (by kernel_rfl) (fun _ _ _ h => h) (Or.inl ⟨by rfl, ?hy15⟩) (by assumption) ?rest15
          case hy15 => (intro w hSw; (try dsimp only at hSw); go_simp <;> with_reducible rfl)
          try simp only [Act.put, List.setIfInBounds_toArray, List.set_cons_zero, List.set_cons_succ]
          refine wpAnyH_take (i := 7) (oi := { dst := some 19, op := Go.Op.fieldAddr 101 (Go.Operand.tmp 4) 0, type := 0, pos := "ref.go:187", after := #[{ on := 6, ground := Go.Ground.guard }], guard := some (6, true) }) (v := ?v16) rfl (by kernel_rfl) (by kernel_rfl) (by kernel_rfl) (fun _ _ _ h => h) (Or.inl ⟨by rfl, ?hy16⟩) (by assumption) ?rest16
          case hy16 => (intro w hSw; (try dsimp only at hSw); go_simp <;> with_reducible rfl)
          try simp only [Act.put, List.setIfInBounds_toArray, List.set_cons_zero, List.set_cons_succ]
          refine wpAnyH_take (i := 8) (oi := { dst := some 20, op := Go.Op.load 9 (Go.Operand.tmp 19), type := 9, pos := "ref.go:187", after := #[{ on := 7, ground := Go.Ground.data }, { on := 6, ground := Go.Ground.guard }], guard := some (6, true) }) (v := ?v17) rfl (by kernel_rfl) (by kernel_rfl) (by kernel_rfl) (fun _ _ _ h => h) (Or.inl ⟨by rfl, ?hy17⟩) (by assumption) ?rest17
          case hy17 => (intro w hSw; (try dsimp only at hSw); go_simp <;> with_reducible rfl)
          try simp only [Act.put, List.setIfInBounds_toArray, List.set_cons_zero, List.set_cons_succ]
          refine wpAnyH_take (i := 9) (oi := { dst := some 21, op := Go.Op.move (Go.Operand.tmp 0), type := 9, pos := "ref.go:187", after := #[{ on := 6, ground := Go.Ground.guard }], guard := some (6, true) }) (v := ?v18) rfl (by kernel_rfl) (by kernel_rfl) (by kernel_rfl) (fun _ _ _ h => h) (Or.inl ⟨by rfl, ?hy18⟩) (by assumption) ?rest18
          case hy18 => (intro w hSw; (try dsimp only at hSw); go_simp <;> with_reducible rfl)
          try simp only [Act.put, List.setIfInBounds_toArray, List.set_cons_zero, List.set_cons_succ]
          refine wpAnyH_ready (rs := [10]) (by kernel_rfl) (by simp) ?_
          refine AllReadyH.cons (o := { dst := some 22, op := Go.Op.call { callee := Go.Callee.value (Go.Operand.func 36), args := #[Go.Operand.tmp 21], argTypes := #[9] }, type := 9, pos := "ref.go:187", after := #[{ on := 9, ground := Go.Ground.data }, { on := 6, ground := Go.Ground.chain }, { on := 6, ground := Go.Ground.guard }], guard := some (6, true) }) rfl (fun K hK => ?_) AllReadyH.nil
          go_simp
          go_at_call 36; refine (HL.out _).mono ?_; rintro e w2 ⟨rfl, hb_w2⟩; obtain ⟨m1, m2, m3, m4, m5, m6, m7, m8, m9⟩ := (show Blk w2 (wr.heap.size) #[.string nm, .int .i64 tk, .int .i64 ly, .int .i64 mk] 101 from (by repeat (first | (with_reducible assumption) | (with_reducible refine Blk.new' ?_; first | rfl | (simp; done) | (simp; omega)) | (with_reducible apply Blk.setFive) | (with_reducible apply Blk.set0) | (with_reducible apply Blk.set1) | (with_reducible apply Blk.setOne) | (with_reducible refine Blk.set_other ?_ (by omega) _ _) | (with_reducible apply Blk.alloc) | (with_reducible apply Blk.drew) | (with_reducible refine Blk.below ?_ (by with_reducible assumption))))).four
          refine hK.out _ _ ?_ (fun hHeld2 => ?_)
          · (try dsimp only); (first | go_keep | assumption)
          clear hK K hHeld
          have hHeld := hHeld2
          clear hHeld2
          try simp only [Act.put, List.setIfInBounds_toArray, List.set_cons_zero, List.set_cons_succ]
          refine wpAnyH_take (i := 11) (oi := { dst := some 23, op := Go.Op.binOp Go.BinOp.eql 9 (Go.Operand.tmp 20) (Go.Operand.tmp 22) 9, type := 4, pos := "ref.go:187", after := #[{ on := 8, ground := Go.Ground.data }, { on := 10, ground := Go.Ground.data }, { on := 6, ground := Go.Ground.guard }], guard := some (6, true) }) (v := ?v19) rfl (by kernel_rfl) (by kernel_rfl) (by kernel_rfl) (fun _ _ _ h => h) (Or.inl ⟨by rfl, ?hy19⟩) (by assumption) ?rest19
          case hy19 => (intro w hSw; (try dsimp only at hSw); go_simp <;> with_reducible rfl)
          try simp only [Act.put, List.setIfInBounds_toArray, List.set_cons_zero, List.set_cons_succ]
          refine wpAnyH_take (i := 12) (oi := { dst := some 24, op := Go.Op.pick (Go.Operand.tmp 18) (Go.Operand.tmp 23) (Go.Operand.const (Go.Value.bool false)), type := 4, pos := "ref.go:187", after := #[{ on := 6, ground := Go.Ground.data }, { on := 11, ground := Go.Ground.data }], guard := none }) (v := ?v20) rfl (by kernel_rfl) (by kernel_rfl) (by kernel_rfl) (fun _ _ _ h => h) (Or.inl ⟨by rfl, ?hy20⟩) (by assumption) ?rest20
          case hy20 => (intro w hSw; (try dsimp only at hSw); go_simp <;> with_reducible rfl)
          try simp only [Act.put, List.setIfInBounds_toArray, List.set_cons_zero, List.set_cons_succ]
          refine wpAnyH_done (by kernel_rfl) ?_ _
          refine NoPanic.normal ?_
          all_goals
            go_wp2
            go_roundw
            case rel => exact ⟨k + 1, by omega, rfl, H.out, by repeat (first | (with_reducible assumption) | (with_reducible refine Blk.new' ?_; first | rfl | (simp; done) | (simp; omega)) | (with_reducible apply Blk.set01) | (with_reducible apply Blk.set0) | (with_reducible apply Blk.set1) | (with_reducible apply Blk.setOne) | (with_reducible refine Blk.set_other ?_ (by omega) _ _) | (with_reducible apply Blk.alloc) | (with_reducible apply Blk.drew) | (with_reducible refine Blk.below ?_ (by with_reducible assumption))), by repeat (first | (with_reducible exact Below.refl _ _) | (with_reducible assumption) | (with_reducible apply bel_alloc) | (with_reducible apply bel_drew) | (with_reducible refine bel_set ?_ (by first | exact Nat.le_refl _ | (simp; done) | omega | (simp; omega)) _) | (with_reducible refine bel_trans ?_ (by with_reducible assumption)))⟩
            case measure => simp [intOf]; omega
      by_cases t3 : 10 < k
      · have t2' : ¬ (k : Int) < 1 := by omega
        have t3' : (10 : Int) < (k : Int) := by omega
        by_cases hL : nm = L
        · have H := Lib.hid (hhit (by rw [hvis]; simp [t3]) (by rw [hnm, hL]))
          subst hL
          clear hnext hhit hvis hno hnm
          go_upto_region 4 with fail
          refine wp_region_noPanic ?_
          refine wp_region_held_drew (S := (fun w' => w'.cell? ⟨wr.heap.size, 0, none⟩ = some (.string nm))) (by kernel_rfl) ?_ (fun hHeld => ?_)
          · (try dsimp only); (first | go_keep | assumption)
          refine wpAnyH_take (i := 0) (oi := { dst := some 12, op := Go.Op.move (Go.Operand.tmp 3), type := 3, pos := "ref.go:187", after := #[], guard := none }) (v := ?v21) rfl (by kernel_rfl) (by kernel_rfl) (by kernel_rfl) (fun _ _ _ h => h) (Or.inl ⟨by rfl, ?hy21⟩) (by assumption) ?rest21
          case hy21 => (intro w hSw; (try dsimp only at hSw); go_simp <;> with_reducible rfl)
          try simp only [Act.put, List.setIfInBounds_toArray, List.set_cons_zero, List.set_cons_succ]
          refine wpAnyH_take (i := 1) (oi := { dst := some 13, op := Go.Op.binOp Go.BinOp.lss 3 (Go.Operand.tmp 12) (Go.Operand.const (Go.Value.int Go.IntKind.i64 1)) 3, type := 4, pos := "ref.go:187", after := #[{ on := 0, ground := Go.Ground.data }], guard := none }) (v := ?v22) rfl (by kernel_rfl) (by kernel_rfl) (by kernel_rfl) (fun _ _ _ h => h) (Or.inl ⟨by rfl, ?hy22⟩) (by assumption) ?rest22
          case hy22 => (intro w hSw; (try dsimp only at hSw); go_simp <;> with_reducible rfl)
          try simp only [Act.put, List.setIfInBounds_toArray, List.set_cons_zero, List.set_cons_succ]
          refine wpAnyH_take (i := 2) (oi := { dst := some 14, op := Go.Op.move (Go.Operand.tmp 13), type := 4, pos := "ref.go:187", after := #[{ on := 1, ground := Go.Ground.data }], guard := none }) (v := ?v23) rfl (by kernel_rfl) (by kernel_rfl) (by kernel_rfl) (fun _ _ _ h => h) (Or.inl ⟨by rfl, ?hy23⟩) (by assumption) ?rest23
          case hy23 => (intro w hSw; (try dsimp only at hSw); go_simp <;> with_reducible rfl)
          try simp only [Act.put, List.setIfInBounds_toArray, List.set_cons_zero, List.set_cons_succ]
          refine wpAnyH_take (i := 3) (oi := { dst := some 15, op := Go.Op.move (Go.Operand.tmp 3), type := 3, pos := "ref.go:187", after := #[{ on := 2, ground := Go.Ground.guard }], guard := some (2, false) }) (v := ?v24) rfl (by kernel_rfl) (by kernel_rfl) (by kernel_rfl) (fun _ _ _ h => h) (Or.inl ⟨by rfl, ?hy24⟩) (by assumption) ?rest24
          case hy24 => (intro w hSw; (try dsimp only at hSw); go_simp <;> with_reducible rfl)
          try simp only [Act.put, List.setIfInBounds_toArray, List.set_cons_zero, List.set_cons_succ]
          refine wpAnyH_take (i := 4) (oi := { dst := some 16, op := Go.Op.binOp Go.BinOp.gtr 3 (Go.Operand.tmp 15) (Go.Operand.const (Go.Value.int Go.IntKind.i64 10)) 3, type := 4, pos := "ref.go:187", after := #[{ on := 3, ground := Go.Ground.data }, { on := 2, ground := Go.Ground.guard }], guard := some (2, false) }) (v := ?v25) rfl (by kernel_rfl) (by kernel_rfl) (by kernel_rfl) (fun _ _ _ h => h) (Or.inl ⟨by rfl, ?hy25⟩) (by assumption) ?rest25
          case hy25 => (intro w hSw; (try dsimp only at hSw); go_simp <;> with_reducible rfl)
          try simp only [Act.put, List.setIfInBounds_toArray, List.set_cons_zero, List.set_cons_succ]
          refine wpAnyH_take (i := 5) (oi := { dst := some 17, op := Go.Op.pick (Go.Operand.tmp 14) (Go.Operand.const (Go.Value.bool true)) (Go.Operand.tmp 16), type := 4, pos := "ref.go:187", after := #[{ on := 2, ground := Go.Ground.data }, { on := 4, ground := Go.Ground.data }], guard := none }) (v := ?v26) rfl (by kernel_rfl) (by kernel_rfl) (by kernel_rfl) (fun _ _ _ h => h) (Or.inl ⟨by rfl, ?hy26⟩) (by assumption) ?rest26
          case hy26 => (intro w hSw; (try dsimp only at hSw); go_simp <;> with_reducible rfl)
          try simp only [Act.put, List.setIfInBounds_toArray, List.set_cons_zero, List.set_cons_succ]
          refine wpAnyH_take (i := 6) (oi := { dst := some 18, op := Go.Op.move (Go.Operand.tmp 17), type := 4, pos := "ref.go:187", after := #[{ on := 5, ground := Go.Ground.data }, { on := 2, ground := Go.Ground.chain }], guard := none }) (v := ?v27) rfl (by kernel_rfl) (by kernel_rfl) (by kernel_rfl) (fun _ _ _ h => h) (Or.inl ⟨by rfl, ?hy27⟩) (by assumption) ?rest27
          case hy27 => (intro w hSw; (try dsimp only at hSw); go_simp <;> with_reducible rfl)
          try simp only [Act.put, List.setIfInBounds_toArray, List.set_cons_zero, List.set_cons_succ]
          refine wpAnyH_take (i := 7) (oi := { dst := some 19, op := Go.Op.fieldAddr 101 (Go.Operand.tmp 4) 0, type := 0, pos := "ref.go:187", after := #[{ on := 6, ground := Go.Ground.guard }], guard := some (6, true) }) (v := ?v28) rfl (by kernel_rfl) (by kernel_rfl) (by kernel_rfl) (fun _ _ _ h => h) (Or.inl ⟨by rfl, ?hy28⟩) (by assumption) ?rest28
          case hy28 => (intro w hSw; (try dsimp only at hSw); go_simp <;> with_reducible rfl)
          try simp only [Act.put, List.setIfInBounds_toArray, List.set_cons_zero, List.set_cons_succ]
          refine wpAnyH_take (i := 8) (oi := { dst := some 20, op := Go.Op.load 9 (Go.Operand.tmp 19), type := 9, pos := "ref.go:187", after := #[{ on := 7, ground := Go.Ground.data }, { on := 6, ground := Go.Ground.guard }], guard := some (6, true) }) (v := ?v29) rfl (by kernel_rfl) (by kernel_rfl) (by kernel_rfl) (fun _ _ _ h => h) (Or.inl ⟨by rfl, ?hy29⟩) (by assumption) ?rest29
          case hy29 => (intro w hSw; (try dsimp only at hSw); go_simp <;> with_reducible rfl)
          try simp only [Act.put, List.setIfInBounds_toArray, List.set_cons_zero, List.set_cons_succ]
          refine wpAnyH_take (i := 9) (oi := { dst := some 21, op := Go.Op.move (Go.Operand.tmp 0), type := 9, pos := "ref.go:187", after := #[{ on := 6, ground := Go.Ground.guard }], guard := some (6, true) }) (v := ?v30) rfl (by kernel_rfl) (by kernel_rfl) (by kernel_rfl) (fun _ _ _ h => h) (Or.inl ⟨by rfl, ?hy30⟩) (by assumption) ?rest30
          case hy30 => (intro w hSw; (try dsimp only at hSw); go_simp <;> with_reducible rfl)
          try simp only [Act.put, List.setIfInBounds_toArray, List.set_cons_zero, List.set_cons_succ]
          refine wpAnyH_ready (rs := [10]) (by kernel_rfl) (by simp) ?_
          refine AllReadyH.cons (o := { dst := some 22, op := Go.Op.call { callee := Go.Callee.value (Go.Operand.func 36), args := #[Go.Operand.tmp 21], argTypes := #[9] }, type := 9, pos := "ref.go:187", after := #[{ on := 9, ground := Go.Ground.data }, { on := 6, ground := Go.Ground.chain }, { on := 6, ground := Go.Ground.guard }], guard := some (6, true) }) rfl (fun K hK => ?_) AllReadyH.nil
          go_simp
          go_at_call 36; refine (HL.out _).mono ?_; rintro e w2 ⟨rfl, hb_w2⟩; obtain ⟨m1, m2, m3, m4, m5, m6, m7, m8, m9⟩ := (show Blk w2 (wr.heap.size) #[.string nm, .int .i64 tk, .int .i64 ly, .int .i64 mk] 101 from (by repeat (first | (with_reducible assumption) | (with_reducible refine Blk.new' ?_; first | rfl | (simp; done) | (simp; omega)) | (with_reducible apply Blk.setFive) | (with_reducible apply Blk.set0) | (with_reducible apply Blk.set1) | (with_reducible apply Blk.setOne) | (with_reducible refine Blk.set_other ?_ (by omega) _ _) | (with_reducible apply Blk.alloc) | (with_reducible apply Blk.drew) | (with_reducible refine Blk.below ?_ (by with_reducible assumption))))).four
          refine hK.out _ _ ?_ (fun hHeld2 => ?_)
          · (try dsimp only); (first | go_keep | assumption)
          clear hK K hHeld
          have hHeld := hHeld2
          clear hHeld2
          try simp only [Act.put, List.setIfInBounds_toArray, List.set_cons_zero, List.set_cons_succ]
          refine wpAnyH_take (i := 11) (oi := { dst := some 23, op := Go.Op.binOp Go.BinOp.eql 9 (Go.Operand.tmp 20) (Go.Operand.tmp 22) 9, type := 4, pos := "ref.go:187", after := #[{ on := 8, ground := Go.Ground.data }, { on := 10, ground := Go.Ground.data }, { on := 6, ground := Go.Ground.guard }], guard := some (6, true) }) (v := ?v31) rfl (by kernel_rfl) (by kernel_rfl) (by kernel_rfl) (fun _ _ _ h => h) (Or.inl ⟨by rfl, ?hy31⟩) (by assumption) ?rest31
          case hy31 => (intro w hSw; (try dsimp only at hSw); go_simp <;> with_reducible rfl)
          try simp only [Act.put, List.setIfInBounds_toArray, List.set_cons_zero, List.set_cons_succ]
          refine wpAnyH_take (i := 12) (oi := { dst := some 24, op := Go.Op.pick (Go.Operand.tmp 18) (Go.Operand.tmp 23) (Go.Operand.const (Go.Value.bool false)), type := 4, pos := "ref.go:187", after := #[{ on := 6, ground := Go.Ground.data }, { on := 11, ground := Go.Ground.data }], guard := none }) (v := ?v32) rfl (by kernel_rfl) (by kernel_rfl) (by kernel_rfl) (fun _ _ _ h => h) (Or.inl ⟨by rfl, ?hy32⟩) (by assumption) ?rest32
          case hy32 => (intro w hSw; (try dsimp only at hSw); go_simp <;> with_reducible rfl)
          try simp only [Act.put, List.setIfInBounds_toArray, List.set_cons_zero, List.set_cons_succ]
          refine wpAnyH_done (by kernel_rfl) ?_ _
          refine NoPanic.normal ?_
          all_goals
            go_wp2
            go_ret
            exact ⟨by rw [H.out]; rfl, by repeat (first | (with_reducible exact Below.refl _ _) | (with_reducible assumption) | (with_reducible apply bel_alloc) | (with_reducible apply bel_drew) | (with_reducible refine bel_set ?_ (by first | exact Nat.le_refl _ | (simp; done) | omega | (simp; omega)) _) | (with_reducible refine bel_trans ?_ (by with_reducible assumption)))⟩
        · have H := Lib.hid (hnext (fun h => hL (by have h2 := h.2; rw [hnm] at h2; exact ByteArray.ext (Array.toList_inj.1 h2))))
          have hLb := ba_ne hL
          clear hnext hhit hvis hno hnm
          go_upto_region 4 with fail
          refine wp_region_noPanic ?_
          refine wp_region_held_drew (S := (fun w' => w'.cell? ⟨wr.heap.size, 0, none⟩ = some (.string nm))) (by kernel_rfl) ?_ (fun hHeld => ?_)
          · (try dsimp only); (first | go_keep | assumption)
          refine wpAnyH_take (i := 0) (oi := { dst := some 12, op := Go.Op.move (Go.Operand.tmp 3), type := 3, pos := "ref.go:187", after := #[], guard := none }) (v := ?v33) rfl (by kernel_rfl) (by kernel_rfl) (by kernel_rfl) (fun _ _ _ h => h) (Or.inl ⟨by rfl, ?hy33⟩) (by assumption) ?rest33
          case hy33 => (intro w hSw; (try dsimp only at hSw); go_simp <;> with_reducible rfl)
          try simp only [Act.put, List.setIfInBounds_toArray, List.set_cons_zero, List.set_cons_succ]
          refine wpAnyH_take (i := 1) (oi := { dst := some 13, op := Go.Op.binOp Go.BinOp.lss 3 (Go.Operand.tmp 12) (Go.Operand.const (Go.Value.int Go.IntKind.i64 1)) 3, type := 4, pos := "ref.go:187", after := #[{ on := 0, ground := Go.Ground.data }], guard := none }) (v := ?v34) rfl (by kernel_rfl) (by kernel_rfl) (by kernel_rfl) (fun _ _ _ h => h) (Or.inl ⟨by rfl, ?hy34⟩) (by assumption) ?rest34
          case hy34 => (intro w hSw; (try dsimp only at hSw); go_simp <;> with_reducible rfl)
          try simp only [Act.put, List.setIfInBounds_toArray, List.set_cons_zero, List.set_cons_succ]
          refine wpAnyH_take (i := 2) (oi := { dst := some 14, op := Go.Op.move (Go.Operand.tmp 13), type := 4, pos := "ref.go:187", after := #[{ on := 1, ground := Go.Ground.data }], guard := none }) (v := ?v35) rfl (by kernel_rfl) (by kernel_rfl) (by kernel_rfl) (fun _ _ _ h => h) (Or.inl ⟨by rfl, ?hy35⟩) (by assumption) ?rest35
          case hy35 => (intro w hSw; (try dsimp only at hSw); go_simp <;> with_reducible rfl)
          try simp only [Act.put, List.setIfInBounds_toArray, List.set_cons_zero, List.set_cons_succ]
          refine wpAnyH_take (i := 3) (oi := { dst := some 15, op := Go.Op.move (Go.Operand.tmp 3), type := 3, pos := "ref.go:187", after := #[{ on := 2, ground := Go.Ground.guard }], guard := some (2, false) }) (v := ?v36) rfl (by kernel_rfl) (by kernel_rfl) (by kernel_rfl) (fun _ _ _ h => h) (Or.inl ⟨by rfl, ?hy36⟩) (by assumption) ?rest36
          case hy36 => (intro w hSw; (try dsimp only at hSw); go_simp <;> with_reducible rfl)
          try simp only [Act.put, List.setIfInBounds_toArray, List.set_cons_zero, List.set_cons_succ]
          refine wpAnyH_take (i := 4) (oi := { dst := some 16, op := Go.Op.binOp Go.BinOp.gtr 3 (Go.Operand.tmp 15) (Go.Operand.const (Go.Value.int Go.IntKind.i64 10)) 3, type := 4, pos := "ref.go:187", after := #[{ on := 3, ground := Go.Ground.data }, { on := 2, ground := Go.Ground.guard }], guard := some (2, false) }) (v := ?v37) rfl (by kernel_rfl) (by kernel_rfl) (by kernel_rfl) (fun _ _ _ h => h) (Or.inl ⟨by rfl, ?hy37⟩) (by assumption) ?rest37
          case hy37 => (intro w hSw; (try dsimp only at hSw); go_simp <;> with_reducible rfl)
          try simp only [Act.put, List.setIfInBounds_toArray, List.set_cons_zero, List.set_cons_succ]
          refine wpAnyH_take (i := 5) (oi := { dst := some 17, op := Go.Op.pick (Go.Operand.tmp 14) (Go.Operand.const (Go.Value.bool true)) (Go.Operand.tmp 16), type := 4, pos := "ref.go:187", after := #[{ on := 2, ground := Go.Ground.data }, { on := 4, ground := Go.Ground.data }], guard := none }) (v := ?v38) rfl (by kernel_rfl) (by kernel_rfl) (by kernel_rfl) (fun _ _ _ h => h) (Or.inl ⟨by rfl, ?hy38⟩) (by assumption) ?rest38
          case hy38 => (intro w hSw; (try dsimp only at hSw); go_simp <;> with_reducible rfl)
          try simp only [Act.put, List.setIfInBounds_toArray, List.set_cons_zero, List.set_cons_succ]
          refine wpAnyH_take (i := 6) (oi := { dst := some 18, op := Go.Op.move (Go.Operand.tmp 17), type := 4, pos := "ref.go:187", after := #[{ on := 5, ground := Go.Ground.data }, { on := 2, ground := Go.Ground.chain }], guard := none }) (v := ?v39) rfl (by kernel_rfl) (by kernel_rfl) (by kernel_rfl) (fun _ _ _ h => h) (Or.inl ⟨by rfl, ?hy39⟩) (by assumption) ?rest39
          case hy39 => (intro w hSw; (try dsimp only at hSw); go_simp <;> with_reducible rfl)
          try simp only [Act.put, List.setIfInBounds_toArray, List.set_cons_zero, List.set_cons_succ]
          refine wpAnyH_take (i := 7) (oi := { dst := some 19, op := Go.Op.fieldAddr 101 (Go.Operand.tmp 4) 0, type := 0, pos := "ref.go:187", after := #[{ on := 6, ground := Go.Ground.guard }], guard := some (6, true) }) (v := ?v40) rfl (by kernel_rfl) (by kernel_rfl) (by kernel_rfl) (fun _ _ _ h => h) (Or.inl ⟨by rfl, ?hy40⟩) (by assumption) ?rest40
          case hy40 => (intro w hSw; (try dsimp only at hSw); go_simp <;> with_reducible rfl)
          try simp only [Act.put, List.setIfInBounds_toArray, List.set_cons_zero, List.set_cons_succ]
          refine wpAnyH_take (i := 8) (oi := { dst := some 20, op := Go.Op.load 9 (Go.Operand.tmp 19), type := 9, pos := "ref.go:187", after := #[{ on := 7, ground := Go.Ground.data }, { on := 6, ground := Go.Ground.guard }], guard := some (6, true) }) (v := ?v41) rfl (by kernel_rfl) (by kernel_rfl) (by kernel_rfl) (fun _ _ _ h => h) (Or.inl ⟨by rfl, ?hy41⟩) (by assumption) ?rest41
          case hy41 => (intro w hSw; (try dsimp only at hSw); go_simp <;> with_reducible rfl)
          try simp only [Act.put, List.setIfInBounds_toArray, List.set_cons_zero, List.set_cons_succ]
          refine wpAnyH_take (i := 9) (oi := { dst := some 21, op := Go.Op.move (Go.Operand.tmp 0), type := 9, pos := "ref.go:187", after := #[{ on := 6, ground := Go.Ground.guard }], guard := some (6, true) }) (v := ?v42) rfl (by kernel_rfl) (by kernel_rfl) (by kernel_rfl) (fun _ _ _ h => h) (Or.inl ⟨by rfl, ?hy42⟩) (by assumption) ?rest42
          case hy42 => (intro w hSw; (try dsimp only at hSw); go_simp <;> with_reducible rfl)
          try simp only [Act.put, List.setIfInBounds_toArray, List.set_cons_zero, List.set_cons_succ]
          refine wpAnyH_ready (rs := [10]) (by kernel_rfl) (by simp) ?_
          refine AllReadyH.cons (o := { dst := some 22, op := Go.Op.call { callee := Go.Callee.value (Go.Operand.func 36), args := #[Go.Operand.tmp 21], argTypes := #[9] }, type := 9, pos := "ref.go:187", after := #[{ on := 9, ground := Go.Ground.data }, { on := 6, ground := Go.Ground.chain }, { on := 6, ground := Go.Ground.guard }], guard := some (6, true) }) rfl (fun K hK => ?_) AllReadyH.nil
          go_simp
          go_at_call 36; refine (HL.out _).mono ?_; rintro e w2 ⟨rfl, hb_w2⟩; obtain ⟨m1, m2, m3, m4, m5, m6, m7, m8, m9⟩ := (show Blk w2 (wr.heap.size) #[.string nm, .int .i64 tk, .int .i64 ly, .int .i64 mk] 101 from (by repeat (first | (with_reducible assumption) | (with_reducible refine Blk.new' ?_; first | rfl | (simp; done) | (simp; omega)) | (with_reducible apply Blk.setFive) | (with_reducible apply Blk.set0) | (with_reducible apply Blk.set1) | (with_reducible apply Blk.setOne) | (with_reducible refine Blk.set_other ?_ (by omega) _ _) | (with_reducible apply Blk.alloc) | (with_reducible apply Blk.drew) | (with_reducible refine Blk.below ?_ (by with_reducible assumption))))).four
          refine hK.out _ _ ?_ (fun hHeld2 => ?_)
          · (try dsimp only); (first | go_keep | assumption)
          clear hK K hHeld
          have hHeld := hHeld2
          clear hHeld2
          try simp only [Act.put, List.setIfInBounds_toArray, List.set_cons_zero, List.set_cons_succ]
          refine wpAnyH_take (i := 11) (oi := { dst := some 23, op := Go.Op.binOp Go.BinOp.eql 9 (Go.Operand.tmp 20) (Go.Operand.tmp 22) 9, type := 4, pos := "ref.go:187", after := #[{ on := 8, ground := Go.Ground.data }, { on := 10, ground := Go.Ground.data }, { on := 6, ground := Go.Ground.guard }], guard := some (6, true) }) (v := ?v43) rfl (by kernel_rfl) (by kernel_rfl) (by kernel_rfl) (fun _ _ _ h => h) (Or.inl ⟨by rfl, ?hy43⟩) (by assumption) ?rest43
          case hy43 => (intro w hSw; (try dsimp only at hSw); go_simp <;> with_reducible rfl)
          try simp only [Act.put, List.setIfInBounds_toArray, List.set_cons_zero, List.set_cons_succ]
          refine wpAnyH_take (i := 12) (oi := { dst := some 24, op := Go.Op.pick (Go.Operand.tmp 18) (Go.Operand.tmp 23) (Go.Operand.const (Go.Value.bool false)), type := 4, pos := "ref.go:187", after := #[{ on := 6, ground := Go.Ground.data }, { on := 11, ground := Go.Ground.data }], guard := none }) (v := ?v44) rfl (by kernel_rfl) (by kernel_rfl) (by kernel_rfl) (fun _ _ _ h => h) (Or.inl ⟨by rfl, ?hy44⟩) (by assumption) ?rest44
          case hy44 => (intro w hSw; (try dsimp only at hSw); go_simp <;> with_reducible rfl)
          try simp only [Act.put, List.setIfInBounds_toArray, List.set_cons_zero, List.set_cons_succ]
          refine wpAnyH_done (by kernel_rfl) ?_ _
          refine NoPanic.normal ?_
          all_goals
            go_wp2
            go_roundw
            case rel => exact ⟨k + 1, by omega, rfl, H.out, by repeat (first | (with_reducible assumption) | (with_reducible refine Blk.new' ?_; first | rfl | (simp; done) | (simp; omega)) | (with_reducible apply Blk.set01) | (with_reducible apply Blk.set0) | (with_reducible apply Blk.set1) | (with_reducible apply Blk.setOne) | (with_reducible refine Blk.set_other ?_ (by omega) _ _) | (with_reducible apply Blk.alloc) | (with_reducible apply Blk.drew) | (with_reducible refine Blk.below ?_ (by with_reducible assumption))), by repeat (first | (with_reducible exact Below.refl _ _) | (with_reducible assumption) | (with_reducible apply bel_alloc) | (with_reducible apply bel_drew) | (with_reducible refine bel_set ?_ (by first | exact Nat.le_refl _ | (simp; done) | omega | (simp; omega)) _) | (with_reducible refine bel_trans ?_ (by with_reducible assumption)))⟩
            case measure => simp [intOf]; omega
      · have t2' : ¬ (k : Int) < 1 := by omega
        have t3' : ¬ (10 : Int) < (k : Int) := by omega
        have H := Lib.hid (hnext (by rw [hvis]; simp [t2, t3]))
        clear hnext hhit hvis hno hnm
        go_upto_region 4 with fail
        go_quiet (fail)
        go_wp2
        go_roundw
        case rel => exact ⟨k + 1, by omega, rfl, H.out, Blk.drewN (by repeat (first | (with_reducible assumption) | (with_reducible refine Blk.new' ?_; first | rfl | (simp; done) | (simp; omega)) | (with_reducible apply Blk.set01) | (with_reducible apply Blk.set0) | (with_reducible apply Blk.set1) | (with_reducible apply Blk.setOne) | (with_reducible refine Blk.set_other ?_ (by omega) _ _) | (with_reducible apply Blk.alloc) | (with_reducible apply Blk.drew) | (with_reducible refine Blk.below ?_ (by with_reducible assumption)))) _, bel_drewN (by repeat (first | (with_reducible exact Below.refl _ _) | (with_reducible assumption) | (with_reducible apply bel_alloc) | (with_reducible apply bel_drew) | (with_reducible refine bel_set ?_ (by first | exact Nat.le_refl _ | (simp; done) | omega | (simp; omega)) _) | (with_reducible refine bel_trans ?_ (by with_reducible assumption)))) _⟩
        case measure => simp [intOf]; omega
    · obtain rfl : k = 141 := by omega
      have hz := Lib.hid (numOf_miss _ hno)
      clear hno
      go_wp2
      go_ret
      exact ⟨by rw [hz.out]; rfl, by repeat (first | (with_reducible exact Below.refl _ _) | (with_reducible assumption) | (with_reducible apply bel_alloc) | (with_reducible apply bel_drew) | (with_reducible refine bel_set ?_ (by first | exact Nat.le_refl _ | (simp; done) | omega | (simp; omega)) _) | (with_reducible refine bel_trans ?_ (by with_reducible assumption)))⟩
end Go.Proofs.Ytcfblcgdjhpdaaa


/- A range over a function, where the iterator and the body hand a memory on: the states, the iterator's contract, the caller's law. -/
namespace Go.Proofs.Ytcfblcgdjhpdaaa
open Go.RowKit Go.Shelf
set_option linter.unusedVariables false
set_option linter.unusedSimpArgs false

def Kp.obj (k : Nat) (o : Obj) : Kp := ⟨fun j => j = k, fun w => w.heap[k]? = some o, fun w1 w2 h hs hp => by
  have := h k rfl (Array.getElem?_eq_some_iff.1 hp).1
  rw [this]; exact hp⟩
/-- States of a walk that a memory is kept in. -/
structure StM (base mb : Nat) (M : List UInt8) (T : World → Kp → Prop) : Prop where
  fact : ∀ {w : World} {K : Kp}, T w K → K.P w
  slt : ∀ {w : World} {K : Kp} {k : Nat}, T w K → K.S k → k < w.heap.size
  size : ∀ {w : World} {K : Kp}, T w K → base ≤ w.heap.size
  keep : ∀ {w : World} {K L : Kp}, T w K → (∀ O, Keep w O K → Keep w O L) → T w L
  newK : ∀ {w w' : World} {K L : Kp}, T w K → Below w.heap.size w w' → L.P w' → (∀ k, L.S k → w.heap.size ≤ k ∧ k < w'.heap.size) → T w' (K.and L)
  put : ∀ {w w' : World} {K L L' : Kp} {b : Nat}, T w (K.and L) → w.grownBy w' (some b) → base ≤ b → ¬ K.S b → L.S b → L'.P w' → (∀ k, L'.S k → L.S k) → T w' (K.and L')
  mem : ∀ {w : World} {K : Kp} {f : Nat} {args : Array Value} {v : Value}, T w K → (∀ B O, MemP w B mb M O → B ≤ w.heap.size → Calls Try.prog f args w fun e w' => MemQ w w' B mb M O v e) → Calls Try.prog f args w fun e w' => e = .returned v ∧ T w' K ∧ w.heap.size ≤ w'.heap.size
section
variable {base mb : Nat} {M : List UInt8} {T : World → Kp → Prop} {w w' : World} {K L : Kp}
theorem StM.below (S : StM base mb M T) (h : T w K) (hb : Below w.heap.size w w') : T w' K := S.keep (S.newK (L := .emp) h hb trivial (fun k hk => hk.elim)) fun _ h => h.left
theorem StM.weak (S : StM base mb M T) (h : T w (K.and L)) : T w K := S.keep h fun _ h => h.left
theorem StM.new (S : StM base mb M T) (h : T w K) (c : Array Value) (t : TypeId) : T (w.alloc (.cells c t)) (K.and (.blk w.heap.size c t)) :=
  S.newK h (bel_alloc (Below.refl _ _) _) (Blk.new _ _ _) (fun k hk => by cases hk; exact ⟨Nat.le_refl _, by simp⟩)
theorem StM.newObj (S : StM base mb M T) (h : T w K) (o : Obj) : T (w.alloc o) (K.and (.obj w.heap.size o)) :=
  S.newK h (bel_alloc (Below.refl _ _) _) (World.alloc_heap_new _ _) (fun k hk => by cases hk; exact ⟨Nat.le_refl _, by simp⟩)
theorem StM.drew (S : StM base mb M T) (h : T w K) : T w.drew K := S.below h (bel_drew (Below.refl _ _))
theorem StM.set (S : StM base mb M T) {b : Nat} {c : Array Value} {t : TypeId} (h : T w (K.and (.blk b c t))) (hb : base ≤ b) (hK : ¬ K.S b) (o : Nat) (v : Value) : T (w.setCell ⟨b, o, none⟩ v) (K.and (.blk b (c.setIfInBounds o v) t)) :=
  S.put h (grownBy_setCell w b o v) hb hK rfl (Blk.set (S.fact h).2 o v) (fun k hk => hk)
theorem StM.putObj (S : StM base mb M T) {b : Nat} {o : Obj} (h : T w (K.and (.obj b o))) (hb : base ≤ b) (hK : ¬ K.S b) (o' : Obj) : T (w.putObj b o') (K.and (.obj b o')) :=
  S.put h (grownBy_putObj' w b o') hb hK rfl (World.putObj_heap_same (Array.getElem?_eq_some_iff.1 (S.fact h).2).1) (fun k hk => hk)
theorem StM.swap {L' : Kp} (S : StM base mb M T) (h : T w ((K.and L).and L')) : T w ((K.and L').and L) := S.keep h fun _ h => (h.left.left.and h.right).and h.left.right
theorem StM.still (S : StM base mb M T) (h : T w K) {f : Nat} {args : Array Value} {Q : Ending → World → Prop} (c : Calls Try.prog f args w fun e w' => Q e w' ∧ Below w.heap.size w w') :
    Calls Try.prog f args w fun e w' => Q e w' ∧ T w' K := c.mono fun e w' ⟨hq, hb⟩ => ⟨hq, S.below h hb⟩
end
theorem One.st {W : World} {B mb : Nat} {M : List UInt8} {O0 : Nat → Prop} : StM W.heap.size mb M (fun w K => One W w B mb M O0 K) := {
  fact := One.fact
  slt := fun h hk => h.slt hk
  size := fun h => h.size
  keep := fun h hL => h.keep hL
  newK := fun h hb hL hS => by
    obtain ⟨O, h1, h2, h3, h4⟩ := h
    exact ⟨O, h1.below hb, h2.trans (Turn.of_below hb O), (h3.turn (Turn.of_below hb O)).and ⟨hL, fun k hk => ⟨(hS k hk).2, fun hO => by have := (h1.lt hO).1; have := (hS k hk).1; omega⟩⟩, h4⟩
  put := fun h hg hb hK hLb hL hSS => by
    obtain ⟨O, h1, h2, h3, h4⟩ := h
    have hO := (h3.2 _ (.inr hLb)).2
    exact ⟨O, h1.kept hg (fun k e => by cases e; exact hO), h2.grownOwn hg (fun k e => by cases e; exact hb), (h3.left.grown hg (fun k e => by cases e; exact hK)).and ⟨hL, fun k hk => ⟨Nat.lt_of_lt_of_le (h3.2 k (.inr (hSS k hk))).1 hg.size, (h3.2 k (.inr (hSS k hk))).2⟩⟩, h4⟩
  mem := fun h c => by
    obtain ⟨O, h1, h2, h3, h4⟩ := h
    exact (c _ O h1 (Nat.le_trans h4 h2.size)).mono fun e w' ⟨he, O', h5, h6⟩ => ⟨he, ⟨O', h5, h2.trans h6, h3.turn h6, h4⟩, h6.size⟩ }
theorem Two.st {W : World} {mb rb : Nat} {M N : List UInt8} : StM W.heap.size mb M (fun w K => Two W w mb rb M N K) := {
  fact := Two.fact
  slt := fun h hk => by obtain ⟨_, _, _, _, _, _, _, _, _, h⟩ := h; exact (h.2 _ hk).1
  size := fun h => h.bel.size
  keep := fun h hL => h.keep hL
  newK := fun h hb hL hS => h.newK hb hL hS
  put := fun h hg hb hK hLb hL hSS => by
    obtain ⟨B, O, R, h1, h2, h3, h4, h5, h6, h7⟩ := h
    have hO := (h7.2 _ (.inr hLb)).2
    exact ⟨B, O, R, h1, Nat.le_trans h2 hg.size, h3.kept hg (fun k e => by cases e; exact fun h => hO (.inl h)), h4.kept hg (fun k e => by cases e; exact fun h => hO (.inr h)), h5, h6.grown hg h6.size (fun k e => by cases e; exact hb),
      (h7.left.grown hg (fun k e => by cases e; exact hK)).and ⟨hL, fun k hk => ⟨Nat.lt_of_lt_of_le (h7.2 k (.inr (hSS k hk))).1 hg.size, (h7.2 k (.inr (hSS k hk))).2⟩⟩⟩
  mem := fun h c => by
    obtain ⟨B, O, R, h1, h2, h3, h4, h5, h6, h7⟩ := h
    exact (c B O h3 h2).mono fun e w' ⟨he, O', h8, h9⟩ => ⟨he, ⟨B, O', R, h1, Nat.le_trans h2 h9.size, h8, h4.turn h9 (fun k hk hO => h5 k hO hk), fun k hk hR => h9.apart (fun hO => h5 k hO hR) (h4.lt hR).1 hk,
      h6.trans ((h9.below (fun k hk => (h3.lt hk).2) h2).mono h1), h7.turn h9.both⟩, h9.size⟩ }
theorem Uno.st {W : World} {mb : Nat} {M : List UInt8} : StM W.heap.size mb M (fun w K => Uno W w mb M K) := {
  fact := Uno.fact
  slt := fun h hk => by obtain ⟨_, _, _, _, _, _, h⟩ := h; exact (h.2 _ hk).1
  size := fun h => h.bel.size
  keep := fun h hL => h.keep hL
  newK := fun h hb hL hS => h.newK hb hL hS
  put := fun h hg hb hK hLb hL hSS => by
    obtain ⟨B, O, h1, h2, h3, h4, h5⟩ := h
    have hO := (h5.2 _ (.inr hLb)).2
    exact ⟨B, O, h1, Nat.le_trans h2 hg.size, h3.kept hg (fun k e => by cases e; exact hO), h4.grown hg h4.size (fun k e => by cases e; exact hb),
      (h5.left.grown hg (fun k e => by cases e; exact hK)).and ⟨hL, fun k hk => ⟨Nat.lt_of_lt_of_le (h5.2 k (.inr (hSS k hk))).1 hg.size, (h5.2 k (.inr (hSS k hk))).2⟩⟩⟩
  mem := fun h c => by
    obtain ⟨B, O, h1, h2, h3, h4, h5⟩ := h
    exact (c B O h3 h2).mono fun e w' ⟨he, O', h8, h9⟩ => ⟨he, ⟨B, O', h1, Nat.le_trans h2 h9.size, h8, h4.trans ((h9.below (fun k hk => (h3.lt hk).2) h2).mono h1), h5.turn h9⟩, h9.size⟩ }

/-- An iterator's contract: it yields xs, one by one, in whatever states its caller keeps. -/
def SeqT {α : Type} (F : Fence) (n : Nat) (g : Nat) (lb : Array Value) (encs : α → Array Value) (xs : List α) (T : World → Kp → Prop) (Q0 : Kp → Prop) : Prop :=
  ∀ (l : Nat) (J : Nat → Kp) (Jx : Nat → World → Prop) (W : World), (∀ k, Q0 (J k)) → T W (J 0) →
    (∀ (k : Nat) (x : α) (L : Kp) (W1 : World), xs[k]? = some x → (∀ j, L.S j → W.heap.size ≤ j) → T W1 ((J k).and L) → YieldAt F (n - 1) Try.prog l (encs x) W1 fun e W' =>
      (e = .returned (.bool true) ∧ T W' ((J (k + 1)).and L)) ∨ (e = .returned (.bool false) ∧ Jx k W')) →
    CallsIn F n Try.prog g (#[.func (.yield l) #[] #[]] ++ lb) W fun e W' => (∃ v, e = .returned v) ∧ (T W' (J xs.length) ∨ ∃ k x, xs[k]? = some x ∧ Jx k W')

theorem wideScope {n : Nat} {P : Program} {c : Code} {Q : Exit → Act → World → Prop} {a : Act} {w : World} (h : c.wpIn Fence.wide n P (Exit.noGoto Q) a w) : (Code.scope c).wpIn Fence.wide n P Q a w :=
  wpIn_wide.2 (wp_scope_straight ((wpIn_wide (n := n)).1 h))
variable {F : Fence} {n : Nat}
/-- How a round's body may be left. -/
def postT (T : World → Kp → Prop) (J : Kp) (Jx : Code → Kp) (L : Kp) : Exit → Act → World → Prop
  | .normal, _, W => T W (J.and L)
  | .ret, _, W => T W ((Jx .ret).and L)
  | .exit id, _, W => T W ((Jx (.exit id)).and L)
  | .goto t, _, W => T W ((Jx (.goto t)).and L)
  | .panic _, _, _ => False
  | .outgrown, _, _ => False
theorem wpIn_rangeFunc_T {α β : Type} {g : Operand} {ps : Array Tmp} {assign body : Code} {Q : Exit → Act → World → Prop} {a : Act} {w : World}
    (hro : F.round = none) (h1 : 1 ≤ n) {gf : Nat} {lb : Array Value} (hg : a.eval g = .func (.func gf) #[] lb) (hFg : F.fn gf) (eg : ∀ args w, (callFunc gf args).run Try.prog w = .ok (.enter gf args) w)
    {encs : α → Array Value} {xs : List α} {base mb : Nat} {M : List UInt8} {T : World → Kp → Prop} (S : StM base mb M T) {Q0 : Kp → Prop} (hseq : SeqT F (n - 1) gf lb encs xs T Q0) (hps : ∀ x, (encs x).size = ps.size)
    (J : Nat → Kp) (hJS : ∀ k j, (J k).S j → j < w.heap.size) (hQ : ∀ K L, Q0 K → Q0 (K.and L)) (hQ0 : ∀ k, Q0 (J k)) (Jx : Code → Nat → Kp) (hJxS : ∀ c k j, (Jx c k).S j → j < w.heap.size) (h0 : T w (J 0))
    (act : α → β → Act) (JA : Nat → α → β → Kp)
    (hassign : ∀ (l k : Nat) (x : α) (L : Kp) (W : World), xs[k]? = some x → (∀ j, L.S j → w.heap.size ≤ j) → w.heap.size + 2 ≤ W.heap.size → T W ((J k).and L) →
      assign.wpIn (F.inRound l) (n - 1 - 1) Try.prog (Exit.then (fun a' W' => ∃ y, a' = act x y ∧ (∀ j, (JA k x y).S j → j < w.heap.size ∨ w.heap.size + 2 ≤ j) ∧ T W' ((JA k x y).and L)) (fun _ _ _ => False)) { tmps := (ps.zip (encs x)).foldl (fun t (p, v) => t.setIfInBounds p v) a.tmps, defers := [] } W)
    (hbody : ∀ (l k : Nat) (x : α) (y : β) (L : Kp) (W : World), xs[k]? = some x → (∀ j, L.S j → w.heap.size ≤ j) → T W ((JA k x y).and L) → body.wpIn (F.inRound l) (n - 1 - 1) Try.prog (postT T (J (k + 1)) (fun c => Jx c k) L) (act x y) W)
    (hdone : ∀ (D : Nat) (W : World), w.heap.size ≤ D → T W ((J xs.length).and (.obj D (.deferred (some [])))) → Q .normal { a with defers := { target := .collected D, args := #[] } :: a.defers } W)
    (hstop : ∀ (D : Nat) (c : Code) (k : Nat) (x : α) (W : World), xs[k]? = some x → w.heap.size ≤ D → T W ((Jx c k).and (.obj D (.deferred (some [])))) → c.wpIn F n Try.prog Q { a with defers := { target := .collected D, args := #[] } :: a.defers } W) :
    (Code.rangeFunc g ps assign body).wpIn F n Try.prog Q a w := by
  have hbase := S.size h0
  refine wpIn_rangeFunc ?_
  intro fn hfn
  rw [hro]
  obtain ⟨rec, hrec⟩ : ∃ rec : LoopState → Option Code → Loop, rec = fun st pe => { state := st, pending := pe, fn, tmps := a.tmps, params := ps, assign, body, defers := w.heap.size } := ⟨_, rfl⟩
  obtain ⟨W1, hW1⟩ : ∃ W1, (w.alloc (.deferred (some []))).alloc (.loop (rec .ready none)) = W1 := ⟨_, rfl⟩
  have hT1 : T W1 (((J 0).and (.obj w.heap.size (.deferred (some [])))).and (.obj (w.heap.size + 1) (.loop (rec .ready none)))) := by
    rw [← hW1]
    have := S.newObj (S.newObj h0 (.deferred (some []))) (.loop (rec .ready none))
    rwa [World.size_alloc] at this
  have hs1 : W1.heap.size = w.heap.size + 2 := by rw [← hW1]; simp
  refine ⟨w.heap.size + 1, [{ target := .collected w.heap.size, args := #[] }], W1, { target := .fn (.func gf) lb, args := #[.func (.yield (w.heap.size + 1)) #[] #[]] }, W1, gf,
    #[.func (.yield (w.heap.size + 1)) #[] #[]] ++ lb, W1, ?_, ?_, ?_, ?_, fun _ => h1, ?_⟩
  · rw [← hW1, hrec]; exact run_enterLoop_outer _ _ _ _ _
  · simp only [resolve, hg]
    simp [go_sem]
  · intro f' hf'; simp [Target.leads] at hf'; subst hf'; exact hFg
  · simp [invoke, go_sem, eg]
  · refine (hseq (w.heap.size + 1) (fun k => ((J k).and (.obj w.heap.size (.deferred (some [])))).and (.obj (w.heap.size + 1) (.loop (rec .ready none))))
      (fun k W => ∃ c, T W (((Jx c k).and (.obj w.heap.size (.deferred (some [])))).and (.obj (w.heap.size + 1) (.loop (rec .done (some c)))))) W1 (fun k => hQ _ _ (hQ _ _ (hQ0 k))) hT1 ?_).mono ?_
    · rintro k x L W hx hL hTW
      have hl : W.heap[w.heap.size + 1]? = some (.loop (rec .ready none)) := (S.fact hTW).1.2
      have hlt : w.heap.size + 1 < W.heap.size := (Array.getElem?_eq_some_iff.1 hl).1
      have hy := run_yield (P := Try.prog) (args := encs x) hl (by rw [hrec]; exact hps x)
      rw [hrec] at hy
      have hLl : ¬ L.S (w.heap.size + 1) := fun h => by have := hL _ h; omega
      have hL1 : ∀ (o : Obj) (j : Nat), (((Kp.obj w.heap.size (.deferred (some []))).and L).and (.obj (w.heap.size + 1) o)).S j → w.heap.size ≤ j := fun o j hj => by
        rcases hj with (hj | hj) | hj
        · have : j = w.heap.size := hj
          omega
        · have := hL j hj; omega
        · have : j = w.heap.size + 1 := hj
          omega
      have hT2 : T W ((J k).and (((Kp.obj w.heap.size (.deferred (some []))).and L).and (.obj (w.heap.size + 1) (.loop (rec .ready none))))) := S.keep hTW fun _ h => h.left.left.left.and ((h.left.left.right.and h.right).and h.left.right)
      refine ⟨fn, _, assign, body, hy, roundIn_of_wpIn hfn (wpIn_mono (hassign _ k x _ W hx (hL1 _) (by omega) hT2) ?_)⟩
      clear hy
      rintro e a' Wa hp
      cases e with
      | normal =>
        obtain ⟨y, rfl, hAS, hTa⟩ := hp
        have hla : Wa.heap[w.heap.size + 1]? = some (.loop (rec .ready none)) := (S.fact hTa).2.2
        refine ⟨_, run_beginRound hla (by rw [hrec]), ?_⟩
        have hTb : T Wa (((JA k x y).and ((Kp.obj w.heap.size (.deferred (some []))).and L)).and (.obj (w.heap.size + 1) (.loop (rec .ready none)))) := S.keep hTa fun _ h => (h.left.and h.right.left).and h.right.right
        have hTc := S.putObj hTb (by omega) (fun h => by
          rcases h with h | h | h
          · have := hAS _ h; omega
          · have : w.heap.size + 1 = w.heap.size := h
            omega
          · exact hLl h) (.loop { rec .ready none with state := .busy })
        have hTd : T (Wa.putObj (w.heap.size + 1) (.loop { rec .ready none with state := .busy })) ((JA k x y).and (((Kp.obj w.heap.size (.deferred (some []))).and L).and (.obj (w.heap.size + 1) (.loop { rec .ready none with state := .busy })))) := S.keep hTc fun _ h => h.left.left.and (h.left.right.and h.right)
        refine wpIn_mono (hbody _ k x y _ _ hx (hL1 _) hTd) ?_
        have fin : ∀ (jump : Option Code) (K : Kp) (W3 : World), (∀ j, K.S j → j < w.heap.size) → T W3 (K.and (((Kp.obj w.heap.size (.deferred (some []))).and L).and (.obj (w.heap.size + 1) (.loop { rec .ready none with state := .busy })))) →
            ∃ W4, (Instr.endRound (w.heap.size + 1) jump).run Try.prog W3 = .ok (.bool jump.isNone) W4 ∧ T W4 (((K.and (.obj w.heap.size (.deferred (some [])))).and (.obj (w.heap.size + 1) (.loop (rec (if jump.isNone then .ready else .done) jump)))).and L) := fun jump K W3 hKS h3 => by
          have hl3 : W3.heap[w.heap.size + 1]? = some (.loop { rec .ready none with state := .busy }) := (S.fact h3).2.2
          have hr := run_endRound (P := Try.prog) jump hl3
          have h4 : T W3 (((K.and (.obj w.heap.size (.deferred (some [])))).and L).and (.obj (w.heap.size + 1) (.loop { rec .ready none with state := .busy }))) := S.keep h3 fun _ h => ((h.left.and h.right.left.left).and h.right.left.right).and h.right.right
          have h5 := S.swap (S.putObj h4 (by omega) (fun h => by
            rcases h with (h | h) | h
            · have := hKS _ h; omega
            · have : w.heap.size + 1 = w.heap.size := h
              omega
            · exact hLl h) (.loop (rec (if jump.isNone then .ready else .done) jump)))
          refine ⟨_, ?_, h5⟩
          rw [hrec] at hr ⊢
          exact hr
        rintro e a3 W3 hp
        cases e with
        | normal =>
          obtain ⟨W4, hr, h4⟩ := fin none _ W3 (hJS _) hp
          exact ⟨_, _, hr, .inl ⟨rfl, h4⟩⟩
        | ret =>
          obtain ⟨W4, hr, h4⟩ := fin (some .ret) _ W3 (hJxS _ _) hp
          exact ⟨_, _, hr, .inr ⟨rfl, .ret, S.weak h4⟩⟩
        | exit id =>
          obtain ⟨W4, hr, h4⟩ := fin (some (.exit id)) _ W3 (hJxS _ _) hp
          exact ⟨_, _, hr, .inr ⟨rfl, .exit id, S.weak h4⟩⟩
        | goto t =>
          obtain ⟨W4, hr, h4⟩ := fin (some (.goto t)) _ W3 (hJxS _ _) hp
          exact ⟨_, _, hr, .inr ⟨rfl, .goto t, S.weak h4⟩⟩
        | panic ch => exact hp.elim
        | outgrown => exact hp.elim
      | ret => exact hp.elim
      | exit id => exact hp.elim
      | goto t => exact hp.elim
      | panic ch => exact hp.elim
      | outgrown => exact hp.elim
    · rintro e W2 ⟨⟨v, rfl⟩, (hp | ⟨k, x, hx, c, hp⟩)⟩
      · have hl2 : W2.heap[w.heap.size + 1]? = some (.loop (rec .ready none)) := (S.fact hp).2
        have hr := run_endLoop (P := Try.prog) hl2 (by rw [hrec]; simp)
        have h3 := S.putObj hp (by omega) (fun h => by
          rcases h with h | h
          · have := hJS _ _ h; omega
          · have : w.heap.size + 1 = w.heap.size := h
            omega) (.loop { rec .ready none with state := .exhausted })
        refine ⟨none, _, ?_, hdone _ _ (Nat.le_refl _) (S.weak h3)⟩
        rw [hr, hrec]
      · have hl2 : W2.heap[w.heap.size + 1]? = some (.loop (rec .done (some c))) := (S.fact hp).2
        have hr := run_endLoop (P := Try.prog) hl2 (by rw [hrec]; simp)
        have h3 := S.putObj hp (by omega) (fun h => by
          rcases h with h | h
          · have := hJxS _ _ _ h; omega
          · have : w.heap.size + 1 = w.heap.size := h
            omega) (.loop { rec .done (some c) with state := .exhausted })
        refine ⟨some c, _, ?_, hstop _ c k x _ hx (Nat.le_refl _) (S.weak h3)⟩
        rw [hr, hrec]
end Go.Proofs.Ytcfblcgdjhpdaaa

/- 'dict.Words': the iterator. -/
namespace Go.Proofs.Ytcfblcgdjhpdaaa
open Go.RowKit Go.Shelf
set_option linter.unusedVariables false
set_option linter.unusedSimpArgs false
attribute [local go_sem] Oper.semAt_some cell_set set_set m_undef

def linkL (M : List UInt8) (a : Int) : Int := cellL (loadL M a 40) 0
def nameL (M : List UInt8) (a : Int) : List UInt8 := ((loadL M a 40).drop 9).take (rdN M a)
def immL (M : List UInt8) (a : Int) : Bool := decide (128 ≤ rdB M a)
def hidL (M : List UInt8) (a : Int) : Bool := decide (rdB M a / 64 % 2 = 1)
theorem rdV_ok {M : List UInt8} {a : Int} (h : rdOk M a = true) : rdV M a = .agg #[.int .i64 a, .int .i64 (linkL M a), .string ⟨(nameL M a).toArray⟩, .bool (immL M a), .bool (hidL M a), .int .i64 (rdXt M a)] := by
  unfold rdV; rw [h]; rfl
theorem rdOk_lo {M : List UInt8} {a : Int} (h : rdOk M a = true) : 1536 ≤ a ∧ a < 5632 := by
  have := hereL_le M
  unfold rdOk at h
  have h2 := of_decide_eq_true h
  omega
theorem linkL_isI (M : List UInt8) (a : Int) : isI (linkL M a) := by unfold linkL cellL isI; rw [IntKind.wrap_i64]; omega
/-- The words from 'at' on, below 'last'. -/
def wordsW (M : List UInt8) (last at_ : Int) : List Int := if h : rdOk M at_ = true ∧ at_ < last then at_ :: wordsW M at_ (linkL M at_) else []
termination_by last.toNat
decreasing_by have := rdOk_lo h.1; omega
theorem wordsW_yes {M : List UInt8} {last at_ : Int} (h1 : rdOk M at_ = true) (h2 : at_ < last) : wordsW M last at_ = at_ :: wordsW M at_ (linkL M at_) := by
  rw [wordsW]; exact dif_pos ⟨h1, h2⟩
theorem wordsW_no {M : List UInt8} {last at_ : Int} (h : ¬ (rdOk M at_ = true ∧ at_ < last)) : wordsW M last at_ = [] := by
  rw [wordsW]; exact dif_neg h
/-- The words of the memory M: their headers' places. -/
def wordsL (M : List UInt8) : List Int := wordsW M 8192 (latestL M)
theorem latestL_isI (M : List UInt8) : isI (latestL M) := by
  unfold latestL
  split
  · exact getM_isI M 8
  · unfold isI; omega
theorem wordsW_ok {M : List UInt8} : ∀ (n : Nat) (last at_ : Int), last.toNat ≤ n → ∀ x ∈ wordsW M last at_, rdOk M x = true := by
  intro n
  induction n with
  | zero =>
    intro last at_ hn x hx
    rw [wordsW_no (fun h => by have := rdOk_lo h.1; omega)] at hx
    cases hx
  | succ n ih =>
    intro last at_ hn x hx
    by_cases h : rdOk M at_ = true ∧ at_ < last
    · rw [wordsW_yes h.1 h.2] at hx
      rcases List.mem_cons.1 hx with rfl | hx
      · exact h.1
      · exact ih _ _ (by have := rdOk_lo h.1; omega) x hx
    · rw [wordsW_no h] at hx; cases hx
theorem wordsL_ok {M : List UInt8} {k : Nat} {x : Int} (h : (wordsL M)[k]? = some x) : rdOk M x = true := wordsW_ok _ _ _ (Nat.le_refl _) x (List.mem_of_getElem? h)
theorem drop_cons {α : Type} {l : List α} {k : Nat} {x : α} {r : List α} (h : l.drop k = x :: r) : l[k]? = some x ∧ l.drop (k + 1) = r := by
  have h1 : (l.drop k)[0]? = some x := by rw [h]; rfl
  rw [List.getElem?_drop] at h1
  refine ⟨h1, ?_⟩
  rw [← List.tail_drop, h]; rfl

theorem wWords (w : World) (mb : Nat) : Calls Try.prog 12 #[.pointer (some ⟨mb, 0, none⟩)] w fun e w' => e = .returned (.func (.func 28) #[] #[.pointer (some ⟨w.heap.size, 0, none⟩)]) ∧ w' = w.alloc (.cells #[.pointer (some ⟨mb, 0, none⟩)] 24) := by
  go_enter Try.func12, Try.ntmps12
  go_wp2
  go_ret
  exact ⟨rfl, rfl⟩
/-- The captured memory. -/
def CapM (bx mb : Nat) (K : Kp) : Prop := ∀ w, K.P w → Blk w bx #[.pointer (some ⟨mb, 0, none⟩)] 24
theorem CapM.and {bx mb : Nat} {K L : Kp} (h : CapM bx mb K) : CapM bx mb (K.and L) := fun w hw => h w hw.1

attribute [local irreducible] wordsL latestL rdOk rdV linkL nameL immL hidL rdXt loadL hereL
set_option maxRecDepth 100000 in
set_option maxHeartbeats 1000000 in
theorem words_in (n : Nat) (hn : 1 ≤ n) {base mb : Nat} {M : List UInt8} {T : World → Kp → Prop} (S : StM base mb M T) (bx : Nat) :
    SeqT Fence.wide n 28 #[.pointer (some ⟨bx, 0, none⟩)] (fun a => #[rdV M a]) (wordsL M) T (CapM bx mb) := fun l J Jx W hQ h0 hY => by
  have hLt := Lib.hid (fun (w : World) (K : Kp) (h : T w K) => S.mem h (fun B O h hb => mLatest h hb))
  have hRd := Lib.hid (fun (w : World) (K : Kp) (h : T w K) (a : Int) (ha : isI a) => S.mem h (fun B O h hb => mRead h hb a ha))
  have hx0 : (wordsL M).drop 0 = wordsW M 8192 (latestL M) := by unfold wordsL; exact List.drop_zero
  have ha0 := latestL_isI M
  generalize wordsL M = xs at *
  generalize latestL M = a0 at *
  have hY' := Lib.hid hY
  have cb : W.cell? ⟨bx, 0, none⟩ = some (.pointer (some ⟨mb, 0, none⟩)) := (hQ 0 W (S.fact h0)).cell 0
  have h0' := Lib.hid h0
  have hz0 := Lib.hid hx0
  clear hY h0 hx0
  refine callsIn_of_wp Try.func28 rfl trivial ?_ rfl
  simp only [Try.ntmps28, List.size_toArray, List.length_cons, List.length_nil, Nat.reduceAdd, Nat.reduceSub, Array.replicate_succ, Array.replicate_zero, List.push_toArray, List.append_toArray, List.nil_append, List.cons_append]
  apply wideScope
  gi_wp2_with (refine ⟨trivial, ?_⟩; gi_at_call 29; refine (callsIn_wide.2 (hLt.out _ _ h0'.out)).mono ?_; rintro e w1 ⟨rfl, hT1, hs1⟩)
  refine wpIn_label ?_
  gi_wp2
  gi_loopw [3, 4] (fun p q wr => ∃ (k : Nat) (la at_ : Int), p = .int .i64 la ∧ q = .int .i64 at_ ∧ k ≤ xs.length ∧ xs.drop k = wordsW M la at_ ∧ isI at_ ∧ isI la ∧ W.heap.size ≤ wr.heap.size ∧ T wr (J k)) (fun p q wr => (intOf p).toNat)
  case atStart =>
    exact ⟨0, 8192, a0, rfl, rfl, Nat.zero_le _, hz0.out, ha0, by unfold isI; omega, hs1, hT1⟩
  case round =>
    obtain ⟨k, la, at_, rfl, rfl, hk, hdr, hIa, hIl, hsz, hTr⟩ := hrel
    have cb : wr.cell? ⟨bx, 0, none⟩ = some (.pointer (some ⟨mb, 0, none⟩)) := (hQ k wr (S.fact hTr)).cell 0
    obtain ⟨A, K, H, I, D, X, hV, -⟩ := rdV_form M at_
    have hR := hRd.out wr (J k) hTr at_ hIa
    rw [hV] at hR
    by_cases hc : rdOk M at_ = true ∧ at_ < la
    · obtain ⟨h1, h2⟩ := hc
      rw [wordsW_yes h1 h2] at hdr
      obtain ⟨hx, hdr2⟩ := drop_cons hdr
      have hlo := rdOk_lo h1
      have hAK : K = linkL M at_ := by rw [rdV_ok h1] at hV; injection hV with hV; simp at hV; exact hV.2.1.symm
      have hIK : isI K := by rw [hAK]; exact linkL_isI M at_
      have hYk := fun L W1 => hY'.out k at_ L W1 hx
      rw [hV] at hYk
      rw [← hAK] at hdr2
      rw [h1] at hR
      have hk1 : k + 1 ≤ xs.length := by have := (List.getElem?_eq_some_iff.1 hx).1; omega
      have t1 : ¬ la ≤ at_ := by omega
      have hR' := Lib.hid hR
      have hYk' := Lib.hid hYk
      have hd2 := Lib.hid hdr2
      have hx' := Lib.hid hx
      clear hdr hdr2 hR hYk hAK hV h1 hx
      gi_wp2
      refine ⟨trivial, ?_⟩
      gi_at_call 30
      refine (callsIn_wide.2 hR'.out).mono ?_
      rintro e w2 ⟨rfl, hT2, hs2⟩
      have hT3 := S.new hT2 #[.int .i64 A, .int .i64 K, .string H, .bool I, .bool D, .int .i64 X] 34
      have hge2 : W.heap.size ≤ w2.heap.size := by omega
      obtain ⟨fn, tmps, assign, body, hy, hRo⟩ := hYk'.out _ _ (fun j hj => by cases hj; exact hge2) hT3
      gi_wp2
      refine hRo.mono ?_
      rintro e W3 (⟨rfl, hT4⟩ | ⟨rfl, hJx3⟩)
      · have hsl := S.slt hT4 (.inr rfl)
        have hb4 := (S.fact hT4).2
        have hc1 : W3.cell? ⟨w2.heap.size, 1, none⟩ = some (.int .i64 K) := Blk.cell hb4 1
        gi_wp2
        refine wpIn_wide.2 ?_
        replace hT4 := S.drew hT4
        have hS : Blk W3.drew w2.heap.size #[.int .i64 A, .int .i64 K, .string H, .bool I, .bool D, .int .i64 X] 34 := hb4
        have hsd : W.heap.size ≤ W3.drew.heap.size := Nat.le_trans hge2 (Nat.le_of_lt hsl)
        clear hy hRo hT3 hT2 hYk' hR' hTr hc1
        refine wp_region_noPanic ?_
        refine wp_region_held_drew (S := (fun w' => Blk w' w2.heap.size #[.int .i64 A, .int .i64 K, .string H, .bool I, .bool D, .int .i64 X] 34)) (by kernel_rfl) ?_ (fun hHeld => ?_)
        · (try dsimp only); exact hS
        refine wpAnyH_take (i := 0) (oi := { dst := some 28, op := Go.Op.move (Go.Operand.tmp 4), type := 2, pos := "dict.go:24", after := #[], guard := none }) (v := ?v1) rfl (by kernel_rfl) (by kernel_rfl) (by kernel_rfl) (fun _ _ _ h => h) (Or.inl ⟨by rfl, ?hy1⟩) (by assumption) ?rest1
        case hy1 => (intro w hSw; (try dsimp only at hSw); have y2 : w.cell? ⟨w2.heap.size, 1, none⟩ = some (.int .i64 K) := Blk.cell hSw 1; go_simp <;> with_reducible rfl)
        try simp only [Act.put, List.setIfInBounds_toArray, List.set_cons_zero, List.set_cons_succ]
        refine wpAnyH_take (i := 1) (oi := { dst := some 29, op := Go.Op.fieldAddr 34 (Go.Operand.tmp 5) 1, type := 0, pos := "dict.go:24", after := #[{ on := 3, ground := Go.Ground.gcOnly Go.Departure.lateStores }], guard := none }) (v := ?v2) rfl (by kernel_rfl) (by kernel_rfl) (by kernel_rfl) (fun _ _ _ h => h) (Or.inl ⟨by rfl, ?hy2⟩) (by assumption) ?rest2
        case hy2 => (intro w hSw; (try dsimp only at hSw); have y2 : w.cell? ⟨w2.heap.size, 1, none⟩ = some (.int .i64 K) := Blk.cell hSw 1; go_simp <;> with_reducible rfl)
        try simp only [Act.put, List.setIfInBounds_toArray, List.set_cons_zero, List.set_cons_succ]
        refine wpAnyH_take (i := 2) (oi := { dst := some 30, op := Go.Op.load 2 (Go.Operand.tmp 29), type := 2, pos := "dict.go:24", after := #[{ on := 1, ground := Go.Ground.data }, { on := 3, ground := Go.Ground.gcOnly Go.Departure.lateStores }], guard := none }) (v := ?v3) rfl (by kernel_rfl) (by kernel_rfl) (by kernel_rfl) (fun _ _ _ h => h) (Or.inl ⟨by rfl, ?hy3⟩) (by assumption) ?rest3
        case hy3 => (intro w hSw; (try dsimp only at hSw); have y2 : w.cell? ⟨w2.heap.size, 1, none⟩ = some (.int .i64 K) := Blk.cell hSw 1; go_simp <;> with_reducible rfl)
        try simp only [Act.put, List.setIfInBounds_toArray, List.set_cons_zero, List.set_cons_succ]
        refine wpAnyH_take (i := 3) (oi := { dst := some 3, op := Go.Op.assign (Go.Operand.tmp 28), type := 2, pos := "dict.go:24", after := #[{ on := 0, ground := Go.Ground.data }, { on := 0, ground := Go.Ground.phase }, { on := 1, ground := Go.Ground.textOnly Go.Departure.lateStores }, { on := 2, ground := Go.Ground.textOnly Go.Departure.lateStores }], guard := none }) (v := ?v4) rfl (by kernel_rfl) (by kernel_rfl) (by kernel_rfl) (fun _ _ _ h => h) (Or.inl ⟨by rfl, ?hy4⟩) (by assumption) ?rest4
        case hy4 => (intro w hSw; (try dsimp only at hSw); have y2 : w.cell? ⟨w2.heap.size, 1, none⟩ = some (.int .i64 K) := Blk.cell hSw 1; go_simp <;> with_reducible rfl)
        try simp only [Act.put, List.setIfInBounds_toArray, List.set_cons_zero, List.set_cons_succ]
        refine wpAnyH_take (i := 4) (oi := { dst := some 4, op := Go.Op.assign (Go.Operand.tmp 30), type := 2, pos := "dict.go:24", after := #[{ on := 2, ground := Go.Ground.data }, { on := 3, ground := Go.Ground.chain }, { on := 0, ground := Go.Ground.phase }, { on := 1, ground := Go.Ground.phase }, { on := 2, ground := Go.Ground.phase }, { on := 3, ground := Go.Ground.phase }], guard := none }) (v := ?v5) rfl (by kernel_rfl) (by kernel_rfl) (by kernel_rfl) (fun _ _ _ h => h) (Or.inl ⟨by rfl, ?hy5⟩) (by assumption) ?rest5
        case hy5 => (intro w hSw; (try dsimp only at hSw); have y2 : w.cell? ⟨w2.heap.size, 1, none⟩ = some (.int .i64 K) := Blk.cell hSw 1; go_simp <;> with_reducible rfl)
        try simp only [Act.put, List.setIfInBounds_toArray, List.set_cons_zero, List.set_cons_succ]
        refine wpAnyH_done (by kernel_rfl) ?_ _
        refine NoPanic.normal ?_
        simp only [Exit.inBlock]
        refine ⟨?_, ?measure⟩
        repeat apply Exists.intro
        refine ⟨?rel, rfl⟩
        case rel => exact ⟨k + 1, at_, K, rfl, rfl, hk1, hd2.out, hIK, hIa, hsd, S.weak hT4⟩
        case measure => simp [intOf]; omega
      · gi_wp2
        simp only [Exit.noGoto]
        go_end0
        exact ⟨⟨_, rfl⟩, .inr ⟨k, at_, hx'.out, hJx3⟩⟩
    · have hk0 : k = xs.length := by
        rw [wordsW_no hc] at hdr
        have := congrArg List.length hdr
        rw [List.length_drop] at this
        simp at this
        omega
      subst hk0
      have hR' := Lib.hid hR
      have hcc := Lib.hid hc
      clear hR hc hdr hV
      cases hok : rdOk M at_ with
      | false =>
        rw [hok] at hR'
        gi_wp2_with (first
          | (refine ⟨trivial, ?_⟩; gi_at_call 30; refine (callsIn_wide.2 hR'.out).mono ?_; rintro e w2 ⟨rfl, hT2, hs2⟩; have hT3 := S.new hT2 #[.int .i64 A, .int .i64 K, .string H, .bool I, .bool D, .int .i64 X] 34))
        refine ⟨fun _ h => (by cases h), ?_⟩
        gi_wp2
        simp only [Exit.noGoto]
        go_end0
        exact ⟨⟨_, rfl⟩, .inl (S.weak hT3)⟩
      | true =>
        have t1 : la ≤ at_ := by
          have := hcc.out
          simp only [hok, true_and, Int.not_lt] at this
          exact this
        rw [hok] at hR'
        gi_wp2_with (first
          | (refine ⟨trivial, ?_⟩; gi_at_call 30; refine (callsIn_wide.2 hR'.out).mono ?_; rintro e w2 ⟨rfl, hT2, hs2⟩; have hT3 := S.new hT2 #[.int .i64 A, .int .i64 K, .string H, .bool I, .bool D, .int .i64 X] 34))
        refine ⟨fun _ h => (by cases h), ?_⟩
        gi_wp2
        simp only [Exit.noGoto]
        go_end0
        exact ⟨⟨_, rfl⟩, .inl (S.weak hT3)⟩
end Go.Proofs.Ytcfblcgdjhpdaaa

/- The reference's 'Words'. -/
namespace Go.Proofs.Ytcfblcgdjhpdaaa
open Go.RowKit
set_option linter.unusedVariables false
set_option linter.unusedSimpArgs false
attribute [local go_sem] cell_set set_set m_undef

theorem infoHd : (Try.prog.info? 34).map (fun i => (i.zero, i.size, i.bytes)) = some (some (.agg #[.int .i64 0, .int .i64 0, .string ⟨#[]⟩, .bool false, .bool false, .int .i64 0]), 6, 48) := by kernel_rfl
/-- The cells of the header at a. -/
def hc (M : List UInt8) (a : Int) : List Value := [.int .i64 a, .int .i64 (linkL M a), .string ⟨(nameL M a).toArray⟩, .bool (immL M a), .bool (hidL M a), .int .i64 (rdXt M a)]
def hcs (M : List UInt8) (xs : List Int) : List Value := xs.flatMap (hc M)
theorem hcs_add (M : List UInt8) (xs : List Int) (x : Int) : hcs M (xs ++ [x]) = hcs M xs ++ hc M x := by simp [hcs]
theorem hcs_len (M : List UInt8) (xs : List Int) : (hcs M xs).length = xs.length * 6 := by
  induction xs with
  | nil => rfl
  | cons x xs ih => simp only [hcs, List.flatMap_cons, List.length_append, List.length_cons] at ih ⊢; rw [ih]; simp [hc]; omega
theorem hcs_at (M : List UInt8) (xs : List Int) (k i : Nat) (x : Int) (u : Value) (hx : xs[k]? = some x) (hu : (hc M x)[i]? = some u) : (hcs M xs)[k * 6 + i]? = some u := by
  induction xs generalizing k with
  | nil => simp at hx
  | cons y xs ih =>
    have hi : i < 6 := by
      have := (List.getElem?_eq_some_iff.1 hu).1
      simpa [hc] using this
    cases k with
    | zero =>
      simp at hx
      subst hx
      rw [Nat.zero_mul, Nat.zero_add]
      show (hc M y ++ hcs M xs)[i]? = some u
      rw [List.getElem?_append_left (by simp [hc]; omega)]
      exact hu
    | succ k =>
      show (hc M y ++ hcs M xs)[(k + 1) * 6 + i]? = some u
      rw [List.getElem?_append_right (by simp [hc]; omega)]
      have : (k + 1) * 6 + i - (hc M y).length = k * 6 + i := by simp [hc]; omega
      rw [this]
      exact ih k (by simpa using hx)
theorem take_next {α : Type} {l : List α} {k : Nat} {x : α} (h : l[k]? = some x) : l.take (k + 1) = l.take k ++ [x] := by rw [List.take_add_one, h]; rfl
theorem wordsW_len {M : List UInt8} : ∀ (n : Nat) (last at_ : Int), last.toNat ≤ n → (wordsW M last at_).length ≤ n := by
  intro n
  induction n with
  | zero =>
    intro last at_ hn
    rw [wordsW_no (fun h => by have := rdOk_lo h.1; omega)]
    exact Nat.le_refl _
  | succ n ih =>
    intro last at_ hn
    by_cases h : rdOk M at_ = true ∧ at_ < last
    · rw [wordsW_yes h.1 h.2]
      have := ih at_ (linkL M at_) (by have := rdOk_lo h.1; omega)
      simp only [List.length_cons]; omega
    · rw [wordsW_no h]; exact Nat.zero_le _
theorem wordsL_len (M : List UInt8) : (wordsL M).length ≤ 8192 := wordsW_len _ _ _ (by omega)
theorem Vs.lit6 (w : World) (a b c d e f : Value) (t : TypeId) (h : ∀ u ∈ [a, b, c, d, e, f], u.oneCell' = true) : Vs (w.alloc (.cells #[a, b, c, d, e, f] t)) 0 6 (.slice (some ⟨w.heap.size, 0, none⟩) 1 1) 1 [a, b, c, d, e, f] :=
  Vs.of_blk (Blk.new _ _ _) rfl (Nat.le_refl _) (Nat.le_refl _) (fun j u hj => by simpa using hj) h (Nat.zero_le _)

theorem RefP.base_le' {w : World} {B rb : Nat} {M : List UInt8} {R : Nat → Prop} (h : RefP w B rb M R) : B ≤ w.heap.size := by
  obtain ⟨vb, ob, h1, h6⟩ := id h
  have := h.lt ((h6 rb).2 (.inl rfl))
  omega
attribute [local irreducible] wordsL latestL rdOk rdV linkL nameL immL hidL rdXt loadL hereL
set_option maxRecDepth 100000 in
set_option maxHeartbeats 1600000 in
theorem rWords {w : World} {B rb : Nat} {M : List UInt8} {R : Nat → Prop} (h : RefP w B rb M R) :
    Calls Try.prog 13 #[.pointer (some ⟨rb, 0, none⟩)] w fun e w' => RefX w w' B rb R (fun v : Value => v) (fun _ => M) (fun v => .vsN w.heap.size 6 v (wordsL M).length (hcs M (wordsL M))) e := by
  have hS := Onr.start h h.base_le'
  have hLt := Lib.hid (fun (w9 : World) (O : Nat → Prop) (h : RefP w9 B rb M O) => rLatest h)
  have hRd := Lib.hid (fun (a : Int) (ha : isI a) (w9 : World) (O : Nat → Prop) (h : RefP w9 B rb M O) => rRead h a ha)
  have hx0 := Lib.hid (show (wordsL M).drop 0 = wordsW M 8192 (latestL M) by unfold wordsL; exact List.drop_zero)
  have ha0 := latestL_isI M
  have hln := wordsL_len M
  generalize wordsL M = xs at *
  generalize latestL M = a0 at *
  clear h
  go_enter Try.func13, Try.ntmps13
  go_wp2_with (go_at_call 24; refine (hS.read (fun O h => hLt.out _ _ h)).mono ?_; rintro e w1 ⟨rfl, hS2⟩; clear hS; have hS := hS2; clear hS2)
  go_loopw [3, 4] (fun l i wr => ∃ (k : Nat) (la at_ : Int), i = .int .i64 at_ ∧ k ≤ xs.length ∧ xs.drop k = wordsW M la at_ ∧ isI at_ ∧ (k = 0 → la = 8192) ∧ (∀ j, k = j + 1 → xs[j]? = some la) ∧ 0 ≤ la ∧ la ≤ 8192 ∧ Onr w wr B rb M R (Kp.emp.and (.vs 6 l k (hcs M (xs.take k)))) ∧ (∀ b, l.ownBlock = some b → w.heap.size ≤ b ∧ ¬ Kp.emp.S b)) (fun l i wr => match l with | .slice _ n _ => 8192 - n | _ => 0)
  case atStart => exact ⟨0, 8192, a0, rfl, Nat.zero_le _, hx0.out, ha0, fun _ => rfl, fun j e => (by cases e), by omega, by omega, hS.keep (fun O h => h.and (Keep.vs (Vs.nil _ 0 6) (fun b hb => by cases hb))), fun b hb => by cases hb⟩
  case round =>
    obtain ⟨k, la, at_, rfl, hk, hdr, hIa, hk0, hk1, hl0, hl8, hS, hown⟩ := hrel
    obtain ⟨ad, cap, rfl, hcap⟩ := hS.fact.2.form
    clear hcap
    obtain ⟨A, K, H, I, D, X, hV, -⟩ := rdV_form M at_
    have hR := hRd.out at_ hIa
    rw [hV] at hR
    by_cases h1 : rdOk M at_ = true
    · have hlo := rdOk_lo h1
      rw [h1] at hR
      have hR' := Lib.hid hR
      have hV2 := hV
      rw [rdV_ok h1] at hV2
      injection hV2 with hV2
      have hHc : hc M at_ = [.int .i64 A, .int .i64 K, .string H, .bool I, .bool D, .int .i64 X] := (Array.mk.injEq _ _).mp hV2
      have hKe : K = linkL M at_ := by simp at hV2; exact hV2.2.1.symm
      have hIK : isI K := by rw [hKe]; exact linkL_isI M at_
      clear hR hV2
      by_cases t1 : la ≤ at_
      · have hkl : k = xs.length := by
          rw [wordsW_no (by omega)] at hdr
          have := congrArg List.length hdr
          rw [List.length_drop] at this
          simp at this
          omega
        obtain ⟨j, hj⟩ : ∃ j, k = j + 1 := by
          cases k with
          | zero => have := hk0 rfl; omega
          | succ j => exact ⟨j, rfl⟩
        have hxj := hk1 j hj
        subst hj
        obtain ⟨bv, o, cp, e⟩ := hS.fact.2.some_of (by omega)
        cases e
        have hxs : hcs M (xs.take (j + 1)) = hcs M xs := by rw [hkl, List.take_length]
        have hln' := Lib.hid hln
        have hk8 := Lib.hid (show j + 1 ≤ xs.length by omega)
        have hkl' := Lib.hid hkl
        clear hHc hKe hIK hdr hk hV h1 hlo hk0 hk1 hln hkl
        go_upto_region 4 with (go_at_call 31; refine (hS.read (fun O h => hR'.out _ O h)).mono ?_; rintro e w2 ⟨rfl, hS2⟩; clear hS; have hS := hS2; clear hS2)
        have hS2 := hS.alloc (.cells #[.int .i64 A, .int .i64 K, .string H, .bool I, .bool D, .int .i64 X] 34)
        obtain ⟨w3, hw3⟩ : ∃ w3, w3 = w2.alloc (.cells #[.int .i64 A, .int .i64 K, .string H, .bool I, .bool D, .int .i64 X] 34) := ⟨_, rfl⟩
        rw [← hw3] at hS2 ⊢
        clear hS hw3
        have hS := hS2
        clear hS2
        have zc : w3.cell? ⟨bv, o + j * 6, none⟩ = some (.int .i64 la) := hS.fact.2.cell (j * 6 + 0) _ (hcs_at M _ j 0 la _ (by rw [List.getElem?_take, if_pos (Nat.lt_succ_self j)]; exact hxj) rfl)
        have wq : IntKind.i64.wrap (j : Int) = (j : Int) := by rw [IntKind.wrap_i64]; have := hk8.out; have := hln'.out; omega
        have t0 : 0 < j + 1 := Nat.succ_pos j
        go_wp2
        go_ret
        obtain ⟨O', q1, q2, q3, q4⟩ := hS
        rw [hxs, hkl'.out] at q3
        exact ⟨_, O', hkl'.out ▸ rfl, q1, q2, q3.right.vsN (fun b hb => (hown b (hkl'.out ▸ hb)).1)⟩
      · have hwy := hdr
        rw [wordsW_yes h1 (by omega), ← hKe] at hwy
        obtain ⟨hx, hdr2⟩ := drop_cons hwy
        clear hwy hKe
        cases k with
        | zero =>
          clear hk0 hk1
          have hxe := Lib.hid (show hcs M (xs.take 0) ++ [.int .i64 A, .int .i64 K, .string H, .bool I, .bool D, .int .i64 X] = hcs M (xs.take (0 + 1)) by rw [take_next hx, hcs_add, hHc])
          have hx' := Lib.hid hx
          have hd2 := Lib.hid hdr2
          have hk8 := Lib.hid (show 0 + 1 ≤ xs.length by have := (List.getElem?_eq_some_iff.1 hx).1; omega)
          have hIK' := Lib.hid hIK
          have hlo' := Lib.hid hlo
          have hln' := Lib.hid hln
          clear hHc hx hdr2 hlo hIK hdr hk hV h1 hln
          go_upto_region 4 with (go_at_call 31; refine (hS.read (fun O h => hR'.out _ O h)).mono ?_; rintro e w2 ⟨rfl, hS2⟩; clear hS; have hS := hS2; clear hS2)
          have hsv : ∀ b, (Value.slice ad 0 cap).ownBlock = some b → b < w2.heap.size := fun b hb => hS.slt (.inr hb)
          have hS2 := hS.new #[.int .i64 A, .int .i64 K, .string H, .bool I, .bool D, .int .i64 X] 34
          obtain ⟨b1, hb1⟩ : ∃ b1, b1 = w2.heap.size := ⟨_, rfl⟩
          obtain ⟨w3, hw3⟩ : ∃ w3, w3 = w2.alloc (.cells #[.int .i64 A, .int .i64 K, .string H, .bool I, .bool D, .int .i64 X] 34) := ⟨_, rfl⟩
          rw [← hw3, ← hb1] at hS2 ⊢
          rw [← hb1] at hsv
          clear hS hw3 hb1
          have hS : Onr w w3 B rb M R ((Kp.emp.and (.blk b1 #[.int .i64 A, .int .i64 K, .string H, .bool I, .bool D, .int .i64 X] 34)).and (.vs 6 (Value.slice ad 0 cap) 0 (hcs M (xs.take 0)))) := hS2.keep fun O h => (h.left.left.and h.right).and h.left.right
          have hown2 : ∀ b, (Value.slice ad 0 cap).ownBlock = some b → w.heap.size ≤ b ∧ ¬ (Kp.emp.and (.blk b1 #[.int .i64 A, .int .i64 K, .string H, .bool I, .bool D, .int .i64 X] 34)).S b := fun b hb => ⟨(hown b hb).1, fun h => by
            rcases h with h | h
            · exact h
            · have h2 : b = b1 := h
              have := hsv b hb
              omega⟩
          clear hS2 hsv hown
          go_upto_region 6 with fail
          have hSa := hS.alloc (.cells #[.int .i64 A, .int .i64 K, .string H, .bool I, .bool D, .int .i64 X] 34)
          obtain ⟨v', w4, hr, hS4, hown4, hsz⟩ := Onr.appendVs (P := Try.prog) (ty := 31) hSa hown2 ((Vs.lit6 _ (.int .i64 A) (.int .i64 K) (.string H) (.bool I) (.bool D) (.int .i64 X) _ (by simp [Value.oneCell'])).src (t := 31) Try.underlying31) Try.underlying31 infoHd rfl (by omega) (by have := hk8.out; have := hln'.out; omega) (by have := hk8.out; have := hln'.out; omega)
          obtain ⟨a', c', rfl, hcap'⟩ := hS4.fact.2.form
          rw [hxe.out] at hS4
          obtain ⟨y1, y2, y3, y4, y5, y6⟩ := hS.fact.1.2.c6
          obtain ⟨z1, z2, z3, z4, z5, z6⟩ := hS4.fact.1.2.c6
          have hT4 := Lib.hid (hS4.keep (L := Kp.emp.and (.vs 6 (.slice a' (0 + 1) c') (0 + 1) (hcs M (xs.take (0 + 1))))) fun O h => h.left.left.and h.right)
          have hT5 := Lib.hid hown4
          clear hS hSa hS4 hown2 hown4 hcap' hsz hR'
          go_wp2_with (at_builtin; refine wpList_append_bs rfl _ _ 31 rfl hr rfl rfl ?_)
          go_roundw
          case rel => exact ⟨0 + 1, at_, K, rfl, hk8.out, hd2.out, hIK'.out, fun h => (by cases h), fun j e => (by cases e; exact hx'.out), by have := hlo'.out; omega, by have := hlo'.out; omega, hT4.out, fun b hb => ⟨(hT5.out b hb).1, id⟩⟩
          case measure => have := hk8.out; have := hln'.out; simp
        | succ j =>
          have hxj := hk1 j rfl
          obtain ⟨bv, o, cp, e⟩ := hS.fact.2.some_of (by omega)
          cases e
          clear hk0 hk1
          have hxe := Lib.hid (show hcs M (xs.take (j + 1)) ++ [.int .i64 A, .int .i64 K, .string H, .bool I, .bool D, .int .i64 X] = hcs M (xs.take ((j + 1) + 1)) by rw [take_next hx, hcs_add, hHc])
          have hx' := Lib.hid hx
          have hd2 := Lib.hid hdr2
          have hk8 := Lib.hid (show (j + 1) + 1 ≤ xs.length by have := (List.getElem?_eq_some_iff.1 hx).1; omega)
          have hIK' := Lib.hid hIK
          have hlo' := Lib.hid hlo
          have hln' := Lib.hid hln
          clear hHc hx hdr2 hlo hIK hdr hk hV h1 hln
          go_upto_region 4 with (go_at_call 31; refine (hS.read (fun O h => hR'.out _ O h)).mono ?_; rintro e w2 ⟨rfl, hS2⟩; clear hS; have hS := hS2; clear hS2)
          have hsv : ∀ b, (Value.slice (some ⟨bv, o, none⟩) (j + 1) cap).ownBlock = some b → b < w2.heap.size := fun b hb => hS.slt (.inr hb)
          have hS2 := hS.new #[.int .i64 A, .int .i64 K, .string H, .bool I, .bool D, .int .i64 X] 34
          obtain ⟨b1, hb1⟩ : ∃ b1, b1 = w2.heap.size := ⟨_, rfl⟩
          obtain ⟨w3, hw3⟩ : ∃ w3, w3 = w2.alloc (.cells #[.int .i64 A, .int .i64 K, .string H, .bool I, .bool D, .int .i64 X] 34) := ⟨_, rfl⟩
          rw [← hw3, ← hb1] at hS2 ⊢
          rw [← hb1] at hsv
          clear hS hw3 hb1
          have hS : Onr w w3 B rb M R ((Kp.emp.and (.blk b1 #[.int .i64 A, .int .i64 K, .string H, .bool I, .bool D, .int .i64 X] 34)).and (.vs 6 (Value.slice (some ⟨bv, o, none⟩) (j + 1) cap) (j + 1) (hcs M (xs.take (j + 1))))) := hS2.keep fun O h => (h.left.left.and h.right).and h.left.right
          have hown2 : ∀ b, (Value.slice (some ⟨bv, o, none⟩) (j + 1) cap).ownBlock = some b → w.heap.size ≤ b ∧ ¬ (Kp.emp.and (.blk b1 #[.int .i64 A, .int .i64 K, .string H, .bool I, .bool D, .int .i64 X] 34)).S b := fun b hb => ⟨(hown b hb).1, fun h => by
            rcases h with h | h
            · exact h
            · have h2 : b = b1 := h
              have := hsv b hb
              omega⟩
          clear hS2 hsv hown
          have zc : w3.cell? ⟨bv, o + j * 6, none⟩ = some (.int .i64 la) := hS.fact.2.cell (j * 6 + 0) _ (hcs_at M _ j 0 la _ (by rw [List.getElem?_take, if_pos (Nat.lt_succ_self j)]; exact hxj) rfl)
          have wq : IntKind.i64.wrap (j : Int) = (j : Int) := by rw [IntKind.wrap_i64]; have := hk8.out; have := hln'.out; omega
          have t0 : 0 < j + 1 := Nat.succ_pos j
          go_upto_region 6 with fail
          have hSa := hS.alloc (.cells #[.int .i64 A, .int .i64 K, .string H, .bool I, .bool D, .int .i64 X] 34)
          obtain ⟨v', w4, hr, hS4, hown4, hsz⟩ := Onr.appendVs (P := Try.prog) (ty := 31) hSa hown2 ((Vs.lit6 _ (.int .i64 A) (.int .i64 K) (.string H) (.bool I) (.bool D) (.int .i64 X) _ (by simp [Value.oneCell'])).src (t := 31) Try.underlying31) Try.underlying31 infoHd rfl (by omega) (by have := hk8.out; have := hln'.out; omega) (by have := hk8.out; have := hln'.out; omega)
          obtain ⟨a', c', rfl, hcap'⟩ := hS4.fact.2.form
          rw [hxe.out] at hS4
          obtain ⟨y1, y2, y3, y4, y5, y6⟩ := hS.fact.1.2.c6
          obtain ⟨z1, z2, z3, z4, z5, z6⟩ := hS4.fact.1.2.c6
          have hT4 := Lib.hid (hS4.keep (L := Kp.emp.and (.vs 6 (.slice a' ((j + 1) + 1) c') ((j + 1) + 1) (hcs M (xs.take ((j + 1) + 1))))) fun O h => h.left.left.and h.right)
          have hT5 := Lib.hid hown4
          clear hS hSa hS4 hown2 hown4 hcap' hsz hR'
          go_wp2_with (at_builtin; refine wpList_append_bs rfl _ _ 31 rfl hr rfl rfl ?_)
          go_roundw
          case rel => exact ⟨(j + 1) + 1, at_, K, rfl, hk8.out, hd2.out, hIK'.out, fun h => (by cases h), fun j e => (by cases e; exact hx'.out), by have := hlo'.out; omega, by have := hlo'.out; omega, hT4.out, fun b hb => ⟨(hT5.out b hb).1, id⟩⟩
          case measure => have := hk8.out; have := hln'.out; simp; omega
    · have hkl : k = xs.length := by
        rw [wordsW_no (fun h => h1 h.1)] at hdr
        have := congrArg List.length hdr
        rw [List.length_drop] at this
        simp at this
        omega
      have hf : rdOk M at_ = false := by simpa using h1
      rw [hf] at hR
      have hR' := Lib.hid hR
      have hxs : hcs M (xs.take k) = hcs M xs := by rw [hkl, List.take_length]
      clear hR hf h1 hdr hV hk0 hk1 hk
      go_wp2_with (go_at_call 31; refine (hS.read (fun O h => hR'.out _ O h)).mono ?_; rintro e w2 ⟨rfl, hS2⟩; clear hS; have hS := hS2; clear hS2)
      go_ret
      replace hS := hS.alloc (.cells #[.int .i64 A, .int .i64 K, .string H, .bool I, .bool D, .int .i64 X] 34)
      obtain ⟨O', q1, q2, q3, q4⟩ := hS
      rw [hxs] at q3
      subst hkl
      exact ⟨_, O', rfl, q1, q2, q3.right.vsN (fun b hb => (hown b hb).1)⟩
end Go.Proofs.Ytcfblcgdjhpdaaa
