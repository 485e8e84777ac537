/- Texts merged: PB9 OV C1 C2 C5. -/
import Derived.Test.YtkcmphjgflbchaaZ5
import Derived.Deep.SlicePairs
import Derived.ProofKit
import Derived.OpenShut
import Derived.ChangeOld
import Derived.Lib.SmallJoins
import Derived.ChangeMaps5
import Derived.ChangeSlices
/- The reference's 'Find'. -/
namespace Go.Proofs.Ytkcmphjgflbchaa
open Go.RowKit
set_option linter.unusedVariables false
set_option linter.unusedSimpArgs false
attribute [local irreducible] cells19 cells20 rowL tabL
attribute [local go_sem] cell_set set_set m_undef

theorem bel_drewN {W w : World} (h : Below W.heap.size W w) (n : Nat) : Below W.heap.size W (w.drewN n) := h.trans ⟨rfl, rfl, rfl, Nat.le_refl _, fun _ _ => rfl⟩
theorem ba_ne {a b : ByteArray} (h : ¬ a = b) : (a.toList == b.toList) = false := by
  rw [ByteArray.toList_eq, ByteArray.toList_eq]
  simpa using fun e => h (ByteArray.ext (Array.toList_inj.1 e))
/-- No number up to k has this name. -/
def NoHit (L : List UInt8) (k : Nat) : Prop := ∀ x ∈ allIx.take k, ¬ (vis x = true ∧ nameOf x = L)
theorem num_find (L : List UInt8) : (allIx.filter vis).find? (fun x => nameOf x == L) = allIx.find? (fun x => vis x && (nameOf x == L)) := by
  rw [List.find?_filter]; congr 1; funext x; by_cases h : nameOf x = L <;> cases vis x <;> simp [h]
theorem numOf_hit (L : List UInt8) (k : Nat) (hk : k < 141) (h : NoHit L k) (hv : vis ⟨k + 1, by omega, by omega⟩ = true) (hn : nameOf ⟨k + 1, by omega, by omega⟩ = L) : numOf L = (k : Int) + 1 := by
  unfold numOf
  rw [num_find]
  have e : allIx = allIx.take k ++ (⟨k + 1, by omega, by omega⟩ :: allIx.drop (k + 1)) := by
    rw [← List.singleton_append, ← List.append_assoc, allIx_next k hk, List.take_append_drop]
  rw [e, List.find?_append, List.find?_eq_none.2 (fun x hx => by have := h x hx; simpa using this), Option.none_or, List.find?_cons_of_pos (by simp [hv, hn])]
  show ((k + 1 : Nat) : Int) = _
  omega
theorem numOf_miss (L : List UInt8) (h : NoHit L 141) : numOf L = 0 := by
  unfold numOf
  rw [num_find, List.find?_eq_none.2 (fun x hx => by
    have := h x (by rw [← allIx_len, List.take_length]; exact hx)
    simpa using this)]
theorem NoHit.next {L : List UInt8} {k : Nat} (hk : k < 141) (h : NoHit L k) (hx : ¬ (vis ⟨k + 1, by omega, by omega⟩ = true ∧ nameOf ⟨k + 1, by omega, by omega⟩ = L)) : NoHit L (k + 1) := fun x hm => by
  rw [← allIx_next k hk] at hm
  rcases List.mem_append.1 hm with h1 | h1
  · exact h x h1
  · rw [List.mem_singleton.1 h1]; exact hx

set_option maxRecDepth 100000 in
set_option maxHeartbeats 2000000 in
theorem rFind (s : ByteArray) (hs : s.size ≤ 1000) (w : World) : Calls Try.prog 18 #[.string s] w fun e w' => e = .returned (.int .i64 (numOf (large s).data.toList)) ∧ Below w.heap.size w w' := by
  have HL := Lib.hid (fun w => rLarge s hs w)
  obtain ⟨L, hL⟩ : ∃ L, L = large s := ⟨_, rfl⟩
  rw [← hL] at HL ⊢
  clear hL hs
  have hw1 : ∀ k : Nat, k < 141 → IntKind.i64.wrap ((k : Int) + 1) = (k : Int) + 1 := fun k hk => by rw [IntKind.wrap_i64]; omega
  go_enter Try.func18, Try.ntmps18
  go_wp2_with (go_at_call 43; refine (tableB _).mono ?_; rintro e w1 ⟨rfl, hb_w1, hk1⟩)
  go_loopw [7] (fun i wr => ∃ k : Nat, k ≤ 141 ∧ i = .int .i64 (k : Int) ∧ NoHit L.data.toList k ∧ Blk wr w.heap.size cells20 86 ∧ Below w.heap.size w wr) (fun i _ => (141 - (intOf i).toNat))
  case atStart =>
    exact ⟨0, by omega, rfl, fun x hx => by simp at hx, hk1, hb_w1⟩
  case round =>
    obtain ⟨k, hk, rfl, hno, hkr, hbl⟩ := hrel
    clear hk1 hb_w1
    by_cases hk0 : k < 141
    · have hwk := hw1 k hk0
      have t1 : (k : Int) < 141 := by omega
      have hc := fun j hj => tab_cells k hk0 j hj
      have hr := tab_rowL k hk0
      have hnm : nameOf ⟨k + 1, by omega, by omega⟩ = (tabL.getD k default).1.data.toList := by
        unfold nameOf rowAt
        rw [← hr]; rfl
      obtain ⟨r, hr2⟩ : ∃ r, r = tabL.getD k default := ⟨_, rfl⟩
      rw [← hr2] at hc hnm
      clear hr2 hr
      obtain ⟨nm, tk, ly, mk⟩ := r
      have c0 : cells20[k * 4]? = some (.string nm) := hc 0 (by omega)
      have c1 : cells20[k * 4 + 1]? = some (.int .i64 tk) := hc 1 (by omega)
      have c2 : cells20[k * 4 + 2]? = some (.int .i64 ly) := hc 2 (by omega)
      have c3 : cells20[k * 4 + 3]? = some (.int .i64 mk) := hc 3 (by omega)
      have y0 := (hkr.cell (k * 4)).trans c0
      have y1 := (hkr.cell (k * 4 + 1)).trans c1
      have y2 := (hkr.cell (k * 4 + 2)).trans c2
      have y3 := (hkr.cell (k * 4 + 3)).trans c3
      clear hc c0 c1 c2 c3
      have hvis : vis ⟨k + 1, by omega, by omega⟩ = (decide (k < 1) || decide (10 < k)) := by
        show (decide (k + 1 < 2) || decide (11 < k + 1)) = _
        congr 1 <;> (rw [decide_eq_decide]; omega)
      have hhit := numOf_hit L.data.toList k hk0 hno
      have hnext := fun h => hno.next hk0 h
      by_cases t2 : k < 1
      · have t2' : (k : Int) < 1 := by omega
        by_cases hL : nm = L
        · have H := Lib.hid (hhit (by rw [hvis]; simp [t2]) (by rw [hnm, hL]))
          subst hL
          clear hnext hhit hvis hno hnm
          go_upto_region 4 with fail
          refine wp_region_noPanic ?_
          refine wp_region_held_drew (S := (fun w' => w'.cell? ⟨wr.heap.size, 0, none⟩ = some (.string nm))) (by kernel_rfl) ?_ (fun hHeld => ?_)
          · (try dsimp only); (first | go_keep | assumption)
          refine wpAnyH_take (i := 0) (oi := { dst := some 12, op := Go.Op.move (Go.Operand.tmp 3), type := 3, pos := "ref.go:187", after := #[], guard := none }) (v := ?v1) rfl (by kernel_rfl) (by kernel_rfl) (by kernel_rfl) (fun _ _ _ h => h) (Or.inl ⟨by rfl, ?hy1⟩) (by assumption) ?rest1
          case hy1 => (intro w hSw; (try dsimp only at hSw); go_simp <;> with_reducible rfl)
          try simp only [Act.put, List.setIfInBounds_toArray, List.set_cons_zero, List.set_cons_succ]
          refine wpAnyH_take (i := 1) (oi := { dst := some 13, op := Go.Op.binOp Go.BinOp.lss 3 (Go.Operand.tmp 12) (Go.Operand.const (Go.Value.int Go.IntKind.i64 1)) 3, type := 4, pos := "ref.go:187", after := #[{ on := 0, ground := Go.Ground.data }], guard := none }) (v := ?v2) rfl (by kernel_rfl) (by kernel_rfl) (by kernel_rfl) (fun _ _ _ h => h) (Or.inl ⟨by rfl, ?hy2⟩) (by assumption) ?rest2
          case hy2 => (intro w hSw; (try dsimp only at hSw); go_simp <;> with_reducible rfl)
          try simp only [Act.put, List.setIfInBounds_toArray, List.set_cons_zero, List.set_cons_succ]
          refine wpAnyH_take (i := 2) (oi := { dst := some 14, op := Go.Op.move (Go.Operand.tmp 13), type := 4, pos := "ref.go:187", after := #[{ on := 1, ground := Go.Ground.data }], guard := none }) (v := ?v3) rfl (by kernel_rfl) (by kernel_rfl) (by kernel_rfl) (fun _ _ _ h => h) (Or.inl ⟨by rfl, ?hy3⟩) (by assumption) ?rest3
          case hy3 => (intro w hSw; (try dsimp only at hSw); go_simp <;> with_reducible rfl)
          try simp only [Act.put, List.setIfInBounds_toArray, List.set_cons_zero, List.set_cons_succ]
          refine wpAnyH_take (i := 3) (oi := { dst := some 15, op := Go.Op.move (Go.Operand.tmp 3), type := 3, pos := "ref.go:187", after := #[{ on := 2, ground := Go.Ground.guard }], guard := some (2, false) }) (v := undef) rfl (by kernel_rfl) (by kernel_rfl) (by kernel_rfl) (fun _ _ _ h => h) (Or.inr ⟨by rfl, rfl⟩) (by assumption) ?_
          try simp only [Act.put, List.setIfInBounds_toArray, List.set_cons_zero, List.set_cons_succ]
          refine wpAnyH_take (i := 4) (oi := { dst := some 16, op := Go.Op.binOp Go.BinOp.gtr 3 (Go.Operand.tmp 15) (Go.Operand.const (Go.Value.int Go.IntKind.i64 10)) 3, type := 4, pos := "ref.go:187", after := #[{ on := 3, ground := Go.Ground.data }, { on := 2, ground := Go.Ground.guard }], guard := some (2, false) }) (v := undef) rfl (by kernel_rfl) (by kernel_rfl) (by kernel_rfl) (fun _ _ _ h => h) (Or.inr ⟨by rfl, rfl⟩) (by assumption) ?_
          try simp only [Act.put, List.setIfInBounds_toArray, List.set_cons_zero, List.set_cons_succ]
          refine wpAnyH_take (i := 5) (oi := { dst := some 17, op := Go.Op.pick (Go.Operand.tmp 14) (Go.Operand.const (Go.Value.bool true)) (Go.Operand.tmp 16), type := 4, pos := "ref.go:187", after := #[{ on := 2, ground := Go.Ground.data }, { on := 4, ground := Go.Ground.data }], guard := none }) (v := ?v4) rfl (by kernel_rfl) (by kernel_rfl) (by kernel_rfl) (fun _ _ _ h => h) (Or.inl ⟨by rfl, ?hy4⟩) (by assumption) ?rest4
          case hy4 => (intro w hSw; (try dsimp only at hSw); go_simp <;> with_reducible rfl)
          try simp only [Act.put, List.setIfInBounds_toArray, List.set_cons_zero, List.set_cons_succ]
          refine wpAnyH_take (i := 6) (oi := { dst := some 18, op := Go.Op.move (Go.Operand.tmp 17), type := 4, pos := "ref.go:187", after := #[{ on := 5, ground := Go.Ground.data }, { on := 2, ground := Go.Ground.chain }], guard := none }) (v := ?v5) rfl (by kernel_rfl) (by kernel_rfl) (by kernel_rfl) (fun _ _ _ h => h) (Or.inl ⟨by rfl, ?hy5⟩) (by assumption) ?rest5
          case hy5 => (intro w hSw; (try dsimp only at hSw); go_simp <;> with_reducible rfl)
          try simp only [Act.put, List.setIfInBounds_toArray, List.set_cons_zero, List.set_cons_succ]
          refine wpAnyH_take (i := 7) (oi := { dst := some 19, op := Go.Op.fieldAddr 86 (Go.Operand.tmp 4) 0, type := 0, pos := "ref.go:187", after := #[{ on := 6, ground := Go.Ground.guard }], guard := some (6, true) }) (v := ?v6) rfl (by kernel_rfl) (by kernel_rfl) (by kernel_rfl) (fun _ _ _ h => h) (Or.inl ⟨by rfl, ?hy6⟩) (by assumption) ?rest6
          case hy6 => (intro w hSw; (try dsimp only at hSw); go_simp <;> with_reducible rfl)
          try simp only [Act.put, List.setIfInBounds_toArray, List.set_cons_zero, List.set_cons_succ]
          refine wpAnyH_take (i := 8) (oi := { dst := some 20, op := Go.Op.load 9 (Go.Operand.tmp 19), type := 9, pos := "ref.go:187", after := #[{ on := 7, ground := Go.Ground.data }, { on := 6, ground := Go.Ground.guard }], guard := some (6, true) }) (v := ?v7) rfl (by kernel_rfl) (by kernel_rfl) (by kernel_rfl) (fun _ _ _ h => h) (Or.inl ⟨by rfl, ?hy7⟩) (by assumption) ?rest7
          case hy7 => (intro w hSw; (try dsimp only at hSw); go_simp <;> with_reducible rfl)
          try simp only [Act.put, List.setIfInBounds_toArray, List.set_cons_zero, List.set_cons_succ]
          refine wpAnyH_take (i := 9) (oi := { dst := some 21, op := Go.Op.move (Go.Operand.tmp 0), type := 9, pos := "ref.go:187", after := #[{ on := 6, ground := Go.Ground.guard }], guard := some (6, true) }) (v := ?v8) rfl (by kernel_rfl) (by kernel_rfl) (by kernel_rfl) (fun _ _ _ h => h) (Or.inl ⟨by rfl, ?hy8⟩) (by assumption) ?rest8
          case hy8 => (intro w hSw; (try dsimp only at hSw); go_simp <;> with_reducible rfl)
          try simp only [Act.put, List.setIfInBounds_toArray, List.set_cons_zero, List.set_cons_succ]
          refine wpAnyH_ready (rs := [10]) (by kernel_rfl) (by simp) ?_
          refine AllReadyH.cons (o := { dst := some 22, op := Go.Op.call { callee := Go.Callee.value (Go.Operand.func 44), args := #[Go.Operand.tmp 21], argTypes := #[9] }, type := 9, pos := "ref.go:187", after := #[{ on := 9, ground := Go.Ground.data }, { on := 6, ground := Go.Ground.chain }, { on := 6, ground := Go.Ground.guard }], guard := some (6, true) }) rfl (fun K hK => ?_) AllReadyH.nil
          go_simp
          go_at_call 44; refine (HL.out _).mono ?_; rintro e w2 ⟨rfl, hb_w2⟩; obtain ⟨m1, m2, m3, m4, m5, m6, m7, m8, m9⟩ := (show Blk w2 (wr.heap.size) #[.string nm, .int .i64 tk, .int .i64 ly, .int .i64 mk] 86 from (by repeat (first | (with_reducible assumption) | (with_reducible refine Blk.new' ?_; first | rfl | (simp; done) | (simp; omega)) | (with_reducible apply Blk.setFive) | (with_reducible apply Blk.set0) | (with_reducible apply Blk.set1) | (with_reducible apply Blk.setOne) | (with_reducible refine Blk.set_other ?_ (by omega) _ _) | (with_reducible apply Blk.alloc) | (with_reducible apply Blk.drew) | (with_reducible refine Blk.below ?_ (by with_reducible assumption))))).four
          refine hK.out _ _ ?_ (fun hHeld2 => ?_)
          · (try dsimp only); (first | go_keep | assumption)
          clear hK K hHeld
          have hHeld := hHeld2
          clear hHeld2
          try simp only [Act.put, List.setIfInBounds_toArray, List.set_cons_zero, List.set_cons_succ]
          refine wpAnyH_take (i := 11) (oi := { dst := some 23, op := Go.Op.binOp Go.BinOp.eql 9 (Go.Operand.tmp 20) (Go.Operand.tmp 22) 9, type := 4, pos := "ref.go:187", after := #[{ on := 8, ground := Go.Ground.data }, { on := 10, ground := Go.Ground.data }, { on := 6, ground := Go.Ground.guard }], guard := some (6, true) }) (v := ?v9) rfl (by kernel_rfl) (by kernel_rfl) (by kernel_rfl) (fun _ _ _ h => h) (Or.inl ⟨by rfl, ?hy9⟩) (by assumption) ?rest9
          case hy9 => (intro w hSw; (try dsimp only at hSw); go_simp <;> with_reducible rfl)
          try simp only [Act.put, List.setIfInBounds_toArray, List.set_cons_zero, List.set_cons_succ]
          refine wpAnyH_take (i := 12) (oi := { dst := some 24, op := Go.Op.pick (Go.Operand.tmp 18) (Go.Operand.tmp 23) (Go.Operand.const (Go.Value.bool false)), type := 4, pos := "ref.go:187", after := #[{ on := 6, ground := Go.Ground.data }, { on := 11, ground := Go.Ground.data }], guard := none }) (v := ?v10) rfl (by kernel_rfl) (by kernel_rfl) (by kernel_rfl) (fun _ _ _ h => h) (Or.inl ⟨by rfl, ?hy10⟩) (by assumption) ?rest10
          case hy10 => (intro w hSw; (try dsimp only at hSw); go_simp <;> with_reducible rfl)
          try simp only [Act.put, List.setIfInBounds_toArray, List.set_cons_zero, List.set_cons_succ]
          refine wpAnyH_done (by kernel_rfl) ?_ _
          refine NoPanic.normal ?_
          all_goals
            go_wp2
            go_ret
            exact ⟨by rw [H.out]; rfl, by repeat (first | (with_reducible exact Below.refl _ _) | (with_reducible assumption) | (with_reducible apply bel_alloc) | (with_reducible apply bel_drew) | (with_reducible refine bel_set ?_ (by first | exact Nat.le_refl _ | (simp; done) | omega | (simp; omega)) _) | (with_reducible refine bel_trans ?_ (by with_reducible assumption)))⟩
        · have H := Lib.hid (hnext (fun h => hL (by have h2 := h.2; rw [hnm] at h2; exact ByteArray.ext (Array.toList_inj.1 h2))))
          have hLb := ba_ne hL
          clear hnext hhit hvis hno hnm
          go_upto_region 4 with fail
          refine wp_region_noPanic ?_
          refine wp_region_held_drew (S := (fun w' => w'.cell? ⟨wr.heap.size, 0, none⟩ = some (.string nm))) (by kernel_rfl) ?_ (fun hHeld => ?_)
          · (try dsimp only); (first | go_keep | assumption)
          refine wpAnyH_take (i := 0) (oi := { dst := some 12, op := Go.Op.move (Go.Operand.tmp 3), type := 3, pos := "ref.go:187", after := #[], guard := none }) (v := ?v11) rfl (by kernel_rfl) (by kernel_rfl) (by kernel_rfl) (fun _ _ _ h => h) (Or.inl ⟨by rfl, ?hy11⟩) (by assumption) ?rest11
          case hy11 => (intro w hSw; (try dsimp only at hSw); go_simp <;> with_reducible rfl)
          try simp only [Act.put, List.setIfInBounds_toArray, List.set_cons_zero, List.set_cons_succ]
          refine wpAnyH_take (i := 1) (oi := { dst := some 13, op := Go.Op.binOp Go.BinOp.lss 3 (Go.Operand.tmp 12) (Go.Operand.const (Go.Value.int Go.IntKind.i64 1)) 3, type := 4, pos := "ref.go:187", after := #[{ on := 0, ground := Go.Ground.data }], guard := none }) (v := ?v12) rfl (by kernel_rfl) (by kernel_rfl) (by kernel_rfl) (fun _ _ _ h => h) (Or.inl ⟨by rfl, ?hy12⟩) (by assumption) ?rest12
          case hy12 => (intro w hSw; (try dsimp only at hSw); go_simp <;> with_reducible rfl)
          try simp only [Act.put, List.setIfInBounds_toArray, List.set_cons_zero, List.set_cons_succ]
          refine wpAnyH_take (i := 2) (oi := { dst := some 14, op := Go.Op.move (Go.Operand.tmp 13), type := 4, pos := "ref.go:187", after := #[{ on := 1, ground := Go.Ground.data }], guard := none }) (v := ?v13) rfl (by kernel_rfl) (by kernel_rfl) (by kernel_rfl) (fun _ _ _ h => h) (Or.inl ⟨by rfl, ?hy13⟩) (by assumption) ?rest13
          case hy13 => (intro w hSw; (try dsimp only at hSw); go_simp <;> with_reducible rfl)
          try simp only [Act.put, List.setIfInBounds_toArray, List.set_cons_zero, List.set_cons_succ]
          refine wpAnyH_take (i := 3) (oi := { dst := some 15, op := Go.Op.move (Go.Operand.tmp 3), type := 3, pos := "ref.go:187", after := #[{ on := 2, ground := Go.Ground.guard }], guard := some (2, false) }) (v := undef) rfl (by kernel_rfl) (by kernel_rfl) (by kernel_rfl) (fun _ _ _ h => h) (Or.inr ⟨by rfl, rfl⟩) (by assumption) ?_
          try simp only [Act.put, List.setIfInBounds_toArray, List.set_cons_zero, List.set_cons_succ]
          refine wpAnyH_take (i := 4) (oi := { dst := some 16, op := Go.Op.binOp Go.BinOp.gtr 3 (Go.Operand.tmp 15) (Go.Operand.const (Go.Value.int Go.IntKind.i64 10)) 3, type := 4, pos := "ref.go:187", after := #[{ on := 3, ground := Go.Ground.data }, { on := 2, ground := Go.Ground.guard }], guard := some (2, false) }) (v := undef) rfl (by kernel_rfl) (by kernel_rfl) (by kernel_rfl) (fun _ _ _ h => h) (Or.inr ⟨by rfl, rfl⟩) (by assumption) ?_
          try simp only [Act.put, List.setIfInBounds_toArray, List.set_cons_zero, List.set_cons_succ]
          refine wpAnyH_take (i := 5) (oi := { dst := some 17, op := Go.Op.pick (Go.Operand.tmp 14) (Go.Operand.const (Go.Value.bool true)) (Go.Operand.tmp 16), type := 4, pos := "ref.go:187", after := #[{ on := 2, ground := Go.Ground.data }, { on := 4, ground := Go.Ground.data }], guard := none }) (v := ?v14) rfl (by kernel_rfl) (by kernel_rfl) (by kernel_rfl) (fun _ _ _ h => h) (Or.inl ⟨by rfl, ?hy14⟩) (by assumption) ?rest14
          case hy14 => (intro w hSw; (try dsimp only at hSw); go_simp <;> with_reducible rfl)
          try simp only [Act.put, List.setIfInBounds_toArray, List.set_cons_zero, List.set_cons_succ]
          refine wpAnyH_take (i := 6) (oi := { dst := some 18, op := Go.Op.move (Go.Operand.tmp 17), type := 4, pos := "ref.go:187", after := #[{ on := 5, ground := Go.Ground.data }, { on := 2, ground := Go.Ground.chain }], guard := none }) (v := ?v15) rfl (by kernel_rfl) (by kernel_rfl) (by kernel_rfl) (fun _ _ _ h => h) (Or.inl ⟨by rfl, ?hy15⟩) (by assumption) ?rest15
          case hy15 => (intro w hSw; (try dsimp only at hSw); go_simp <;> with_reducible rfl)
          try simp only [Act.put, List.setIfInBounds_toArray, List.set_cons_zero, List.set_cons_succ]
          refine wpAnyH_take (i := 7) (oi := { dst := some 19, op := Go.Op.fieldAddr 86 (Go.Operand.tmp 4) 0, type := 0, pos := "ref.go:187", after := #[{ on := 6, ground := Go.Ground.guard }], guard := some (6, true) }) (v := ?v16) rfl (by kernel_rfl) (by kernel_rfl) (by kernel_rfl) (fun _ _ _ h => h) (Or.inl ⟨by rfl, ?hy16⟩) (by assumption) ?rest16
          case hy16 => (intro w hSw; (try dsimp only at hSw); go_simp <;> with_reducible rfl)
          try simp only [Act.put, List.setIfInBounds_toArray, List.set_cons_zero, List.set_cons_succ]
          refine wpAnyH_take (i := 8) (oi := { dst := some 20, op := Go.Op.load 9 (Go.Operand.tmp 19), type := 9, pos := "ref.go:187", after := #[{ on := 7, ground := Go.Ground.data }, { on := 6, ground := Go.Ground.guard }], guard := some (6, true) }) (v := ?v17) rfl (by kernel_rfl) (by kernel_rfl) (by kernel_rfl) (fun _ _ _ h => h) (Or.inl ⟨by rfl, ?hy17⟩) (by assumption) ?rest17
          case hy17 => (intro w hSw; (try dsimp only at hSw); go_simp <;> with_reducible rfl)
          try simp only [Act.put, List.setIfInBounds_toArray, List.set_cons_zero, List.set_cons_succ]
          refine wpAnyH_take (i := 9) (oi := { dst := some 21, op := Go.Op.move (Go.Operand.tmp 0), type := 9, pos := "ref.go:187", after := #[{ on := 6, ground := Go.Ground.guard }], guard := some (6, true) }) (v := ?v18) rfl (by kernel_rfl) (by kernel_rfl) (by kernel_rfl) (fun _ _ _ h => h) (Or.inl ⟨by rfl, ?hy18⟩) (by assumption) ?rest18
          case hy18 => (intro w hSw; (try dsimp only at hSw); go_simp <;> with_reducible rfl)
          try simp only [Act.put, List.setIfInBounds_toArray, List.set_cons_zero, List.set_cons_succ]
          refine wpAnyH_ready (rs := [10]) (by kernel_rfl) (by simp) ?_
          refine AllReadyH.cons (o := { dst := some 22, op := Go.Op.call { callee := Go.Callee.value (Go.Operand.func 44), args := #[Go.Operand.tmp 21], argTypes := #[9] }, type := 9, pos := "ref.go:187", after := #[{ on := 9, ground := Go.Ground.data }, { on := 6, ground := Go.Ground.chain }, { on := 6, ground := Go.Ground.guard }], guard := some (6, true) }) rfl (fun K hK => ?_) AllReadyH.nil
          go_simp
          go_at_call 44; refine (HL.out _).mono ?_; rintro e w2 ⟨rfl, hb_w2⟩; obtain ⟨m1, m2, m3, m4, m5, m6, m7, m8, m9⟩ := (show Blk w2 (wr.heap.size) #[.string nm, .int .i64 tk, .int .i64 ly, .int .i64 mk] 86 from (by repeat (first | (with_reducible assumption) | (with_reducible refine Blk.new' ?_; first | rfl | (simp; done) | (simp; omega)) | (with_reducible apply Blk.setFive) | (with_reducible apply Blk.set0) | (with_reducible apply Blk.set1) | (with_reducible apply Blk.setOne) | (with_reducible refine Blk.set_other ?_ (by omega) _ _) | (with_reducible apply Blk.alloc) | (with_reducible apply Blk.drew) | (with_reducible refine Blk.below ?_ (by with_reducible assumption))))).four
          refine hK.out _ _ ?_ (fun hHeld2 => ?_)
          · (try dsimp only); (first | go_keep | assumption)
          clear hK K hHeld
          have hHeld := hHeld2
          clear hHeld2
          try simp only [Act.put, List.setIfInBounds_toArray, List.set_cons_zero, List.set_cons_succ]
          refine wpAnyH_take (i := 11) (oi := { dst := some 23, op := Go.Op.binOp Go.BinOp.eql 9 (Go.Operand.tmp 20) (Go.Operand.tmp 22) 9, type := 4, pos := "ref.go:187", after := #[{ on := 8, ground := Go.Ground.data }, { on := 10, ground := Go.Ground.data }, { on := 6, ground := Go.Ground.guard }], guard := some (6, true) }) (v := ?v19) rfl (by kernel_rfl) (by kernel_rfl) (by kernel_rfl) (fun _ _ _ h => h) (Or.inl ⟨by rfl, ?hy19⟩) (by assumption) ?rest19
          case hy19 => (intro w hSw; (try dsimp only at hSw); go_simp <;> with_reducible rfl)
          try simp only [Act.put, List.setIfInBounds_toArray, List.set_cons_zero, List.set_cons_succ]
          refine wpAnyH_take (i := 12) (oi := { dst := some 24, op := Go.Op.pick (Go.Operand.tmp 18) (Go.Operand.tmp 23) (Go.Operand.const (Go.Value.bool false)), type := 4, pos := "ref.go:187", after := #[{ on := 6, ground := Go.Ground.data }, { on := 11, ground := Go.Ground.data }], guard := none }) (v := ?v20) rfl (by kernel_rfl) (by kernel_rfl) (by kernel_rfl) (fun _ _ _ h => h) (Or.inl ⟨by rfl, ?hy20⟩) (by assumption) ?rest20
          case hy20 => (intro w hSw; (try dsimp only at hSw); go_simp <;> with_reducible rfl)
          try simp only [Act.put, List.setIfInBounds_toArray, List.set_cons_zero, List.set_cons_succ]
          refine wpAnyH_done (by kernel_rfl) ?_ _
          refine NoPanic.normal ?_
          all_goals
            go_wp2
            go_roundw
            case rel => exact ⟨k + 1, by omega, rfl, H.out, by repeat (first | (with_reducible assumption) | (with_reducible refine Blk.new' ?_; first | rfl | (simp; done) | (simp; omega)) | (with_reducible apply Blk.set01) | (with_reducible apply Blk.set0) | (with_reducible apply Blk.set1) | (with_reducible apply Blk.setOne) | (with_reducible refine Blk.set_other ?_ (by omega) _ _) | (with_reducible apply Blk.alloc) | (with_reducible apply Blk.drew) | (with_reducible refine Blk.below ?_ (by with_reducible assumption))), by repeat (first | (with_reducible exact Below.refl _ _) | (with_reducible assumption) | (with_reducible apply bel_alloc) | (with_reducible apply bel_drew) | (with_reducible refine bel_set ?_ (by first | exact Nat.le_refl _ | (simp; done) | omega | (simp; omega)) _) | (with_reducible refine bel_trans ?_ (by with_reducible assumption)))⟩
            case measure => simp [intOf]; omega
      by_cases t3 : 10 < k
      · have t2' : ¬ (k : Int) < 1 := by omega
        have t3' : (10 : Int) < (k : Int) := by omega
        by_cases hL : nm = L
        · have H := Lib.hid (hhit (by rw [hvis]; simp [t3]) (by rw [hnm, hL]))
          subst hL
          clear hnext hhit hvis hno hnm
          go_upto_region 4 with fail
          refine wp_region_noPanic ?_
          refine wp_region_held_drew (S := (fun w' => w'.cell? ⟨wr.heap.size, 0, none⟩ = some (.string nm))) (by kernel_rfl) ?_ (fun hHeld => ?_)
          · (try dsimp only); (first | go_keep | assumption)
          refine wpAnyH_take (i := 0) (oi := { dst := some 12, op := Go.Op.move (Go.Operand.tmp 3), type := 3, pos := "ref.go:187", after := #[], guard := none }) (v := ?v21) rfl (by kernel_rfl) (by kernel_rfl) (by kernel_rfl) (fun _ _ _ h => h) (Or.inl ⟨by rfl, ?hy21⟩) (by assumption) ?rest21
          case hy21 => (intro w hSw; (try dsimp only at hSw); go_simp <;> with_reducible rfl)
          try simp only [Act.put, List.setIfInBounds_toArray, List.set_cons_zero, List.set_cons_succ]
          refine wpAnyH_take (i := 1) (oi := { dst := some 13, op := Go.Op.binOp Go.BinOp.lss 3 (Go.Operand.tmp 12) (Go.Operand.const (Go.Value.int Go.IntKind.i64 1)) 3, type := 4, pos := "ref.go:187", after := #[{ on := 0, ground := Go.Ground.data }], guard := none }) (v := ?v22) rfl (by kernel_rfl) (by kernel_rfl) (by kernel_rfl) (fun _ _ _ h => h) (Or.inl ⟨by rfl, ?hy22⟩) (by assumption) ?rest22
          case hy22 => (intro w hSw; (try dsimp only at hSw); go_simp <;> with_reducible rfl)
          try simp only [Act.put, List.setIfInBounds_toArray, List.set_cons_zero, List.set_cons_succ]
          refine wpAnyH_take (i := 2) (oi := { dst := some 14, op := Go.Op.move (Go.Operand.tmp 13), type := 4, pos := "ref.go:187", after := #[{ on := 1, ground := Go.Ground.data }], guard := none }) (v := ?v23) rfl (by kernel_rfl) (by kernel_rfl) (by kernel_rfl) (fun _ _ _ h => h) (Or.inl ⟨by rfl, ?hy23⟩) (by assumption) ?rest23
          case hy23 => (intro w hSw; (try dsimp only at hSw); go_simp <;> with_reducible rfl)
          try simp only [Act.put, List.setIfInBounds_toArray, List.set_cons_zero, List.set_cons_succ]
          refine wpAnyH_take (i := 3) (oi := { dst := some 15, op := Go.Op.move (Go.Operand.tmp 3), type := 3, pos := "ref.go:187", after := #[{ on := 2, ground := Go.Ground.guard }], guard := some (2, false) }) (v := ?v24) rfl (by kernel_rfl) (by kernel_rfl) (by kernel_rfl) (fun _ _ _ h => h) (Or.inl ⟨by rfl, ?hy24⟩) (by assumption) ?rest24
          case hy24 => (intro w hSw; (try dsimp only at hSw); go_simp <;> with_reducible rfl)
          try simp only [Act.put, List.setIfInBounds_toArray, List.set_cons_zero, List.set_cons_succ]
          refine wpAnyH_take (i := 4) (oi := { dst := some 16, op := Go.Op.binOp Go.BinOp.gtr 3 (Go.Operand.tmp 15) (Go.Operand.const (Go.Value.int Go.IntKind.i64 10)) 3, type := 4, pos := "ref.go:187", after := #[{ on := 3, ground := Go.Ground.data }, { on := 2, ground := Go.Ground.guard }], guard := some (2, false) }) (v := ?v25) rfl (by kernel_rfl) (by kernel_rfl) (by kernel_rfl) (fun _ _ _ h => h) (Or.inl ⟨by rfl, ?hy25⟩) (by assumption) ?rest25
          case hy25 => (intro w hSw; (try dsimp only at hSw); go_simp <;> with_reducible rfl)
          try simp only [Act.put, List.setIfInBounds_toArray, List.set_cons_zero, List.set_cons_succ]
          refine wpAnyH_take (i := 5) (oi := { dst := some 17, op := Go.Op.pick (Go.Operand.tmp 14) (Go.Operand.const (Go.Value.bool true)) (Go.Operand.tmp 16), type := 4, pos := "ref.go:187", after := #[{ on := 2, ground := Go.Ground.data }, { on := 4, ground := Go.Ground.data }], guard := none }) (v := ?v26) rfl (by kernel_rfl) (by kernel_rfl) (by kernel_rfl) (fun _ _ _ h => h) (Or.inl ⟨by rfl, ?hy26⟩) (by assumption) ?rest26
          case hy26 => (intro w hSw; (try dsimp only at hSw); go_simp <;> with_reducible rfl)
          try simp only [Act.put, List.setIfInBounds_toArray, List.set_cons_zero, List.set_cons_succ]
          refine wpAnyH_take (i := 6) (oi := { dst := some 18, op := Go.Op.move (Go.Operand.tmp 17), type := 4, pos := "ref.go:187", after := #[{ on := 5, ground := Go.Ground.data }, { on := 2, ground := Go.Ground.chain }], guard := none }) (v := ?v27) rfl (by kernel_rfl) (by kernel_rfl) (by kernel_rfl) (fun _ _ _ h => h) (Or.inl ⟨by rfl, ?hy27⟩) (by assumption) ?rest27
          case hy27 => (intro w hSw; (try dsimp only at hSw); go_simp <;> with_reducible rfl)
          try simp only [Act.put, List.setIfInBounds_toArray, List.set_cons_zero, List.set_cons_succ]
          refine wpAnyH_take (i := 7) (oi := { dst := some 19, op := Go.Op.fieldAddr 86 (Go.Operand.tmp 4) 0, type := 0, pos := "ref.go:187", after := #[{ on := 6, ground := Go.Ground.guard }], guard := some (6, true) }) (v := ?v28) rfl (by kernel_rfl) (by kernel_rfl) (by kernel_rfl) (fun _ _ _ h => h) (Or.inl ⟨by rfl, ?hy28⟩) (by assumption) ?rest28
          case hy28 => (intro w hSw; (try dsimp only at hSw); go_simp <;> with_reducible rfl)
          try simp only [Act.put, List.setIfInBounds_toArray, List.set_cons_zero, List.set_cons_succ]
          refine wpAnyH_take (i := 8) (oi := { dst := some 20, op := Go.Op.load 9 (Go.Operand.tmp 19), type := 9, pos := "ref.go:187", after := #[{ on := 7, ground := Go.Ground.data }, { on := 6, ground := Go.Ground.guard }], guard := some (6, true) }) (v := ?v29) rfl (by kernel_rfl) (by kernel_rfl) (by kernel_rfl) (fun _ _ _ h => h) (Or.inl ⟨by rfl, ?hy29⟩) (by assumption) ?rest29
          case hy29 => (intro w hSw; (try dsimp only at hSw); go_simp <;> with_reducible rfl)
          try simp only [Act.put, List.setIfInBounds_toArray, List.set_cons_zero, List.set_cons_succ]
          refine wpAnyH_take (i := 9) (oi := { dst := some 21, op := Go.Op.move (Go.Operand.tmp 0), type := 9, pos := "ref.go:187", after := #[{ on := 6, ground := Go.Ground.guard }], guard := some (6, true) }) (v := ?v30) rfl (by kernel_rfl) (by kernel_rfl) (by kernel_rfl) (fun _ _ _ h => h) (Or.inl ⟨by rfl, ?hy30⟩) (by assumption) ?rest30
          case hy30 => (intro w hSw; (try dsimp only at hSw); go_simp <;> with_reducible rfl)
          try simp only [Act.put, List.setIfInBounds_toArray, List.set_cons_zero, List.set_cons_succ]
          refine wpAnyH_ready (rs := [10]) (by kernel_rfl) (by simp) ?_
          refine AllReadyH.cons (o := { dst := some 22, op := Go.Op.call { callee := Go.Callee.value (Go.Operand.func 44), args := #[Go.Operand.tmp 21], argTypes := #[9] }, type := 9, pos := "ref.go:187", after := #[{ on := 9, ground := Go.Ground.data }, { on := 6, ground := Go.Ground.chain }, { on := 6, ground := Go.Ground.guard }], guard := some (6, true) }) rfl (fun K hK => ?_) AllReadyH.nil
          go_simp
          go_at_call 44; refine (HL.out _).mono ?_; rintro e w2 ⟨rfl, hb_w2⟩; obtain ⟨m1, m2, m3, m4, m5, m6, m7, m8, m9⟩ := (show Blk w2 (wr.heap.size) #[.string nm, .int .i64 tk, .int .i64 ly, .int .i64 mk] 86 from (by repeat (first | (with_reducible assumption) | (with_reducible refine Blk.new' ?_; first | rfl | (simp; done) | (simp; omega)) | (with_reducible apply Blk.setFive) | (with_reducible apply Blk.set0) | (with_reducible apply Blk.set1) | (with_reducible apply Blk.setOne) | (with_reducible refine Blk.set_other ?_ (by omega) _ _) | (with_reducible apply Blk.alloc) | (with_reducible apply Blk.drew) | (with_reducible refine Blk.below ?_ (by with_reducible assumption))))).four
          refine hK.out _ _ ?_ (fun hHeld2 => ?_)
          · (try dsimp only); (first | go_keep | assumption)
          clear hK K hHeld
          have hHeld := hHeld2
          clear hHeld2
          try simp only [Act.put, List.setIfInBounds_toArray, List.set_cons_zero, List.set_cons_succ]
          refine wpAnyH_take (i := 11) (oi := { dst := some 23, op := Go.Op.binOp Go.BinOp.eql 9 (Go.Operand.tmp 20) (Go.Operand.tmp 22) 9, type := 4, pos := "ref.go:187", after := #[{ on := 8, ground := Go.Ground.data }, { on := 10, ground := Go.Ground.data }, { on := 6, ground := Go.Ground.guard }], guard := some (6, true) }) (v := ?v31) rfl (by kernel_rfl) (by kernel_rfl) (by kernel_rfl) (fun _ _ _ h => h) (Or.inl ⟨by rfl, ?hy31⟩) (by assumption) ?rest31
          case hy31 => (intro w hSw; (try dsimp only at hSw); go_simp <;> with_reducible rfl)
          try simp only [Act.put, List.setIfInBounds_toArray, List.set_cons_zero, List.set_cons_succ]
          refine wpAnyH_take (i := 12) (oi := { dst := some 24, op := Go.Op.pick (Go.Operand.tmp 18) (Go.Operand.tmp 23) (Go.Operand.const (Go.Value.bool false)), type := 4, pos := "ref.go:187", after := #[{ on := 6, ground := Go.Ground.data }, { on := 11, ground := Go.Ground.data }], guard := none }) (v := ?v32) rfl (by kernel_rfl) (by kernel_rfl) (by kernel_rfl) (fun _ _ _ h => h) (Or.inl ⟨by rfl, ?hy32⟩) (by assumption) ?rest32
          case hy32 => (intro w hSw; (try dsimp only at hSw); go_simp <;> with_reducible rfl)
          try simp only [Act.put, List.setIfInBounds_toArray, List.set_cons_zero, List.set_cons_succ]
          refine wpAnyH_done (by kernel_rfl) ?_ _
          refine NoPanic.normal ?_
          all_goals
            go_wp2
            go_ret
            exact ⟨by rw [H.out]; rfl, by repeat (first | (with_reducible exact Below.refl _ _) | (with_reducible assumption) | (with_reducible apply bel_alloc) | (with_reducible apply bel_drew) | (with_reducible refine bel_set ?_ (by first | exact Nat.le_refl _ | (simp; done) | omega | (simp; omega)) _) | (with_reducible refine bel_trans ?_ (by with_reducible assumption)))⟩
        · have H := Lib.hid (hnext (fun h => hL (by have h2 := h.2; rw [hnm] at h2; exact ByteArray.ext (Array.toList_inj.1 h2))))
          have hLb := ba_ne hL
          clear hnext hhit hvis hno hnm
          go_upto_region 4 with fail
          refine wp_region_noPanic ?_
          refine wp_region_held_drew (S := (fun w' => w'.cell? ⟨wr.heap.size, 0, none⟩ = some (.string nm))) (by kernel_rfl) ?_ (fun hHeld => ?_)
          · (try dsimp only); (first | go_keep | assumption)
          refine wpAnyH_take (i := 0) (oi := { dst := some 12, op := Go.Op.move (Go.Operand.tmp 3), type := 3, pos := "ref.go:187", after := #[], guard := none }) (v := ?v33) rfl (by kernel_rfl) (by kernel_rfl) (by kernel_rfl) (fun _ _ _ h => h) (Or.inl ⟨by rfl, ?hy33⟩) (by assumption) ?rest33
          case hy33 => (intro w hSw; (try dsimp only at hSw); go_simp <;> with_reducible rfl)
          try simp only [Act.put, List.setIfInBounds_toArray, List.set_cons_zero, List.set_cons_succ]
          refine wpAnyH_take (i := 1) (oi := { dst := some 13, op := Go.Op.binOp Go.BinOp.lss 3 (Go.Operand.tmp 12) (Go.Operand.const (Go.Value.int Go.IntKind.i64 1)) 3, type := 4, pos := "ref.go:187", after := #[{ on := 0, ground := Go.Ground.data }], guard := none }) (v := ?v34) rfl (by kernel_rfl) (by kernel_rfl) (by kernel_rfl) (fun _ _ _ h => h) (Or.inl ⟨by rfl, ?hy34⟩) (by assumption) ?rest34
          case hy34 => (intro w hSw; (try dsimp only at hSw); go_simp <;> with_reducible rfl)
          try simp only [Act.put, List.setIfInBounds_toArray, List.set_cons_zero, List.set_cons_succ]
          refine wpAnyH_take (i := 2) (oi := { dst := some 14, op := Go.Op.move (Go.Operand.tmp 13), type := 4, pos := "ref.go:187", after := #[{ on := 1, ground := Go.Ground.data }], guard := none }) (v := ?v35) rfl (by kernel_rfl) (by kernel_rfl) (by kernel_rfl) (fun _ _ _ h => h) (Or.inl ⟨by rfl, ?hy35⟩) (by assumption) ?rest35
          case hy35 => (intro w hSw; (try dsimp only at hSw); go_simp <;> with_reducible rfl)
          try simp only [Act.put, List.setIfInBounds_toArray, List.set_cons_zero, List.set_cons_succ]
          refine wpAnyH_take (i := 3) (oi := { dst := some 15, op := Go.Op.move (Go.Operand.tmp 3), type := 3, pos := "ref.go:187", after := #[{ on := 2, ground := Go.Ground.guard }], guard := some (2, false) }) (v := ?v36) rfl (by kernel_rfl) (by kernel_rfl) (by kernel_rfl) (fun _ _ _ h => h) (Or.inl ⟨by rfl, ?hy36⟩) (by assumption) ?rest36
          case hy36 => (intro w hSw; (try dsimp only at hSw); go_simp <;> with_reducible rfl)
          try simp only [Act.put, List.setIfInBounds_toArray, List.set_cons_zero, List.set_cons_succ]
          refine wpAnyH_take (i := 4) (oi := { dst := some 16, op := Go.Op.binOp Go.BinOp.gtr 3 (Go.Operand.tmp 15) (Go.Operand.const (Go.Value.int Go.IntKind.i64 10)) 3, type := 4, pos := "ref.go:187", after := #[{ on := 3, ground := Go.Ground.data }, { on := 2, ground := Go.Ground.guard }], guard := some (2, false) }) (v := ?v37) rfl (by kernel_rfl) (by kernel_rfl) (by kernel_rfl) (fun _ _ _ h => h) (Or.inl ⟨by rfl, ?hy37⟩) (by assumption) ?rest37
          case hy37 => (intro w hSw; (try dsimp only at hSw); go_simp <;> with_reducible rfl)
          try simp only [Act.put, List.setIfInBounds_toArray, List.set_cons_zero, List.set_cons_succ]
          refine wpAnyH_take (i := 5) (oi := { dst := some 17, op := Go.Op.pick (Go.Operand.tmp 14) (Go.Operand.const (Go.Value.bool true)) (Go.Operand.tmp 16), type := 4, pos := "ref.go:187", after := #[{ on := 2, ground := Go.Ground.data }, { on := 4, ground := Go.Ground.data }], guard := none }) (v := ?v38) rfl (by kernel_rfl) (by kernel_rfl) (by kernel_rfl) (fun _ _ _ h => h) (Or.inl ⟨by rfl, ?hy38⟩) (by assumption) ?rest38
          case hy38 => (intro w hSw; (try dsimp only at hSw); go_simp <;> with_reducible rfl)
          try simp only [Act.put, List.setIfInBounds_toArray, List.set_cons_zero, List.set_cons_succ]
          refine wpAnyH_take (i := 6) (oi := { dst := some 18, op := Go.Op.move (Go.Operand.tmp 17), type := 4, pos := "ref.go:187", after := #[{ on := 5, ground := Go.Ground.data }, { on := 2, ground := Go.Ground.chain }], guard := none }) (v := ?v39) rfl (by kernel_rfl) (by kernel_rfl) (by kernel_rfl) (fun _ _ _ h => h) (Or.inl ⟨by rfl, ?hy39⟩) (by assumption) ?rest39
          case hy39 => (intro w hSw; (try dsimp only at hSw); go_simp <;> with_reducible rfl)
          try simp only [Act.put, List.setIfInBounds_toArray, List.set_cons_zero, List.set_cons_succ]
          refine wpAnyH_take (i := 7) (oi := { dst := some 19, op := Go.Op.fieldAddr 86 (Go.Operand.tmp 4) 0, type := 0, pos := "ref.go:187", after := #[{ on := 6, ground := Go.Ground.guard }], guard := some (6, true) }) (v := ?v40) rfl (by kernel_rfl) (by kernel_rfl) (by kernel_rfl) (fun _ _ _ h => h) (Or.inl ⟨by rfl, ?hy40⟩) (by assumption) ?rest40
          case hy40 => (intro w hSw; (try dsimp only at hSw); go_simp <;> with_reducible rfl)
          try simp only [Act.put, List.setIfInBounds_toArray, List.set_cons_zero, List.set_cons_succ]
          refine wpAnyH_take (i := 8) (oi := { dst := some 20, op := Go.Op.load 9 (Go.Operand.tmp 19), type := 9, pos := "ref.go:187", after := #[{ on := 7, ground := Go.Ground.data }, { on := 6, ground := Go.Ground.guard }], guard := some (6, true) }) (v := ?v41) rfl (by kernel_rfl) (by kernel_rfl) (by kernel_rfl) (fun _ _ _ h => h) (Or.inl ⟨by rfl, ?hy41⟩) (by assumption) ?rest41
          case hy41 => (intro w hSw; (try dsimp only at hSw); go_simp <;> with_reducible rfl)
          try simp only [Act.put, List.setIfInBounds_toArray, List.set_cons_zero, List.set_cons_succ]
          refine wpAnyH_take (i := 9) (oi := { dst := some 21, op := Go.Op.move (Go.Operand.tmp 0), type := 9, pos := "ref.go:187", after := #[{ on := 6, ground := Go.Ground.guard }], guard := some (6, true) }) (v := ?v42) rfl (by kernel_rfl) (by kernel_rfl) (by kernel_rfl) (fun _ _ _ h => h) (Or.inl ⟨by rfl, ?hy42⟩) (by assumption) ?rest42
          case hy42 => (intro w hSw; (try dsimp only at hSw); go_simp <;> with_reducible rfl)
          try simp only [Act.put, List.setIfInBounds_toArray, List.set_cons_zero, List.set_cons_succ]
          refine wpAnyH_ready (rs := [10]) (by kernel_rfl) (by simp) ?_
          refine AllReadyH.cons (o := { dst := some 22, op := Go.Op.call { callee := Go.Callee.value (Go.Operand.func 44), args := #[Go.Operand.tmp 21], argTypes := #[9] }, type := 9, pos := "ref.go:187", after := #[{ on := 9, ground := Go.Ground.data }, { on := 6, ground := Go.Ground.chain }, { on := 6, ground := Go.Ground.guard }], guard := some (6, true) }) rfl (fun K hK => ?_) AllReadyH.nil
          go_simp
          go_at_call 44; refine (HL.out _).mono ?_; rintro e w2 ⟨rfl, hb_w2⟩; obtain ⟨m1, m2, m3, m4, m5, m6, m7, m8, m9⟩ := (show Blk w2 (wr.heap.size) #[.string nm, .int .i64 tk, .int .i64 ly, .int .i64 mk] 86 from (by repeat (first | (with_reducible assumption) | (with_reducible refine Blk.new' ?_; first | rfl | (simp; done) | (simp; omega)) | (with_reducible apply Blk.setFive) | (with_reducible apply Blk.set0) | (with_reducible apply Blk.set1) | (with_reducible apply Blk.setOne) | (with_reducible refine Blk.set_other ?_ (by omega) _ _) | (with_reducible apply Blk.alloc) | (with_reducible apply Blk.drew) | (with_reducible refine Blk.below ?_ (by with_reducible assumption))))).four
          refine hK.out _ _ ?_ (fun hHeld2 => ?_)
          · (try dsimp only); (first | go_keep | assumption)
          clear hK K hHeld
          have hHeld := hHeld2
          clear hHeld2
          try simp only [Act.put, List.setIfInBounds_toArray, List.set_cons_zero, List.set_cons_succ]
          refine wpAnyH_take (i := 11) (oi := { dst := some 23, op := Go.Op.binOp Go.BinOp.eql 9 (Go.Operand.tmp 20) (Go.Operand.tmp 22) 9, type := 4, pos := "ref.go:187", after := #[{ on := 8, ground := Go.Ground.data }, { on := 10, ground := Go.Ground.data }, { on := 6, ground := Go.Ground.guard }], guard := some (6, true) }) (v := ?v43) rfl (by kernel_rfl) (by kernel_rfl) (by kernel_rfl) (fun _ _ _ h => h) (Or.inl ⟨by rfl, ?hy43⟩) (by assumption) ?rest43
          case hy43 => (intro w hSw; (try dsimp only at hSw); go_simp <;> with_reducible rfl)
          try simp only [Act.put, List.setIfInBounds_toArray, List.set_cons_zero, List.set_cons_succ]
          refine wpAnyH_take (i := 12) (oi := { dst := some 24, op := Go.Op.pick (Go.Operand.tmp 18) (Go.Operand.tmp 23) (Go.Operand.const (Go.Value.bool false)), type := 4, pos := "ref.go:187", after := #[{ on := 6, ground := Go.Ground.data }, { on := 11, ground := Go.Ground.data }], guard := none }) (v := ?v44) rfl (by kernel_rfl) (by kernel_rfl) (by kernel_rfl) (fun _ _ _ h => h) (Or.inl ⟨by rfl, ?hy44⟩) (by assumption) ?rest44
          case hy44 => (intro w hSw; (try dsimp only at hSw); go_simp <;> with_reducible rfl)
          try simp only [Act.put, List.setIfInBounds_toArray, List.set_cons_zero, List.set_cons_succ]
          refine wpAnyH_done (by kernel_rfl) ?_ _
          refine NoPanic.normal ?_
          all_goals
            go_wp2
            go_roundw
            case rel => exact ⟨k + 1, by omega, rfl, H.out, by repeat (first | (with_reducible assumption) | (with_reducible refine Blk.new' ?_; first | rfl | (simp; done) | (simp; omega)) | (with_reducible apply Blk.set01) | (with_reducible apply Blk.set0) | (with_reducible apply Blk.set1) | (with_reducible apply Blk.setOne) | (with_reducible refine Blk.set_other ?_ (by omega) _ _) | (with_reducible apply Blk.alloc) | (with_reducible apply Blk.drew) | (with_reducible refine Blk.below ?_ (by with_reducible assumption))), by repeat (first | (with_reducible exact Below.refl _ _) | (with_reducible assumption) | (with_reducible apply bel_alloc) | (with_reducible apply bel_drew) | (with_reducible refine bel_set ?_ (by first | exact Nat.le_refl _ | (simp; done) | omega | (simp; omega)) _) | (with_reducible refine bel_trans ?_ (by with_reducible assumption)))⟩
            case measure => simp [intOf]; omega
      · have t2' : ¬ (k : Int) < 1 := by omega
        have t3' : ¬ (10 : Int) < (k : Int) := by omega
        have H := Lib.hid (hnext (by rw [hvis]; simp [t2, t3]))
        clear hnext hhit hvis hno hnm
        go_upto_region 4 with fail
        go_quiet (fail)
        go_wp2
        go_roundw
        case rel => exact ⟨k + 1, by omega, rfl, H.out, Blk.drewN (by repeat (first | (with_reducible assumption) | (with_reducible refine Blk.new' ?_; first | rfl | (simp; done) | (simp; omega)) | (with_reducible apply Blk.set01) | (with_reducible apply Blk.set0) | (with_reducible apply Blk.set1) | (with_reducible apply Blk.setOne) | (with_reducible refine Blk.set_other ?_ (by omega) _ _) | (with_reducible apply Blk.alloc) | (with_reducible apply Blk.drew) | (with_reducible refine Blk.below ?_ (by with_reducible assumption)))) _, bel_drewN (by repeat (first | (with_reducible exact Below.refl _ _) | (with_reducible assumption) | (with_reducible apply bel_alloc) | (with_reducible apply bel_drew) | (with_reducible refine bel_set ?_ (by first | exact Nat.le_refl _ | (simp; done) | omega | (simp; omega)) _) | (with_reducible refine bel_trans ?_ (by with_reducible assumption)))) _⟩
        case measure => simp [intOf]; omega
    · obtain rfl : k = 141 := by omega
      have hz := Lib.hid (numOf_miss _ hno)
      clear hno
      go_wp2
      go_ret
      exact ⟨by rw [hz.out]; rfl, by repeat (first | (with_reducible exact Below.refl _ _) | (with_reducible assumption) | (with_reducible apply bel_alloc) | (with_reducible apply bel_drew) | (with_reducible refine bel_set ?_ (by first | exact Nat.le_refl _ | (simp; done) | omega | (simp; omega)) _) | (with_reducible refine bel_trans ?_ (by with_reducible assumption)))⟩
end Go.Proofs.Ytkcmphjgflbchaa


/- Slices of integers, opened. -/
namespace Go.Proofs.Ytkcmphjgflbchaa
open Go.ChangeMaps Go.ChangeShapes Go.WideShapes Go.ChangeAt Go.RowKit Go.Joins Go.Deep
set_option linter.unusedVariables false
variable {H : Type} {enc : TypeId × Value → H} {w : World} {base : Nat} {spare : Nat → Bool} {held : Bool}

theorem i64_wf' {n : Int} (h : (Lit.int .i64 n).wf = true) : isI n := by
  simp [Lit.wf, IntKind.min, IntKind.max, IntKind.signed, IntKind.bits] at h
  unfold isI; omega
/-- A slice of integers that came in. -/
theorem open_rvI {fuel : Nat} {a0 : Option Addr} {n c : Nat} {x : DataW H × List MemPlace} (h : DataW.trod enc Try.prog w base spare held fuel 24 [.slice a0 n c] = some x) : ∃ l : List Int, l.length = n ∧ Rv w 1 (.slice a0 n c) n (ic l) ∧ (∀ z ∈ l, isI z) ∧ n ≤ 9223372036854775807 := by
  rcases open_ints Try.underlying24 Try.underlying2 (show Try.prog.cellsOf 2 = 1 by kernel_rfl) h with ⟨hcs, _⟩ | ⟨a, len, cap, zs, hcs, hb, hl, hm2, hlen, hx, hcell, hwf⟩
  · simp at hcs
    obtain ⟨rfl, rfl, rfl⟩ := hcs
    exact ⟨[], rfl, ⟨by simp [ic], by simp [ic], .inl ⟨rfl, rfl⟩⟩, by simp, by omega⟩
  · simp at hcs
    obtain ⟨rfl, rfl, rfl⟩ := hcs
    have hzl : n ≤ zs.length := by rw [hlen]; split <;> omega
    have hln : (zs.take n).length = n := by rw [List.length_take]; omega
    unfold maxLen at hm2
    refine ⟨zs.take n, hln, ⟨by rw [ic_len, hln]; omega, fun u hu => by obtain ⟨z, _, rfl⟩ := List.mem_map.1 hu; rfl, .inr ⟨a, c, rfl, fun j u hj => ?_⟩⟩, fun z hz => i64_wf' (hwf z (List.mem_of_mem_take hz)), by omega⟩
    have hj2 := (List.getElem?_eq_some_iff.1 hj).1
    rw [ic_len, hln] at hj2
    rw [hcell j (by omega)]
    rw [ic, List.getElem?_map, List.getElem?_take_of_lt hj2, List.getElem?_eq_getElem (by omega)] at hj
    rw [List.getD_eq_getElem?_getD, List.getElem?_eq_getElem (by omega)]
    simpa using hj
end Go.Proofs.Ytkcmphjgflbchaa

/- A cell's bytes. -/
namespace Go.Proofs.Ytkcmphjgflbchaa
open Go.RowKit
set_option linter.unusedVariables false
set_option linter.unusedSimpArgs false
attribute [local go_sem] cell_set set_set m_undef

/-- What is left of a number behind k bytes; its byte there. -/
def restK (n : Int) (k : Nat) : Int := n / 256 ^ k
def byteK (n : Int) (k : Nat) : UInt8 := UInt8.ofNat ((restK n k) % 256).toNat
def bytesB (n : Int) (k : Nat) : List UInt8 := (List.range k).map (byteK n)
theorem bytesB_succ (n : Int) (k : Nat) : bytesB n (k + 1) = bytesB n k ++ [byteK n k] := by simp [bytesB, List.range_succ]
theorem bytesB_len (n : Int) (k : Nat) : (bytesB n k).length = k := by simp [bytesB]
theorem restK_succ (n : Int) (k : Nat) : restK n k / 256 = restK n (k + 1) := by
  unfold restK
  rw [Int.ediv_ediv_of_nonneg (by exact Int.pow_nonneg (by decide)), Int.pow_succ]
set_option maxHeartbeats 1000000 in
theorem wBytesOf (w : World) (n : Int) (hn : isI n) :
    Calls Try.prog 83 #[.int .i64 n] w fun e w' => ∃ v, e = .returned v ∧ Bs w' w.heap.size v (bytesB n 8) ∧ Below w.heap.size w w' := by
  go_enter Try.func83, Try.ntmps83
  go_wp2
  go_loopw [0, 3, 4] (fun r v i wr => ∃ k : Nat, r = .int .i64 (restK n k) ∧ i = .int .i64 (k : Int) ∧ k ≤ 8 ∧ isI (restK n k) ∧ Bs wr w.heap.size v (bytesB n k) ∧ Below w.heap.size w wr) (fun r v i wr => 8 - (intOf i).toNat)
  case atStart => exact ⟨0, by simp [restK], rfl, by omega, by simpa [restK] using hn, Bs.nil _ _, Below.refl _ _⟩
  case round =>
    obtain ⟨k, rfl, rfl, hk, hr, hb, hbel⟩ := hrel
    obtain ⟨a5, cc5, rfl, hcap5⟩ := hb.len
    rw [bytesB_len] at hcap5 ⊢
    by_cases hlt : k < 8
    · have t1 : ((k : Int) < 8) = True := eq_true (by omega)
      have wk : IntKind.i64.wrap ((k : Int) + 1) = ((k + 1 : Nat) : Int) := by rw [IntKind.wrap_i64]; omega
      have hs := restK_succ n k
      have hA5 := hb.alloc (.cells #[.int .u8 ((byteK n k).toNat : Int)] 5)
      obtain ⟨v6, w6, hr6, hv6, hg6, ho6⟩ := Bs.append (P := Try.prog) (ty := 22) hA5 (Bs.lit1 wr (byteK n k)) Try.underlying22 info5 (by rw [bytesB_len]; simp only [List.length_cons, List.length_nil]; omega) (by have := hbel.size; simp; omega)
      have hbl6 := Lib.hid ((bel_alloc hbel (.cells #[.int .u8 ((byteK n k).toNat : Int)] 5)).grown hg6 (by have := hbel.size; simp; omega) (fun k e => hA5.ge (Nat.le_refl _) e))
      obtain ⟨a6, cc6, rfl, hcap6⟩ := hv6.len
      rw [← bytesB_succ] at hv6 hr6
      rw [bytesB_len] at hr6 hv6
      rw [bytesB_len] at hr6
      have wb : IntKind.u8.wrap (restK n k) = ((byteK n k).toNat : Int) := by
        rw [IntKind.wrap_u8]; unfold byteK; rw [UInt8.toNat_ofNat']; omega
      replace hv6 := Lib.hid hv6
      have hkp' := Lib.hid hlt
      obtain ⟨r2, er2⟩ : ∃ r2, r2 = restK n (k + 1) := ⟨_, rfl⟩
      rw [← er2] at hs
      have hr2 := Lib.hid (show isI r2 by rw [← hs]; unfold isI at hr ⊢; omega)
      replace er2 := Lib.hid er2
      clear hg6 ho6 hA5 hb hbel hcap6 hlt hcap5 hk
      generalize restK n k = r at *
      generalize byteK n k = bk at *
      go_wp2_with (at_builtin; refine wpList_append_bs rfl _ _ 22 rfl hr6 rfl rfl ?_)
      go_roundw
      case rel => exact ⟨k + 1, by rw [er2.out], rfl, by have := hkp'.out; omega, by rw [← er2.out]; exact hr2.out, hv6.out, hbl6.out⟩
      case measure => have := hkp'.out; simp [intOf]; omega
    · have hk8 : k = 8 := by omega
      subst hk8
      have t1 : (((8 : Nat) : Int) < 8) = False := eq_false (by omega)
      go_wp2
      go_ret
      exact ⟨_, rfl, by simpa [bytesB_len] using hb, hbel⟩
end Go.Proofs.Ytkcmphjgflbchaa

/- 'lay', 'Comma', 'Literal', 'Text'. -/
namespace Go.Proofs.Ytkcmphjgflbchaa
open Go.RowKit
set_option linter.unusedVariables false
set_option linter.unusedSimpArgs false
attribute [local go_sem] cell_set set_set m_undef

theorem One.memK {W w : World} {B mb : Nat} {M : List UInt8} {O0 : Nat → Prop} {K : Kp} (h : One W w B mb M O0 K) {f : Nat} {args : Array Value} {M' : List UInt8} {v : Value} (c : ∀ O, MemP w B mb M O → B ≤ w.heap.size → Keep w O K → Calls Try.prog f args w fun e w' => MemQ w w' B mb M' O v e) :
    Calls Try.prog f args w fun e w' => e = .returned v ∧ One W w' B mb M' O0 K := by
  obtain ⟨O, h1, h2, h3, h4⟩ := h
  refine (c O h1 (Nat.le_trans h4 h2.size) h3).mono fun e w' ⟨he, O', h5, h6⟩ => ⟨he, O', h5, h2.trans h6, h3.turn h6, h4⟩
/-- The throw of laying bytes from Here on; the memory behind it. -/
def lyV (M bs : List UInt8) : Int := if hereL M % 8 ≠ 0 then -23 else if 5632 - hereL M < (bs.length : Int) then -8 else 0
def lyM (M bs : List UInt8) : List UInt8 := if lyV M bs = 0 then setM (layL M (hereL M) bs) 0 (hereL M + (bs.length : Int)) else M
theorem hereL_in (M : List UInt8) : 1536 ≤ hereL M ∧ hereL M ≤ 5632 := by unfold hereL; split <;> omega
set_option maxHeartbeats 1000000 in
theorem kLay {w : World} {B mb : Nat} {M : List UInt8} {O : Nat → Prop} (h : MemP w B mb M O) (hB : B ≤ w.heap.size) {v : Value} {bs : List UInt8} (hv : Bs w 0 v bs) (hbs : bs.length ≤ 1000000) (hvO : ∀ k, v.ownBlock = some k → ¬ O k) :
    Calls Try.prog 84 #[.pointer (some ⟨mb, 0, none⟩), v, .bool true] w fun e w' => MemQ w w' B mb (lyM M bs) O (.int .i64 (lyV M bs)) e := by
  have hS := One.startK h hB (Keep.bs hv hvO)
  obtain ⟨a, cap, rfl, hcap⟩ := hv.len
  have hHr := Lib.hid (fun (w9 : World) (O : Nat → Prop) (h : MemP w9 B mb M O) (hb : B ≤ w9.heap.size) => mHere h hb)
  have hin := hereL_in M
  have h7 := and7 (hereL M) (by unfold isI; omega)
  have hLay := Lib.hid (fun (w9 : World) (O : Nat → Prop) (h : MemP w9 B mb M O) (hb : B ≤ w9.heap.size) (hk : Keep w9 O (.bs (.slice a bs.length cap) bs)) => mLay h hb (hereL M) (by unfold isI; omega) (show Bs w9 0 _ _ from hk.1) hbs (fun k hk2 => (hk.2 k hk2).2))
  obtain ⟨M2, hM2⟩ : ∃ M2, M2 = layL M (hereL M) bs := ⟨_, rfl⟩
  rw [← hM2] at hLay
  unfold lyM
  rw [← hM2]
  obtain ⟨V, hV⟩ : ∃ V, V = lyV M bs := ⟨_, rfl⟩
  rw [← hV]
  unfold lyV at hV
  generalize hereL M = here at *
  clear h hv hcap hM2 hvO
  replace hS := Lib.hid hS
  replace hHr := Lib.hid hHr
  have hbs' := hbs
  obtain ⟨h2, hh2⟩ : ∃ h2, h2 = here + (bs.length : Int) := ⟨_, rfl⟩
  have wx : IntKind.i64.wrap (here + (bs.length : Int)) = h2 := by clear hV; rw [IntKind.wrap_i64]; omega
  have wy : IntKind.i64.wrap (5632 - here) = 5632 - here := by clear hV; rw [IntKind.wrap_i64]; omega
  have hi2 : isI h2 := by clear hV; unfold isI; omega
  rw [← hh2]
  clear hbs hbs' hh2
  replace hi2 := Lib.hid hi2
  replace hS := hS.out
  replace hHr := hHr.out
  by_cases h8 : here % 8 = 0
  · have t8 : (here % 8 != 0) = false := by simp; exact h8
    rw [if_neg (fun e => e h8)] at hV
    by_cases hf : 5632 - here < (bs.length : Int)
    · have tf : (5632 - here < (bs.length : Int)) = True := eq_true hf
      rw [if_pos hf] at hV
      subst hV
      rw [if_neg (by decide)]
      clear hf h8 hin
      go_enter Try.func84, Try.ntmps84
      go_wp2_with (go_at_call 29; refine (hS.mem (fun O h hb => hHr.out _ O h hb)).mono ?_; rintro e w2 ⟨rfl, hS2⟩; clear hS; have hS := hS2; clear hS2)
      go_ret
      exact (hS.memQ _)
    · have tf : (5632 - here < (bs.length : Int)) = False := eq_false hf
      rw [if_neg hf] at hV
      subst hV
      rw [if_pos rfl]
      clear hf h8 hin
      go_enter Try.func84, Try.ntmps84
      go_upto_region 9 with (first
        | (go_at_call 29; refine (hS.mem (fun O h hb => hHr.out _ O h hb)).mono ?_; rintro e w2 ⟨rfl, hS2⟩; clear hS; have hS := hS2; clear hS2)
        | (go_at_call 10; refine (hS.memK (fun O h hb hk => hLay.out _ O h hb hk)).mono ?_; rintro e w5 ⟨rfl, hS2⟩; clear hS; have hS := hS2; clear hS2))
      go_wp2_with (go_at_call 65; refine (hS.mem (fun O h hb => mSet h hb 0 h2 (by unfold isI; decide))).mono ?_; rintro e w6 ⟨rfl, hS2⟩; clear hS; have hS := hS2; clear hS2)
      go_ret
      exact (hS.memQ _)
  · have t8 : (here % 8 != 0) = true := by simp; exact h8
    rw [if_pos h8] at hV
    subst hV
    rw [if_neg (by decide)]
    clear h8 hin
    go_enter Try.func84, Try.ntmps84
    go_wp2_with (go_at_call 29; refine (hS.mem (fun O h hb => hHr.out _ O h hb)).mono ?_; rintro e w2 ⟨rfl, hS2⟩; clear hS; have hS := hS2; clear hS2)
    go_ret
    exact (hS.memQ _)
theorem nHere (w : World) : Calls Try.prog 29 #[.pointer none] w fun e w' => e = .returned (.int .i64 1536) ∧ Below w.heap.size w w' := by
  have hG := Lib.hid (nGet w 0)
  go_enter Try.func29, Try.ntmps29
  go_wp2_with (go_at_call 19; refine hG.out.mono ?_; rintro e w2 ⟨rfl, hb⟩)
  go_ret
  exact ⟨rfl, hb⟩
theorem nLayC (w : World) (p : Option Addr) (n c : Nat) : Calls Try.prog 84 #[.pointer none, .slice p n c, .bool true] w fun e w' => e = .returned (.int .i64 (-9)) ∧ Below w.heap.size w w' := by
  have hH := Lib.hid (nHere w)
  go_enter Try.func84, Try.ntmps84
  go_wp2_with (go_at_call 29; refine hH.out.mono ?_; rintro e w2 ⟨rfl, hb⟩)
  go_ret
  exact ⟨rfl, hb⟩
theorem nLayF (w : World) (p : Option Addr) (n c : Nat) : Calls Try.prog 84 #[.pointer none, .slice p n c, .bool false] w fun e w' => e = .returned (.int .i64 (-9)) ∧ Below w.heap.size w w' := by
  have hH := Lib.hid (nHere w)
  go_enter Try.func84, Try.ntmps84
  go_wp2_with (go_at_call 29; refine hH.out.mono ?_; rintro e w2 ⟨rfl, hb⟩)
  go_ret
  exact ⟨rfl, hb⟩
/-- The bytes of cells. -/
def cellsB (l : List Int) : List UInt8 := l.flatMap fun n => bytesB n 8
theorem cellsB_len (l : List Int) : (cellsB l).length = 8 * l.length := by
  induction l with
  | nil => rfl
  | cons x l ih => simp [cellsB, bytesB_len] at ih ⊢; omega
theorem cellsB_next (l : List Int) (k : Nat) (x : Int) (hx : l[k]? = some x) : cellsB (l.take (k + 1)) = cellsB (l.take k) ++ bytesB x 8 := by
  rw [List.take_add_one, hx]
  simp [cellsB]
set_option maxRecDepth 100000 in
set_option maxHeartbeats 400000 in
theorem wComma (w : World) (p : Option Addr) (v : Value) (l : List Int) (hv : Rv w 1 v l.length (ic l)) (hl : ∀ x ∈ l, isI x) (hlen : l.length ≤ 1000) {Q : Int → World → Prop}
    (hlay : ∀ w1 u, Below w.heap.size w w1 → Bs w1 w.heap.size u (cellsB l) → Calls Try.prog 84 #[.pointer p, u, .bool true] w1 fun e w' => ∃ t, e = .returned (.int .i64 t) ∧ Q t w') :
    Calls Try.prog 64 #[.pointer p, v] w fun e w' => ∃ t, e = .returned (.int .i64 t) ∧ Q t w' := by
  obtain ⟨ad, cap, rfl⟩ := hv.form
  replace hlay := Lib.hid hlay
  replace hv := Lib.hid hv
  replace hl := Lib.hid hl
  go_enter Try.func64, Try.ntmps64
  go_wp2
  go_loopw [5, 10] (fun o i wr => ∃ k : Nat, i = .int .i64 (k : Int) ∧ k ≤ l.length ∧ Bs wr w.heap.size o (cellsB (l.take k)) ∧ Below w.heap.size w wr) (fun o i wr => l.length - (intOf i).toNat)
  case atStart => exact ⟨0, rfl, by omega, Bs.nil _ _, Below.refl _ _⟩
  case round =>
    obtain ⟨k, rfl, hk, hb, hbel⟩ := hrel
    obtain ⟨a5, cc5, rfl, hcap5⟩ := hb.len
    obtain ⟨N, hN⟩ : ∃ N, (cellsB (l.take k)).length = N := ⟨_, rfl⟩
    have hN8 := Lib.hid (show N = 8 * k by rw [← hN, cellsB_len, List.length_take, Nat.min_eq_left hk])
    rw [hN] at hb ⊢
    replace hN := Lib.hid hN
    by_cases hlt : k < l.length
    · have t1 : ((k : Int) < (l.length : Int)) = True := eq_true (by omega)
      have i1 : (0 : Int) ≤ (k : Int) := by omega
      have i2 : (k : Int) < (l.length : Int) := by omega
      have wk : IntKind.i64.wrap ((k : Int) + 1) = ((k + 1 : Nat) : Int) := by rw [IntKind.wrap_i64]; omega
      have hx : l[k]? = some l[k] := List.getElem?_eq_getElem hlt
      have hxi := hl.out _ (List.getElem_mem hlt)
      have hnx := cellsB_next l k _ hx
      obtain ⟨a, hea, z0⟩ : ∃ a, ad = some a ∧ w.cell? (a.add k) = some (.int .i64 l[k]) := by
        rcases hv.out.2.2 with ⟨e, h0⟩ | ⟨a, c, e, h⟩
        · omega
        · cases e; exact ⟨a, rfl, h k _ (ic_at l k hlt)⟩
      subst hea
      have z0 := (hbel.cell (World.block_lt_of_cell? w _ z0)).trans z0
      generalize l[k] = x at *
      have hBO := Lib.hid (wBytesOf wr x hxi)
      replace hlt := Lib.hid hlt
      replace hb := Lib.hid hb
      replace hbel := Lib.hid hbel
      clear hcap5 hk hx hxi
      go_upto_region 5 with fail
      go_wp2_with (first
        | (go_at_call 83; refine hBO.out.mono ?_; rintro e w2 ⟨u, rfl, hu, hbu⟩
           obtain ⟨au, nu, cu, rfl⟩ := hu.form
           obtain ⟨v6, w6, hr6, hv6, hg6, ho6⟩ := Bs.append (P := Try.prog) (ty := 22) (hb.out.below hbu) hu Try.underlying22 info5 (by rw [bytesB_len, hN.out, hN8.out]; have := hlt.out; omega) (Nat.le_trans hbel.out.size hbu.size)
           have hbl6 := Lib.hid ((bel_trans hbel.out hbu).grown hg6 (Nat.le_trans hbel.out.size hbu.size) (fun k e => (hb.out.below hbu).ge (Nat.le_refl _) e))
           rw [← hnx] at hv6
           obtain ⟨a6, n6, cc6, rfl⟩ := hv6.form
           replace hv6 := Lib.hid hv6
           clear hg6 ho6 hu hbu)
        | (at_builtin; refine wpList_append_bs rfl _ _ 22 rfl hr6 rfl rfl ?_))
      go_roundw
      case rel => exact ⟨k + 1, rfl, hlt.out, hv6.out, hbl6.out⟩
      case measure => have := hlt.out; simp [intOf]; omega
    · have t1 : ((k : Int) < (l.length : Int)) = False := eq_false (by omega)
      have hkl : k = l.length := by omega
      subst hkl
      rw [List.take_length] at hb
      have hL := Lib.hid (hlay.out wr _ hbel hb)
      clear hlt hk hb hbel hN hcap5
      go_wp2_with (go_at_call 84; refine hL.out.mono ?_; rintro e w2 ⟨t, rfl, hq⟩)
      go_ret
      exact ⟨t, rfl, hq⟩
end Go.Proofs.Ytkcmphjgflbchaa

/- Plain laws: cells that are laid one behind the other. -/
namespace Go.Proofs.Ytkcmphjgflbchaa
open Go.RowKit
set_option linter.unusedVariables false
set_option linter.unusedSimpArgs false

theorem u8_congr {a b : Nat} (h : a % 256 = b % 256) : UInt8.ofNat a = UInt8.ofNat b := by
  apply UInt8.toNat_inj.1
  rw [UInt8.toNat_ofNat', UInt8.toNat_ofNat']
  exact h
theorem byteK_is (n : Int) (j : Nat) (hj : j < 8) : byteK n j = UInt8.ofNat ((IntKind.u64.wrap n).toNat / 2 ^ (8 * j)) := by
  unfold byteK restK
  apply u8_congr
  rw [IntKind.wrap_u64]
  have h : j = 0 ∨ j = 1 ∨ j = 2 ∨ j = 3 ∨ j = 4 ∨ j = 5 ∨ j = 6 ∨ j = 7 := by omega
  rcases h with rfl | rfl | rfl | rfl | rfl | rfl | rfl | rfl <;> simp only [Nat.mul_zero, Nat.mul_one, Nat.reduceMul, Nat.reducePow, Int.reducePow, Int.pow_succ, Int.pow_zero, Int.one_mul, Int.reduceMul] <;> omega
theorem bytesB_getD (n : Int) (j : Nat) (hj : j < 8) : (bytesB n 8).getD j 0 = byteK n j := by
  unfold bytesB
  rw [List.getD_eq_getElem?_getD, List.getElem?_map, List.getElem?_range hj]
  rfl
theorem bytesB_cell (n : Int) : bytesB n 8 = putCellL (List.replicate 8 0) 0 n := by
  apply List.ext_getElem?
  intro j
  by_cases hj : j < 8
  · have h1 := bytesB_getD n j hj
    have h2 := cellBytes_getD n j hj
    rw [byteK_is n j hj, ← h2] at h1
    rw [List.getD_eq_getElem?_getD, List.getD_eq_getElem?_getD, List.getElem?_eq_getElem (by rw [bytesB_len]; exact hj), List.getElem?_eq_getElem (by rw [cellBytes_len]; exact hj)] at h1
    rw [List.getElem?_eq_getElem (by rw [bytesB_len]; exact hj), List.getElem?_eq_getElem (by rw [cellBytes_len]; exact hj)]
    exact congrArg some h1
  · rw [List.getElem?_eq_none (by rw [bytesB_len]; omega), List.getElem?_eq_none (by rw [cellBytes_len]; omega)]
theorem lay_append {M : List UInt8} (hM : M.length = 8192) (a : Int) (x y : List UInt8) : layL M a (x ++ y) = layL (layL M a x) (a + x.length) y := by
  refine mem_ext (by rw [layL_len]; exact hM) (by rw [layL_len, layL_len]; exact hM) fun z => ?_
  rw [memAt_layL hM, memAt_layL (by rw [layL_len]; exact hM), memAt_layL hM, List.length_append]
  by_cases h1 : a + x.length ≤ z ∧ z < a + x.length + y.length ∧ 0 ≤ z ∧ z < 8192
  · rw [if_pos h1, if_pos (by omega), List.getD_eq_getElem?_getD, List.getElem?_append_right (by omega), List.getD_eq_getElem?_getD]
    congr 2
    omega
  · rw [if_neg h1]
    by_cases h2 : a ≤ z ∧ z < a + x.length ∧ 0 ≤ z ∧ z < 8192
    · rw [if_pos h2, if_pos (by omega), List.getD_eq_getElem?_getD, List.getElem?_append_left (by omega), List.getD_eq_getElem?_getD]
    · rw [if_neg h2, if_neg (by omega)]
theorem lay_nil (M : List UInt8) (a : Int) : layL M a [] = M := rfl
theorem lay_cells {M : List UInt8} (hM : M.length = 8192) (a x : Int) (l : List Int) : layL M a (cellsB (x :: l)) = layL (setM M a x) (a + 8) (cellsB l) := by
  have : cellsB (x :: l) = bytesB x 8 ++ cellsB l := rfl
  rw [this, lay_append hM, bytesB_cell, cellBytes_len]
  rfl
theorem lay_cell1 {M : List UInt8} (hM : M.length = 8192) (a x : Int) : layL M a (cellsB [x]) = setM M a x := lay_cells hM a x []
theorem lay_cell2 {M : List UInt8} (hM : M.length = 8192) (a x y : Int) : layL M a (cellsB [x, y]) = setM (setM M a x) (a + 8) y := by
  rw [lay_cells hM, lay_cell1 (by rw [setM_len]; exact hM)]
theorem cz_get (a : Int) : getM (flatL []) a = 0 := by
  have hz : flatL [] = List.replicate 8192 0 := by unfold flatL; rw [List.take_nil, List.nil_append, List.length_nil, Nat.zero_min, List.drop_zero]
  have hl : ∀ z, memAt (flatL []) z = 0 := fun z => by
    rw [hz]; unfold memAt
    split
    · rw [List.getD_eq_getElem?_getD, List.getElem?_replicate]; split <;> rfl
    · rfl
  have hb : ∀ z, byteZ (loadL (flatL []) a 8) z = 0 := fun z => by
    unfold byteZ
    split
    · rename_i h
      rw [loadL_len] at h
      have e := loadL_getD (flatL []) a 8 z.toNat (by omega) (by omega)
      rw [e, hl]; rfl
    · rfl
  have hn : ∀ k, leN (loadL (flatL []) a 8) 0 k = 0 := fun k => by
    induction k with
    | zero => rfl
    | succ k ih => show leN _ _ k + byteZ _ _ * _ = 0; rw [ih, hb]; simp
  unfold getM cellL
  rw [hn]; decide
theorem cz_here : hereL (flatL []) = 1536 := by
  have h := cz_get 0
  unfold hereL
  generalize flatL [] = M at *
  rw [h]
  exact if_neg (by decide)
theorem here_at {M : List UInt8} {h : Int} (hg : getM M 0 = h) (h1 : 1536 ≤ h) (h2 : h ≤ 5632) : hereL M = h := by
  unfold hereL
  rw [hg, if_pos ⟨h1, h2⟩]
/-- The first k numbers of l stand as literals, from the dictionary's foot on. -/
structure Lits (M : List UInt8) (l : List Int) (k : Nat) : Prop where
  len : M.length = 8192
  here : hereL M = 1536 + 16 * (k : Int)
  at0 : ∀ j : Nat, j < k → getM M (1536 + 16 * (j : Int)) = 16
  at1 : ∀ (j : Nat) (x : Int), j < k → l[j]? = some x → getM M (1536 + 16 * (j : Int) + 8) = x
theorem Lits.zero (l : List Int) : Lits (flatL []) l 0 := ⟨flatL_len [], by
  rw [cz_here]; rfl, fun j h => by omega, fun j x h => by omega⟩
theorem Lits.step {M : List UInt8} {l : List Int} {k : Nat} {x : Int} (h : Lits M l k) (hk : k < 100) (hx : l[k]? = some x) (hi : isI x) : lyV M (cellsB [16, x]) = 0 ∧ Lits (lyM M (cellsB [16, x])) l (k + 1) := by
  have hM := h.len
  have hh := h.here
  have hv : lyV M (cellsB [16, x]) = 0 := by
    unfold lyV
    rw [cellsB_len, hh, if_neg (by omega), if_neg (by simp; omega)]
  refine ⟨hv, ?_⟩
  unfold lyM
  rw [if_pos hv, cellsB_len, hh, lay_cell2 hM]
  have g16 : isI 16 := by unfold isI; omega
  obtain ⟨A, hA⟩ : ∃ A, A = setM M (1536 + 16 * (k : Int)) 16 := ⟨_, rfl⟩
  have lA : A.length = 8192 := by rw [hA, setM_len]; exact hM
  obtain ⟨B, hB⟩ : ∃ B, B = setM A (1536 + 16 * (k : Int) + 8) x := ⟨_, rfl⟩
  have lB : B.length = 8192 := by rw [hB, setM_len]; exact lA
  rw [← hA, ← hB]
  obtain ⟨n, hn⟩ : ∃ n, n = 1536 + 16 * (k : Int) + ((8 * ([16, x] : List Int).length : Nat) : Int) := ⟨_, rfl⟩
  have hn2 : n = 1536 + 16 * ((k + 1 : Nat) : Int) := by rw [hn]; simp; omega
  rw [← hn]
  have gA : ∀ b : Int, b + 8 ≤ 1536 + 16 * (k : Int) → getM A b = getM M b := fun b hb => by rw [hA]; exact getM_other hM _ _ _ (by omega)
  have gB : ∀ b : Int, b + 8 ≤ 1536 + 16 * (k : Int) + 8 → getM B b = getM A b := fun b hb => by rw [hB]; exact getM_other lA _ _ _ (by omega)
  have gC : ∀ b : Int, 8 ≤ b → getM (setM B 0 n) b = getM B b := fun b hb => getM_other lB _ _ _ (by omega)
  refine ⟨by rw [setM_len]; exact lB, ?_, fun j hj => ?_, fun j y hj hy => ?_⟩
  · rw [here_at (h := n) (getM_setM lB 0 n (by unfold isI; omega) (by omega)) (by omega) (by omega), hn2]
  · rw [gC _ (by omega), gB _ (by omega)]
    by_cases e : j = k
    · subst e
      rw [hA]
      exact getM_setM hM _ _ g16 (by omega)
    · rw [gA _ (by omega)]
      exact h.at0 j (by omega)
  · rw [gC _ (by omega)]
    by_cases e : j = k
    · subst e
      rw [hx] at hy
      cases hy
      rw [hB]
      exact getM_setM lA _ _ hi (by omega)
    · rw [gB _ (by omega), gA _ (by omega)]
      exact h.at1 j y (by omega) hy
end Go.Proofs.Ytkcmphjgflbchaa
