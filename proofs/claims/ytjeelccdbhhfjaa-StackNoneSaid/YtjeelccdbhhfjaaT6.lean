/- 'slices.Reverse' of integers; what is taken. -/
import Derived.Test.YtjeelccdbhhfjaaT4
import Derived.Test.YtjeelccdbhhfjaaT5
namespace Go.Proofs.Ytjeelccdbhhfjaa
open Go.RowKit
set_option linter.unusedVariables false
set_option linter.unusedSimpArgs false
attribute [local go_sem] cell_set set_set m_undef

/-- Integers, as cells. -/
def ic (l : List Int) : List Value := l.map (Value.int .i64)
theorem ic_len (l : List Int) : (ic l).length = l.length := by simp [ic]
theorem ic_at (l : List Int) (j : Nat) (h : j < l.length) : (ic l)[j]? = some (.int .i64 l[j]) := by simp [ic, h]
theorem ic_set (l : List Int) (j : Nat) (x : Int) : (ic l).set j (.int .i64 x) = ic (l.set j x) := by simp [ic, List.map_set]
theorem Vs.setAt {w : World} {B b o n cap : Nat} {cs : List Value} (h : Vs w B 1 (.slice (some ⟨b, o, none⟩) n cap) n cs) (j : Nat) (u : Value) (hj : j < n) (hu : u.oneCell' = true) : Vs (w.setCell ⟨b, o + j, none⟩ u) B 1 (.slice (some ⟨b, o, none⟩) n cap) n (cs.set j u) := by
  obtain ⟨h1, h2, h3⟩ := h
  refine ⟨by rw [List.length_set]; exact h1, fun x hx => ?_, ?_⟩
  · rcases List.mem_or_eq_of_mem_set hx with h | h
    · exact h2 x h
    · rw [h]; exact hu
  · rcases h3 with ⟨e, _⟩ | ⟨b', o', cap', e, e2, e3, e4, e5, e6⟩
    · cases e
    · cases e
      refine .inr ⟨b, o, cap, rfl, e2, by rw [World.size_setCell]; exact e3, e4, fun i x hx => ?_, fun i hi => ?_⟩
      · by_cases e : j = i
        · subst e
          rw [List.getElem?_set_self (by omega)] at hx
          cases hx
          obtain ⟨y, hy⟩ := Option.isSome_iff_exists.1 (e6 j (by omega)).1
          rw [cell_set, hy]; rfl
        · rw [List.getElem?_set_ne e] at hx
          rw [World.cell?_setCell_other w (a := ⟨b, o + j, none⟩) (b := ⟨b, o + i, none⟩) _ (by intro h; have h2 : o + j = o + i := congrArg Addr.off h; omega)]
          exact e5 i x hx
      · rw [World.frozen?_setCell]
        exact ⟨by
          by_cases e : j = i
          · subst e
            obtain ⟨y, hy⟩ := Option.isSome_iff_exists.1 (e6 j hi).1
            rw [cell_set, hy]; rfl
          · rw [World.cell?_setCell_other w (a := ⟨b, o + j, none⟩) (b := ⟨b, o + i, none⟩) _ (by intro h; have h2 : o + j = o + i := congrArg Addr.off h; omega)]
            exact (e6 i hi).1, (e6 i hi).2⟩
/-- The list when k cells of each end have been exchanged. -/
def revN (l : List Int) (k : Nat) : List Int := (List.range l.length).map fun p => if p < k ∨ l.length - 1 - p < k then l.getD (l.length - 1 - p) 0 else l.getD p 0
theorem revN_len (l : List Int) (k : Nat) : (revN l k).length = l.length := by simp [revN]
theorem revN_at (l : List Int) (k p : Nat) (h : p < (revN l k).length) : (revN l k)[p] = if p < k ∨ l.length - 1 - p < k then l.getD (l.length - 1 - p) 0 else l.getD p 0 := by simp [revN]
theorem revN_zero (l : List Int) : revN l 0 = l := by
  apply List.ext_getElem (revN_len l 0)
  intro i h1 h2
  rw [revN_at, if_neg (by omega), List.getD_eq_getElem?_getD, List.getElem?_eq_getElem h2]; rfl
theorem revN_end (l : List Int) (k : Nat) (hk : l.length ≤ 2 * k + 1) : revN l k = l.reverse := by
  apply List.ext_getElem (by rw [revN_len, List.length_reverse])
  intro i h1 h2
  rw [revN_len] at h1
  rw [revN_at, List.getElem_reverse]
  split
  · rw [List.getD_eq_getElem?_getD, List.getElem?_eq_getElem (by omega)]; rfl
  · have e : l.length - 1 - i = i := by omega
    rw [List.getD_eq_getElem?_getD, List.getElem?_eq_getElem (by omega)]
    simp only [e]; rfl
theorem revN_swap (l : List Int) (k q : Nat) (hq : q + k + 1 = l.length) (hkq : k < q) (x y : Int) (hx : (revN l k)[k]? = some x) (hy : (revN l k)[q]? = some y) : ((revN l k).set k y).set q x = revN l (k + 1) := by
  have hxv : x = l.getD k 0 := by
    rw [List.getElem?_eq_getElem (by rw [revN_len]; omega), revN_at, if_neg (by omega)] at hx
    exact (Option.some.inj hx).symm
  have hyv : y = l.getD q 0 := by
    rw [List.getElem?_eq_getElem (by rw [revN_len]; omega), revN_at, if_neg (by omega)] at hy
    exact (Option.some.inj hy).symm
  apply List.ext_getElem (by simp [revN_len])
  intro i h1 h2
  rw [revN_len] at h2
  rw [revN_at, List.getElem_set, List.getElem_set]
  by_cases e1 : q = i
  · rw [if_pos e1, if_pos (by omega), hxv]
    congr 1; omega
  · rw [if_neg e1]
    by_cases e2 : k = i
    · rw [if_pos e2, if_pos (by omega), hyv]
      congr 1; omega
    · rw [if_neg e2, revN_at]
      by_cases e3 : i < k ∨ l.length - 1 - i < k
      · rw [if_pos e3, if_pos (by omega)]
      · rw [if_neg e3, if_neg (by omega)]
set_option maxRecDepth 100000 in
set_option maxHeartbeats 1600000 in
theorem wReverse {w : World} {B : Nat} {v : Value} {n : Nat} {l : List Int} (h : Vs w B 1 v n (ic l)) (hn : n ≤ 1000000000) :
    Calls Try.prog 42 #[v] w fun e w' => e = .returned (.tuple #[]) ∧ Vs w' B 1 v n (ic l.reverse) ∧ w.grownBy w' v.ownBlock := by
  have hl : l.length = n := by have := h.1; rw [ic_len] at this; omega
  obtain ⟨a, cap, rfl, hcap⟩ := h.form
  have w0 : IntKind.i64.wrap ((n : Int) - 1) = (n : Int) - 1 := by rw [IntKind.wrap_i64]; omega
  replace hl := Lib.hid hl
  replace h := Lib.hid h
  clear hcap
  go_enter Try.func42, Try.ntmps42
  go_wp2
  go_loopw [2, 3] (fun i j wr => ∃ (k : Nat), i = .int .i64 (k : Int) ∧ j = .int .i64 ((n : Int) - 1 - (k : Int)) ∧ k ≤ n ∧ Vs wr B 1 (.slice a n cap) n (ic (revN l k)) ∧ w.grownBy wr (Value.slice a n cap).ownBlock) (fun i _ _ => (n - (intOf i).toNat))
  case atStart => exact ⟨0, rfl, by simp, by omega, by rw [revN_zero]; exact h.out, ⟨rfl, rfl, rfl, Nat.le_refl _, fun _ _ _ => rfl⟩⟩
  case round =>
    obtain ⟨k, rfl, rfl, hkn, hV, hg⟩ := hrel
    by_cases hlt : 2 * k + 1 < n
    · obtain ⟨q, hq⟩ : ∃ q : Nat, q + k + 1 = n := ⟨n - 1 - k, by omega⟩
      have t1 : ((k : Int) < (n : Int) - 1 - (k : Int)) = True := by simp; omega
      have eq : (n : Int) - 1 - (k : Int) = (q : Int) := by omega
      rw [eq] at t1 ⊢
      have wk : IntKind.i64.wrap ((k : Int) + 1) = ((k + 1 : Nat) : Int) := by rw [IntKind.wrap_i64]; omega
      have wq : IntKind.i64.wrap ((q : Int) - 1) = (q : Int) - 1 := by rw [IntKind.wrap_i64]; omega
      have hj2 := Lib.hid (show Value.int .i64 ((q : Int) - 1) = .int .i64 ((n : Int) - 1 - ((k + 1 : Nat) : Int)) by congr 1; omega)
      have b1 : (0 : Int) ≤ (k : Int) := by omega
      have b2 : (k : Int) < (n : Int) := by omega
      have b3 : (0 : Int) ≤ (q : Int) := by omega
      have b4 : (q : Int) < (n : Int) := by omega
      obtain ⟨b, o, c, he⟩ := hV.some_of (by omega)
      cases he
      have hrl : (revN l k).length = n := by rw [revN_len, hl.out]
      obtain ⟨x, hx⟩ : ∃ x, (revN l k)[k]? = some x := ⟨_, List.getElem?_eq_getElem (by omega)⟩
      obtain ⟨y, hy⟩ : ∃ y, (revN l k)[q]? = some y := ⟨_, List.getElem?_eq_getElem (by omega)⟩
      have s1 := hV.cell k (.int .i64 x) (by unfold ic; rw [List.getElem?_map, hx]; rfl)
      have s2 := hV.cell q (.int .i64 y) (by unfold ic; rw [List.getElem?_map, hy]; rfl)
      have s3 := hV.free k (by omega)
      have s4 := hV.free q (by omega)
      have hr2 := Lib.hid (show (wr.setCell ⟨b, o + k, none⟩ (.int .i64 y)).cell? ⟨b, o + q, none⟩ = some (.int .i64 y) from (World.cell?_setCell_other wr (a := ⟨b, o + k, none⟩) (b := ⟨b, o + q, none⟩) _ (by intro h; have h2 : o + k = o + q := congrArg Addr.off h; omega)).trans s2)
      have hV2 := Lib.hid ((hV.setAt k (.int .i64 y) (by omega) rfl).setAt q (.int .i64 x) (by omega) rfl)
      rw [ic_set, ic_set, revN_swap l k q (by rw [hl.out]; exact hq) (by omega) x y hx hy] at hV2
      have hg2 := Lib.hid (grown_trans (grown_trans hg (grownBy_setCell wr b (o + k) (.int .i64 y))) (grownBy_setCell _ b (o + q) (.int .i64 x)))
      replace hV2 := Lib.hid (show Vs ((wr.setCell ⟨b, o + k, none⟩ (.int .i64 y)).setCell ⟨b, o + q, none⟩ (.int .i64 x)).drew B 1 (.slice (some ⟨b, o, none⟩) n cap) n (ic (revN l (k + 1))) from hV2.out.kept (row := none) ⟨rfl, rfl, rfl, Nat.le_refl _, fun _ _ _ => rfl⟩ (.inr (by simp [Value.ownBlock])))
      replace hg2 := Lib.hid (show w.grownBy ((wr.setCell ⟨b, o + k, none⟩ (.int .i64 y)).setCell ⟨b, o + q, none⟩ (.int .i64 x)).drew _ from ⟨hg2.out.os, hg2.out.tape, hg2.out.output, hg2.out.size, hg2.out.block⟩)
      have hqe := Lib.hid hq
      replace hkn := Lib.hid hkn
      clear hx hy hrl hV hg eq hq hlt
      go_upto_region 3 with fail
      refine wp_region_noPanic ?_
      refine wp_region_held_drew (S := (fun _ => True)) (by kernel_rfl) ?_ (fun hHeld => ?_)
      · (try dsimp only); (try trivial)
      refine wpAnyH_take (i := 0) (oi := { dst := some 14, op := Go.Op.move (Go.Operand.tmp 0), type := 22, pos := "slices.go:485", after := #[], guard := none }) (v := ?v1) rfl (by kernel_rfl) (by kernel_rfl) (by kernel_rfl) (fun _ _ _ h => h) (Or.inl ⟨by rfl, ?hy1⟩) (by assumption) ?rest1
      case hy1 => (intro w hSw; (try dsimp only at hSw); go_simp <;> with_reducible rfl)
      try simp only [Act.put, List.setIfInBounds_toArray, List.set_cons_zero, List.set_cons_succ]
      refine wpAnyH_take (i := 1) (oi := { dst := some 15, op := Go.Op.move (Go.Operand.tmp 2), type := 3, pos := "slices.go:485", after := #[], guard := none }) (v := ?v2) rfl (by kernel_rfl) (by kernel_rfl) (by kernel_rfl) (fun _ _ _ h => h) (Or.inl ⟨by rfl, ?hy2⟩) (by assumption) ?rest2
      case hy2 => (intro w hSw; (try dsimp only at hSw); go_simp <;> with_reducible rfl)
      try simp only [Act.put, List.setIfInBounds_toArray, List.set_cons_zero, List.set_cons_succ]
      refine wpAnyH_take (i := 2) (oi := { dst := some 16, op := Go.Op.move (Go.Operand.tmp 0), type := 22, pos := "slices.go:485", after := #[{ on := 13, ground := Go.Ground.gcOnly Go.Departure.lateStores }], guard := none }) (v := ?v3) rfl (by kernel_rfl) (by kernel_rfl) (by kernel_rfl) (fun _ _ _ h => h) (Or.inl ⟨by rfl, ?hy3⟩) (by assumption) ?rest3
      case hy3 => (intro w hSw; (try dsimp only at hSw); go_simp <;> with_reducible rfl)
      try simp only [Act.put, List.setIfInBounds_toArray, List.set_cons_zero, List.set_cons_succ]
      refine wpAnyH_take (i := 3) (oi := { dst := some 17, op := Go.Op.move (Go.Operand.tmp 3), type := 3, pos := "slices.go:485", after := #[{ on := 13, ground := Go.Ground.gcOnly Go.Departure.lateStores }], guard := none }) (v := ?v4) rfl (by kernel_rfl) (by kernel_rfl) (by kernel_rfl) (fun _ _ _ h => h) (Or.inl ⟨by rfl, ?hy4⟩) (by assumption) ?rest4
      case hy4 => (intro w hSw; (try dsimp only at hSw); go_simp <;> with_reducible rfl)
      try simp only [Act.put, List.setIfInBounds_toArray, List.set_cons_zero, List.set_cons_succ]
      refine wpAnyH_take (i := 4) (oi := { dst := some 18, op := Go.Op.move (Go.Operand.tmp 0), type := 22, pos := "slices.go:485", after := #[], guard := none }) (v := ?v5) rfl (by kernel_rfl) (by kernel_rfl) (by kernel_rfl) (fun _ _ _ h => h) (Or.inl ⟨by rfl, ?hy5⟩) (by assumption) ?rest5
      case hy5 => (intro w hSw; (try dsimp only at hSw); go_simp <;> with_reducible rfl)
      try simp only [Act.put, List.setIfInBounds_toArray, List.set_cons_zero, List.set_cons_succ]
      refine wpAnyH_take (i := 5) (oi := { dst := some 19, op := Go.Op.move (Go.Operand.tmp 3), type := 3, pos := "slices.go:485", after := #[], guard := none }) (v := ?v6) rfl (by kernel_rfl) (by kernel_rfl) (by kernel_rfl) (fun _ _ _ h => h) (Or.inl ⟨by rfl, ?hy6⟩) (by assumption) ?rest6
      case hy6 => (intro w hSw; (try dsimp only at hSw); go_simp <;> with_reducible rfl)
      try simp only [Act.put, List.setIfInBounds_toArray, List.set_cons_zero, List.set_cons_succ]
      refine wpAnyH_take (i := 6) (oi := { dst := some 20, op := Go.Op.indexAddr 22 (Go.Operand.tmp 18) (Go.Operand.tmp 19), type := 0, pos := "slices.go:485", after := #[{ on := 4, ground := Go.Ground.data }, { on := 5, ground := Go.Ground.data }], guard := none }) (v := ?v7) rfl (by kernel_rfl) (by kernel_rfl) (by kernel_rfl) (fun _ _ _ h => h) (Or.inl ⟨by rfl, ?hy7⟩) (by assumption) ?rest7
      case hy7 => (intro w hSw; (try dsimp only at hSw); go_simp <;> with_reducible rfl)
      try simp only [Act.put, List.setIfInBounds_toArray, List.set_cons_zero, List.set_cons_succ]
      refine wpAnyH_take (i := 8) (oi := { dst := some 22, op := Go.Op.move (Go.Operand.tmp 0), type := 22, pos := "slices.go:485", after := #[], guard := none }) (v := ?v8) rfl (by kernel_rfl) (by kernel_rfl) (by kernel_rfl) (fun _ _ _ h => h) (Or.inl ⟨by rfl, ?hy8⟩) (by assumption) ?rest8
      case hy8 => (intro w hSw; (try dsimp only at hSw); go_simp <;> with_reducible rfl)
      try simp only [Act.put, List.setIfInBounds_toArray, List.set_cons_zero, List.set_cons_succ]
      refine wpAnyH_take (i := 9) (oi := { dst := some 23, op := Go.Op.move (Go.Operand.tmp 2), type := 3, pos := "slices.go:485", after := #[], guard := none }) (v := ?v9) rfl (by kernel_rfl) (by kernel_rfl) (by kernel_rfl) (fun _ _ _ h => h) (Or.inl ⟨by rfl, ?hy9⟩) (by assumption) ?rest9
      case hy9 => (intro w hSw; (try dsimp only at hSw); go_simp <;> with_reducible rfl)
      try simp only [Act.put, List.setIfInBounds_toArray, List.set_cons_zero, List.set_cons_succ]
      refine wpAnyH_take (i := 10) (oi := { dst := some 24, op := Go.Op.indexAddr 22 (Go.Operand.tmp 22) (Go.Operand.tmp 23), type := 0, pos := "slices.go:485", after := #[{ on := 8, ground := Go.Ground.data }, { on := 9, ground := Go.Ground.data }], guard := none }) (v := ?v10) rfl (by kernel_rfl) (by kernel_rfl) (by kernel_rfl) (fun _ _ _ h => h) (Or.inl ⟨by rfl, ?hy10⟩) (by assumption) ?rest10
      case hy10 => (intro w hSw; (try dsimp only at hSw); go_simp <;> with_reducible rfl)
      try simp only [Act.put, List.setIfInBounds_toArray, List.set_cons_zero, List.set_cons_succ]
      refine wpAnyH_ready (rs := [7, 11]) (by kernel_rfl) (by simp) ?_
      refine AllReadyH.cons (o := { dst := some 21, op := Go.Op.load 2 (Go.Operand.tmp 20), type := 2, pos := "slices.go:485", after := #[{ on := 6, ground := Go.Ground.data }], guard := none }) rfl (fun K hK => ?_) ?_
      ·
        go_simp
        refine hK.out _ _ ?_ (fun hHeld2 => ?_)
        · (try dsimp only); (try trivial)
        clear hK K hHeld
        have hHeld := hHeld2
        clear hHeld2
        try simp only [Act.put, List.setIfInBounds_toArray, List.set_cons_zero, List.set_cons_succ]
        refine wpAnyH_ready (rs := [11]) (by kernel_rfl) (by simp) ?_
        refine AllReadyH.cons (o := { dst := some 25, op := Go.Op.load 2 (Go.Operand.tmp 24), type := 2, pos := "slices.go:485", after := #[{ on := 10, ground := Go.Ground.data }], guard := none }) rfl (fun K hK => ?_) AllReadyH.nil
        go_simp
        refine hK.out _ _ ?_ (fun hHeld2 => ?_)
        · (try dsimp only); (try trivial)
        clear hK K hHeld
        have hHeld := hHeld2
        clear hHeld2
        try simp only [Act.put, List.setIfInBounds_toArray, List.set_cons_zero, List.set_cons_succ]
        refine wpAnyH_take (i := 12) (oi := { dst := some 26, op := Go.Op.indexAddr 22 (Go.Operand.tmp 14) (Go.Operand.tmp 15), type := 0, pos := "slices.go:485", after := #[{ on := 0, ground := Go.Ground.data }, { on := 1, ground := Go.Ground.data }, { on := 0, ground := Go.Ground.phase }, { on := 1, ground := Go.Ground.phase }, { on := 2, ground := Go.Ground.textOnly Go.Departure.lateStores }, { on := 3, ground := Go.Ground.textOnly Go.Departure.lateStores }, { on := 4, ground := Go.Ground.phase }, { on := 5, ground := Go.Ground.phase }, { on := 6, ground := Go.Ground.phase }, { on := 7, ground := Go.Ground.phase }, { on := 8, ground := Go.Ground.textOnly Go.Departure.lateStores }, { on := 9, ground := Go.Ground.textOnly Go.Departure.lateStores }, { on := 10, ground := Go.Ground.textOnly Go.Departure.lateStoresUnsure }, { on := 11, ground := Go.Ground.phase }], guard := none }) (v := ?v11) rfl (by kernel_rfl) (by kernel_rfl) (by kernel_rfl) (fun _ _ _ h => h) (Or.inl ⟨by rfl, ?hy11⟩) (by assumption) ?rest11
        case hy11 => (intro w hSw; (try dsimp only at hSw); go_simp <;> with_reducible rfl)
        try simp only [Act.put, List.setIfInBounds_toArray, List.set_cons_zero, List.set_cons_succ]
        refine wpAnyH_ready (rs := [13]) (by kernel_rfl) (by simp) ?_
        refine AllReadyH.cons (o := { dst := none, op := Go.Op.store 2 (Go.Operand.tmp 26) (Go.Operand.tmp 21), type := 0, pos := "slices.go:485", after := #[{ on := 12, ground := Go.Ground.data }, { on := 7, ground := Go.Ground.data }, { on := 0, ground := Go.Ground.phase }, { on := 1, ground := Go.Ground.phase }, { on := 2, ground := Go.Ground.textOnly Go.Departure.lateStores }, { on := 3, ground := Go.Ground.textOnly Go.Departure.lateStores }, { on := 4, ground := Go.Ground.phase }, { on := 5, ground := Go.Ground.phase }, { on := 6, ground := Go.Ground.phase }, { on := 7, ground := Go.Ground.phase }, { on := 8, ground := Go.Ground.textOnly Go.Departure.lateStores }, { on := 9, ground := Go.Ground.textOnly Go.Departure.lateStores }, { on := 10, ground := Go.Ground.textOnly Go.Departure.lateStoresUnsure }, { on := 11, ground := Go.Ground.phase }], guard := none }) rfl (fun K hK => ?_) AllReadyH.nil
        go_simp
        refine hK.out _ _ ?_ (fun hHeld2 => ?_)
        · (try dsimp only); (try trivial)
        clear hK K hHeld
        have hHeld := hHeld2
        clear hHeld2
        try simp only [Act.put, List.setIfInBounds_toArray, List.set_cons_zero, List.set_cons_succ]
        refine wpAnyH_take (i := 14) (oi := { dst := some 27, op := Go.Op.indexAddr 22 (Go.Operand.tmp 16) (Go.Operand.tmp 17), type := 0, pos := "slices.go:485", after := #[{ on := 2, ground := Go.Ground.data }, { on := 3, ground := Go.Ground.data }, { on := 0, ground := Go.Ground.phase }, { on := 1, ground := Go.Ground.phase }, { on := 2, ground := Go.Ground.phase }, { on := 3, ground := Go.Ground.phase }, { on := 4, ground := Go.Ground.phase }, { on := 5, ground := Go.Ground.phase }, { on := 6, ground := Go.Ground.phase }, { on := 7, ground := Go.Ground.phase }, { on := 8, ground := Go.Ground.phase }, { on := 9, ground := Go.Ground.phase }, { on := 10, ground := Go.Ground.phase }, { on := 11, ground := Go.Ground.phase }, { on := 12, ground := Go.Ground.phase }, { on := 13, ground := Go.Ground.phase }], guard := none }) (v := ?v12) rfl (by kernel_rfl) (by kernel_rfl) (by kernel_rfl) (fun _ _ _ h => h) (Or.inl ⟨by rfl, ?hy12⟩) (by assumption) ?rest12
        case hy12 => (intro w hSw; (try dsimp only at hSw); go_simp <;> with_reducible rfl)
        try simp only [Act.put, List.setIfInBounds_toArray, List.set_cons_zero, List.set_cons_succ]
        refine wpAnyH_ready (rs := [15]) (by kernel_rfl) (by simp) ?_
        refine AllReadyH.cons (o := { dst := none, op := Go.Op.store 2 (Go.Operand.tmp 27) (Go.Operand.tmp 25), type := 0, pos := "slices.go:485", after := #[{ on := 14, ground := Go.Ground.data }, { on := 11, ground := Go.Ground.data }, { on := 13, ground := Go.Ground.chain }, { on := 0, ground := Go.Ground.phase }, { on := 1, ground := Go.Ground.phase }, { on := 2, ground := Go.Ground.phase }, { on := 3, ground := Go.Ground.phase }, { on := 4, ground := Go.Ground.phase }, { on := 5, ground := Go.Ground.phase }, { on := 6, ground := Go.Ground.phase }, { on := 7, ground := Go.Ground.phase }, { on := 8, ground := Go.Ground.phase }, { on := 9, ground := Go.Ground.phase }, { on := 10, ground := Go.Ground.phase }, { on := 11, ground := Go.Ground.phase }, { on := 12, ground := Go.Ground.phase }, { on := 13, ground := Go.Ground.phase }], guard := none }) rfl (fun K hK => ?_) AllReadyH.nil
        have r2' := hr2.out
        go_simp
        refine hK.out _ _ ?_ (fun hHeld2 => ?_)
        · (try dsimp only); (try trivial)
        clear hK K hHeld
        have hHeld := hHeld2
        clear hHeld2
        try simp only [Act.put, List.setIfInBounds_toArray, List.set_cons_zero, List.set_cons_succ]
        refine wpAnyH_done (by kernel_rfl) ?_ _
        refine NoPanic.normal ?_
        go_wp2
        go_roundw
        case rel => exact ⟨k + 1, rfl, hj2.out, by have := hkn.out; omega, hV2.out, hg2.out⟩
        case measure => have := hqe.out; have := hkn.out; simp [intOf]; omega
      refine AllReadyH.cons (o := { dst := some 25, op := Go.Op.load 2 (Go.Operand.tmp 24), type := 2, pos := "slices.go:485", after := #[{ on := 10, ground := Go.Ground.data }], guard := none }) rfl (fun K hK => ?_) ?_
      ·
        go_simp
        refine hK.out _ _ ?_ (fun hHeld2 => ?_)
        · (try dsimp only); (try trivial)
        clear hK K hHeld
        have hHeld := hHeld2
        clear hHeld2
        try simp only [Act.put, List.setIfInBounds_toArray, List.set_cons_zero, List.set_cons_succ]
        refine wpAnyH_ready (rs := [7]) (by kernel_rfl) (by simp) ?_
        refine AllReadyH.cons (o := { dst := some 21, op := Go.Op.load 2 (Go.Operand.tmp 20), type := 2, pos := "slices.go:485", after := #[{ on := 6, ground := Go.Ground.data }], guard := none }) rfl (fun K hK => ?_) AllReadyH.nil
        go_simp
        refine hK.out _ _ ?_ (fun hHeld2 => ?_)
        · (try dsimp only); (try trivial)
        clear hK K hHeld
        have hHeld := hHeld2
        clear hHeld2
        try simp only [Act.put, List.setIfInBounds_toArray, List.set_cons_zero, List.set_cons_succ]
        refine wpAnyH_take (i := 12) (oi := { dst := some 26, op := Go.Op.indexAddr 22 (Go.Operand.tmp 14) (Go.Operand.tmp 15), type := 0, pos := "slices.go:485", after := #[{ on := 0, ground := Go.Ground.data }, { on := 1, ground := Go.Ground.data }, { on := 0, ground := Go.Ground.phase }, { on := 1, ground := Go.Ground.phase }, { on := 2, ground := Go.Ground.textOnly Go.Departure.lateStores }, { on := 3, ground := Go.Ground.textOnly Go.Departure.lateStores }, { on := 4, ground := Go.Ground.phase }, { on := 5, ground := Go.Ground.phase }, { on := 6, ground := Go.Ground.phase }, { on := 7, ground := Go.Ground.phase }, { on := 8, ground := Go.Ground.textOnly Go.Departure.lateStores }, { on := 9, ground := Go.Ground.textOnly Go.Departure.lateStores }, { on := 10, ground := Go.Ground.textOnly Go.Departure.lateStoresUnsure }, { on := 11, ground := Go.Ground.phase }], guard := none }) (v := ?v13) rfl (by kernel_rfl) (by kernel_rfl) (by kernel_rfl) (fun _ _ _ h => h) (Or.inl ⟨by rfl, ?hy13⟩) (by assumption) ?rest13
        case hy13 => (intro w hSw; (try dsimp only at hSw); go_simp <;> with_reducible rfl)
        try simp only [Act.put, List.setIfInBounds_toArray, List.set_cons_zero, List.set_cons_succ]
        refine wpAnyH_ready (rs := [13]) (by kernel_rfl) (by simp) ?_
        refine AllReadyH.cons (o := { dst := none, op := Go.Op.store 2 (Go.Operand.tmp 26) (Go.Operand.tmp 21), type := 0, pos := "slices.go:485", after := #[{ on := 12, ground := Go.Ground.data }, { on := 7, ground := Go.Ground.data }, { on := 0, ground := Go.Ground.phase }, { on := 1, ground := Go.Ground.phase }, { on := 2, ground := Go.Ground.textOnly Go.Departure.lateStores }, { on := 3, ground := Go.Ground.textOnly Go.Departure.lateStores }, { on := 4, ground := Go.Ground.phase }, { on := 5, ground := Go.Ground.phase }, { on := 6, ground := Go.Ground.phase }, { on := 7, ground := Go.Ground.phase }, { on := 8, ground := Go.Ground.textOnly Go.Departure.lateStores }, { on := 9, ground := Go.Ground.textOnly Go.Departure.lateStores }, { on := 10, ground := Go.Ground.textOnly Go.Departure.lateStoresUnsure }, { on := 11, ground := Go.Ground.phase }], guard := none }) rfl (fun K hK => ?_) AllReadyH.nil
        go_simp
        refine hK.out _ _ ?_ (fun hHeld2 => ?_)
        · (try dsimp only); (try trivial)
        clear hK K hHeld
        have hHeld := hHeld2
        clear hHeld2
        try simp only [Act.put, List.setIfInBounds_toArray, List.set_cons_zero, List.set_cons_succ]
        refine wpAnyH_take (i := 14) (oi := { dst := some 27, op := Go.Op.indexAddr 22 (Go.Operand.tmp 16) (Go.Operand.tmp 17), type := 0, pos := "slices.go:485", after := #[{ on := 2, ground := Go.Ground.data }, { on := 3, ground := Go.Ground.data }, { on := 0, ground := Go.Ground.phase }, { on := 1, ground := Go.Ground.phase }, { on := 2, ground := Go.Ground.phase }, { on := 3, ground := Go.Ground.phase }, { on := 4, ground := Go.Ground.phase }, { on := 5, ground := Go.Ground.phase }, { on := 6, ground := Go.Ground.phase }, { on := 7, ground := Go.Ground.phase }, { on := 8, ground := Go.Ground.phase }, { on := 9, ground := Go.Ground.phase }, { on := 10, ground := Go.Ground.phase }, { on := 11, ground := Go.Ground.phase }, { on := 12, ground := Go.Ground.phase }, { on := 13, ground := Go.Ground.phase }], guard := none }) (v := ?v14) rfl (by kernel_rfl) (by kernel_rfl) (by kernel_rfl) (fun _ _ _ h => h) (Or.inl ⟨by rfl, ?hy14⟩) (by assumption) ?rest14
        case hy14 => (intro w hSw; (try dsimp only at hSw); go_simp <;> with_reducible rfl)
        try simp only [Act.put, List.setIfInBounds_toArray, List.set_cons_zero, List.set_cons_succ]
        refine wpAnyH_ready (rs := [15]) (by kernel_rfl) (by simp) ?_
        refine AllReadyH.cons (o := { dst := none, op := Go.Op.store 2 (Go.Operand.tmp 27) (Go.Operand.tmp 25), type := 0, pos := "slices.go:485", after := #[{ on := 14, ground := Go.Ground.data }, { on := 11, ground := Go.Ground.data }, { on := 13, ground := Go.Ground.chain }, { on := 0, ground := Go.Ground.phase }, { on := 1, ground := Go.Ground.phase }, { on := 2, ground := Go.Ground.phase }, { on := 3, ground := Go.Ground.phase }, { on := 4, ground := Go.Ground.phase }, { on := 5, ground := Go.Ground.phase }, { on := 6, ground := Go.Ground.phase }, { on := 7, ground := Go.Ground.phase }, { on := 8, ground := Go.Ground.phase }, { on := 9, ground := Go.Ground.phase }, { on := 10, ground := Go.Ground.phase }, { on := 11, ground := Go.Ground.phase }, { on := 12, ground := Go.Ground.phase }, { on := 13, ground := Go.Ground.phase }], guard := none }) rfl (fun K hK => ?_) AllReadyH.nil
        have r2' := hr2.out
        go_simp
        refine hK.out _ _ ?_ (fun hHeld2 => ?_)
        · (try dsimp only); (try trivial)
        clear hK K hHeld
        have hHeld := hHeld2
        clear hHeld2
        try simp only [Act.put, List.setIfInBounds_toArray, List.set_cons_zero, List.set_cons_succ]
        refine wpAnyH_done (by kernel_rfl) ?_ _
        refine NoPanic.normal ?_
        go_wp2
        go_roundw
        case rel => exact ⟨k + 1, rfl, hj2.out, by have := hkn.out; omega, hV2.out, hg2.out⟩
        case measure => have := hqe.out; have := hkn.out; simp [intOf]; omega
      exact AllReadyH.nil
    · have t1 : ((k : Int) < (n : Int) - 1 - (k : Int)) = False := by simp; omega
      rw [revN_end l k (by rw [hl.out]; omega)] at hV
      replace hV := Lib.hid hV
      replace hg := Lib.hid hg
      go_wp2
      (try go_end0)
      exact ⟨rfl, hV.out, hg.out⟩
end Go.Proofs.Ytjeelccdbhhfjaa
