/- 'names': the map of all names that can be found. -/
import Derived.Test.YtcfblcgdjhpdaaaPB6
import Derived.StringKeys
namespace Go.Proofs.Ytcfblcgdjhpdaaa
open Go.RowKit Go.Shelf
set_option linter.unusedVariables false
set_option linter.unusedSimpArgs false
attribute [local go_sem] Oper.semAt_some
attribute [local irreducible] cells19 cells20 rowL tabL

theorem wAll (w : World) : Calls Try.prog 70 #[] w fun e w' => e = .returned (.func (.func 76) #[] #[]) ∧ w' = w := by
  go_enter Try.func70, Try.ntmps70
  go_wp2
  go_ret
  exact ⟨rfl, rfl⟩

def vis (x : Ix) : Bool := decide (x.1 < 2) || decide (11 < x.1)
/-- The map, as a datum. -/
noncomputable def namesD (xs : List Ix) : DataW Unit := (xs.filter vis).foldl (fun D x => D.put (.string (rowAt x).1.data.toList) (.lit (.int .i64 (x.1 : Int)))) (.map [])
theorem namesD_yes (pre : List Ix) (x : Ix) (h : vis x = true) : namesD (pre ++ [x]) = (namesD pre).put (.string (rowAt x).1.data.toList) (.lit (.int .i64 (x.1 : Int))) := by simp [namesD, h]
theorem namesD_no (pre : List Ix) (x : Ix) (h : vis x = false) : namesD (pre ++ [x]) = namesD pre := by simp [namesD, h]

theorem names_small : rowL.all (fun r => decide (r.1.size ≤ 16)) = true := by kernel_rfl
theorem name_small (x : Ix) : (rowAt x).1.size ≤ 16 := by
  have h := List.all_eq_true.1 names_small
  have hx : x.1 < rowL.length := by rw [rowL_len]; have := x.2; omega
  have h2 := h (rowAt x) (by unfold rowAt; simp only [List.getD, List.getElem?_eq_getElem hx, Option.getD_some]; exact List.getElem_mem hx)
  simpa using h2
/-- A row's five cells. -/
def rowC (r : Row) : Array Value := #[.string r.1, .int .i64 r.2.1, .int .i64 r.2.2.1, .bool r.2.2.2.1, .bool r.2.2.2.2]
theorem blk_own {X Y : World} {row : Option Nat} {B : Nat} {c : Array Value} {t : TypeId} (h : Blk X B c t) (hg : X.grownBy Y row) (hr : ∀ r, row = some r → ∃ o : Obj, X.heap[r]? = some o ∧ o.isCells = false) : Blk Y B c t := by
  unfold Blk at *
  refine (hg.block B (Array.getElem?_eq_some_iff.1 h).1 (fun e => ?_)).trans h
  obtain ⟨o, ho, hc⟩ := hr B e.symm
  rw [h] at ho
  cases ho
  cases hc
set_option maxRecDepth 100000 in
set_option maxHeartbeats 2000000 in
theorem names_in (w : World) : Calls Try.prog 59 #[] w fun e W' => e = .returned (.map (some w.heap.size)) ∧ W'.ownsMap Try.prog 9 (plainElem (H := Unit) Try.prog 3) w.heap.size (allIx.filter vis).length (namesD allIx) ∧ Below w.heap.size w W' := by
  refine (callsIn_wide (n := 3)).1 ?_
  have hmm := @run_makeMap Try.prog
  refine callsIn_of_wp_marks Try.func59 rfl trivial ?_ rfl
  simp only [Try.ntmps59, List.size_toArray, List.length_cons, List.length_nil, Nat.reduceAdd, Nat.reduceSub, Array.replicate_succ, Array.replicate_zero, List.push_toArray, List.append_toArray, List.nil_append, List.cons_append]
  gi_wp2_with (refine ⟨trivial, ?_⟩; gi_at_call 70; refine (callsIn_wide.2 (wAll _)).mono ?_; rintro e w' ⟨rfl, rfl⟩)
  have hm0 := World.ownsMap_made w Try.prog 9 (plainElem (H := Unit) Try.prog 3)
  have bM := Boxed.new (w.alloc (.map #[] 0)) 91 (.map (some w.heap.size))
  simp only [World.size_alloc] at bM
  have hB0 : Below w.heap.size w ((w.alloc (.map #[] 0)).alloc (.cells #[.map (some w.heap.size)] 91)) := ((Below.refl _ w).alloc (Nat.le_refl _) _).alloc (by simp) _
  refine wpIn_rangeFunc_ownH rfl (by omega) (gf := 76) (lb := #[]) rfl trivial (enters_of Try.func76 (by kernel_rfl) rfl) (all_stops (3 - 1) (by omega) _) (fun _ _ => trivial) (fun _ _ _ _ _ _ _ _ => trivial) (Below.refl _ _) (fun _ => rfl)
    (fun pre W => (Boxed W (w.heap.size + 1) 91 (.map (some w.heap.size)) ∧ W.ownsMap Try.prog 9 (plainElem (H := Unit) Try.prog 3) w.heap.size (pre.filter vis).length (namesD pre)) ∧ Below w.heap.size w W)
    (fun _ _ _ => False)
    (OwnFrom.and (fun s A B row hs hg hr => ⟨boxed_own _ 91 (fun _ => .map (some w.heap.size)) s A B row hs.1 hg (fun r e => (hr r e).2), hs.2.kept hg (fun e => by have := (hr _ e.symm).1; simp at this; omega)⟩) (ownFrom_below (Nat.le_refl _) (by simp; omega)))
    (fun _ _ _ _ _ hs _ _ => hs)
    ⟨⟨bM, hm0.alloc _⟩, hB0⟩
    (fun x a' W => ∃ Bx, w.heap.size + 1 < Bx ∧ Blk W Bx (rowC (rowAt x)) 73 ∧ a' = { tmps := #[.map none, .pointer (some ⟨w.heap.size + 1, 0, none⟩), .int .i64 (x.1 : Int), .pointer (some ⟨Bx, 0, none⟩), .map (some w.heap.size), .func (.func 76) #[] #[], .int .i64 (x.1 : Int), primV (rowAt x), undef, undef, undef, undef, undef, undef, undef, undef, undef, undef, undef], defers := [] })
    (fun x a' s X Y row hs hg hr => by obtain ⟨Bx, h1, h2, h3⟩ := hs; exact ⟨Bx, h1, blk_own h2 hg (fun r e => (hr r e).2), h3⟩)
    ?assign ?body ?done ?stop
  case assign =>
    rintro l pre x W K ⟨⟨bM1, hown1⟩, hB1⟩ hK
    have hlt := bM1.lt
    have hK' := hK
    unfold encs at *
    obtain ⟨r, hr⟩ : ∃ r, r = rowAt x := ⟨_, rfl⟩
    simp only [← hr] at hK' ⊢
    clear hr
    obtain ⟨nm, tk, ly, nw, on⟩ := r
    unfold rowC at hK'
    unfold primV at hK' ⊢
    gi_wp2
    exact hK' _ _ ((KeepsOthers.alloc _ _).from _) trivial ⟨⟨bM1.alloc _, hown1.alloc _⟩, hB1.alloc hB1.size _⟩ ⟨W.heap.size, hlt, Blk.new _ _ _, rfl⟩
  case body =>
    rintro l pre x a' W hl ⟨r, hr⟩ ⟨⟨bM1, hown⟩, hB⟩ ⟨Bx, hBx, bX, rfl⟩ hlt
    have cM := bM1.cell
    have hsz := name_small x
    have hwf : (Lit.int .i64 (x.1 : Int)).wf = true := by have := x.2; simp [Lit.wf, IntKind.min, IntKind.max, IntKind.signed, IntKind.bits]; omega
    have hkey := WideMaps.keyOf_string_mk (P := Try.prog) Try.underlying9 (s := (rowAt x).1) (by unfold maxLen; omega)
    have hcnt : (pre.filter vis).length < maxLen := by have := List.length_filter_le vis pre; unfold maxLen; omega
    have hY := namesD_yes pre x
    have hN := namesD_no pre x
    have hfY : vis x = true → ((pre ++ [x]).filter vis).length = (pre.filter vis).length + 1 := fun h => by simp [h]
    have hfN : vis x = false → ((pre ++ [x]).filter vis).length = (pre.filter vis).length := fun h => by simp [h]
    have hv : vis x = (decide (x.1 < 2) || decide (11 < x.1)) := rfl
    obtain ⟨m, hm⟩ : ∃ m, m = (pre.filter vis).length := ⟨_, rfl⟩
    rw [← hm] at hown hcnt hfY hfN
    obtain ⟨ro, hro⟩ : ∃ r, r = rowAt x := ⟨_, rfl⟩
    rw [← hro] at hY hkey bX hsz ⊢
    obtain ⟨nm, tk, ly, nw, on⟩ := ro
    unfold primV
    unfold rowC at bX
    obtain ⟨n, hn⟩ := x
    dsimp only at *
    have hY' := Lib.hid hY
    have hN' := Lib.hid hN
    have hfY' := Lib.hid hfY
    have hfN' := Lib.hid hfN
    have hv' := Lib.hid hv
    clear hY hN hfY hfN hv hm hro hr
    obtain ⟨k1, k2, k3, k4, k5, k6, k7, k8, k9, k10, k11⟩ := bX.five
    by_cases t1 : n < 2
    · have hvt : vis ⟨n, hn⟩ = true := by rw [hv'.out]; simp [t1]
      have t1' : (n : Int) < 2 := by omega
      clear t1
      gi_wp2_with (gi_at_mapUpdate; refine wpListIn_mapUpdate_own _ rfl _ _ _ 91 rfl 9 3 (Maps.string_keyed Try.underlying9) Try.underlying91 _ w.heap.size m _ rfl hown hcnt _ _ _ rfl rfl hkey _ [] (plainElem_int Try.underlying3 hwf) ?_; intro w1 hown1 hgrow1)
      obtain ⟨es, ck, hh, _⟩ := hown
      refine ⟨KeepsFrom.of_grownBy hgrow1 (fun j e => by cases e; (try simp only [World.size_alloc]); omega), trivial, ⟨bM1.kept hgrow1 (by simp), ?_⟩, hB.grown hgrow1 hB.size (fun k e => by cases e; exact Nat.le_refl _)⟩
      rw [hfY'.out hvt, hY'.out hvt]
      exact hown1
    by_cases t2 : 11 < n
    · have hvt : vis ⟨n, hn⟩ = true := by rw [hv'.out]; simp [t2]
      have t1' : ¬ (n : Int) < 2 := by omega
      have t2' : (11 : Int) < (n : Int) := by omega
      clear t1 t2
      gi_wp2_with (gi_at_mapUpdate; refine wpListIn_mapUpdate_own _ rfl _ _ _ 91 rfl 9 3 (Maps.string_keyed Try.underlying9) Try.underlying91 _ w.heap.size m _ rfl hown hcnt _ _ _ rfl rfl hkey _ [] (plainElem_int Try.underlying3 hwf) ?_; intro w1 hown1 hgrow1)
      obtain ⟨es, ck, hh, _⟩ := hown
      refine ⟨KeepsFrom.of_grownBy hgrow1 (fun j e => by cases e; (try simp only [World.size_alloc]); omega), trivial, ⟨bM1.kept hgrow1 (by simp), ?_⟩, hB.grown hgrow1 hB.size (fun k e => by cases e; exact Nat.le_refl _)⟩
      rw [hfY'.out hvt, hY'.out hvt]
      exact hown1
    · have hvt : vis ⟨n, hn⟩ = false := by rw [hv'.out]; simp [t1, t2]
      have t1' : ¬ (n : Int) < 2 := by omega
      have t2' : ¬ (11 : Int) < (n : Int) := by omega
      clear t1 t2
      gi_wp2
      refine ⟨KeepsFrom.refl _ _, trivial, ⟨bM1, ?_⟩, hB⟩
      rw [hfN'.out hvt, hN'.out hvt]
      exact hown
  case done =>
    rintro D ys W hD rfl ⟨⟨bM1, hown⟩, hB⟩ hK
    have cM := bM1.cell
    gi_wp2
    refine ⟨by simp, .inl ⟨_, _, rfl, run_takeDeferred hK, ?_⟩⟩
    exact ⟨_, results_tmp rfl _ _ _, rfl, hown.kept (grownBy_putObj' _ D _) (fun e => by cases e; simp at hD; omega), hB.trans (belowK_b (w := w) (Nat.le_refl _) W D _ _ (by simp at hD; omega) hK rfl rfl)⟩
  case stop =>
    rintro D c pre W _ _ h _
    exact h.elim
end Go.Proofs.Ytcfblcgdjhpdaaa
