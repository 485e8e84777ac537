/- 'Find' of the package: the map's answer as a list's. -/
import Derived.Test.YtcfblcgdjhpdaaaPB7
import Derived.Test.YtcfblcgdjhpdaaaPB5
import Derived.Maps.OwnOps
import Derived.Maps.Views
namespace Go.Proofs.Ytcfblcgdjhpdaaa
open Go.RowKit Go.Shelf
set_option linter.unusedVariables false
set_option linter.unusedSimpArgs false
attribute [local irreducible] cells19 cells20 rowL tabL

noncomputable def nameOf (x : Ix) : List UInt8 := (rowAt x).1.data.toList
noncomputable def numOf (k : List UInt8) : Int := match (allIx.filter vis).find? (fun x => nameOf x == k) with | some x => (x.1 : Int) | none => 0
noncomputable def putAll (D : DataW Unit) (xs : List Ix) : DataW Unit := xs.foldl (fun D x => D.put (.string (nameOf x)) (.lit (.int .i64 (x.1 : Int)))) D
theorem putAll_not (k : List UInt8) (z : DataW Unit) : ∀ (xs : List Ix) (D : DataW Unit), (∀ x ∈ xs, nameOf x ≠ k) → (putAll D xs).atKey (.string k) z = D.atKey (.string k) z
  | [], D, _ => rfl
  | x :: xs, D, h => by
    show (putAll (D.put _ _) xs).atKey _ _ = _
    rw [putAll_not k z xs _ (fun y hy => h y (List.mem_cons_of_mem _ hy))]
    exact Maps.atKey_put_other (by intro e; exact h x List.mem_cons_self (by cases e; rfl)) _ _
theorem putAll_at (k : List UInt8) (z : DataW Unit) : ∀ (xs : List Ix) (D : DataW Unit), Maps.IsMap D → (xs.map nameOf).Nodup →
    (putAll D xs).atKey (.string k) z = match xs.find? (fun x => nameOf x == k) with | some x => .lit (.int .i64 (x.1 : Int)) | none => D.atKey (.string k) z
  | [], D, _, _ => rfl
  | x :: xs, D, hD, hn => by
    have hn' : nameOf x ∉ xs.map nameOf ∧ (xs.map nameOf).Nodup := by simpa using hn
    show (putAll (D.put _ _) xs).atKey _ _ = _
    by_cases e : nameOf x = k
    · rw [putAll_not k z xs _ (fun y hy e2 => hn'.1 (by rw [e, ← e2]; exact List.mem_map_of_mem hy))]
      rw [List.find?_cons_of_pos (by simpa using e)]
      rw [e]
      exact Maps.atKey_put_same hD (by trivial) _ _
    · rw [List.find?_cons_of_neg (by simpa using e)]
      rw [putAll_at k z xs _ (hD.put _ _) hn'.2]
      rw [Maps.atKey_put_other (by intro h; exact e (by cases h; rfl))]
theorem names_nodup : ((allIx.filter vis).map nameOf).Nodup := of_decide_eq_true (by kernel_rfl)
theorem namesD_at (k : List UInt8) : (namesD allIx).atKey (.string k) (.lit (.int .i64 0)) = .lit (.int .i64 (numOf k)) := by
  show (putAll (.map []) (allIx.filter vis)).atKey _ _ = _
  rw [putAll_at k _ _ _ Maps.isMap_empty names_nodup]
  unfold numOf
  cases (allIx.filter vis).find? (fun x => nameOf x == k) <;> rfl
theorem large_size (s : ByteArray) : (large s).size = s.size := by
  show (List.map up s.data.toList).toArray.size = s.data.size
  simp

set_option maxRecDepth 100000 in
set_option maxHeartbeats 800000 in
theorem wFind (s : ByteArray) (hs : s.size ≤ 1000) (w : World) : Calls Try.prog 33 #[.string s] w fun e w' => e = .returned (.int .i64 (numOf (large s).data.toList)) ∧ Below w.heap.size w w' := by
  have hkey := WideMaps.keyOf_string_mk (P := Try.prog) Try.underlying9 (s := large s) (by rw [large_size]; unfold maxLen; omega)
  have hat0 := namesD_at (large s).data.toList
  have HL := Lib.hid (fun w => wLarge s hs w)
  obtain ⟨L, hL⟩ : ∃ L, L = large s := ⟨_, rfl⟩
  rw [← hL] at hkey hat0 HL ⊢
  obtain ⟨N, hN⟩ : ∃ N, N = numOf L.data.toList := ⟨_, rfl⟩
  rw [← hN] at hat0 ⊢
  have hat := Lib.hid hat0
  clear hN hL hat0 hs
  go_enter Try.func33, Try.ntmps33
  go_wp2_with (first
    | (go_at_call 59; refine (names_in _).mono ?_; rintro e w1 ⟨rfl, hown, hb_w1⟩)
    | (go_at_call 32; refine (HL.out _).mono ?_; rintro e w2 ⟨rfl, hb_w2⟩; obtain ⟨c, hrun, hc, hwc⟩ := (hown.kept (grown_of_below hb_w2) (fun e => by cases e)).lookup_int (Maps.string_keyed Try.underlying9) Try.underlying91 Try.underlying3 (Try.zeroValue3 _) hkey; rw [hat.out] at hc; have hcN : N = c := (by cases hc; rfl); subst hcN; clear hown hc hwc))
  go_ret
  exact ⟨rfl, by repeat (first | (with_reducible exact Below.refl _ _) | (with_reducible assumption) | (with_reducible apply bel_alloc) | (with_reducible apply bel_drew) | (with_reducible refine bel_set ?_ (by first | exact Nat.le_refl _ | (simp; done) | omega | (simp; omega)) _) | (with_reducible refine bel_trans ?_ (by with_reducible assumption)))⟩
end Go.Proofs.Ytcfblcgdjhpdaaa
