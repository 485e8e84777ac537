/- The reference's 'Words'. -/
import Derived.Test.YtjihhojlakapnaaDoorD1
namespace Go.Proofs.YtjihhojlakapnaaDoor
open Go.RowKit
set_option linter.unusedVariables false
set_option linter.unusedSimpArgs false
attribute [local go_sem] cell_set set_set m_undef

theorem infoHd : (Tryd.prog.info? 65).map (fun i => (i.zero, i.size, i.bytes)) = some (some (.agg #[.int .i64 0, .int .i64 0, .string ⟨#[]⟩, .bool false, .bool false, .int .i64 0]), 6, 48) := by kernel_rfl
/-- The cells of the header at a. -/
def hc (M : List UInt8) (a : Int) : List Value := [.int .i64 a, .int .i64 (linkL M a), .string ⟨(nameL M a).toArray⟩, .bool (immL M a), .bool (hidL M a), .int .i64 (rdXt M a)]
def hcs (M : List UInt8) (xs : List Int) : List Value := xs.flatMap (hc M)
theorem hcs_add (M : List UInt8) (xs : List Int) (x : Int) : hcs M (xs ++ [x]) = hcs M xs ++ hc M x := by simp [hcs]
theorem hcs_len (M : List UInt8) (xs : List Int) : (hcs M xs).length = xs.length * 6 := by
  induction xs with
  | nil => rfl
  | cons x xs ih => simp only [hcs, List.flatMap_cons, List.length_append, List.length_cons] at ih ⊢; rw [ih]; simp [hc]; omega
theorem hcs_at (M : List UInt8) (xs : List Int) (k i : Nat) (x : Int) (u : Value) (hx : xs[k]? = some x) (hu : (hc M x)[i]? = some u) : (hcs M xs)[k * 6 + i]? = some u := by
  induction xs generalizing k with
  | nil => simp at hx
  | cons y xs ih =>
    have hi : i < 6 := by
      have := (List.getElem?_eq_some_iff.1 hu).1
      simpa [hc] using this
    cases k with
    | zero =>
      simp at hx
      subst hx
      rw [Nat.zero_mul, Nat.zero_add]
      show (hc M y ++ hcs M xs)[i]? = some u
      rw [List.getElem?_append_left (by simp [hc]; omega)]
      exact hu
    | succ k =>
      show (hc M y ++ hcs M xs)[(k + 1) * 6 + i]? = some u
      rw [List.getElem?_append_right (by simp [hc]; omega)]
      have : (k + 1) * 6 + i - (hc M y).length = k * 6 + i := by simp [hc]; omega
      rw [this]
      exact ih k (by simpa using hx)
theorem take_next {α : Type} {l : List α} {k : Nat} {x : α} (h : l[k]? = some x) : l.take (k + 1) = l.take k ++ [x] := by rw [List.take_add_one, h]; rfl
theorem wordsW_len {M : List UInt8} : ∀ (n : Nat) (last at_ : Int), last.toNat ≤ n → (wordsW M last at_).length ≤ n := by
  intro n
  induction n with
  | zero =>
    intro last at_ hn
    rw [wordsW_no (fun h => by have := rdOk_lo h.1; omega)]
    exact Nat.le_refl _
  | succ n ih =>
    intro last at_ hn
    by_cases h : rdOk M at_ = true ∧ at_ < last
    · rw [wordsW_yes h.1 h.2]
      have := ih at_ (linkL M at_) (by have := rdOk_lo h.1; omega)
      simp only [List.length_cons]; omega
    · rw [wordsW_no h]; exact Nat.zero_le _
theorem wordsL_len (M : List UInt8) : (wordsL M).length ≤ 8192 := wordsW_len _ _ _ (by omega)
theorem Vs.lit6 (w : World) (a b c d e f : Value) (t : TypeId) (h : ∀ u ∈ [a, b, c, d, e, f], u.oneCell' = true) : Vs (w.alloc (.cells #[a, b, c, d, e, f] t)) 0 6 (.slice (some ⟨w.heap.size, 0, none⟩) 1 1) 1 [a, b, c, d, e, f] :=
  Vs.of_blk (Blk.new _ _ _) rfl (Nat.le_refl _) (Nat.le_refl _) (fun j u hj => by simpa using hj) h (Nat.zero_le _)

theorem RefP.base_le' {w : World} {B rb : Nat} {M : List UInt8} {R : Nat → Prop} (h : RefP w B rb M R) : B ≤ w.heap.size := by
  obtain ⟨vb, ob, h1, h6⟩ := id h
  have := h.lt ((h6 rb).2 (.inl rfl))
  omega
attribute [local irreducible] wordsL latestL rdOk rdV linkL nameL immL hidL rdXt loadL hereL
set_option maxRecDepth 100000 in
set_option maxHeartbeats 1600000 in
theorem rWords {w : World} {B rb : Nat} {M : List UInt8} {R : Nat → Prop} (h : RefP w B rb M R) :
    Calls Tryd.prog 32 #[.pointer (some ⟨rb, 0, none⟩)] w fun e w' => RefX w w' B rb R (fun v : Value => v) (fun _ => M) (fun v => .vsN w.heap.size 6 v (wordsL M).length (hcs M (wordsL M))) e := by
  have hS := Onr.start h h.base_le'
  have hLt := Lib.hid (fun (w9 : World) (O : Nat → Prop) (h : RefP w9 B rb M O) => rLatest h)
  have hRd := Lib.hid (fun (a : Int) (ha : isI a) (w9 : World) (O : Nat → Prop) (h : RefP w9 B rb M O) => rRead h a ha)
  have hx0 := Lib.hid (show (wordsL M).drop 0 = wordsW M 8192 (latestL M) by unfold wordsL; exact List.drop_zero)
  have ha0 := latestL_isI M
  have hln := wordsL_len M
  generalize wordsL M = xs at *
  generalize latestL M = a0 at *
  clear h
  go_enter Tryd.func32, Tryd.ntmps32
  go_wp2_with (go_at_call 47; refine (hS.read (fun O h => hLt.out _ _ h)).mono ?_; rintro e w1 ⟨rfl, hS2⟩; clear hS; have hS := hS2; clear hS2)
  go_loopw [3, 4] (fun l i wr => ∃ (k : Nat) (la at_ : Int), i = .int .i64 at_ ∧ k ≤ xs.length ∧ xs.drop k = wordsW M la at_ ∧ isI at_ ∧ (k = 0 → la = 8192) ∧ (∀ j, k = j + 1 → xs[j]? = some la) ∧ 0 ≤ la ∧ la ≤ 8192 ∧ Onr w wr B rb M R (Kp.emp.and (.vs 6 l k (hcs M (xs.take k)))) ∧ (∀ b, l.ownBlock = some b → w.heap.size ≤ b ∧ ¬ Kp.emp.S b)) (fun l i wr => match l with | .slice _ n _ => 8192 - n | _ => 0)
  case atStart => exact ⟨0, 8192, a0, rfl, Nat.zero_le _, hx0.out, ha0, fun _ => rfl, fun j e => (by cases e), by omega, by omega, hS.keep (fun O h => h.and (Keep.vs (Vs.nil _ 0 6) (fun b hb => by cases hb))), fun b hb => by cases hb⟩
  case round =>
    obtain ⟨k, la, at_, rfl, hk, hdr, hIa, hk0, hk1, hl0, hl8, hS, hown⟩ := hrel
    obtain ⟨ad, cap, rfl, hcap⟩ := hS.fact.2.form
    clear hcap
    obtain ⟨A, K, H, I, D, X, hV, -⟩ := rdV_form M at_
    have hR := hRd.out at_ hIa
    rw [hV] at hR
    by_cases h1 : rdOk M at_ = true
    · have hlo := rdOk_lo h1
      rw [h1] at hR
      have hR' := Lib.hid hR
      have hV2 := hV
      rw [rdV_ok h1] at hV2
      injection hV2 with hV2
      have hHc : hc M at_ = [.int .i64 A, .int .i64 K, .string H, .bool I, .bool D, .int .i64 X] := (Array.mk.injEq _ _).mp hV2
      have hKe : K = linkL M at_ := by simp at hV2; exact hV2.2.1.symm
      have hIK : isI K := by rw [hKe]; exact linkL_isI M at_
      clear hR hV2
      by_cases t1 : la ≤ at_
      · have hkl : k = xs.length := by
          rw [wordsW_no (by omega)] at hdr
          have := congrArg List.length hdr
          rw [List.length_drop] at this
          simp at this
          omega
        obtain ⟨j, hj⟩ : ∃ j, k = j + 1 := by
          cases k with
          | zero => have := hk0 rfl; omega
          | succ j => exact ⟨j, rfl⟩
        have hxj := hk1 j hj
        subst hj
        obtain ⟨bv, o, cp, e⟩ := hS.fact.2.some_of (by omega)
        cases e
        have hxs : hcs M (xs.take (j + 1)) = hcs M xs := by rw [hkl, List.take_length]
        have hln' := Lib.hid hln
        have hk8 := Lib.hid (show j + 1 ≤ xs.length by omega)
        have hkl' := Lib.hid hkl
        clear hHc hKe hIK hdr hk hV h1 hlo hk0 hk1 hln hkl
        go_upto_region 4 with (go_at_call 48; refine (hS.read (fun O h => hR'.out _ O h)).mono ?_; rintro e w2 ⟨rfl, hS2⟩; clear hS; have hS := hS2; clear hS2)
        have hS2 := hS.alloc (.cells #[.int .i64 A, .int .i64 K, .string H, .bool I, .bool D, .int .i64 X] 65)
        obtain ⟨w3, hw3⟩ : ∃ w3, w3 = w2.alloc (.cells #[.int .i64 A, .int .i64 K, .string H, .bool I, .bool D, .int .i64 X] 65) := ⟨_, rfl⟩
        rw [← hw3] at hS2 ⊢
        clear hS hw3
        have hS := hS2
        clear hS2
        have zc : w3.cell? ⟨bv, o + j * 6, none⟩ = some (.int .i64 la) := hS.fact.2.cell (j * 6 + 0) _ (hcs_at M _ j 0 la _ (by rw [List.getElem?_take, if_pos (Nat.lt_succ_self j)]; exact hxj) rfl)
        have wq : IntKind.i64.wrap (j : Int) = (j : Int) := by rw [IntKind.wrap_i64]; have := hk8.out; have := hln'.out; omega
        have t0 : 0 < j + 1 := Nat.succ_pos j
        go_wp2
        go_ret
        obtain ⟨O', q1, q2, q3, q4⟩ := hS
        rw [hxs, hkl'.out] at q3
        exact ⟨_, O', hkl'.out ▸ rfl, q1, q2, q3.right.vsN (fun b hb => (hown b (hkl'.out ▸ hb)).1)⟩
      · have hwy := hdr
        rw [wordsW_yes h1 (by omega), ← hKe] at hwy
        obtain ⟨hx, hdr2⟩ := drop_cons hwy
        clear hwy hKe
        cases k with
        | zero =>
          clear hk0 hk1
          have hxe := Lib.hid (show hcs M (xs.take 0) ++ [.int .i64 A, .int .i64 K, .string H, .bool I, .bool D, .int .i64 X] = hcs M (xs.take (0 + 1)) by rw [take_next hx, hcs_add, hHc])
          have hx' := Lib.hid hx
          have hd2 := Lib.hid hdr2
          have hk8 := Lib.hid (show 0 + 1 ≤ xs.length by have := (List.getElem?_eq_some_iff.1 hx).1; omega)
          have hIK' := Lib.hid hIK
          have hlo' := Lib.hid hlo
          have hln' := Lib.hid hln
          clear hHc hx hdr2 hlo hIK hdr hk hV h1 hln
          go_upto_region 4 with (go_at_call 48; refine (hS.read (fun O h => hR'.out _ O h)).mono ?_; rintro e w2 ⟨rfl, hS2⟩; clear hS; have hS := hS2; clear hS2)
          have hsv : ∀ b, (Value.slice ad 0 cap).ownBlock = some b → b < w2.heap.size := fun b hb => hS.slt (.inr hb)
          have hS2 := hS.new #[.int .i64 A, .int .i64 K, .string H, .bool I, .bool D, .int .i64 X] 65
          obtain ⟨b1, hb1⟩ : ∃ b1, b1 = w2.heap.size := ⟨_, rfl⟩
          obtain ⟨w3, hw3⟩ : ∃ w3, w3 = w2.alloc (.cells #[.int .i64 A, .int .i64 K, .string H, .bool I, .bool D, .int .i64 X] 65) := ⟨_, rfl⟩
          rw [← hw3, ← hb1] at hS2 ⊢
          rw [← hb1] at hsv
          clear hS hw3 hb1
          have hS : Onr w w3 B rb M R ((Kp.emp.and (.blk b1 #[.int .i64 A, .int .i64 K, .string H, .bool I, .bool D, .int .i64 X] 65)).and (.vs 6 (Value.slice ad 0 cap) 0 (hcs M (xs.take 0)))) := hS2.keep fun O h => (h.left.left.and h.right).and h.left.right
          have hown2 : ∀ b, (Value.slice ad 0 cap).ownBlock = some b → w.heap.size ≤ b ∧ ¬ (Kp.emp.and (.blk b1 #[.int .i64 A, .int .i64 K, .string H, .bool I, .bool D, .int .i64 X] 65)).S b := fun b hb => ⟨(hown b hb).1, fun h => by
            rcases h with h | h
            · exact h
            · have h2 : b = b1 := h
              have := hsv b hb
              omega⟩
          clear hS2 hsv hown
          go_upto_region 6 with fail
          have hSa := hS.alloc (.cells #[.int .i64 A, .int .i64 K, .string H, .bool I, .bool D, .int .i64 X] 65)
          obtain ⟨v', w4, hr, hS4, hown4, hsz⟩ := Onr.appendVs (P := Tryd.prog) (ty := 62) hSa hown2 ((Vs.lit6 _ (.int .i64 A) (.int .i64 K) (.string H) (.bool I) (.bool D) (.int .i64 X) _ (by simp [Value.oneCell'])).src (t := 62) Tryd.underlying62) Tryd.underlying62 infoHd rfl (by omega) (by have := hk8.out; have := hln'.out; omega) (by have := hk8.out; have := hln'.out; omega)
          obtain ⟨a', c', rfl, hcap'⟩ := hS4.fact.2.form
          rw [hxe.out] at hS4
          obtain ⟨y1, y2, y3, y4, y5, y6⟩ := hS.fact.1.2.c6
          obtain ⟨z1, z2, z3, z4, z5, z6⟩ := hS4.fact.1.2.c6
          have hT4 := Lib.hid (hS4.keep (L := Kp.emp.and (.vs 6 (.slice a' (0 + 1) c') (0 + 1) (hcs M (xs.take (0 + 1))))) fun O h => h.left.left.and h.right)
          have hT5 := Lib.hid hown4
          clear hS hSa hS4 hown2 hown4 hcap' hsz hR'
          go_wp2_with (at_builtin; refine wpList_append_bs rfl _ _ 62 rfl hr rfl rfl ?_)
          go_roundw
          case rel => exact ⟨0 + 1, at_, K, rfl, hk8.out, hd2.out, hIK'.out, fun h => (by cases h), fun j e => (by cases e; exact hx'.out), by have := hlo'.out; omega, by have := hlo'.out; omega, hT4.out, fun b hb => ⟨(hT5.out b hb).1, id⟩⟩
          case measure => have := hk8.out; have := hln'.out; simp
        | succ j =>
          have hxj := hk1 j rfl
          obtain ⟨bv, o, cp, e⟩ := hS.fact.2.some_of (by omega)
          cases e
          clear hk0 hk1
          have hxe := Lib.hid (show hcs M (xs.take (j + 1)) ++ [.int .i64 A, .int .i64 K, .string H, .bool I, .bool D, .int .i64 X] = hcs M (xs.take ((j + 1) + 1)) by rw [take_next hx, hcs_add, hHc])
          have hx' := Lib.hid hx
          have hd2 := Lib.hid hdr2
          have hk8 := Lib.hid (show (j + 1) + 1 ≤ xs.length by have := (List.getElem?_eq_some_iff.1 hx).1; omega)
          have hIK' := Lib.hid hIK
          have hlo' := Lib.hid hlo
          have hln' := Lib.hid hln
          clear hHc hx hdr2 hlo hIK hdr hk hV h1 hln
          go_upto_region 4 with (go_at_call 48; refine (hS.read (fun O h => hR'.out _ O h)).mono ?_; rintro e w2 ⟨rfl, hS2⟩; clear hS; have hS := hS2; clear hS2)
          have hsv : ∀ b, (Value.slice (some ⟨bv, o, none⟩) (j + 1) cap).ownBlock = some b → b < w2.heap.size := fun b hb => hS.slt (.inr hb)
          have hS2 := hS.new #[.int .i64 A, .int .i64 K, .string H, .bool I, .bool D, .int .i64 X] 65
          obtain ⟨b1, hb1⟩ : ∃ b1, b1 = w2.heap.size := ⟨_, rfl⟩
          obtain ⟨w3, hw3⟩ : ∃ w3, w3 = w2.alloc (.cells #[.int .i64 A, .int .i64 K, .string H, .bool I, .bool D, .int .i64 X] 65) := ⟨_, rfl⟩
          rw [← hw3, ← hb1] at hS2 ⊢
          rw [← hb1] at hsv
          clear hS hw3 hb1
          have hS : Onr w w3 B rb M R ((Kp.emp.and (.blk b1 #[.int .i64 A, .int .i64 K, .string H, .bool I, .bool D, .int .i64 X] 65)).and (.vs 6 (Value.slice (some ⟨bv, o, none⟩) (j + 1) cap) (j + 1) (hcs M (xs.take (j + 1))))) := hS2.keep fun O h => (h.left.left.and h.right).and h.left.right
          have hown2 : ∀ b, (Value.slice (some ⟨bv, o, none⟩) (j + 1) cap).ownBlock = some b → w.heap.size ≤ b ∧ ¬ (Kp.emp.and (.blk b1 #[.int .i64 A, .int .i64 K, .string H, .bool I, .bool D, .int .i64 X] 65)).S b := fun b hb => ⟨(hown b hb).1, fun h => by
            rcases h with h | h
            · exact h
            · have h2 : b = b1 := h
              have := hsv b hb
              omega⟩
          clear hS2 hsv hown
          have zc : w3.cell? ⟨bv, o + j * 6, none⟩ = some (.int .i64 la) := hS.fact.2.cell (j * 6 + 0) _ (hcs_at M _ j 0 la _ (by rw [List.getElem?_take, if_pos (Nat.lt_succ_self j)]; exact hxj) rfl)
          have wq : IntKind.i64.wrap (j : Int) = (j : Int) := by rw [IntKind.wrap_i64]; have := hk8.out; have := hln'.out; omega
          have t0 : 0 < j + 1 := Nat.succ_pos j
          go_upto_region 6 with fail
          have hSa := hS.alloc (.cells #[.int .i64 A, .int .i64 K, .string H, .bool I, .bool D, .int .i64 X] 65)
          obtain ⟨v', w4, hr, hS4, hown4, hsz⟩ := Onr.appendVs (P := Tryd.prog) (ty := 62) hSa hown2 ((Vs.lit6 _ (.int .i64 A) (.int .i64 K) (.string H) (.bool I) (.bool D) (.int .i64 X) _ (by simp [Value.oneCell'])).src (t := 62) Tryd.underlying62) Tryd.underlying62 infoHd rfl (by omega) (by have := hk8.out; have := hln'.out; omega) (by have := hk8.out; have := hln'.out; omega)
          obtain ⟨a', c', rfl, hcap'⟩ := hS4.fact.2.form
          rw [hxe.out] at hS4
          obtain ⟨y1, y2, y3, y4, y5, y6⟩ := hS.fact.1.2.c6
          obtain ⟨z1, z2, z3, z4, z5, z6⟩ := hS4.fact.1.2.c6
          have hT4 := Lib.hid (hS4.keep (L := Kp.emp.and (.vs 6 (.slice a' ((j + 1) + 1) c') ((j + 1) + 1) (hcs M (xs.take ((j + 1) + 1))))) fun O h => h.left.left.and h.right)
          have hT5 := Lib.hid hown4
          clear hS hSa hS4 hown2 hown4 hcap' hsz hR'
          go_wp2_with (at_builtin; refine wpList_append_bs rfl _ _ 62 rfl hr rfl rfl ?_)
          go_roundw
          case rel => exact ⟨(j + 1) + 1, at_, K, rfl, hk8.out, hd2.out, hIK'.out, fun h => (by cases h), fun j e => (by cases e; exact hx'.out), by have := hlo'.out; omega, by have := hlo'.out; omega, hT4.out, fun b hb => ⟨(hT5.out b hb).1, id⟩⟩
          case measure => have := hk8.out; have := hln'.out; simp; omega
    · have hkl : k = xs.length := by
        rw [wordsW_no (fun h => h1 h.1)] at hdr
        have := congrArg List.length hdr
        rw [List.length_drop] at this
        simp at this
        omega
      have hf : rdOk M at_ = false := by simpa using h1
      rw [hf] at hR
      have hR' := Lib.hid hR
      have hxs : hcs M (xs.take k) = hcs M xs := by rw [hkl, List.take_length]
      clear hR hf h1 hdr hV hk0 hk1 hk
      go_wp2_with (go_at_call 48; refine (hS.read (fun O h => hR'.out _ O h)).mono ?_; rintro e w2 ⟨rfl, hS2⟩; clear hS; have hS := hS2; clear hS2)
      go_ret
      replace hS := hS.alloc (.cells #[.int .i64 A, .int .i64 K, .string H, .bool I, .bool D, .int .i64 X] 65)
      obtain ⟨O', q1, q2, q3, q4⟩ := hS
      rw [hxs] at q3
      subst hkl
      exact ⟨_, O', rfl, q1, q2, q3.right.vsN (fun b hb => (hown b hb).1)⟩
end Go.Proofs.YtjihhojlakapnaaDoor
