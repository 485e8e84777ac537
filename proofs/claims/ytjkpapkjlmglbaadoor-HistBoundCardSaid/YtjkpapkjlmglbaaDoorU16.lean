/- 'HistLast'. -/
import Derived.Test.YtjkpapkjlmglbaaDoorU15
namespace Go.Proofs.YtjkpapkjlmglbaaDoor
open Go.RowKit
set_option linter.unusedVariables false
set_option linter.unusedSimpArgs false
attribute [local go_sem] cell_set set_set m_undef

theorem slice_to (w : World) (b o n c k : Nat) (hk : k ≤ c) : (Instr.slice 29 (.slice (some ⟨b, o, none⟩) n c) none (some (.int .i64 (k : Int))) none).run Tryd.prog w = .ok (.slice (some ⟨b, o, none⟩) k c) w := by
  have h0 : (0 : Int) ≤ (k : Int) := by omega
  have h2 : (k : Int) ≤ (c : Int) := by omega
  simp [go_sem, sliced, h0, h2]
theorem slice_from (w : World) (b o n c k : Nat) (hk : k ≤ n) (hc : n ≤ c) : (Instr.slice 29 (.slice (some ⟨b, o, none⟩) n c) (some (.int .i64 (k : Int))) none none).run Tryd.prog w = .ok (.slice (some ⟨b, (if c = k then o else o + k), none⟩) (n - k) (c - k)) w := by
  have h0 : (0 : Int) ≤ (k : Int) := by omega
  have h2 : (k : Int) ≤ (n : Int) := by omega
  by_cases e : c = k
  · simp [go_sem, sliced, h0, h2, e]
  · simp [go_sem, sliced, h0, h2, e]
theorem slice_nil (w : World) : (Instr.slice 29 (.slice none 0 0) (some (.int .i64 0)) none none).run Tryd.prog w = .ok (.slice none 0 0) w := by
  simp [go_sem, sliced]
theorem addr_add (b o i : Nat) : (⟨b, o, none⟩ : Addr).add i = ⟨b, o + i, none⟩ := by
  cases i <;> simp [Addr.add]
theorem sl_one (L : List (List UInt8)) : ∀ u ∈ sl L, u.oneCell' = true := by
  intro u hu
  unfold sl at hu
  obtain ⟨x, _, rfl⟩ := List.mem_map.1 hu
  rfl
/-- The tail of a slice of texts. -/
theorem rv_from {w : World} {a : Option Addr} {n c : Nat} {L : List (List UInt8)} (h : Vs w 0 1 (.slice a n c) n (sl L)) (j : Nat) (hj : j ≤ n) :
    ∃ V, (∀ w9 : World, (Instr.slice 29 (.slice a n c) (some (.int .i64 (j : Int))) none none).run Tryd.prog w9 = .ok V w9) ∧ ∀ w9 : World, Vs w9 0 1 (.slice a n c) n (sl L) → Rv w9 1 V (n - j) (sl (L.drop j)) := by
  have hh := h
  obtain ⟨h1, h2, h3⟩ := h
  rw [sl_len] at h1
  rcases h3 with ⟨e, e0⟩ | ⟨b, o, cap, e, -, hc, -⟩
  · cases e
    have hj0 : j = 0 := by omega
    subst hj0
    exact ⟨_, fun w9 => slice_nil w9, fun w9 h9 => h9.rv⟩
  · cases e
    obtain ⟨a9, c9, e9, hle⟩ := hh.form
    cases e9
    refine ⟨_, fun w9 => slice_from w9 b o n c j hj hle, fun w9 h9 => ⟨by rw [sl_len, List.length_drop]; omega, sl_one _, .inr ⟨_, _, rfl, fun i u hi => ?_⟩⟩⟩
    have hi2 : (sl L)[j + i]? = some u := by
      unfold sl at hi ⊢
      rwa [List.map_drop, List.getElem?_drop] at hi
    have hlt := (List.getElem?_eq_some_iff.1 hi2).1
    rw [sl_len] at hlt
    have := h9.cell (j + i) u hi2
    rw [if_neg (by omega), addr_add, Nat.add_assoc]
    exact this
theorem rv_to {w : World} {b o n c : Nat} {L : List (List UInt8)} (h : Vs w 0 1 (.slice (some ⟨b, o, none⟩) n c) n (sl L)) (k : Nat) (hk : k ≤ n) : Rv w 1 (.slice (some ⟨b, o, none⟩) k c) k (sl (L.take k)) := by
  have hn := h.1
  rw [sl_len] at hn
  refine ⟨by rw [sl_len, List.length_take]; omega, sl_one _, .inr ⟨_, _, rfl, fun i u hi => ?_⟩⟩
  have hi2 : (sl L)[i]? = some u := by
    unfold sl at hi ⊢
    rw [List.map_take] at hi
    rw [List.getElem?_take] at hi
    split at hi
    · exact hi
    · cases hi
  rw [addr_add]
  exact h.cell i u hi2
attribute [local irreducible] textV linesL addM
set_option maxRecDepth 100000 in
set_option maxHeartbeats 4000000 in
theorem histLast {w : World} (v : Value) (l : List UInt8) (h : Rb w v l) (S : ByteArray) (_ : S.size ≤ maxLen) (hg : GL w) : Calls Tryd.prog 4 #[v, .string S] w fun e w' => e = .returned (.bool true) ∧ Below w.heap.size w w' := by
  obtain ⟨ad, cap, rfl⟩ := h.form
  have hA := Lib.hid (wAwakeH w hg)
  by_cases hl : 9000 < l.length
  · clear h
    have t1 : ((9000 : Int) < (l.length : Int)) = True := by simp; omega
    go_enter Tryd.func4, Tryd.ntmps4
    go_wp2_with (go_at_call 6; refine hA.out.mono ?_; rintro e w1 ⟨rfl, hb1⟩)
    go_ret
    exact ⟨rfl, hb1⟩
  have t1 : ((9000 : Int) < (l.length : Int)) = False := by simp; omega
  by_cases hn : 200 < S.size
  · clear h
    have t2 : ((200 : Int) < (S.size : Int)) = True := by simp; omega
    go_enter Tryd.func4, Tryd.ntmps4
    go_wp2_with (go_at_call 6; refine hA.out.mono ?_; rintro e w1 ⟨rfl, hb1⟩)
    go_ret
    exact ⟨rfl, hb1⟩
  have t2 : ((200 : Int) < (S.size : Int)) = False := by simp; omega
  have hF1 := fun (w9 : World) (h9 : Rb w9 (.slice ad l.length cap) l) => wFlatR w9 _ l h9
  unfold FlatQ at hF1
  have hML := flatL_len l
  generalize flatL l = M at *
  obtain ⟨lb, hlb⟩ : ∃ lb : List UInt8, S = ⟨lb.toArray⟩ := ⟨S.data.toList, by simp⟩
  have hsz : S.size = lb.length := by rw [hlb, str_size]
  obtain ⟨j, hj, hL2⟩ := lines_addM hML lb
  have hLw := fun (w9 : World) (B mb : Nat) (O : Nat → Prop) (h : MemP w9 B mb M O) (hb : B ≤ w9.heap.size) (hk : Keep w9 O PW) => wLines h hb hk
  have hAd := fun (w9 : World) (B mb : Nat) (O : Nat → Prop) (h : MemP w9 B mb M O) (hb : B ≤ w9.heap.size) (hk : Keep w9 O PW) => wAdd h hb hk lb (by omega)
  rw [← hlb] at hAd
  generalize addM M lb = M2 at *
  have hLw2 := fun (w9 : World) (B mb : Nat) (O : Nat → Prop) (h : MemP w9 B mb M2 O) (hb : B ≤ w9.heap.size) (hk : Keep w9 O PW) => wLines h hb hk
  have hol := linesL_len (textV M)
  have htl := textV_len M
  rw [hL2] at hLw2
  generalize linesL (textV M) = old at *
  obtain ⟨D, hD⟩ : ∃ D, D = old.drop j := ⟨_, rfl⟩
  rw [← hD] at hLw2
  obtain ⟨k, hk⟩ : ∃ k, k = D.length := ⟨_, rfl⟩
  have hkj : k = old.length - j := by rw [hk, hD, List.length_drop]
  have hSm := fun (w9 : World) (v u : Value) (hv : Rv w9 1 v k (sl D)) (hu : Rv w9 1 u k (sl D)) => wSame w9 v u D D (by rw [← hk]; exact hv) (by rw [← hk]; exact hu) (by omega) (by omega)
  rw [show decide (D = D) = true by simp] at hSm
  have hK0 := keepPW hg
  have hlno := Lib.hid hlb
  replace h := Lib.hid h
  replace hF1 := Lib.hid hF1
  replace hLw := Lib.hid hLw
  replace hLw2 := Lib.hid hLw2
  replace hAd := Lib.hid hAd
  replace hSm := Lib.hid hSm
  replace hK0 := Lib.hid hK0
  replace hD := Lib.hid hD
  replace hk := Lib.hid hk
  replace hkj := Lib.hid hkj
  replace hL2 := Lib.hid hL2
  replace hsz := Lib.hid hsz
  clear hl hg hML
  clear hlb
  go_enter Tryd.func4, Tryd.ntmps4
  go_wp2_with (go_at_call 6; refine hA.out.mono ?_; rintro e w1 ⟨rfl, hb1⟩)
  go_loopw [5] (fun p wr => ∃ i : Nat, p = .int .i64 (i : Int) ∧ i ≤ S.size ∧ (10 : UInt8) ∉ lb.take i ∧ Below w.heap.size w wr) (fun p wr => S.size - (intOf p).toNat)
  case atStart => exact ⟨0, rfl, Nat.zero_le _, by simp, hb1⟩
  case round =>
    clear hb1
    obtain ⟨i, rfl, hi, hno, hb⟩ := hrel
    by_cases hlt : i < S.size
    · have t3 : ((i : Int) < (S.size : Int)) = True := eq_true (by omega)
      have i1 : (0 : Int) ≤ (i : Int) := by omega
      have i2 : (i : Int) < (S.size : Int) := by omega
      have wi : IntKind.i64.wrap ((i : Int) + 1) = ((i + 1 : Nat) : Int) := by rw [IntKind.wrap_i64]; omega
      by_cases cb : ((S[i]'hlt).toNat : Int) = 10
      · have t5 : ((((S[i]'hlt).toNat : Int)) == 10) = true := by simp [cb]
        have t5' : (((S[i]'hlt).toNat : Int) = 10) = True := eq_true cb
        clear cb hi hno
        go_wp2
        go_ret
        exact ⟨rfl, hb⟩
      · have t5 : ((((S[i]'hlt).toNat : Int)) == 10) = false := by simp [cb]
        have t5' : (((S[i]'hlt).toNat : Int) = 10) = False := eq_false cb
        have hno2 := Lib.hid (show (10 : UInt8) ∉ lb.take (i + 1) from fun hm => by
          have hil : i < lb.length := by have := hsz.out; omega
          rw [List.take_succ_eq_append_getElem hil] at hm
          rcases List.mem_append.1 hm with hm | hm
          · exact hno hm
          · have e : (10 : UInt8) = lb[i] := List.mem_singleton.1 hm
            have hSe := hlno.out
            subst hSe
            have e2 : (⟨lb.toArray⟩ : ByteArray)[i]'hlt = lb[i] := rfl
            rw [e2, ← e] at cb
            exact cb rfl)
        have hlt' := Lib.hid hlt
        have hb' := Lib.hid hb
        clear cb hi hno hb
        go_wp2
        go_roundw
        case rel => exact ⟨i + 1, rfl, hlt'.out, hno2.out, hb'.out⟩
        case measure => have := hlt'.out; simp [intOf]; omega
    · have hie : i = S.size := by omega
      subst hie
      have t3 : ((S.size : Int) < (S.size : Int)) = False := eq_false (by omega)
      have hnoL : (10 : UInt8) ∉ lb := by rw [List.take_of_length_le (by have := hsz.out; omega)] at hno; exact hno
      have how : ownL lb = lb := ownL_self hnoL (by have := hsz.out; omega)
      have hLw2' := hLw2.out
      rw [how] at hLw2'
      replace hLw2' := Lib.hid hLw2'
      have hlen2 : (D ++ [lb]).length = k + 1 := by rw [List.length_append, hk.out]; rfl
      have hlast : (sl (D ++ [lb]))[k]? = some (.string S) := by
        rw [sl_at (D ++ [lb]) k (by omega)]
        have e : (D ++ [lb])[k]'(by omega) = lb := by
          have hkk := hk.out
          subst hkk
          simp
        rw [e, ← hlno.out]
      have htk : (D ++ [lb]).take k = D := by rw [hk.out]; simp
      have h1w := Lib.hid (h.out.below hb)
      have hK1 := Lib.hid (hK0.out.turn (Turn.of_below hb _))
      replace hb := Lib.hid hb
      replace hlast := Lib.hid hlast
      have wk : IntKind.i64.wrap (((D ++ [lb]).length : Int) - 1) = (k : Int) := by rw [hlen2, IntKind.wrap_i64]; have := hkj.out; omega
      have wj : IntKind.i64.wrap ((old.length : Int) - (k : Int)) = (j : Int) := by rw [IntKind.wrap_i64]; have := hkj.out; omega
      have q1 : (0 : Int) ≤ (k : Int) := by omega
      have q2 : ((k : Int) ≤ (old.length : Int)) = True := eq_true (by have := hkj.out; omega)
      have q2' : (k ≤ old.length) = True := eq_true (by have := hkj.out; omega)
      have q3 : (k : Int) < ((D ++ [lb]).length : Int) := by omega
      have hkn : k ≤ (D ++ [lb]).length := by omega
      generalize D ++ [lb] = L2 at *
      obtain ⟨n1, hn1⟩ : ∃ n1, n1 = L2.length := ⟨_, rfl⟩
      have hn1' := hn1
      rw [← hn1] at wk q3 hlen2
      have hpos : n1 ≠ 0 := by omega
      replace hn1 := Lib.hid hn1
      replace hlen2 := Lib.hid hlen2
      have htk' := Lib.hid htk
      clear hnoL how hno hlt hi hn1' htk
      go_upto_region 17 with (first
        | (go_at_call 7; refine (hF1.out _ h1w.out).mono ?_; rintro e w2 ⟨mb, O2, rfl, hP2, hb2⟩; have hT := Uno.make hb.out hK1.out hP2 hb2; clear hP2 hb2)
        | (go_at_call 10; refine (hT.memXK (fun B O h hb hk => hLw.out _ _ _ _ h hb hk)).mono ?_; rintro e w4 ⟨v4, rfl, hT2⟩; clear hT; have hT := hT2.keep (L := PW.and (.vs 1 v4 old.length (sl old))) fun O h => h.left.and h.right.left; clear hT2; obtain ⟨a4, c4, rfl, -⟩ := (show Vs _ 0 1 _ _ _ from hT.fact.2).form; obtain ⟨V2, hs2, hR2⟩ := rv_from (show Vs _ 0 1 _ _ _ from hT.fact.2) j hj)
        | (go_at_call 14; refine (hT.memK (fun B O h hb hk => hAd.out _ _ _ _ h hb hk.left)).mono ?_; rintro e w5 ⟨rfl, hU⟩; clear hT)
        | (go_at_call 10; refine (hU.memXK (fun B O h hb hk => hLw2'.out _ _ _ _ h hb hk.left)).mono ?_; rintro e w6 ⟨v6, rfl, hU2⟩; clear hU; have hU3 := hU2.keep (L := (PW.and (.vs 1 (.slice a4 old.length c4) old.length (sl old))).and (.vs 1 v6 L2.length (sl L2))) fun O h => h.left.and h.right.left; clear hU2; rw [← hn1.out] at hU3; obtain ⟨b, o, c, rfl⟩ := (show Vs _ 0 1 _ _ _ from hU3.fact.2).some_of hpos))
      have hkc : k ≤ c := by
        obtain ⟨a9, c9, e9, hle⟩ := (show Vs _ 0 1 (.slice (some ⟨b, o, none⟩) n1 c) n1 _ from hU3.fact.2).form
        cases e9
        have := hlen2.out; omega
      have hs1 := fun (w9 : World) => slice_to w9 b o n1 c k hkc
      have hR1f := Lib.hid (fun (w9 : World) (h9 : Vs w9 0 1 (.slice (some ⟨b, o, none⟩) n1 c) n1 (sl L2)) => (show Rv w9 1 (.slice (some ⟨b, o, none⟩) k c) k (sl D) by
        have := rv_to h9 k (by have := hlen2.out; omega)
        rw [htk'.out] at this
        exact this))
      have hR2f := Lib.hid (fun (w9 : World) (h9 : Vs w9 0 1 (.slice a4 old.length c4) old.length (sl old)) => (show Rv w9 1 V2 k (sl D) by
        have := hR2 w9 h9
        rw [← hkj.out, ← hD.out] at this
        exact this))
      have hU := hU3.drew
      have z0 := (show Vs _ 0 1 _ _ _ from hU.fact.2).cell k _ hlast.out
      clear hU3 hR2 hkc hkn
      refine wp_region_noPanic ?_
      refine wp_region_held_drew (S := (fun w9 => w9.cell? ⟨b, o + k, none⟩ = some (.string S))) (by kernel_rfl) ?_ (fun hHeld => ?_)
      · (try dsimp only); exact z0
      refine wpAnyH_take (i := 0) (oi := { dst := some 44, op := Go.Op.move (Go.Operand.tmp 9), type := 3, pos := "law.go:96", after := #[], guard := none }) (v := ?v1) rfl (by kernel_rfl) (by kernel_rfl) (by kernel_rfl) (fun _ _ _ h => h) (Or.inl ⟨by rfl, ?hy1⟩) (by assumption) ?rest1
      case hy1 => (intro w hSw; (try dsimp only at hSw); have y0 : w.cell? ⟨b, o + k, none⟩ = some (.string S) := hSw; go_simp <;> with_reducible rfl)
      try simp only [Act.put, List.setIfInBounds_toArray, List.set_cons_zero, List.set_cons_succ]
      refine wpAnyH_take (i := 1) (oi := { dst := some 45, op := Go.Op.binOp Go.BinOp.geq 3 (Go.Operand.tmp 44) (Go.Operand.const (Go.Value.int Go.IntKind.i64 0)) 3, type := 4, pos := "law.go:96", after := #[{ on := 0, ground := Go.Ground.data }], guard := none }) (v := ?v2) rfl (by kernel_rfl) (by kernel_rfl) (by kernel_rfl) (fun _ _ _ h => h) (Or.inl ⟨by rfl, ?hy2⟩) (by assumption) ?rest2
      case hy2 => (intro w hSw; (try dsimp only at hSw); have y0 : w.cell? ⟨b, o + k, none⟩ = some (.string S) := hSw; go_simp <;> with_reducible rfl)
      try simp only [Act.put, List.setIfInBounds_toArray, List.set_cons_zero, List.set_cons_succ]
      refine wpAnyH_take (i := 2) (oi := { dst := some 46, op := Go.Op.move (Go.Operand.tmp 45), type := 4, pos := "law.go:96", after := #[{ on := 1, ground := Go.Ground.data }], guard := none }) (v := ?v3) rfl (by kernel_rfl) (by kernel_rfl) (by kernel_rfl) (fun _ _ _ h => h) (Or.inl ⟨by rfl, ?hy3⟩) (by assumption) ?rest3
      case hy3 => (intro w hSw; (try dsimp only at hSw); have y0 : w.cell? ⟨b, o + k, none⟩ = some (.string S) := hSw; go_simp <;> with_reducible rfl)
      try simp only [Act.put, List.setIfInBounds_toArray, List.set_cons_zero, List.set_cons_succ]
      refine wpAnyH_take (i := 3) (oi := { dst := some 47, op := Go.Op.move (Go.Operand.tmp 9), type := 3, pos := "law.go:96", after := #[{ on := 2, ground := Go.Ground.guard }], guard := some (2, true) }) (v := ?v4) rfl (by kernel_rfl) (by kernel_rfl) (by kernel_rfl) (fun _ _ _ h => h) (Or.inl ⟨by rfl, ?hy4⟩) (by assumption) ?rest4
      case hy4 => (intro w hSw; (try dsimp only at hSw); have y0 : w.cell? ⟨b, o + k, none⟩ = some (.string S) := hSw; go_simp <;> with_reducible rfl)
      try simp only [Act.put, List.setIfInBounds_toArray, List.set_cons_zero, List.set_cons_succ]
      refine wpAnyH_take (i := 4) (oi := { dst := some 48, op := Go.Op.move (Go.Operand.tmp 7), type := 29, pos := "law.go:96", after := #[{ on := 2, ground := Go.Ground.guard }], guard := some (2, true) }) (v := ?v5) rfl (by kernel_rfl) (by kernel_rfl) (by kernel_rfl) (fun _ _ _ h => h) (Or.inl ⟨by rfl, ?hy5⟩) (by assumption) ?rest5
      case hy5 => (intro w hSw; (try dsimp only at hSw); have y0 : w.cell? ⟨b, o + k, none⟩ = some (.string S) := hSw; go_simp <;> with_reducible rfl)
      try simp only [Act.put, List.setIfInBounds_toArray, List.set_cons_zero, List.set_cons_succ]
      refine wpAnyH_take (i := 5) (oi := { dst := some 49, op := Go.Op.call { callee := Go.Callee.builtin Go.Builtin.len, args := #[Go.Operand.tmp 48], argTypes := #[29] }, type := 3, pos := "law.go:96", after := #[{ on := 4, ground := Go.Ground.data }, { on := 2, ground := Go.Ground.guard }], guard := some (2, true) }) (v := ?v6) rfl (by kernel_rfl) (by kernel_rfl) (by kernel_rfl) (fun _ _ _ h => h) (Or.inl ⟨by rfl, ?hy6⟩) (by assumption) ?rest6
      case hy6 => (intro w hSw; (try dsimp only at hSw); have y0 : w.cell? ⟨b, o + k, none⟩ = some (.string S) := hSw; go_simp <;> with_reducible rfl)
      try simp only [Act.put, List.setIfInBounds_toArray, List.set_cons_zero, List.set_cons_succ]
      refine wpAnyH_take (i := 6) (oi := { dst := some 50, op := Go.Op.binOp Go.BinOp.leq 3 (Go.Operand.tmp 47) (Go.Operand.tmp 49) 3, type := 4, pos := "law.go:96", after := #[{ on := 3, ground := Go.Ground.data }, { on := 5, ground := Go.Ground.data }, { on := 2, ground := Go.Ground.guard }], guard := some (2, true) }) (v := ?v7) rfl (by kernel_rfl) (by kernel_rfl) (by kernel_rfl) (fun _ _ _ h => h) (Or.inl ⟨by rfl, ?hy7⟩) (by assumption) ?rest7
      case hy7 => (intro w hSw; (try dsimp only at hSw); have y0 : w.cell? ⟨b, o + k, none⟩ = some (.string S) := hSw; go_simp <;> with_reducible rfl)
      try simp only [Act.put, List.setIfInBounds_toArray, List.set_cons_zero, List.set_cons_succ]
      refine wpAnyH_take (i := 7) (oi := { dst := some 51, op := Go.Op.pick (Go.Operand.tmp 46) (Go.Operand.tmp 50) (Go.Operand.const (Go.Value.bool false)), type := 4, pos := "law.go:96", after := #[{ on := 2, ground := Go.Ground.data }, { on := 6, ground := Go.Ground.data }], guard := none }) (v := ?v8) rfl (by kernel_rfl) (by kernel_rfl) (by kernel_rfl) (fun _ _ _ h => h) (Or.inl ⟨by rfl, ?hy8⟩) (by assumption) ?rest8
      case hy8 => (intro w hSw; (try dsimp only at hSw); have y0 : w.cell? ⟨b, o + k, none⟩ = some (.string S) := hSw; go_simp <;> with_reducible rfl)
      try simp only [Act.put, List.setIfInBounds_toArray, List.set_cons_zero, List.set_cons_succ]
      refine wpAnyH_take (i := 8) (oi := { dst := some 52, op := Go.Op.move (Go.Operand.tmp 51), type := 4, pos := "law.go:96", after := #[{ on := 7, ground := Go.Ground.data }, { on := 2, ground := Go.Ground.chain }], guard := none }) (v := ?v9) rfl (by kernel_rfl) (by kernel_rfl) (by kernel_rfl) (fun _ _ _ h => h) (Or.inl ⟨by rfl, ?hy9⟩) (by assumption) ?rest9
      case hy9 => (intro w hSw; (try dsimp only at hSw); have y0 : w.cell? ⟨b, o + k, none⟩ = some (.string S) := hSw; go_simp <;> with_reducible rfl)
      try simp only [Act.put, List.setIfInBounds_toArray, List.set_cons_zero, List.set_cons_succ]
      refine wpAnyH_take (i := 9) (oi := { dst := some 53, op := Go.Op.move (Go.Operand.tmp 8), type := 29, pos := "law.go:96", after := #[{ on := 8, ground := Go.Ground.guard }], guard := some (8, true) }) (v := ?v10) rfl (by kernel_rfl) (by kernel_rfl) (by kernel_rfl) (fun _ _ _ h => h) (Or.inl ⟨by rfl, ?hy10⟩) (by assumption) ?rest10
      case hy10 => (intro w hSw; (try dsimp only at hSw); have y0 : w.cell? ⟨b, o + k, none⟩ = some (.string S) := hSw; go_simp <;> with_reducible rfl)
      try simp only [Act.put, List.setIfInBounds_toArray, List.set_cons_zero, List.set_cons_succ]
      refine wpAnyH_take (i := 10) (oi := { dst := some 54, op := Go.Op.move (Go.Operand.tmp 9), type := 3, pos := "law.go:96", after := #[{ on := 8, ground := Go.Ground.guard }], guard := some (8, true) }) (v := ?v11) rfl (by kernel_rfl) (by kernel_rfl) (by kernel_rfl) (fun _ _ _ h => h) (Or.inl ⟨by rfl, ?hy11⟩) (by assumption) ?rest11
      case hy11 => (intro w hSw; (try dsimp only at hSw); have y0 : w.cell? ⟨b, o + k, none⟩ = some (.string S) := hSw; go_simp <;> with_reducible rfl)
      try simp only [Act.put, List.setIfInBounds_toArray, List.set_cons_zero, List.set_cons_succ]
      refine wpAnyH_take (i := 11) (oi := { dst := some 55, op := Go.Op.indexAddr 29 (Go.Operand.tmp 53) (Go.Operand.tmp 54), type := 0, pos := "law.go:96", after := #[{ on := 9, ground := Go.Ground.data }, { on := 10, ground := Go.Ground.data }, { on := 8, ground := Go.Ground.guard }], guard := some (8, true) }) (v := ?v12) rfl (by kernel_rfl) (by kernel_rfl) (by kernel_rfl) (fun _ _ _ h => h) (Or.inl ⟨by rfl, ?hy12⟩) (by assumption) ?rest12
      case hy12 => (intro w hSw; (try dsimp only at hSw); have y0 : w.cell? ⟨b, o + k, none⟩ = some (.string S) := hSw; go_simp <;> with_reducible rfl)
      try simp only [Act.put, List.setIfInBounds_toArray, List.set_cons_zero, List.set_cons_succ]
      refine wpAnyH_take (i := 12) (oi := { dst := some 56, op := Go.Op.load 9 (Go.Operand.tmp 55), type := 9, pos := "law.go:96", after := #[{ on := 11, ground := Go.Ground.data }, { on := 8, ground := Go.Ground.guard }], guard := some (8, true) }) (v := ?v13) rfl (by kernel_rfl) (by kernel_rfl) (by kernel_rfl) (fun _ _ _ h => h) (Or.inl ⟨by rfl, ?hy13⟩) (by assumption) ?rest13
      case hy13 => (intro w hSw; (try dsimp only at hSw); have y0 : w.cell? ⟨b, o + k, none⟩ = some (.string S) := hSw; go_simp <;> with_reducible rfl)
      try simp only [Act.put, List.setIfInBounds_toArray, List.set_cons_zero, List.set_cons_succ]
      refine wpAnyH_take (i := 13) (oi := { dst := some 57, op := Go.Op.move (Go.Operand.tmp 1), type := 9, pos := "law.go:96", after := #[{ on := 8, ground := Go.Ground.guard }], guard := some (8, true) }) (v := ?v14) rfl (by kernel_rfl) (by kernel_rfl) (by kernel_rfl) (fun _ _ _ h => h) (Or.inl ⟨by rfl, ?hy14⟩) (by assumption) ?rest14
      case hy14 => (intro w hSw; (try dsimp only at hSw); have y0 : w.cell? ⟨b, o + k, none⟩ = some (.string S) := hSw; go_simp <;> with_reducible rfl)
      try simp only [Act.put, List.setIfInBounds_toArray, List.set_cons_zero, List.set_cons_succ]
      refine wpAnyH_take (i := 14) (oi := { dst := some 58, op := Go.Op.binOp Go.BinOp.eql 9 (Go.Operand.tmp 56) (Go.Operand.tmp 57) 9, type := 4, pos := "law.go:96", after := #[{ on := 12, ground := Go.Ground.data }, { on := 13, ground := Go.Ground.data }, { on := 8, ground := Go.Ground.guard }], guard := some (8, true) }) (v := ?v15) rfl (by kernel_rfl) (by kernel_rfl) (by kernel_rfl) (fun _ _ _ h => h) (Or.inl ⟨by rfl, ?hy15⟩) (by assumption) ?rest15
      case hy15 => (intro w hSw; (try dsimp only at hSw); have y0 : w.cell? ⟨b, o + k, none⟩ = some (.string S) := hSw; go_simp <;> with_reducible rfl)
      try simp only [Act.put, List.setIfInBounds_toArray, List.set_cons_zero, List.set_cons_succ]
      refine wpAnyH_take (i := 15) (oi := { dst := some 59, op := Go.Op.pick (Go.Operand.tmp 52) (Go.Operand.tmp 58) (Go.Operand.const (Go.Value.bool false)), type := 4, pos := "law.go:96", after := #[{ on := 8, ground := Go.Ground.data }, { on := 14, ground := Go.Ground.data }], guard := none }) (v := ?v16) rfl (by kernel_rfl) (by kernel_rfl) (by kernel_rfl) (fun _ _ _ h => h) (Or.inl ⟨by rfl, ?hy16⟩) (by assumption) ?rest16
      case hy16 => (intro w hSw; (try dsimp only at hSw); have y0 : w.cell? ⟨b, o + k, none⟩ = some (.string S) := hSw; go_simp <;> with_reducible rfl)
      try simp only [Act.put, List.setIfInBounds_toArray, List.set_cons_zero, List.set_cons_succ]
      refine wpAnyH_take (i := 16) (oi := { dst := some 60, op := Go.Op.move (Go.Operand.tmp 59), type := 4, pos := "law.go:96", after := #[{ on := 15, ground := Go.Ground.data }, { on := 8, ground := Go.Ground.chain }], guard := none }) (v := ?v17) rfl (by kernel_rfl) (by kernel_rfl) (by kernel_rfl) (fun _ _ _ h => h) (Or.inl ⟨by rfl, ?hy17⟩) (by assumption) ?rest17
      case hy17 => (intro w hSw; (try dsimp only at hSw); have y0 : w.cell? ⟨b, o + k, none⟩ = some (.string S) := hSw; go_simp <;> with_reducible rfl)
      try simp only [Act.put, List.setIfInBounds_toArray, List.set_cons_zero, List.set_cons_succ]
      refine wpAnyH_take (i := 17) (oi := { dst := some 61, op := Go.Op.move (Go.Operand.tmp 8), type := 29, pos := "law.go:96", after := #[{ on := 16, ground := Go.Ground.guard }], guard := some (16, true) }) (v := ?v18) rfl (by kernel_rfl) (by kernel_rfl) (by kernel_rfl) (fun _ _ _ h => h) (Or.inl ⟨by rfl, ?hy18⟩) (by assumption) ?rest18
      case hy18 => (intro w hSw; (try dsimp only at hSw); have y0 : w.cell? ⟨b, o + k, none⟩ = some (.string S) := hSw; go_simp <;> with_reducible rfl)
      try simp only [Act.put, List.setIfInBounds_toArray, List.set_cons_zero, List.set_cons_succ]
      refine wpAnyH_take (i := 18) (oi := { dst := some 62, op := Go.Op.move (Go.Operand.tmp 9), type := 3, pos := "law.go:96", after := #[{ on := 16, ground := Go.Ground.guard }], guard := some (16, true) }) (v := ?v19) rfl (by kernel_rfl) (by kernel_rfl) (by kernel_rfl) (fun _ _ _ h => h) (Or.inl ⟨by rfl, ?hy19⟩) (by assumption) ?rest19
      case hy19 => (intro w hSw; (try dsimp only at hSw); have y0 : w.cell? ⟨b, o + k, none⟩ = some (.string S) := hSw; go_simp <;> with_reducible rfl)
      try simp only [Act.put, List.setIfInBounds_toArray, List.set_cons_zero, List.set_cons_succ]
      refine wpAnyH_take (i := 19) (oi := { dst := some 63, op := Go.Op.slice 29 (Go.Operand.tmp 61) none (some (Go.Operand.tmp 62)) none, type := 29, pos := "law.go:96", after := #[{ on := 17, ground := Go.Ground.data }, { on := 18, ground := Go.Ground.data }, { on := 16, ground := Go.Ground.guard }], guard := some (16, true) }) (v := ?v20) rfl (by kernel_rfl) (by kernel_rfl) (by kernel_rfl) (fun _ _ _ h => h) (Or.inl ⟨by rfl, ?hy20⟩) (by assumption) ?rest20
      case hy20 => (intro w hSw; (try dsimp only at hSw); have y0 : w.cell? ⟨b, o + k, none⟩ = some (.string S) := hSw; go_simp <;> with_reducible rfl)
      try simp only [Act.put, List.setIfInBounds_toArray, List.set_cons_zero, List.set_cons_succ]
      refine wpAnyH_take (i := 20) (oi := { dst := some 64, op := Go.Op.move (Go.Operand.tmp 7), type := 29, pos := "law.go:96", after := #[{ on := 16, ground := Go.Ground.guard }], guard := some (16, true) }) (v := ?v21) rfl (by kernel_rfl) (by kernel_rfl) (by kernel_rfl) (fun _ _ _ h => h) (Or.inl ⟨by rfl, ?hy21⟩) (by assumption) ?rest21
      case hy21 => (intro w hSw; (try dsimp only at hSw); have y0 : w.cell? ⟨b, o + k, none⟩ = some (.string S) := hSw; go_simp <;> with_reducible rfl)
      try simp only [Act.put, List.setIfInBounds_toArray, List.set_cons_zero, List.set_cons_succ]
      refine wpAnyH_take (i := 21) (oi := { dst := some 65, op := Go.Op.move (Go.Operand.tmp 7), type := 29, pos := "law.go:96", after := #[{ on := 16, ground := Go.Ground.guard }], guard := some (16, true) }) (v := ?v22) rfl (by kernel_rfl) (by kernel_rfl) (by kernel_rfl) (fun _ _ _ h => h) (Or.inl ⟨by rfl, ?hy22⟩) (by assumption) ?rest22
      case hy22 => (intro w hSw; (try dsimp only at hSw); have y0 : w.cell? ⟨b, o + k, none⟩ = some (.string S) := hSw; go_simp <;> with_reducible rfl)
      try simp only [Act.put, List.setIfInBounds_toArray, List.set_cons_zero, List.set_cons_succ]
      refine wpAnyH_take (i := 22) (oi := { dst := some 66, op := Go.Op.call { callee := Go.Callee.builtin Go.Builtin.len, args := #[Go.Operand.tmp 65], argTypes := #[29] }, type := 3, pos := "law.go:96", after := #[{ on := 21, ground := Go.Ground.data }, { on := 16, ground := Go.Ground.guard }], guard := some (16, true) }) (v := ?v23) rfl (by kernel_rfl) (by kernel_rfl) (by kernel_rfl) (fun _ _ _ h => h) (Or.inl ⟨by rfl, ?hy23⟩) (by assumption) ?rest23
      case hy23 => (intro w hSw; (try dsimp only at hSw); have y0 : w.cell? ⟨b, o + k, none⟩ = some (.string S) := hSw; go_simp <;> with_reducible rfl)
      try simp only [Act.put, List.setIfInBounds_toArray, List.set_cons_zero, List.set_cons_succ]
      refine wpAnyH_take (i := 23) (oi := { dst := some 67, op := Go.Op.move (Go.Operand.tmp 9), type := 3, pos := "law.go:96", after := #[{ on := 16, ground := Go.Ground.guard }], guard := some (16, true) }) (v := ?v24) rfl (by kernel_rfl) (by kernel_rfl) (by kernel_rfl) (fun _ _ _ h => h) (Or.inl ⟨by rfl, ?hy24⟩) (by assumption) ?rest24
      case hy24 => (intro w hSw; (try dsimp only at hSw); have y0 : w.cell? ⟨b, o + k, none⟩ = some (.string S) := hSw; go_simp <;> with_reducible rfl)
      try simp only [Act.put, List.setIfInBounds_toArray, List.set_cons_zero, List.set_cons_succ]
      refine wpAnyH_take (i := 24) (oi := { dst := some 68, op := Go.Op.binOp Go.BinOp.sub 3 (Go.Operand.tmp 66) (Go.Operand.tmp 67) 3, type := 3, pos := "law.go:96", after := #[{ on := 22, ground := Go.Ground.data }, { on := 23, ground := Go.Ground.data }, { on := 16, ground := Go.Ground.guard }], guard := some (16, true) }) (v := ?v25) rfl (by kernel_rfl) (by kernel_rfl) (by kernel_rfl) (fun _ _ _ h => h) (Or.inl ⟨by rfl, ?hy25⟩) (by assumption) ?rest25
      case hy25 => (intro w hSw; (try dsimp only at hSw); have y0 : w.cell? ⟨b, o + k, none⟩ = some (.string S) := hSw; go_simp <;> with_reducible rfl)
      try simp only [Act.put, List.setIfInBounds_toArray, List.set_cons_zero, List.set_cons_succ]
      refine wpAnyH_take (i := 25) (oi := { dst := some 69, op := Go.Op.slice 29 (Go.Operand.tmp 64) (some (Go.Operand.tmp 68)) none none, type := 29, pos := "law.go:96", after := #[{ on := 20, ground := Go.Ground.data }, { on := 24, ground := Go.Ground.data }, { on := 16, ground := Go.Ground.guard }], guard := some (16, true) }) (v := ?v26) rfl (by kernel_rfl) (by kernel_rfl) (by kernel_rfl) (fun _ _ _ h => h) (Or.inl ⟨by rfl, ?hy26⟩) (by assumption) ?rest26
      case hy26 => (intro w hSw; (try dsimp only at hSw); have y0 : w.cell? ⟨b, o + k, none⟩ = some (.string S) := hSw; go_simp <;> with_reducible rfl)
      try simp only [Act.put, List.setIfInBounds_toArray, List.set_cons_zero, List.set_cons_succ]
      refine wpAnyH_ready (rs := [26]) (by kernel_rfl) (by simp) ?_
      refine AllReadyH.cons (o := { dst := some 70, op := Go.Op.call { callee := Go.Callee.value (Go.Operand.func 9), args := #[Go.Operand.tmp 63, Go.Operand.tmp 69], argTypes := #[29, 29] }, type := 4, pos := "law.go:96", after := #[{ on := 19, ground := Go.Ground.data }, { on := 25, ground := Go.Ground.data }, { on := 16, ground := Go.Ground.chain }, { on := 16, ground := Go.Ground.guard }], guard := some (16, true) }) rfl (fun K hK => ?_) AllReadyH.nil
      go_simp
      go_at_call 9; refine (hU.still (hSm.out _ _ _ (hR1f.out _ hU.fact.2) (hR2f.out _ hU.fact.1.2))).mono ?_; rintro e w9 ⟨rfl, hU2⟩; clear hU; have hU := hU2; clear hU2; clear z0; have z0 := (show Vs _ 0 1 _ _ _ from hU.fact.2).cell k _ hlast.out
      refine hK.out _ _ ?_ (fun hHeld2 => ?_)
      · (try dsimp only); exact z0
      clear hK K hHeld
      have hHeld := hHeld2
      clear hHeld2
      try simp only [Act.put, List.setIfInBounds_toArray, List.set_cons_zero, List.set_cons_succ]
      refine wpAnyH_take (i := 27) (oi := { dst := some 71, op := Go.Op.pick (Go.Operand.tmp 60) (Go.Operand.tmp 70) (Go.Operand.const (Go.Value.bool false)), type := 4, pos := "law.go:96", after := #[{ on := 16, ground := Go.Ground.data }, { on := 26, ground := Go.Ground.data }], guard := none }) (v := ?v27) rfl (by kernel_rfl) (by kernel_rfl) (by kernel_rfl) (fun _ _ _ h => h) (Or.inl ⟨by rfl, ?hy27⟩) (by assumption) ?rest27
      case hy27 => (intro w hSw; (try dsimp only at hSw); have y0 : w.cell? ⟨b, o + k, none⟩ = some (.string S) := hSw; go_simp <;> with_reducible rfl)
      try simp only [Act.put, List.setIfInBounds_toArray, List.set_cons_zero, List.set_cons_succ]
      refine wpAnyH_take (i := 28) (oi := { dst := some 4, op := Go.Op.assign (Go.Operand.tmp 71), type := 4, pos := "law.go:96", after := #[{ on := 27, ground := Go.Ground.data }, { on := 26, ground := Go.Ground.chain }, { on := 0, ground := Go.Ground.phase }, { on := 1, ground := Go.Ground.phase }, { on := 2, ground := Go.Ground.phase }, { on := 3, ground := Go.Ground.phase }, { on := 4, ground := Go.Ground.phase }, { on := 5, ground := Go.Ground.phase }, { on := 6, ground := Go.Ground.phase }, { on := 7, ground := Go.Ground.phase }, { on := 8, ground := Go.Ground.phase }, { on := 9, ground := Go.Ground.phase }, { on := 10, ground := Go.Ground.phase }, { on := 11, ground := Go.Ground.phase }, { on := 12, ground := Go.Ground.phase }, { on := 13, ground := Go.Ground.phase }, { on := 14, ground := Go.Ground.phase }, { on := 15, ground := Go.Ground.phase }, { on := 16, ground := Go.Ground.phase }, { on := 17, ground := Go.Ground.phase }, { on := 18, ground := Go.Ground.phase }, { on := 19, ground := Go.Ground.phase }, { on := 20, ground := Go.Ground.phase }, { on := 21, ground := Go.Ground.phase }, { on := 22, ground := Go.Ground.phase }, { on := 23, ground := Go.Ground.phase }, { on := 24, ground := Go.Ground.phase }, { on := 25, ground := Go.Ground.phase }, { on := 26, ground := Go.Ground.phase }, { on := 27, ground := Go.Ground.phase }], guard := none }) (v := ?v28) rfl (by kernel_rfl) (by kernel_rfl) (by kernel_rfl) (fun _ _ _ h => h) (Or.inl ⟨by rfl, ?hy28⟩) (by assumption) ?rest28
      case hy28 => (intro w hSw; (try dsimp only at hSw); have y0 : w.cell? ⟨b, o + k, none⟩ = some (.string S) := hSw; go_simp <;> with_reducible rfl)
      try simp only [Act.put, List.setIfInBounds_toArray, List.set_cons_zero, List.set_cons_succ]
      refine wpAnyH_done (by kernel_rfl) ?_ _
      refine NoPanic.normal ?_
      go_wp2
      go_ret
      exact ⟨rfl, hU.bel⟩
end Go.Proofs.YtjkpapkjlmglbaaDoor
