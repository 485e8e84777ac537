/- Texts merged: D19 OV. -/
import Derived.Test.YtcfblcgdjhpdaaaZ9
import Derived.Deep.SlicePairs
import Derived.ProofKit
import Derived.OpenShut
import Derived.ChangeOld
import Derived.Lib.SmallJoins
import Derived.ChangeMaps5
import Derived.ChangeSlices
/- 'DictCreates'. -/
namespace Go.Proofs.Ytcfblcgdjhpdaaa
open Go.RowKit
set_option linter.unusedVariables false
set_option linter.unusedSimpArgs false
attribute [local go_sem] cell_set set_set m_undef
attribute [local irreducible] crM crV crOk crXt crAt hereL setM

def sc (K : List ByteArray) : List Value := K.map .string
theorem sc_len (K : List ByteArray) : (sc K).length = K.length := by simp [sc]
theorem sc_at (K : List ByteArray) (k : Nat) (h : k < K.length) : (sc K)[k]? = some (.string K[k]) := by simp [sc, List.getElem?_eq_getElem h]
theorem icAt (K : List Int) (k : Nat) (h : k < K.length) : (ic K)[k]? = some (.int .i64 K[k]) := by simp [ic, List.getElem?_eq_getElem h]
theorem Rv.cellAt {w : World} {ad : Option Addr} {n n' cap : Nat} {cs : List Value} (h : Rv w 1 (.slice ad n cap) n' cs) (k : Nat) (u : Value) (hu : cs[k]? = some u) : ∃ a, ad = some a ∧ w.cell? (a.add k) = some u := by
  rcases h.2.2 with ⟨e, e2⟩ | ⟨a, cap', e, h5⟩
  · have h1 := h.1
    have := (List.getElem?_eq_some_iff.1 hu).1
    omega
  · cases e; exact ⟨a, rfl, h5 k u hu⟩
theorem hereL_bd (M : List UInt8) : 1536 ≤ hereL M ∧ hereL M ≤ 5632 := by unfold hereL; split <;> omega
theorem crV_pair (M nm : List UInt8) : ∃ xt t : Int, crV M nm = .tuple #[.int .i64 xt, .int .i64 t] := by
  cases hok : crOk M nm with
  | false => exact ⟨_, _, (crV_no hok).1⟩
  | true => exact ⟨_, _, (crV_yes hok).1⟩
set_option maxRecDepth 100000 in
set_option maxHeartbeats 4000000 in
theorem dictCreates {w : World} (v : Value) (l : List UInt8) (h : Rb w v l) (v1 : Value) (K1 : List ByteArray) (hK1 : Rv w 1 v1 K1.length (sc K1)) (_ : ∀ s ∈ K1, s.size ≤ 9223372036854775807)
    (v2 : Value) (K2 : List Int) (hK2 : Rv w 1 v2 K2.length (ic K2)) (_ : ∀ z ∈ K2, isI z) (hn1 : K1.length ≤ 1000000000000000) (hn2 : K2.length ≤ 9223372036854775807) :
    Calls Try.prog 5 #[v, v1, v2] w fun e w' => e = .returned (.bool true) ∧ Below w.heap.size w w' := by
  obtain ⟨ad, cap, rfl⟩ := h.form
  obtain ⟨ad1, cap1, rfl⟩ := hK1.form
  obtain ⟨ad2, cap2, rfl⟩ := hK2.form
  have hA := Lib.hid (fun w9 => wAwake w9)
  by_cases hl : 9000 < l.length
  · clear h hK1 hK2
    have t1 : ((9000 : Int) < (l.length : Int)) = True := by simp; omega
    go_enter Try.func5, Try.ntmps5
    go_wp2_with (go_at_call 9; refine (hA.out _).mono ?_; rintro e w1 ⟨rfl, hb1⟩)
    go_ret
    exact ⟨rfl, hb1⟩
  have t1 : ((9000 : Int) < (l.length : Int)) = False := by simp; omega
  by_cases hn : 60 < K1.length
  · clear h hK1 hK2
    have t2 : ((60 : Int) < (K1.length : Int)) = True := by simp; omega
    go_enter Try.func5, Try.ntmps5
    go_wp2_with (go_at_call 9; refine (hA.out _).mono ?_; rintro e w1 ⟨rfl, hb1⟩)
    go_ret
    exact ⟨rfl, hb1⟩
  have t2 : ((60 : Int) < (K1.length : Int)) = False := by simp; omega
  have hF1 := Lib.hid (fun (w9 : World) (h9 : Rb w9 (.slice ad l.length cap) l) => wFlatR w9 _ l h9)
  have hF2 := Lib.hid (fun (w9 : World) (h9 : Rb w9 (.slice ad l.length cap) l) => rFlat w9 _ l h9)
  unfold FlatQ at hF1
  generalize flatL l = M at *
  replace h := Lib.hid h
  replace hK1 := Lib.hid hK1
  replace hK2 := Lib.hid hK2
  clear hl
  go_enter Try.func5, Try.ntmps5
  go_upto_region 8 with (first
    | (go_at_call 9; refine (hA.out _).mono ?_; rintro e w1 ⟨rfl, hb1⟩; have h1 := Lib.hid (h.out.below hb1); replace hb1 := Lib.hid hb1)
    | (go_at_call 10; refine (hF1.out _ h1.out).mono ?_; rintro e w2 ⟨mb, O2, rfl, hP2, hb2⟩; have h2 := Lib.hid (h1.out.below hb2); replace hP2 := Lib.hid hP2; replace hb2 := Lib.hid hb2)
    | (go_at_call 11; refine (hF2.out _ h2.out).mono ?_; rintro e w3 ⟨rb, R, rfl, hR3, hb3⟩; have hT := Two.make hb1.out (Keep.emp _ _) hP2.out hb2.out hR3 hb3; clear hR3 hb3))
  clear h1 h2 hb2 hP2 hF1 hF2 hA h hb1
  go_wp2
  go_loopw [35] (fun i wr => ∃ (k : Nat) (M' : List UInt8), i = .int .i64 (k : Int) ∧ k ≤ K1.length ∧ Two w wr mb rb M' M' .emp) (fun i _ => (K1.length - (intOf i).toNat))
  case atStart => exact ⟨0, M, rfl, by omega, hT⟩
  case round =>
    obtain ⟨k, M', rfl, hk, hT⟩ := hrel
    by_cases hlt : k < K1.length
    · have t5 : ((k : Int) < (K1.length : Int)) = True := by simp; omega
      have i1 : (0 : Int) ≤ (k : Int) := by omega
      have i2 : (k : Int) < (K1.length : Int) := by omega
      have wk : IntKind.i64.wrap ((k : Int) + 1) = ((k + 1 : Nat) : Int) := by rw [IntKind.wrap_i64]; omega
      obtain ⟨a, rfl, z0⟩ := hK1.out.cellAt k _ (sc_at K1 k hlt)
      have z1 := (hT.bel.cell (World.block_lt_of_cell? w _ z0)).trans z0
      clear z0
      generalize K1[k] = nm at *
      obtain ⟨s, hs⟩ : ∃ s : List UInt8, nm = ⟨s.toArray⟩ := ⟨nm.data.toList, by simp⟩
      have hCr := fun (w9 : World) (mb B : Nat) (O : Nat → Prop) (h : MemP w9 B mb M' O) (hb : B ≤ w9.heap.size) => kCreate h hb s
      have hRc := fun (w9 : World) (rb B : Nat) (R : Nat → Prop) (h : RefP w9 B rb M' R) => rCreate h s
      obtain ⟨xt, t, hv⟩ := crV_pair M' s
      rw [hv, ← hs] at hCr hRc
      generalize crM M' s = M2 at *
      have hHe := fun (w9 : World) (rb B : Nat) (R : Nat → Prop) (h : RefP w9 B rb M2 R) => rHere h
      have hbd := hereL_bd M2
      generalize hereL M2 = he at *
      have hSt := Lib.hid (fun (n : Int) (w9 : World) (mb B : Nat) (O : Nat → Prop) (h : MemP w9 B mb M2 O) (hb : B ≤ w9.heap.size) => mSet h hb 0 n isI_zero)
      have hRs := Lib.hid (fun (n : Int) (w9 : World) (rb B : Nat) (R : Nat → Prop) (h : RefP w9 B rb M2 R) => rSet h 0 n isI_zero)
      replace hCr := Lib.hid hCr
      replace hRc := Lib.hid hRc
      replace hHe := Lib.hid hHe
      replace hlt := Lib.hid hlt
      clear hv hs hk
      by_cases hg : k < K2.length
      · have t6 : ((k : Int) < (K2.length : Int)) = True := by simp; omega
        have i3 : (k : Int) < (K2.length : Int) := by omega
        obtain ⟨a2, rfl, g0⟩ := hK2.out.cellAt k _ (icAt K2 k hg)
        have gc := fun (w9 : World) (hb : Below w.heap.size w w9) => (hb.cell (World.block_lt_of_cell? w _ g0)).trans g0
        clear g0
        generalize K2[k] = g at *
        clear hg
        replace gc := Lib.hid gc
        go_upto_region 17 with (first
          | (go_at_call 16; refine (hT.mem (fun B O h hb => hCr.out _ _ _ _ h hb)).mono ?_; rintro e w7 ⟨rfl, hT2⟩; clear hT; have hT := hT2; clear hT2)
          | (go_at_call 17; refine (hT.ref (fun B R h hb => hRc.out _ _ _ _ h)).mono ?_; rintro e w8 ⟨rfl, hT2⟩; clear hT; have hT := hT2; clear hT2)
          | (go_at_call 18; refine (hT.refB (fun B R h => hHe.out _ _ _ _ h)).mono ?_; rintro e w9 ⟨rfl, hT2⟩; clear hT; have hT := hT2; clear hT2)
          | (go_at_call 19; refine (hT.mem (fun B O h hb => hSt.out _ _ _ _ _ h hb)).mono ?_; rintro e w10 ⟨rfl, hT2⟩; clear hT; have hT := hT2; clear hT2)
          | (go_at_call 20; refine (hT.ref (fun B R h hb => hRs.out _ _ _ _ _ h)).mono ?_; rintro e w11 ⟨rfl, hT2⟩; clear hT; have hT := hT2; clear hT2))
        have g1 := gc.out _ hT.bel
        by_cases hg0 : g < 0
        · have t7 : (g < 0) = True := eq_true hg0
          have wh : IntKind.i64.wrap he = he := by rw [IntKind.wrap_i64]; omega
          clear hg0 hbd
          go_wp2_with (first
          | (go_at_call 16; refine (hT.mem (fun B O h hb => hCr.out _ _ _ _ h hb)).mono ?_; rintro e w7 ⟨rfl, hT2⟩; clear hT; have hT := hT2; clear hT2)
          | (go_at_call 17; refine (hT.ref (fun B R h hb => hRc.out _ _ _ _ h)).mono ?_; rintro e w8 ⟨rfl, hT2⟩; clear hT; have hT := hT2; clear hT2)
          | (go_at_call 18; refine (hT.refB (fun B R h => hHe.out _ _ _ _ h)).mono ?_; rintro e w9 ⟨rfl, hT2⟩; clear hT; have hT := hT2; clear hT2)
          | (go_at_call 19; refine (hT.mem (fun B O h hb => hSt.out _ _ _ _ _ h hb)).mono ?_; rintro e w10 ⟨rfl, hT2⟩; clear hT; have hT := hT2; clear hT2)
          | (go_at_call 20; refine (hT.ref (fun B R h hb => hRs.out _ _ _ _ _ h)).mono ?_; rintro e w11 ⟨rfl, hT2⟩; clear hT; have hT := hT2; clear hT2))
          go_roundw
          case rel => exact ⟨k + 1, _, rfl, hlt.out, hT⟩
          case measure => have := hlt.out; simp [intOf]; omega
        · have t7 : (g < 0) = False := eq_false hg0
          by_cases hg6 : 64 < g
          · have t8 : (64 < g) = True := eq_true hg6
            have wh : IntKind.i64.wrap (he + 64) = he + 64 := by rw [IntKind.wrap_i64]; omega
            clear hg0 hg6 hbd
            go_wp2_with (first
          | (go_at_call 16; refine (hT.mem (fun B O h hb => hCr.out _ _ _ _ h hb)).mono ?_; rintro e w7 ⟨rfl, hT2⟩; clear hT; have hT := hT2; clear hT2)
          | (go_at_call 17; refine (hT.ref (fun B R h hb => hRc.out _ _ _ _ h)).mono ?_; rintro e w8 ⟨rfl, hT2⟩; clear hT; have hT := hT2; clear hT2)
          | (go_at_call 18; refine (hT.refB (fun B R h => hHe.out _ _ _ _ h)).mono ?_; rintro e w9 ⟨rfl, hT2⟩; clear hT; have hT := hT2; clear hT2)
          | (go_at_call 19; refine (hT.mem (fun B O h hb => hSt.out _ _ _ _ _ h hb)).mono ?_; rintro e w10 ⟨rfl, hT2⟩; clear hT; have hT := hT2; clear hT2)
          | (go_at_call 20; refine (hT.ref (fun B R h hb => hRs.out _ _ _ _ _ h)).mono ?_; rintro e w11 ⟨rfl, hT2⟩; clear hT; have hT := hT2; clear hT2))
            go_roundw
            case rel => exact ⟨k + 1, _, rfl, hlt.out, hT⟩
            case measure => have := hlt.out; simp [intOf]; omega
          · have t8 : (64 < g) = False := eq_false hg6
            have wh : IntKind.i64.wrap (he + g) = he + g := by rw [IntKind.wrap_i64]; omega
            clear hg0 hg6 hbd
            go_wp2_with (first
          | (go_at_call 16; refine (hT.mem (fun B O h hb => hCr.out _ _ _ _ h hb)).mono ?_; rintro e w7 ⟨rfl, hT2⟩; clear hT; have hT := hT2; clear hT2)
          | (go_at_call 17; refine (hT.ref (fun B R h hb => hRc.out _ _ _ _ h)).mono ?_; rintro e w8 ⟨rfl, hT2⟩; clear hT; have hT := hT2; clear hT2)
          | (go_at_call 18; refine (hT.refB (fun B R h => hHe.out _ _ _ _ h)).mono ?_; rintro e w9 ⟨rfl, hT2⟩; clear hT; have hT := hT2; clear hT2)
          | (go_at_call 19; refine (hT.mem (fun B O h hb => hSt.out _ _ _ _ _ h hb)).mono ?_; rintro e w10 ⟨rfl, hT2⟩; clear hT; have hT := hT2; clear hT2)
          | (go_at_call 20; refine (hT.ref (fun B R h hb => hRs.out _ _ _ _ _ h)).mono ?_; rintro e w11 ⟨rfl, hT2⟩; clear hT; have hT := hT2; clear hT2))
            go_roundw
            case rel => exact ⟨k + 1, _, rfl, hlt.out, hT⟩
            case measure => have := hlt.out; simp [intOf]; omega
      · have t6 : ((k : Int) < (K2.length : Int)) = False := by simp; omega
        clear hg
        go_wp2_with (first
          | (go_at_call 16; refine (hT.mem (fun B O h hb => hCr.out _ _ _ _ h hb)).mono ?_; rintro e w7 ⟨rfl, hT2⟩; clear hT; have hT := hT2; clear hT2)
          | (go_at_call 17; refine (hT.ref (fun B R h hb => hRc.out _ _ _ _ h)).mono ?_; rintro e w8 ⟨rfl, hT2⟩; clear hT; have hT := hT2; clear hT2)
          | (go_at_call 18; refine (hT.refB (fun B R h => hHe.out _ _ _ _ h)).mono ?_; rintro e w9 ⟨rfl, hT2⟩; clear hT; have hT := hT2; clear hT2)
          | (go_at_call 19; refine (hT.mem (fun B O h hb => hSt.out _ _ _ _ _ h hb)).mono ?_; rintro e w10 ⟨rfl, hT2⟩; clear hT; have hT := hT2; clear hT2)
          | (go_at_call 20; refine (hT.ref (fun B R h hb => hRs.out _ _ _ _ _ h)).mono ?_; rintro e w11 ⟨rfl, hT2⟩; clear hT; have hT := hT2; clear hT2))
        go_roundw
        case rel => exact ⟨k + 1, _, rfl, hlt.out, hT⟩
        case measure => have := hlt.out; simp [intOf]; omega
    · have t5 : ((k : Int) < (K1.length : Int)) = False := by simp; omega
      clear hlt hk
      go_upto_region 21 with fail
      replace hT := hT.drew
      obtain ⟨s2, hS⟩ := hT.val
      obtain ⟨vb, ob, cp, rfl⟩ := hS.form
      clear hT
      have hT := hS
      clear hS
      refine wp_region_noPanic ?_
      refine wp_region_held_drew (S := (fun _ => True)) (by kernel_rfl) ?_ (fun hHeld => ?_)
      · (try dsimp only); (try trivial)
      refine wpAnyH_take (i := 0) (oi := { dst := some 83, op := Go.Op.move (Go.Operand.tmp 7), type := 24, pos := "law.go:95", after := #[], guard := none }) (v := ?v1) rfl (by kernel_rfl) (by kernel_rfl) (by kernel_rfl) (fun _ _ _ h => h) (Or.inl ⟨by rfl, ?hy1⟩) (by assumption) ?rest1
      case hy1 => (intro w hSw; (try dsimp only at hSw); go_simp <;> with_reducible rfl)
      try simp only [Act.put, List.setIfInBounds_toArray, List.set_cons_zero, List.set_cons_succ]
      refine wpAnyH_take (i := 3) (oi := { dst := some 86, op := Go.Op.move (Go.Operand.tmp 8), type := 26, pos := "law.go:95", after := #[], guard := none }) (v := ?v2) rfl (by kernel_rfl) (by kernel_rfl) (by kernel_rfl) (fun _ _ _ h => h) (Or.inl ⟨by rfl, ?hy2⟩) (by assumption) ?rest2
      case hy2 => (intro w hSw; (try dsimp only at hSw); go_simp <;> with_reducible rfl)
      try simp only [Act.put, List.setIfInBounds_toArray, List.set_cons_zero, List.set_cons_succ]
      refine wpAnyH_take (i := 4) (oi := { dst := some 87, op := Go.Op.nilCheck (Go.Operand.tmp 86), type := 0, pos := "law.go:95", after := #[{ on := 3, ground := Go.Ground.data }], guard := none }) (v := ?v3) rfl (by kernel_rfl) (by kernel_rfl) (by kernel_rfl) (fun _ _ _ h => h) (Or.inl ⟨by rfl, ?hy3⟩) (by assumption) ?rest3
      case hy3 => (intro w hSw; (try dsimp only at hSw); go_simp <;> with_reducible rfl)
      try simp only [Act.put, List.setIfInBounds_toArray, List.set_cons_zero, List.set_cons_succ]
      refine wpAnyH_take (i := 5) (oi := { dst := some 88, op := Go.Op.fieldAddr 51 (Go.Operand.tmp 87) 0, type := 0, pos := "law.go:95", after := #[{ on := 4, ground := Go.Ground.data }], guard := none }) (v := ?v4) rfl (by kernel_rfl) (by kernel_rfl) (by kernel_rfl) (fun _ _ _ h => h) (Or.inl ⟨by rfl, ?hy4⟩) (by assumption) ?rest4
      case hy4 => (intro w hSw; (try dsimp only at hSw); go_simp <;> with_reducible rfl)
      try simp only [Act.put, List.setIfInBounds_toArray, List.set_cons_zero, List.set_cons_succ]
      refine wpAnyH_ready (rs := [1, 6]) (by kernel_rfl) (by simp) ?_
      refine AllReadyH.cons (o := { dst := some 84, op := Go.Op.call { callee := Go.Callee.value (Go.Operand.func 21), args := #[Go.Operand.tmp 83], argTypes := #[24] }, type := 22, pos := "law.go:95", after := #[{ on := 0, ground := Go.Ground.data }], guard := none }) rfl (fun K hK => ?_) ?_
      ·
        go_simp
        go_at_call 21; refine (hT.load (fun B O hP hB => mBytes hP hB)).mono ?_; rintro e w5 ⟨v5, rfl, hT2⟩; obtain ⟨a5, c5, rfl, hle5⟩ := hT2.fact.2.len; clear hle5; clear hT; have hT := hT2; clear hT2
        refine hK.out _ _ ?_ (fun hHeld2 => ?_)
        · (try dsimp only); (try trivial)
        clear hK K hHeld
        have hHeld := hHeld2
        clear hHeld2
        try simp only [Act.put, List.setIfInBounds_toArray, List.set_cons_zero, List.set_cons_succ]
        refine wpAnyH_ready (rs := [2, 6]) (by kernel_rfl) (by simp) ?_
        refine AllReadyH.cons (o := { dst := some 85, op := Go.Op.convert 22 9 (Go.Operand.tmp 84), type := 9, pos := "law.go:95", after := #[{ on := 1, ground := Go.Ground.data }], guard := none }) rfl (fun K hK => ?_) ?_
        ·
          have estr := Bs.str (P := Try.prog) hT.fact.2 (src := 22) (dst := 9) Try.underlying22 Try.underlying5 Try.underlying9
          go_simp
          refine hK.out _ _ ?_ (fun hHeld2 => ?_)
          · (try dsimp only); (try trivial)
          clear hK K hHeld
          have hHeld := hHeld2
          clear hHeld2
          try simp only [Act.put, List.setIfInBounds_toArray, List.set_cons_zero, List.set_cons_succ]
          refine wpAnyH_ready (rs := [6]) (by kernel_rfl) (by simp) ?_
          refine AllReadyH.cons (o := { dst := some 89, op := Go.Op.load 22 (Go.Operand.tmp 88), type := 22, pos := "law.go:95", after := #[{ on := 5, ground := Go.Ground.data }], guard := none }) rfl (fun K hK => ?_) AllReadyH.nil
          have rc := hT.cell
          go_simp
          refine hK.out _ _ ?_ (fun hHeld2 => ?_)
          · (try dsimp only); (try trivial)
          clear hK K hHeld
          have hHeld := hHeld2
          clear hHeld2
          try simp only [Act.put, List.setIfInBounds_toArray, List.set_cons_zero, List.set_cons_succ]
          refine wpAnyH_ready (rs := [7]) (by kernel_rfl) (by simp) ?_
          refine AllReadyH.cons (o := { dst := some 90, op := Go.Op.convert 22 9 (Go.Operand.tmp 89), type := 9, pos := "law.go:95", after := #[{ on := 6, ground := Go.Ground.data }], guard := none }) rfl (fun K hK => ?_) AllReadyH.nil
          have rstr := Bs.str (P := Try.prog) hT.bs (src := 22) (dst := 9) Try.underlying22 Try.underlying5 Try.underlying9
          go_simp
          refine hK.out _ _ ?_ (fun hHeld2 => ?_)
          · (try dsimp only); (try trivial)
          clear hK K hHeld
          have hHeld := hHeld2
          clear hHeld2
          try simp only [Act.put, List.setIfInBounds_toArray, List.set_cons_zero, List.set_cons_succ]
          refine wpAnyH_take (i := 8) (oi := { dst := some 91, op := Go.Op.binOp Go.BinOp.eql 9 (Go.Operand.tmp 85) (Go.Operand.tmp 90) 9, type := 4, pos := "law.go:95", after := #[{ on := 2, ground := Go.Ground.data }, { on := 7, ground := Go.Ground.data }], guard := none }) (v := ?v5) rfl (by kernel_rfl) (by kernel_rfl) (by kernel_rfl) (fun _ _ _ h => h) (Or.inl ⟨by rfl, ?hy5⟩) (by assumption) ?rest5
          case hy5 => (intro w hSw; (try dsimp only at hSw); go_simp <;> with_reducible rfl)
          try simp only [Act.put, List.setIfInBounds_toArray, List.set_cons_zero, List.set_cons_succ]
          refine wpAnyH_take (i := 9) (oi := { dst := some 6, op := Go.Op.assign (Go.Operand.tmp 91), type := 4, pos := "law.go:95", after := #[{ on := 8, ground := Go.Ground.data }, { on := 1, ground := Go.Ground.chain }, { on := 0, ground := Go.Ground.phase }, { on := 1, ground := Go.Ground.phase }, { on := 2, ground := Go.Ground.phase }, { on := 3, ground := Go.Ground.phase }, { on := 4, ground := Go.Ground.phase }, { on := 5, ground := Go.Ground.phase }, { on := 6, ground := Go.Ground.phase }, { on := 7, ground := Go.Ground.phase }, { on := 8, ground := Go.Ground.phase }], guard := none }) (v := ?v6) rfl (by kernel_rfl) (by kernel_rfl) (by kernel_rfl) (fun _ _ _ h => h) (Or.inl ⟨by rfl, ?hy6⟩) (by assumption) ?rest6
          case hy6 => (intro w hSw; (try dsimp only at hSw); go_simp <;> with_reducible rfl)
          try simp only [Act.put, List.setIfInBounds_toArray, List.set_cons_zero, List.set_cons_succ]
          refine wpAnyH_done (by kernel_rfl) ?_ _
          refine NoPanic.normal ?_
          go_wp2
          go_ret
          exact ⟨rfl, hT.two.bel⟩
        refine AllReadyH.cons (o := { dst := some 89, op := Go.Op.load 22 (Go.Operand.tmp 88), type := 22, pos := "law.go:95", after := #[{ on := 5, ground := Go.Ground.data }], guard := none }) rfl (fun K hK => ?_) ?_
        ·
          have rc := hT.cell
          go_simp
          refine hK.out _ _ ?_ (fun hHeld2 => ?_)
          · (try dsimp only); (try trivial)
          clear hK K hHeld
          have hHeld := hHeld2
          clear hHeld2
          try simp only [Act.put, List.setIfInBounds_toArray, List.set_cons_zero, List.set_cons_succ]
          refine wpAnyH_ready (rs := [2, 7]) (by kernel_rfl) (by simp) ?_
          refine AllReadyH.cons (o := { dst := some 85, op := Go.Op.convert 22 9 (Go.Operand.tmp 84), type := 9, pos := "law.go:95", after := #[{ on := 1, ground := Go.Ground.data }], guard := none }) rfl (fun K hK => ?_) ?_
          ·
            have estr := Bs.str (P := Try.prog) hT.fact.2 (src := 22) (dst := 9) Try.underlying22 Try.underlying5 Try.underlying9
            go_simp
            refine hK.out _ _ ?_ (fun hHeld2 => ?_)
            · (try dsimp only); (try trivial)
            clear hK K hHeld
            have hHeld := hHeld2
            clear hHeld2
            try simp only [Act.put, List.setIfInBounds_toArray, List.set_cons_zero, List.set_cons_succ]
            refine wpAnyH_ready (rs := [7]) (by kernel_rfl) (by simp) ?_
            refine AllReadyH.cons (o := { dst := some 90, op := Go.Op.convert 22 9 (Go.Operand.tmp 89), type := 9, pos := "law.go:95", after := #[{ on := 6, ground := Go.Ground.data }], guard := none }) rfl (fun K hK => ?_) AllReadyH.nil
            have rstr := Bs.str (P := Try.prog) hT.bs (src := 22) (dst := 9) Try.underlying22 Try.underlying5 Try.underlying9
            go_simp
            refine hK.out _ _ ?_ (fun hHeld2 => ?_)
            · (try dsimp only); (try trivial)
            clear hK K hHeld
            have hHeld := hHeld2
            clear hHeld2
            try simp only [Act.put, List.setIfInBounds_toArray, List.set_cons_zero, List.set_cons_succ]
            refine wpAnyH_take (i := 8) (oi := { dst := some 91, op := Go.Op.binOp Go.BinOp.eql 9 (Go.Operand.tmp 85) (Go.Operand.tmp 90) 9, type := 4, pos := "law.go:95", after := #[{ on := 2, ground := Go.Ground.data }, { on := 7, ground := Go.Ground.data }], guard := none }) (v := ?v7) rfl (by kernel_rfl) (by kernel_rfl) (by kernel_rfl) (fun _ _ _ h => h) (Or.inl ⟨by rfl, ?hy7⟩) (by assumption) ?rest7
            case hy7 => (intro w hSw; (try dsimp only at hSw); go_simp <;> with_reducible rfl)
            try simp only [Act.put, List.setIfInBounds_toArray, List.set_cons_zero, List.set_cons_succ]
            refine wpAnyH_take (i := 9) (oi := { dst := some 6, op := Go.Op.assign (Go.Operand.tmp 91), type := 4, pos := "law.go:95", after := #[{ on := 8, ground := Go.Ground.data }, { on := 1, ground := Go.Ground.chain }, { on := 0, ground := Go.Ground.phase }, { on := 1, ground := Go.Ground.phase }, { on := 2, ground := Go.Ground.phase }, { on := 3, ground := Go.Ground.phase }, { on := 4, ground := Go.Ground.phase }, { on := 5, ground := Go.Ground.phase }, { on := 6, ground := Go.Ground.phase }, { on := 7, ground := Go.Ground.phase }, { on := 8, ground := Go.Ground.phase }], guard := none }) (v := ?v8) rfl (by kernel_rfl) (by kernel_rfl) (by kernel_rfl) (fun _ _ _ h => h) (Or.inl ⟨by rfl, ?hy8⟩) (by assumption) ?rest8
            case hy8 => (intro w hSw; (try dsimp only at hSw); go_simp <;> with_reducible rfl)
            try simp only [Act.put, List.setIfInBounds_toArray, List.set_cons_zero, List.set_cons_succ]
            refine wpAnyH_done (by kernel_rfl) ?_ _
            refine NoPanic.normal ?_
            go_wp2
            go_ret
            exact ⟨rfl, hT.two.bel⟩
          refine AllReadyH.cons (o := { dst := some 90, op := Go.Op.convert 22 9 (Go.Operand.tmp 89), type := 9, pos := "law.go:95", after := #[{ on := 6, ground := Go.Ground.data }], guard := none }) rfl (fun K hK => ?_) ?_
          ·
            have rstr := Bs.str (P := Try.prog) hT.bs (src := 22) (dst := 9) Try.underlying22 Try.underlying5 Try.underlying9
            go_simp
            refine hK.out _ _ ?_ (fun hHeld2 => ?_)
            · (try dsimp only); (try trivial)
            clear hK K hHeld
            have hHeld := hHeld2
            clear hHeld2
            try simp only [Act.put, List.setIfInBounds_toArray, List.set_cons_zero, List.set_cons_succ]
            refine wpAnyH_ready (rs := [2]) (by kernel_rfl) (by simp) ?_
            refine AllReadyH.cons (o := { dst := some 85, op := Go.Op.convert 22 9 (Go.Operand.tmp 84), type := 9, pos := "law.go:95", after := #[{ on := 1, ground := Go.Ground.data }], guard := none }) rfl (fun K hK => ?_) AllReadyH.nil
            have estr := Bs.str (P := Try.prog) hT.fact.2 (src := 22) (dst := 9) Try.underlying22 Try.underlying5 Try.underlying9
            go_simp
            refine hK.out _ _ ?_ (fun hHeld2 => ?_)
            · (try dsimp only); (try trivial)
            clear hK K hHeld
            have hHeld := hHeld2
            clear hHeld2
            try simp only [Act.put, List.setIfInBounds_toArray, List.set_cons_zero, List.set_cons_succ]
            refine wpAnyH_take (i := 8) (oi := { dst := some 91, op := Go.Op.binOp Go.BinOp.eql 9 (Go.Operand.tmp 85) (Go.Operand.tmp 90) 9, type := 4, pos := "law.go:95", after := #[{ on := 2, ground := Go.Ground.data }, { on := 7, ground := Go.Ground.data }], guard := none }) (v := ?v9) rfl (by kernel_rfl) (by kernel_rfl) (by kernel_rfl) (fun _ _ _ h => h) (Or.inl ⟨by rfl, ?hy9⟩) (by assumption) ?rest9
            case hy9 => (intro w hSw; (try dsimp only at hSw); go_simp <;> with_reducible rfl)
            try simp only [Act.put, List.setIfInBounds_toArray, List.set_cons_zero, List.set_cons_succ]
            refine wpAnyH_take (i := 9) (oi := { dst := some 6, op := Go.Op.assign (Go.Operand.tmp 91), type := 4, pos := "law.go:95", after := #[{ on := 8, ground := Go.Ground.data }, { on := 1, ground := Go.Ground.chain }, { on := 0, ground := Go.Ground.phase }, { on := 1, ground := Go.Ground.phase }, { on := 2, ground := Go.Ground.phase }, { on := 3, ground := Go.Ground.phase }, { on := 4, ground := Go.Ground.phase }, { on := 5, ground := Go.Ground.phase }, { on := 6, ground := Go.Ground.phase }, { on := 7, ground := Go.Ground.phase }, { on := 8, ground := Go.Ground.phase }], guard := none }) (v := ?v10) rfl (by kernel_rfl) (by kernel_rfl) (by kernel_rfl) (fun _ _ _ h => h) (Or.inl ⟨by rfl, ?hy10⟩) (by assumption) ?rest10
            case hy10 => (intro w hSw; (try dsimp only at hSw); go_simp <;> with_reducible rfl)
            try simp only [Act.put, List.setIfInBounds_toArray, List.set_cons_zero, List.set_cons_succ]
            refine wpAnyH_done (by kernel_rfl) ?_ _
            refine NoPanic.normal ?_
            go_wp2
            go_ret
            exact ⟨rfl, hT.two.bel⟩
          exact AllReadyH.nil
        exact AllReadyH.nil
      refine AllReadyH.cons (o := { dst := some 89, op := Go.Op.load 22 (Go.Operand.tmp 88), type := 22, pos := "law.go:95", after := #[{ on := 5, ground := Go.Ground.data }], guard := none }) rfl (fun K hK => ?_) ?_
      ·
        have rc := hT.cell
        go_simp
        refine hK.out _ _ ?_ (fun hHeld2 => ?_)
        · (try dsimp only); (try trivial)
        clear hK K hHeld
        have hHeld := hHeld2
        clear hHeld2
        try simp only [Act.put, List.setIfInBounds_toArray, List.set_cons_zero, List.set_cons_succ]
        refine wpAnyH_ready (rs := [1, 7]) (by kernel_rfl) (by simp) ?_
        refine AllReadyH.cons (o := { dst := some 84, op := Go.Op.call { callee := Go.Callee.value (Go.Operand.func 21), args := #[Go.Operand.tmp 83], argTypes := #[24] }, type := 22, pos := "law.go:95", after := #[{ on := 0, ground := Go.Ground.data }], guard := none }) rfl (fun K hK => ?_) ?_
        ·
          go_simp
          go_at_call 21; refine (hT.load (fun B O hP hB => mBytes hP hB)).mono ?_; rintro e w5 ⟨v5, rfl, hT2⟩; obtain ⟨a5, c5, rfl, hle5⟩ := hT2.fact.2.len; clear hle5; clear hT; have hT := hT2; clear hT2
          refine hK.out _ _ ?_ (fun hHeld2 => ?_)
          · (try dsimp only); (try trivial)
          clear hK K hHeld
          have hHeld := hHeld2
          clear hHeld2
          try simp only [Act.put, List.setIfInBounds_toArray, List.set_cons_zero, List.set_cons_succ]
          refine wpAnyH_ready (rs := [2, 7]) (by kernel_rfl) (by simp) ?_
          refine AllReadyH.cons (o := { dst := some 85, op := Go.Op.convert 22 9 (Go.Operand.tmp 84), type := 9, pos := "law.go:95", after := #[{ on := 1, ground := Go.Ground.data }], guard := none }) rfl (fun K hK => ?_) ?_
          ·
            have estr := Bs.str (P := Try.prog) hT.fact.2 (src := 22) (dst := 9) Try.underlying22 Try.underlying5 Try.underlying9
            go_simp
            refine hK.out _ _ ?_ (fun hHeld2 => ?_)
            · (try dsimp only); (try trivial)
            clear hK K hHeld
            have hHeld := hHeld2
            clear hHeld2
            try simp only [Act.put, List.setIfInBounds_toArray, List.set_cons_zero, List.set_cons_succ]
            refine wpAnyH_ready (rs := [7]) (by kernel_rfl) (by simp) ?_
            refine AllReadyH.cons (o := { dst := some 90, op := Go.Op.convert 22 9 (Go.Operand.tmp 89), type := 9, pos := "law.go:95", after := #[{ on := 6, ground := Go.Ground.data }], guard := none }) rfl (fun K hK => ?_) AllReadyH.nil
            have rstr := Bs.str (P := Try.prog) hT.bs (src := 22) (dst := 9) Try.underlying22 Try.underlying5 Try.underlying9
            go_simp
            refine hK.out _ _ ?_ (fun hHeld2 => ?_)
            · (try dsimp only); (try trivial)
            clear hK K hHeld
            have hHeld := hHeld2
            clear hHeld2
            try simp only [Act.put, List.setIfInBounds_toArray, List.set_cons_zero, List.set_cons_succ]
            refine wpAnyH_take (i := 8) (oi := { dst := some 91, op := Go.Op.binOp Go.BinOp.eql 9 (Go.Operand.tmp 85) (Go.Operand.tmp 90) 9, type := 4, pos := "law.go:95", after := #[{ on := 2, ground := Go.Ground.data }, { on := 7, ground := Go.Ground.data }], guard := none }) (v := ?v11) rfl (by kernel_rfl) (by kernel_rfl) (by kernel_rfl) (fun _ _ _ h => h) (Or.inl ⟨by rfl, ?hy11⟩) (by assumption) ?rest11
            case hy11 => (intro w hSw; (try dsimp only at hSw); go_simp <;> with_reducible rfl)
            try simp only [Act.put, List.setIfInBounds_toArray, List.set_cons_zero, List.set_cons_succ]
            refine wpAnyH_take (i := 9) (oi := { dst := some 6, op := Go.Op.assign (Go.Operand.tmp 91), type := 4, pos := "law.go:95", after := #[{ on := 8, ground := Go.Ground.data }, { on := 1, ground := Go.Ground.chain }, { on := 0, ground := Go.Ground.phase }, { on := 1, ground := Go.Ground.phase }, { on := 2, ground := Go.Ground.phase }, { on := 3, ground := Go.Ground.phase }, { on := 4, ground := Go.Ground.phase }, { on := 5, ground := Go.Ground.phase }, { on := 6, ground := Go.Ground.phase }, { on := 7, ground := Go.Ground.phase }, { on := 8, ground := Go.Ground.phase }], guard := none }) (v := ?v12) rfl (by kernel_rfl) (by kernel_rfl) (by kernel_rfl) (fun _ _ _ h => h) (Or.inl ⟨by rfl, ?hy12⟩) (by assumption) ?rest12
            case hy12 => (intro w hSw; (try dsimp only at hSw); go_simp <;> with_reducible rfl)
            try simp only [Act.put, List.setIfInBounds_toArray, List.set_cons_zero, List.set_cons_succ]
            refine wpAnyH_done (by kernel_rfl) ?_ _
            refine NoPanic.normal ?_
            go_wp2
            go_ret
            exact ⟨rfl, hT.two.bel⟩
          refine AllReadyH.cons (o := { dst := some 90, op := Go.Op.convert 22 9 (Go.Operand.tmp 89), type := 9, pos := "law.go:95", after := #[{ on := 6, ground := Go.Ground.data }], guard := none }) rfl (fun K hK => ?_) ?_
          ·
            have rstr := Bs.str (P := Try.prog) hT.bs (src := 22) (dst := 9) Try.underlying22 Try.underlying5 Try.underlying9
            go_simp
            refine hK.out _ _ ?_ (fun hHeld2 => ?_)
            · (try dsimp only); (try trivial)
            clear hK K hHeld
            have hHeld := hHeld2
            clear hHeld2
            try simp only [Act.put, List.setIfInBounds_toArray, List.set_cons_zero, List.set_cons_succ]
            refine wpAnyH_ready (rs := [2]) (by kernel_rfl) (by simp) ?_
            refine AllReadyH.cons (o := { dst := some 85, op := Go.Op.convert 22 9 (Go.Operand.tmp 84), type := 9, pos := "law.go:95", after := #[{ on := 1, ground := Go.Ground.data }], guard := none }) rfl (fun K hK => ?_) AllReadyH.nil
            have estr := Bs.str (P := Try.prog) hT.fact.2 (src := 22) (dst := 9) Try.underlying22 Try.underlying5 Try.underlying9
            go_simp
            refine hK.out _ _ ?_ (fun hHeld2 => ?_)
            · (try dsimp only); (try trivial)
            clear hK K hHeld
            have hHeld := hHeld2
            clear hHeld2
            try simp only [Act.put, List.setIfInBounds_toArray, List.set_cons_zero, List.set_cons_succ]
            refine wpAnyH_take (i := 8) (oi := { dst := some 91, op := Go.Op.binOp Go.BinOp.eql 9 (Go.Operand.tmp 85) (Go.Operand.tmp 90) 9, type := 4, pos := "law.go:95", after := #[{ on := 2, ground := Go.Ground.data }, { on := 7, ground := Go.Ground.data }], guard := none }) (v := ?v13) rfl (by kernel_rfl) (by kernel_rfl) (by kernel_rfl) (fun _ _ _ h => h) (Or.inl ⟨by rfl, ?hy13⟩) (by assumption) ?rest13
            case hy13 => (intro w hSw; (try dsimp only at hSw); go_simp <;> with_reducible rfl)
            try simp only [Act.put, List.setIfInBounds_toArray, List.set_cons_zero, List.set_cons_succ]
            refine wpAnyH_take (i := 9) (oi := { dst := some 6, op := Go.Op.assign (Go.Operand.tmp 91), type := 4, pos := "law.go:95", after := #[{ on := 8, ground := Go.Ground.data }, { on := 1, ground := Go.Ground.chain }, { on := 0, ground := Go.Ground.phase }, { on := 1, ground := Go.Ground.phase }, { on := 2, ground := Go.Ground.phase }, { on := 3, ground := Go.Ground.phase }, { on := 4, ground := Go.Ground.phase }, { on := 5, ground := Go.Ground.phase }, { on := 6, ground := Go.Ground.phase }, { on := 7, ground := Go.Ground.phase }, { on := 8, ground := Go.Ground.phase }], guard := none }) (v := ?v14) rfl (by kernel_rfl) (by kernel_rfl) (by kernel_rfl) (fun _ _ _ h => h) (Or.inl ⟨by rfl, ?hy14⟩) (by assumption) ?rest14
            case hy14 => (intro w hSw; (try dsimp only at hSw); go_simp <;> with_reducible rfl)
            try simp only [Act.put, List.setIfInBounds_toArray, List.set_cons_zero, List.set_cons_succ]
            refine wpAnyH_done (by kernel_rfl) ?_ _
            refine NoPanic.normal ?_
            go_wp2
            go_ret
            exact ⟨rfl, hT.two.bel⟩
          exact AllReadyH.nil
        refine AllReadyH.cons (o := { dst := some 90, op := Go.Op.convert 22 9 (Go.Operand.tmp 89), type := 9, pos := "law.go:95", after := #[{ on := 6, ground := Go.Ground.data }], guard := none }) rfl (fun K hK => ?_) ?_
        ·
          have rstr := Bs.str (P := Try.prog) hT.bs (src := 22) (dst := 9) Try.underlying22 Try.underlying5 Try.underlying9
          go_simp
          refine hK.out _ _ ?_ (fun hHeld2 => ?_)
          · (try dsimp only); (try trivial)
          clear hK K hHeld
          have hHeld := hHeld2
          clear hHeld2
          try simp only [Act.put, List.setIfInBounds_toArray, List.set_cons_zero, List.set_cons_succ]
          refine wpAnyH_ready (rs := [1]) (by kernel_rfl) (by simp) ?_
          refine AllReadyH.cons (o := { dst := some 84, op := Go.Op.call { callee := Go.Callee.value (Go.Operand.func 21), args := #[Go.Operand.tmp 83], argTypes := #[24] }, type := 22, pos := "law.go:95", after := #[{ on := 0, ground := Go.Ground.data }], guard := none }) rfl (fun K hK => ?_) AllReadyH.nil
          go_simp
          go_at_call 21; refine (hT.load (fun B O hP hB => mBytes hP hB)).mono ?_; rintro e w5 ⟨v5, rfl, hT2⟩; obtain ⟨a5, c5, rfl, hle5⟩ := hT2.fact.2.len; clear hle5; clear hT; have hT := hT2; clear hT2
          refine hK.out _ _ ?_ (fun hHeld2 => ?_)
          · (try dsimp only); (try trivial)
          clear hK K hHeld
          have hHeld := hHeld2
          clear hHeld2
          try simp only [Act.put, List.setIfInBounds_toArray, List.set_cons_zero, List.set_cons_succ]
          refine wpAnyH_ready (rs := [2]) (by kernel_rfl) (by simp) ?_
          refine AllReadyH.cons (o := { dst := some 85, op := Go.Op.convert 22 9 (Go.Operand.tmp 84), type := 9, pos := "law.go:95", after := #[{ on := 1, ground := Go.Ground.data }], guard := none }) rfl (fun K hK => ?_) AllReadyH.nil
          have estr := Bs.str (P := Try.prog) hT.fact.2 (src := 22) (dst := 9) Try.underlying22 Try.underlying5 Try.underlying9
          go_simp
          refine hK.out _ _ ?_ (fun hHeld2 => ?_)
          · (try dsimp only); (try trivial)
          clear hK K hHeld
          have hHeld := hHeld2
          clear hHeld2
          try simp only [Act.put, List.setIfInBounds_toArray, List.set_cons_zero, List.set_cons_succ]
          refine wpAnyH_take (i := 8) (oi := { dst := some 91, op := Go.Op.binOp Go.BinOp.eql 9 (Go.Operand.tmp 85) (Go.Operand.tmp 90) 9, type := 4, pos := "law.go:95", after := #[{ on := 2, ground := Go.Ground.data }, { on := 7, ground := Go.Ground.data }], guard := none }) (v := ?v15) rfl (by kernel_rfl) (by kernel_rfl) (by kernel_rfl) (fun _ _ _ h => h) (Or.inl ⟨by rfl, ?hy15⟩) (by assumption) ?rest15
          case hy15 => (intro w hSw; (try dsimp only at hSw); go_simp <;> with_reducible rfl)
          try simp only [Act.put, List.setIfInBounds_toArray, List.set_cons_zero, List.set_cons_succ]
          refine wpAnyH_take (i := 9) (oi := { dst := some 6, op := Go.Op.assign (Go.Operand.tmp 91), type := 4, pos := "law.go:95", after := #[{ on := 8, ground := Go.Ground.data }, { on := 1, ground := Go.Ground.chain }, { on := 0, ground := Go.Ground.phase }, { on := 1, ground := Go.Ground.phase }, { on := 2, ground := Go.Ground.phase }, { on := 3, ground := Go.Ground.phase }, { on := 4, ground := Go.Ground.phase }, { on := 5, ground := Go.Ground.phase }, { on := 6, ground := Go.Ground.phase }, { on := 7, ground := Go.Ground.phase }, { on := 8, ground := Go.Ground.phase }], guard := none }) (v := ?v16) rfl (by kernel_rfl) (by kernel_rfl) (by kernel_rfl) (fun _ _ _ h => h) (Or.inl ⟨by rfl, ?hy16⟩) (by assumption) ?rest16
          case hy16 => (intro w hSw; (try dsimp only at hSw); go_simp <;> with_reducible rfl)
          try simp only [Act.put, List.setIfInBounds_toArray, List.set_cons_zero, List.set_cons_succ]
          refine wpAnyH_done (by kernel_rfl) ?_ _
          refine NoPanic.normal ?_
          go_wp2
          go_ret
          exact ⟨rfl, hT.two.bel⟩
        exact AllReadyH.nil
      exact AllReadyH.nil
end Go.Proofs.Ytcfblcgdjhpdaaa

/- Slices of integers, opened. -/
namespace Go.Proofs.Ytcfblcgdjhpdaaa
open Go.ChangeMaps Go.ChangeShapes Go.WideShapes Go.ChangeAt Go.RowKit Go.Joins Go.Deep
set_option linter.unusedVariables false
variable {H : Type} {enc : TypeId × Value → H} {w : World} {base : Nat} {spare : Nat → Bool} {held : Bool}

theorem i64_wf' {n : Int} (h : (Lit.int .i64 n).wf = true) : isI n := by
  simp [Lit.wf, IntKind.min, IntKind.max, IntKind.signed, IntKind.bits] at h
  unfold isI; omega
/-- A slice of integers that came in. -/
theorem open_rvI {fuel : Nat} {a0 : Option Addr} {n c : Nat} {x : DataW H × List MemPlace} (h : DataW.trod enc Try.prog w base spare held fuel 43 [.slice a0 n c] = some x) : ∃ l : List Int, l.length = n ∧ Rv w 1 (.slice a0 n c) n (ic l) ∧ (∀ z ∈ l, isI z) ∧ n ≤ 9223372036854775807 := by
  rcases open_ints Try.underlying43 Try.underlying2 (show Try.prog.cellsOf 2 = 1 by kernel_rfl) h with ⟨hcs, _⟩ | ⟨a, len, cap, zs, hcs, hb, hl, hm2, hlen, hx, hcell, hwf⟩
  · simp at hcs
    obtain ⟨rfl, rfl, rfl⟩ := hcs
    exact ⟨[], rfl, ⟨by simp [ic], by simp [ic], .inl ⟨rfl, rfl⟩⟩, by simp, by omega⟩
  · simp at hcs
    obtain ⟨rfl, rfl, rfl⟩ := hcs
    have hzl : n ≤ zs.length := by rw [hlen]; split <;> omega
    have hln : (zs.take n).length = n := by rw [List.length_take]; omega
    unfold maxLen at hm2
    refine ⟨zs.take n, hln, ⟨by rw [ic_len, hln]; omega, fun u hu => by obtain ⟨z, _, rfl⟩ := List.mem_map.1 hu; rfl, .inr ⟨a, c, rfl, fun j u hj => ?_⟩⟩, fun z hz => i64_wf' (hwf z (List.mem_of_mem_take hz)), by omega⟩
    have hj2 := (List.getElem?_eq_some_iff.1 hj).1
    rw [ic_len, hln] at hj2
    rw [hcell j (by omega)]
    rw [ic, List.getElem?_map, List.getElem?_take_of_lt hj2, List.getElem?_eq_getElem (by omega)] at hj
    rw [List.getD_eq_getElem?_getD, List.getElem?_eq_getElem (by omega)]
    simpa using hj
end Go.Proofs.Ytcfblcgdjhpdaaa
