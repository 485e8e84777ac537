/- The reference's memory: 'Lay'. -/
import Derived.Test.YtcfblcgdjhpdaaaN2
namespace Go.Proofs.Ytcfblcgdjhpdaaa
open Go.RowKit
set_option linter.unusedVariables false
set_option linter.unusedSimpArgs false
attribute [local go_sem] cell_set set_set m_undef

set_option maxRecDepth 100000 in
set_option maxHeartbeats 1600000 in
theorem rLay {w : World} {base rb : Nat} {M : List UInt8} {R : Nat → Prop} (h : RefP w base rb M R) (a : Int) (ha : isI a) {B : Nat} {v : Value} {bs : List UInt8} (hv : Bs w B v bs) (hbs : bs.length ≤ 1000000) (hvR : ∀ k, v.ownBlock = some k → ¬ R k) :
    Calls Try.prog 46 #[.pointer (some ⟨rb, 0, none⟩), .int .i64 a, v] w fun e w' => RefQ w w' base rb (layL M a bs) R (.tuple #[]) e := by
  obtain ⟨vb, ob, ⟨h1, h2, h3, cap, ws, nn, hB, hM⟩, hR⟩ := h
  have hRv : R vb := (hR _).2 (.inr rfl)
  have hRr : R rb := (hR _).2 (.inl rfl)
  unfold isI at ha
  unfold layL
  obtain ⟨N, hN⟩ : ∃ N, bs.length = N := ⟨_, rfl⟩
  obtain ⟨ad, capb, rfl, hcap⟩ := hv.len
  rw [hN]
  have hvt := Lib.hid hv.lt
  have hv' := Lib.hid hv
  rw [hN] at hbs
  clear hv
  replace hB := Lib.hid hB
  replace hM := Lib.hid hM
  go_enter Try.func46, Try.ntmps46
  go_wp2
  go_loopw [9] (fun i wr => ∃ (j : Nat), j ≤ N ∧ i = .int .i64 (j : Int) ∧ Blk wr rb #[.slice (some ⟨vb, ob, none⟩) 8192 cap, ws, .bool nn] 51 ∧ Bs wr base (.slice (some ⟨vb, ob, none⟩) 8192 cap) (layN M a bs j) ∧ Turn w wr R R) (fun i _ => (N - (intOf i).toNat))
  case atStart => exact ⟨0, by omega, rfl, hB.out, hM.out, Turn.refl _ _⟩
  case round =>
    obtain ⟨j, hj, rfl, hBr, hv2, hT⟩ := hrel
    have hvr := hv'.out.turn hT hvR
    obtain ⟨y1, y1f⟩ : wr.cell? ⟨rb, 0, none⟩ = some (.slice (some ⟨vb, ob, none⟩) 8192 cap) ∧ wr.frozen? ⟨rb, 0, none⟩ = false := ⟨by rw [hBr.cell]; rfl, hBr.frozen _⟩
    by_cases hjN : j < N
    · have w1' : IntKind.i64.wrap ((j : Int) + 1) = ((j + 1 : Nat) : Int) := by rw [IntKind.wrap_i64]; omega
      have t2 : ((j : Int) < (N : Int)) = True := by simp; omega
      by_cases h8 : a ≤ 8192
      · have t1 : (a ≤ 8192) = True := by simp; exact h8
        by_cases hin : 0 ≤ a + j ∧ a + j < 8192
        · obtain ⟨kN, hkN⟩ : ∃ kN : Nat, (kN : Int) = a + j := ⟨(a + j).toNat, by omega⟩
          have w2 : IntKind.i64.wrap (a + (j : Int)) = (kN : Int) := by rw [IntKind.wrap_i64]; omega
          have t3 : ((kN : Int) < 8192) = True := by simp; omega
          have hk8 : kN < 8192 := by omega
          have hjb : j < bs.length := by omega
          obtain ⟨b, o, c, he⟩ := hvr.some_of (by intro e; rw [e] at hN; simp at hN; omega)
          cases he
          obtain ⟨r1, r2⟩ := hvr.at j hjb
          obtain ⟨x, hx⟩ : ∃ x, bs[j] = x := ⟨_, rfl⟩
          rw [hx] at r1
          have hxD : bs.getD j 0 = x := by rw [List.getD_eq_getElem?_getD, List.getElem?_eq_getElem hjb, ← hx]; rfl
          clear hx
          have hstep : layN M a bs (j + 1) = (layN M a bs j).set kN x := by rw [layN, if_pos hin, ← hkN, Int.toNat_natCast, hxD]
          obtain ⟨q1, q1f⟩ := hv2.at kN (by rw [layN_len, h1]; exact hk8)
          have hv6 := hv2.setAt kN x (by rw [layN_len, h1]; exact hk8)
          have hBr6 := hBr.set_other (fun e => h3 e.symm) (ob + kN) (.int .u8 (x.toNat : Int))
          have hT6 := hT.set hRv (o := ob + kN) (.int .u8 (x.toNat : Int))
          have hvr1 : vb ≠ rb := h3
          have hvb1 : vb ≠ b := fun e => hvR b rfl (e ▸ hRv)
          replace hv6 := Lib.hid hv6
          replace hBr6 := Lib.hid hBr6
          replace hT6 := Lib.hid hT6
          replace hstep := Lib.hid hstep
          replace q1f := q1f
          obtain ⟨q, hq⟩ : ∃ q, q = (layN M a bs j)[kN]'(by rw [layN_len, h1]; exact hk8) := ⟨_, rfl⟩
          rw [← hq] at q1
          clear hin hkN hxD h8 hBr hvr hv2 hT hq
          go_upto_region 4 with fail
          refine wp_region_noPanic ?_
          refine wp_region_held_drew (S := (fun w' => w'.cell? ⟨rb, 0, none⟩ = some (.slice (some ⟨vb, ob, none⟩) 8192 cap) ∧ w'.cell? ⟨b, o + j, none⟩ = some (.int .u8 (x.toNat : Int)))) (by kernel_rfl) ?_ (fun hHeld => ?_)
          · (try dsimp only); (first | exact ⟨y1, r1⟩ | exact ⟨cell_other y1 hvr1, cell_other r1 hvb1⟩)
          refine wpAnyH_take (i := 0) (oi := { dst := some 26, op := Go.Op.move (Go.Operand.tmp 0), type := 26, pos := "ref.go:88", after := #[], guard := none }) (v := ?v1) rfl (by kernel_rfl) (by kernel_rfl) (by kernel_rfl) (fun _ _ _ h => h) (Or.inl ⟨by rfl, ?hy1⟩) (by assumption) ?rest1
          case hy1 => (intro w hSw; (try dsimp only at hSw); go_simp <;> with_reducible rfl)
          try simp only [Act.put, List.setIfInBounds_toArray, List.set_cons_zero, List.set_cons_succ]
          refine wpAnyH_take (i := 1) (oi := { dst := some 27, op := Go.Op.nilCheck (Go.Operand.tmp 26), type := 0, pos := "ref.go:88", after := #[{ on := 0, ground := Go.Ground.data }], guard := none }) (v := ?v2) rfl (by kernel_rfl) (by kernel_rfl) (by kernel_rfl) (fun _ _ _ h => h) (Or.inl ⟨by rfl, ?hy2⟩) (by assumption) ?rest2
          case hy2 => (intro w hSw; (try dsimp only at hSw); go_simp <;> with_reducible rfl)
          try simp only [Act.put, List.setIfInBounds_toArray, List.set_cons_zero, List.set_cons_succ]
          refine wpAnyH_take (i := 2) (oi := { dst := some 28, op := Go.Op.fieldAddr 51 (Go.Operand.tmp 27) 0, type := 0, pos := "ref.go:88", after := #[{ on := 1, ground := Go.Ground.data }], guard := none }) (v := ?v3) rfl (by kernel_rfl) (by kernel_rfl) (by kernel_rfl) (fun _ _ _ h => h) (Or.inl ⟨by rfl, ?hy3⟩) (by assumption) ?rest3
          case hy3 => (intro w hSw; (try dsimp only at hSw); go_simp <;> with_reducible rfl)
          try simp only [Act.put, List.setIfInBounds_toArray, List.set_cons_zero, List.set_cons_succ]
          refine wpAnyH_take (i := 3) (oi := { dst := some 29, op := Go.Op.load 22 (Go.Operand.tmp 28), type := 22, pos := "ref.go:88", after := #[{ on := 2, ground := Go.Ground.data }], guard := none }) (v := ?v4) rfl (by kernel_rfl) (by kernel_rfl) (by kernel_rfl) (fun _ _ _ h => h) (Or.inl ⟨by rfl, ?hy4⟩) (by assumption) ?rest4
          case hy4 => (intro w hSw; (try dsimp only at hSw); go_simp <;> with_reducible rfl)
          try simp only [Act.put, List.setIfInBounds_toArray, List.set_cons_zero, List.set_cons_succ]
          refine wpAnyH_take (i := 4) (oi := { dst := some 30, op := Go.Op.move (Go.Operand.tmp 1), type := 3, pos := "ref.go:88", after := #[], guard := none }) (v := ?v5) rfl (by kernel_rfl) (by kernel_rfl) (by kernel_rfl) (fun _ _ _ h => h) (Or.inl ⟨by rfl, ?hy5⟩) (by assumption) ?rest5
          case hy5 => (intro w hSw; (try dsimp only at hSw); go_simp <;> with_reducible rfl)
          try simp only [Act.put, List.setIfInBounds_toArray, List.set_cons_zero, List.set_cons_succ]
          refine wpAnyH_take (i := 5) (oi := { dst := some 31, op := Go.Op.move (Go.Operand.tmp 6), type := 3, pos := "ref.go:88", after := #[], guard := none }) (v := ?v6) rfl (by kernel_rfl) (by kernel_rfl) (by kernel_rfl) (fun _ _ _ h => h) (Or.inl ⟨by rfl, ?hy6⟩) (by assumption) ?rest6
          case hy6 => (intro w hSw; (try dsimp only at hSw); go_simp <;> with_reducible rfl)
          try simp only [Act.put, List.setIfInBounds_toArray, List.set_cons_zero, List.set_cons_succ]
          refine wpAnyH_take (i := 6) (oi := { dst := some 32, op := Go.Op.binOp Go.BinOp.add 3 (Go.Operand.tmp 30) (Go.Operand.tmp 31) 3, type := 3, pos := "ref.go:88", after := #[{ on := 4, ground := Go.Ground.data }, { on := 5, ground := Go.Ground.data }], guard := none }) (v := ?v7) rfl (by kernel_rfl) (by kernel_rfl) (by kernel_rfl) (fun _ _ _ h => h) (Or.inl ⟨by rfl, ?hy7⟩) (by assumption) ?rest7
          case hy7 => (intro w hSw; (try dsimp only at hSw); go_simp <;> with_reducible rfl)
          try simp only [Act.put, List.setIfInBounds_toArray, List.set_cons_zero, List.set_cons_succ]
          refine wpAnyH_take (i := 7) (oi := { dst := some 33, op := Go.Op.move (Go.Operand.tmp 2), type := 22, pos := "ref.go:88", after := #[], guard := none }) (v := ?v8) rfl (by kernel_rfl) (by kernel_rfl) (by kernel_rfl) (fun _ _ _ h => h) (Or.inl ⟨by rfl, ?hy8⟩) (by assumption) ?rest8
          case hy8 => (intro w hSw; (try dsimp only at hSw); go_simp <;> with_reducible rfl)
          try simp only [Act.put, List.setIfInBounds_toArray, List.set_cons_zero, List.set_cons_succ]
          refine wpAnyH_take (i := 8) (oi := { dst := some 34, op := Go.Op.move (Go.Operand.tmp 6), type := 3, pos := "ref.go:88", after := #[], guard := none }) (v := ?v9) rfl (by kernel_rfl) (by kernel_rfl) (by kernel_rfl) (fun _ _ _ h => h) (Or.inl ⟨by rfl, ?hy9⟩) (by assumption) ?rest9
          case hy9 => (intro w hSw; (try dsimp only at hSw); go_simp <;> with_reducible rfl)
          try simp only [Act.put, List.setIfInBounds_toArray, List.set_cons_zero, List.set_cons_succ]
          refine wpAnyH_take (i := 9) (oi := { dst := some 35, op := Go.Op.indexAddr 22 (Go.Operand.tmp 33) (Go.Operand.tmp 34), type := 0, pos := "ref.go:88", after := #[{ on := 7, ground := Go.Ground.data }, { on := 8, ground := Go.Ground.data }], guard := none }) (v := ?v10) rfl (by kernel_rfl) (by kernel_rfl) (by kernel_rfl) (fun _ _ _ h => h) (Or.inl ⟨by rfl, ?hy10⟩) (by assumption) ?rest10
          case hy10 => (intro w hSw; (try dsimp only at hSw); go_simp <;> with_reducible rfl)
          try simp only [Act.put, List.setIfInBounds_toArray, List.set_cons_zero, List.set_cons_succ]
          refine wpAnyH_take (i := 10) (oi := { dst := some 36, op := Go.Op.load 5 (Go.Operand.tmp 35), type := 5, pos := "ref.go:88", after := #[{ on := 9, ground := Go.Ground.data }], guard := none }) (v := ?v11) rfl (by kernel_rfl) (by kernel_rfl) (by kernel_rfl) (fun _ _ _ h => h) (Or.inl ⟨by rfl, ?hy11⟩) (by assumption) ?rest11
          case hy11 => (intro w hSw; (try dsimp only at hSw); go_simp <;> with_reducible rfl)
          try simp only [Act.put, List.setIfInBounds_toArray, List.set_cons_zero, List.set_cons_succ]
          refine wpAnyH_take (i := 11) (oi := { dst := some 37, op := Go.Op.indexAddr 22 (Go.Operand.tmp 29) (Go.Operand.tmp 32), type := 0, pos := "ref.go:88", after := #[{ on := 3, ground := Go.Ground.data }, { on := 6, ground := Go.Ground.data }, { on := 0, ground := Go.Ground.phase }, { on := 1, ground := Go.Ground.phase }, { on := 2, ground := Go.Ground.phase }, { on := 3, ground := Go.Ground.phase }, { on := 4, ground := Go.Ground.phase }, { on := 5, ground := Go.Ground.phase }, { on := 6, ground := Go.Ground.phase }, { on := 7, ground := Go.Ground.phase }, { on := 8, ground := Go.Ground.phase }, { on := 9, ground := Go.Ground.phase }, { on := 10, ground := Go.Ground.phase }], guard := none }) (v := ?v12) rfl (by kernel_rfl) (by kernel_rfl) (by kernel_rfl) (fun _ _ _ h => h) (Or.inl ⟨by rfl, ?hy12⟩) (by assumption) ?rest12
          case hy12 => (intro w hSw; (try dsimp only at hSw); go_simp <;> with_reducible rfl)
          try simp only [Act.put, List.setIfInBounds_toArray, List.set_cons_zero, List.set_cons_succ]
          refine wpAnyH_ready (rs := [12]) (by kernel_rfl) (by simp) ?_
          refine AllReadyH.cons (o := { dst := none, op := Go.Op.store 5 (Go.Operand.tmp 37) (Go.Operand.tmp 36), type := 0, pos := "ref.go:88", after := #[{ on := 11, ground := Go.Ground.data }, { on := 10, ground := Go.Ground.data }, { on := 0, ground := Go.Ground.phase }, { on := 1, ground := Go.Ground.phase }, { on := 2, ground := Go.Ground.phase }, { on := 3, ground := Go.Ground.phase }, { on := 4, ground := Go.Ground.phase }, { on := 5, ground := Go.Ground.phase }, { on := 6, ground := Go.Ground.phase }, { on := 7, ground := Go.Ground.phase }, { on := 8, ground := Go.Ground.phase }, { on := 9, ground := Go.Ground.phase }, { on := 10, ground := Go.Ground.phase }], guard := none }) rfl (fun K hK => ?_) AllReadyH.nil
          go_simp
          refine hK.out _ _ ?_ (fun hHeld2 => ?_)
          · (try dsimp only); (first | exact ⟨y1, r1⟩ | exact ⟨cell_other y1 hvr1, cell_other r1 hvb1⟩)
          clear hK K hHeld
          have hHeld := hHeld2
          clear hHeld2
          try simp only [Act.put, List.setIfInBounds_toArray, List.set_cons_zero, List.set_cons_succ]
          refine wpAnyH_done (by kernel_rfl) ?_ _
          refine NoPanic.normal ?_
          go_wp2
          go_roundw
          case rel => exact ⟨j + 1, by omega, rfl, hBr6.out.drew, by rw [hstep.out]; exact hv6.out.below (bel_drew (Below.refl _ _)), hT6.out.trans (Turn.of_below (bel_drew (Below.refl _ _)) R)⟩
          case measure => simp [intOf]; omega
        · obtain ⟨i, hi⟩ : ∃ i : Int, i = a + j := ⟨_, rfl⟩
          have w2 : IntKind.i64.wrap (a + (j : Int)) = i := by rw [IntKind.wrap_i64]; omega
          have hout : layN M a bs (j + 1) = layN M a bs j := by rw [layN, if_neg hin]
          replace hout := Lib.hid hout
          replace hBr := Lib.hid hBr
          replace hv2 := Lib.hid hv2
          replace hT := Lib.hid hT
          by_cases h0 : 0 ≤ i
          · have t3 : ((0 : Int) ≤ i) = True := by simp; exact h0
            have t4 : (i < 8192) = False := by simp; omega
            clear hi hin h0 h8 hvr
            go_wp2
            go_roundw
            case rel => exact ⟨j + 1, by omega, rfl, hBr.out, by rw [hout.out]; exact hv2.out, hT.out⟩
            case measure => simp [intOf]; omega
          · have t3 : ((0 : Int) ≤ i) = False := by simp; omega
            clear hi hin h0 h8 hvr
            go_wp2
            go_roundw
            case rel => exact ⟨j + 1, by omega, rfl, hBr.out, by rw [hout.out]; exact hv2.out, hT.out⟩
            case measure => simp [intOf]; omega
      · have t1 : (a ≤ 8192) = False := by simp; omega
        have hout : layN M a bs (j + 1) = layN M a bs j := by rw [layN, if_neg (by omega)]
        replace hout := Lib.hid hout
        replace hBr := Lib.hid hBr
        replace hv2 := Lib.hid hv2
        replace hT := Lib.hid hT
        clear h8 hvr
        go_wp2
        go_roundw
        case rel => exact ⟨j + 1, by omega, rfl, hBr.out, by rw [hout.out]; exact hv2.out, hT.out⟩
        case measure => simp [intOf]; omega
    · have hjs : j = N := by omega
      subst hjs
      have t2 : ((j : Int) < (j : Int)) = False := by simp
      replace hBr := Lib.hid hBr
      replace hv2 := Lib.hid hv2
      replace hT := Lib.hid hT
      clear hj hvr
      go_wp2
      (try go_end0)
      exact ⟨rfl, R, ⟨vb, ob, ⟨by rw [layN_len]; exact h1, h2, h3, cap, ws, nn, hBr.out, hv2.out⟩, hR⟩, hT.out⟩
end Go.Proofs.Ytcfblcgdjhpdaaa
