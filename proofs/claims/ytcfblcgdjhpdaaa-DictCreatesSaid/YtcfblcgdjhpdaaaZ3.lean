/- Texts merged: N3 Q1 VS QR Q2 N4 Q4 H1. -/
import Derived.Test.YtcfblcgdjhpdaaaZ2
/- The reference's memory: 'Lay'. -/
namespace Go.Proofs.Ytcfblcgdjhpdaaa
open Go.RowKit
set_option linter.unusedVariables false
set_option linter.unusedSimpArgs false
attribute [local go_sem] cell_set set_set m_undef

set_option maxRecDepth 100000 in
set_option maxHeartbeats 1600000 in
theorem rLay {w : World} {base rb : Nat} {M : List UInt8} {R : Nat → Prop} (h : RefP w base rb M R) (a : Int) (ha : isI a) {B : Nat} {v : Value} {bs : List UInt8} (hv : Bs w B v bs) (hbs : bs.length ≤ 1000000) (hvR : ∀ k, v.ownBlock = some k → ¬ R k) :
    Calls Try.prog 46 #[.pointer (some ⟨rb, 0, none⟩), .int .i64 a, v] w fun e w' => RefQ w w' base rb (layL M a bs) R (.tuple #[]) e := by
  obtain ⟨vb, ob, ⟨h1, h2, h3, cap, ws, nn, hB, hM⟩, hR⟩ := h
  have hRv : R vb := (hR _).2 (.inr rfl)
  have hRr : R rb := (hR _).2 (.inl rfl)
  unfold isI at ha
  unfold layL
  obtain ⟨N, hN⟩ : ∃ N, bs.length = N := ⟨_, rfl⟩
  obtain ⟨ad, capb, rfl, hcap⟩ := hv.len
  rw [hN]
  have hvt := Lib.hid hv.lt
  have hv' := Lib.hid hv
  rw [hN] at hbs
  clear hv
  replace hB := Lib.hid hB
  replace hM := Lib.hid hM
  go_enter Try.func46, Try.ntmps46
  go_wp2
  go_loopw [9] (fun i wr => ∃ (j : Nat), j ≤ N ∧ i = .int .i64 (j : Int) ∧ Blk wr rb #[.slice (some ⟨vb, ob, none⟩) 8192 cap, ws, .bool nn] 51 ∧ Bs wr base (.slice (some ⟨vb, ob, none⟩) 8192 cap) (layN M a bs j) ∧ Turn w wr R R) (fun i _ => (N - (intOf i).toNat))
  case atStart => exact ⟨0, by omega, rfl, hB.out, hM.out, Turn.refl _ _⟩
  case round =>
    obtain ⟨j, hj, rfl, hBr, hv2, hT⟩ := hrel
    have hvr := hv'.out.turn hT hvR
    obtain ⟨y1, y1f⟩ : wr.cell? ⟨rb, 0, none⟩ = some (.slice (some ⟨vb, ob, none⟩) 8192 cap) ∧ wr.frozen? ⟨rb, 0, none⟩ = false := ⟨by rw [hBr.cell]; rfl, hBr.frozen _⟩
    by_cases hjN : j < N
    · have w1' : IntKind.i64.wrap ((j : Int) + 1) = ((j + 1 : Nat) : Int) := by rw [IntKind.wrap_i64]; omega
      have t2 : ((j : Int) < (N : Int)) = True := by simp; omega
      by_cases h8 : a ≤ 8192
      · have t1 : (a ≤ 8192) = True := by simp; exact h8
        by_cases hin : 0 ≤ a + j ∧ a + j < 8192
        · obtain ⟨kN, hkN⟩ : ∃ kN : Nat, (kN : Int) = a + j := ⟨(a + j).toNat, by omega⟩
          have w2 : IntKind.i64.wrap (a + (j : Int)) = (kN : Int) := by rw [IntKind.wrap_i64]; omega
          have t3 : ((kN : Int) < 8192) = True := by simp; omega
          have hk8 : kN < 8192 := by omega
          have hjb : j < bs.length := by omega
          obtain ⟨b, o, c, he⟩ := hvr.some_of (by intro e; rw [e] at hN; simp at hN; omega)
          cases he
          obtain ⟨r1, r2⟩ := hvr.at j hjb
          obtain ⟨x, hx⟩ : ∃ x, bs[j] = x := ⟨_, rfl⟩
          rw [hx] at r1
          have hxD : bs.getD j 0 = x := by rw [List.getD_eq_getElem?_getD, List.getElem?_eq_getElem hjb, ← hx]; rfl
          clear hx
          have hstep : layN M a bs (j + 1) = (layN M a bs j).set kN x := by rw [layN, if_pos hin, ← hkN, Int.toNat_natCast, hxD]
          obtain ⟨q1, q1f⟩ := hv2.at kN (by rw [layN_len, h1]; exact hk8)
          have hv6 := hv2.setAt kN x (by rw [layN_len, h1]; exact hk8)
          have hBr6 := hBr.set_other (fun e => h3 e.symm) (ob + kN) (.int .u8 (x.toNat : Int))
          have hT6 := hT.set hRv (o := ob + kN) (.int .u8 (x.toNat : Int))
          have hvr1 : vb ≠ rb := h3
          have hvb1 : vb ≠ b := fun e => hvR b rfl (e ▸ hRv)
          replace hv6 := Lib.hid hv6
          replace hBr6 := Lib.hid hBr6
          replace hT6 := Lib.hid hT6
          replace hstep := Lib.hid hstep
          replace q1f := q1f
          obtain ⟨q, hq⟩ : ∃ q, q = (layN M a bs j)[kN]'(by rw [layN_len, h1]; exact hk8) := ⟨_, rfl⟩
          rw [← hq] at q1
          clear hin hkN hxD h8 hBr hvr hv2 hT hq
          go_upto_region 4 with fail
          refine wp_region_noPanic ?_
          refine wp_region_held_drew (S := (fun w' => w'.cell? ⟨rb, 0, none⟩ = some (.slice (some ⟨vb, ob, none⟩) 8192 cap) ∧ w'.cell? ⟨b, o + j, none⟩ = some (.int .u8 (x.toNat : Int)))) (by kernel_rfl) ?_ (fun hHeld => ?_)
          · (try dsimp only); (first | exact ⟨y1, r1⟩ | exact ⟨cell_other y1 hvr1, cell_other r1 hvb1⟩)
          refine wpAnyH_take (i := 0) (oi := { dst := some 26, op := Go.Op.move (Go.Operand.tmp 0), type := 26, pos := "ref.go:88", after := #[], guard := none }) (v := ?v1) rfl (by kernel_rfl) (by kernel_rfl) (by kernel_rfl) (fun _ _ _ h => h) (Or.inl ⟨by rfl, ?hy1⟩) (by assumption) ?rest1
          case hy1 => (intro w hSw; (try dsimp only at hSw); go_simp <;> with_reducible rfl)
          try simp only [Act.put, List.setIfInBounds_toArray, List.set_cons_zero, List.set_cons_succ]
          refine wpAnyH_take (i := 1) (oi := { dst := some 27, op := Go.Op.nilCheck (Go.Operand.tmp 26), type := 0, pos := "ref.go:88", after := #[{ on := 0, ground := Go.Ground.data }], guard := none }) (v := ?v2) rfl (by kernel_rfl) (by kernel_rfl) (by kernel_rfl) (fun _ _ _ h => h) (Or.inl ⟨by rfl, ?hy2⟩) (by assumption) ?rest2
          case hy2 => (intro w hSw; (try dsimp only at hSw); go_simp <;> with_reducible rfl)
          try simp only [Act.put, List.setIfInBounds_toArray, List.set_cons_zero, List.set_cons_succ]
          refine wpAnyH_take (i := 2) (oi := { dst := some 28, op := Go.Op.fieldAddr 51 (Go.Operand.tmp 27) 0, type := 0, pos := "ref.go:88", after := #[{ on := 1, ground := Go.Ground.data }], guard := none }) (v := ?v3) rfl (by kernel_rfl) (by kernel_rfl) (by kernel_rfl) (fun _ _ _ h => h) (Or.inl ⟨by rfl, ?hy3⟩) (by assumption) ?rest3
          case hy3 => (intro w hSw; (try dsimp only at hSw); go_simp <;> with_reducible rfl)
          try simp only [Act.put, List.setIfInBounds_toArray, List.set_cons_zero, List.set_cons_succ]
          refine wpAnyH_take (i := 3) (oi := { dst := some 29, op := Go.Op.load 22 (Go.Operand.tmp 28), type := 22, pos := "ref.go:88", after := #[{ on := 2, ground := Go.Ground.data }], guard := none }) (v := ?v4) rfl (by kernel_rfl) (by kernel_rfl) (by kernel_rfl) (fun _ _ _ h => h) (Or.inl ⟨by rfl, ?hy4⟩) (by assumption) ?rest4
          case hy4 => (intro w hSw; (try dsimp only at hSw); go_simp <;> with_reducible rfl)
          try simp only [Act.put, List.setIfInBounds_toArray, List.set_cons_zero, List.set_cons_succ]
          refine wpAnyH_take (i := 4) (oi := { dst := some 30, op := Go.Op.move (Go.Operand.tmp 1), type := 3, pos := "ref.go:88", after := #[], guard := none }) (v := ?v5) rfl (by kernel_rfl) (by kernel_rfl) (by kernel_rfl) (fun _ _ _ h => h) (Or.inl ⟨by rfl, ?hy5⟩) (by assumption) ?rest5
          case hy5 => (intro w hSw; (try dsimp only at hSw); go_simp <;> with_reducible rfl)
          try simp only [Act.put, List.setIfInBounds_toArray, List.set_cons_zero, List.set_cons_succ]
          refine wpAnyH_take (i := 5) (oi := { dst := some 31, op := Go.Op.move (Go.Operand.tmp 6), type := 3, pos := "ref.go:88", after := #[], guard := none }) (v := ?v6) rfl (by kernel_rfl) (by kernel_rfl) (by kernel_rfl) (fun _ _ _ h => h) (Or.inl ⟨by rfl, ?hy6⟩) (by assumption) ?rest6
          case hy6 => (intro w hSw; (try dsimp only at hSw); go_simp <;> with_reducible rfl)
          try simp only [Act.put, List.setIfInBounds_toArray, List.set_cons_zero, List.set_cons_succ]
          refine wpAnyH_take (i := 6) (oi := { dst := some 32, op := Go.Op.binOp Go.BinOp.add 3 (Go.Operand.tmp 30) (Go.Operand.tmp 31) 3, type := 3, pos := "ref.go:88", after := #[{ on := 4, ground := Go.Ground.data }, { on := 5, ground := Go.Ground.data }], guard := none }) (v := ?v7) rfl (by kernel_rfl) (by kernel_rfl) (by kernel_rfl) (fun _ _ _ h => h) (Or.inl ⟨by rfl, ?hy7⟩) (by assumption) ?rest7
          case hy7 => (intro w hSw; (try dsimp only at hSw); go_simp <;> with_reducible rfl)
          try simp only [Act.put, List.setIfInBounds_toArray, List.set_cons_zero, List.set_cons_succ]
          refine wpAnyH_take (i := 7) (oi := { dst := some 33, op := Go.Op.move (Go.Operand.tmp 2), type := 22, pos := "ref.go:88", after := #[], guard := none }) (v := ?v8) rfl (by kernel_rfl) (by kernel_rfl) (by kernel_rfl) (fun _ _ _ h => h) (Or.inl ⟨by rfl, ?hy8⟩) (by assumption) ?rest8
          case hy8 => (intro w hSw; (try dsimp only at hSw); go_simp <;> with_reducible rfl)
          try simp only [Act.put, List.setIfInBounds_toArray, List.set_cons_zero, List.set_cons_succ]
          refine wpAnyH_take (i := 8) (oi := { dst := some 34, op := Go.Op.move (Go.Operand.tmp 6), type := 3, pos := "ref.go:88", after := #[], guard := none }) (v := ?v9) rfl (by kernel_rfl) (by kernel_rfl) (by kernel_rfl) (fun _ _ _ h => h) (Or.inl ⟨by rfl, ?hy9⟩) (by assumption) ?rest9
          case hy9 => (intro w hSw; (try dsimp only at hSw); go_simp <;> with_reducible rfl)
          try simp only [Act.put, List.setIfInBounds_toArray, List.set_cons_zero, List.set_cons_succ]
          refine wpAnyH_take (i := 9) (oi := { dst := some 35, op := Go.Op.indexAddr 22 (Go.Operand.tmp 33) (Go.Operand.tmp 34), type := 0, pos := "ref.go:88", after := #[{ on := 7, ground := Go.Ground.data }, { on := 8, ground := Go.Ground.data }], guard := none }) (v := ?v10) rfl (by kernel_rfl) (by kernel_rfl) (by kernel_rfl) (fun _ _ _ h => h) (Or.inl ⟨by rfl, ?hy10⟩) (by assumption) ?rest10
          case hy10 => (intro w hSw; (try dsimp only at hSw); go_simp <;> with_reducible rfl)
          try simp only [Act.put, List.setIfInBounds_toArray, List.set_cons_zero, List.set_cons_succ]
          refine wpAnyH_take (i := 10) (oi := { dst := some 36, op := Go.Op.load 5 (Go.Operand.tmp 35), type := 5, pos := "ref.go:88", after := #[{ on := 9, ground := Go.Ground.data }], guard := none }) (v := ?v11) rfl (by kernel_rfl) (by kernel_rfl) (by kernel_rfl) (fun _ _ _ h => h) (Or.inl ⟨by rfl, ?hy11⟩) (by assumption) ?rest11
          case hy11 => (intro w hSw; (try dsimp only at hSw); go_simp <;> with_reducible rfl)
          try simp only [Act.put, List.setIfInBounds_toArray, List.set_cons_zero, List.set_cons_succ]
          refine wpAnyH_take (i := 11) (oi := { dst := some 37, op := Go.Op.indexAddr 22 (Go.Operand.tmp 29) (Go.Operand.tmp 32), type := 0, pos := "ref.go:88", after := #[{ on := 3, ground := Go.Ground.data }, { on := 6, ground := Go.Ground.data }, { on := 0, ground := Go.Ground.phase }, { on := 1, ground := Go.Ground.phase }, { on := 2, ground := Go.Ground.phase }, { on := 3, ground := Go.Ground.phase }, { on := 4, ground := Go.Ground.phase }, { on := 5, ground := Go.Ground.phase }, { on := 6, ground := Go.Ground.phase }, { on := 7, ground := Go.Ground.phase }, { on := 8, ground := Go.Ground.phase }, { on := 9, ground := Go.Ground.phase }, { on := 10, ground := Go.Ground.phase }], guard := none }) (v := ?v12) rfl (by kernel_rfl) (by kernel_rfl) (by kernel_rfl) (fun _ _ _ h => h) (Or.inl ⟨by rfl, ?hy12⟩) (by assumption) ?rest12
          case hy12 => (intro w hSw; (try dsimp only at hSw); go_simp <;> with_reducible rfl)
          try simp only [Act.put, List.setIfInBounds_toArray, List.set_cons_zero, List.set_cons_succ]
          refine wpAnyH_ready (rs := [12]) (by kernel_rfl) (by simp) ?_
          refine AllReadyH.cons (o := { dst := none, op := Go.Op.store 5 (Go.Operand.tmp 37) (Go.Operand.tmp 36), type := 0, pos := "ref.go:88", after := #[{ on := 11, ground := Go.Ground.data }, { on := 10, ground := Go.Ground.data }, { on := 0, ground := Go.Ground.phase }, { on := 1, ground := Go.Ground.phase }, { on := 2, ground := Go.Ground.phase }, { on := 3, ground := Go.Ground.phase }, { on := 4, ground := Go.Ground.phase }, { on := 5, ground := Go.Ground.phase }, { on := 6, ground := Go.Ground.phase }, { on := 7, ground := Go.Ground.phase }, { on := 8, ground := Go.Ground.phase }, { on := 9, ground := Go.Ground.phase }, { on := 10, ground := Go.Ground.phase }], guard := none }) rfl (fun K hK => ?_) AllReadyH.nil
          go_simp
          refine hK.out _ _ ?_ (fun hHeld2 => ?_)
          · (try dsimp only); (first | exact ⟨y1, r1⟩ | exact ⟨cell_other y1 hvr1, cell_other r1 hvb1⟩)
          clear hK K hHeld
          have hHeld := hHeld2
          clear hHeld2
          try simp only [Act.put, List.setIfInBounds_toArray, List.set_cons_zero, List.set_cons_succ]
          refine wpAnyH_done (by kernel_rfl) ?_ _
          refine NoPanic.normal ?_
          go_wp2
          go_roundw
          case rel => exact ⟨j + 1, by omega, rfl, hBr6.out.drew, by rw [hstep.out]; exact hv6.out.below (bel_drew (Below.refl _ _)), hT6.out.trans (Turn.of_below (bel_drew (Below.refl _ _)) R)⟩
          case measure => simp [intOf]; omega
        · obtain ⟨i, hi⟩ : ∃ i : Int, i = a + j := ⟨_, rfl⟩
          have w2 : IntKind.i64.wrap (a + (j : Int)) = i := by rw [IntKind.wrap_i64]; omega
          have hout : layN M a bs (j + 1) = layN M a bs j := by rw [layN, if_neg hin]
          replace hout := Lib.hid hout
          replace hBr := Lib.hid hBr
          replace hv2 := Lib.hid hv2
          replace hT := Lib.hid hT
          by_cases h0 : 0 ≤ i
          · have t3 : ((0 : Int) ≤ i) = True := by simp; exact h0
            have t4 : (i < 8192) = False := by simp; omega
            clear hi hin h0 h8 hvr
            go_wp2
            go_roundw
            case rel => exact ⟨j + 1, by omega, rfl, hBr.out, by rw [hout.out]; exact hv2.out, hT.out⟩
            case measure => simp [intOf]; omega
          · have t3 : ((0 : Int) ≤ i) = False := by simp; omega
            clear hi hin h0 h8 hvr
            go_wp2
            go_roundw
            case rel => exact ⟨j + 1, by omega, rfl, hBr.out, by rw [hout.out]; exact hv2.out, hT.out⟩
            case measure => simp [intOf]; omega
      · have t1 : (a ≤ 8192) = False := by simp; omega
        have hout : layN M a bs (j + 1) = layN M a bs j := by rw [layN, if_neg (by omega)]
        replace hout := Lib.hid hout
        replace hBr := Lib.hid hBr
        replace hv2 := Lib.hid hv2
        replace hT := Lib.hid hT
        clear h8 hvr
        go_wp2
        go_roundw
        case rel => exact ⟨j + 1, by omega, rfl, hBr.out, by rw [hout.out]; exact hv2.out, hT.out⟩
        case measure => simp [intOf]; omega
    · have hjs : j = N := by omega
      subst hjs
      have t2 : ((j : Int) < (j : Int)) = False := by simp
      replace hBr := Lib.hid hBr
      replace hv2 := Lib.hid hv2
      replace hT := Lib.hid hT
      clear hj hvr
      go_wp2
      (try go_end0)
      exact ⟨rfl, R, ⟨vb, ob, ⟨by rw [layN_len]; exact h1, h2, h3, cap, ws, nn, hBr.out, hv2.out⟩, hR⟩, hT.out⟩
end Go.Proofs.Ytcfblcgdjhpdaaa

/- States of a walk: the memory, what else is known, what has turned. -/
namespace Go.Proofs.Ytcfblcgdjhpdaaa
open Go.RowKit
set_option linter.unusedVariables false
set_option linter.unusedSimpArgs false

theorem Blk.c6 {w : World} {b : Nat} {x y z u v s : Value} {t : TypeId} (h : Blk w b #[x, y, z, u, v, s] t) : w.cell? ⟨b, 0, none⟩ = some x ∧ w.cell? ⟨b, 1, none⟩ = some y ∧ w.cell? ⟨b, 2, none⟩ = some z ∧ w.cell? ⟨b, 3, none⟩ = some u ∧ w.cell? ⟨b, 4, none⟩ = some v ∧ w.cell? ⟨b, 5, none⟩ = some s :=
  ⟨h.cell 0, h.cell 1, h.cell 2, h.cell 3, h.cell 4, h.cell 5⟩
theorem Blk.c3' {w : World} {b : Nat} {x y z : Value} {t : TypeId} (h : Blk w b #[x, y, z] t) : w.cell? ⟨b, 0, none⟩ = some x ∧ w.cell? ⟨b, 1, none⟩ = some y ∧ w.cell? ⟨b, 2, none⟩ = some z :=
  ⟨h.cell 0, h.cell 1, h.cell 2⟩
/-- A fact on worlds that hangs on the blocks S alone. -/
structure Kp where
  S : Nat → Prop
  P : World → Prop
  stable : ∀ w1 w2 : World, (∀ k, S k → k < w1.heap.size → w2.heap[k]? = w1.heap[k]?) → w1.heap.size ≤ w2.heap.size → P w1 → P w2
def Kp.emp : Kp := ⟨fun _ => False, fun _ => True, fun _ _ _ _ h => h⟩
def Kp.pure (p : Prop) : Kp := ⟨fun _ => False, fun _ => p, fun _ _ _ _ h => h⟩
def Kp.and (K L : Kp) : Kp := ⟨fun k => K.S k ∨ L.S k, fun w => K.P w ∧ L.P w, fun w1 w2 h hs hp => ⟨K.stable w1 w2 (fun k hk => h k (.inl hk)) hs hp.1, L.stable w1 w2 (fun k hk => h k (.inr hk)) hs hp.2⟩⟩
def Kp.blk (b : Nat) (c : Array Value) (t : TypeId) : Kp := ⟨fun k => k = b, fun w => Blk w b c t, fun w1 w2 h hs hp => by
  have := h b rfl hp.lt
  unfold Blk at *
  rw [this]; exact hp⟩
theorem cell_of_block {w1 w2 : World} {b : Nat} (h : w2.heap[b]? = w1.heap[b]?) (o : Nat) : w2.cell? ⟨b, o, none⟩ = w1.cell? ⟨b, o, none⟩ := by simp [World.cell?, h]
theorem frozen_of_block {w1 w2 : World} {b : Nat} (h : w2.heap[b]? = w1.heap[b]?) (o : Nat) : w2.frozen? ⟨b, o, none⟩ = w1.frozen? ⟨b, o, none⟩ := by simp [World.frozen?, h]
def Kp.bs (v : Value) (l : List UInt8) : Kp := ⟨fun k => v.ownBlock = some k, fun w => Bs w 0 v l, fun w1 w2 h hs hp => by
  rcases hp with hp | ⟨b, o, cap, rfl, h2, h3, h4, h5, h6⟩
  · exact .inl hp
  · have e := h b rfl h3
    exact .inr ⟨b, o, cap, rfl, h2, Nat.lt_of_lt_of_le h3 hs, h4, fun j hj => by rw [cell_of_block e]; exact h5 j hj, fun j hj => by rw [cell_of_block e, frozen_of_block e]; exact h6 j hj⟩⟩
theorem Bs.zero {w : World} {B : Nat} {v : Value} {l : List UInt8} (h : Bs w B v l) : Bs w 0 v l := h.mono (Nat.zero_le _)
theorem cellA_of_block {w1 w2 : World} {a : Addr} (h : w2.heap[a.block]? = w1.heap[a.block]?) : w2.cell? a = w1.cell? a := by
  simp [World.cell?, h]
theorem add_block (a : Addr) (j : Nat) : (a.add j).block = a.block := by simp only [Addr.add]; split <;> rfl
def Kp.rb (v : Value) (l : List UInt8) : Kp := ⟨fun k => l ≠ [] ∧ ∃ a n cap, v = .slice (some a) n cap ∧ a.block = k, fun w => Rb w v l, fun w1 w2 h hs hp => by
  rcases hp with hp | ⟨a, cap, rfl, h2⟩
  · exact .inl hp
  · refine .inr ⟨a, cap, rfl, fun j hj => ?_⟩
    have hc := h2 j hj
    have hb : a.block < w1.heap.size := by
      have := World.block_lt_of_cell? w1 (a.add j) hc
      rw [add_block] at this; exact this
    have e := h a.block ⟨by intro e; subst e; simp at hj, a, _, cap, rfl, rfl⟩ hb
    exact (cellA_of_block (a := a.add j) (by rw [add_block]; exact e)).trans hc⟩
/-- K holds, apart from the blocks O. -/
def Keep (w : World) (O : Nat → Prop) (K : Kp) : Prop := K.P w ∧ ∀ k, K.S k → k < w.heap.size ∧ ¬ O k
theorem Keep.turn {w w' : World} {O O' : Nat → Prop} {K : Kp} (h : Keep w O K) (hT : Turn w w' O O') : Keep w' O' K :=
  ⟨K.stable w w' (fun k hk hl => hT.block k hl (h.2 k hk).2) hT.size h.1, fun k hk => ⟨Nat.lt_of_lt_of_le (h.2 k hk).1 hT.size, fun hO => by
    rcases hT.new k hO with h1 | h1
    · exact (h.2 k hk).2 h1
    · have := (h.2 k hk).1; omega⟩⟩
theorem Keep.and {w : World} {O : Nat → Prop} {K L : Kp} (h : Keep w O K) (h2 : Keep w O L) : Keep w O (K.and L) :=
  ⟨⟨h.1, h2.1⟩, fun k hk => by
    rcases hk with hk | hk
    · exact h.2 k hk
    · exact h2.2 k hk⟩
theorem Keep.left {w : World} {O : Nat → Prop} {K L : Kp} (h : Keep w O (K.and L)) : Keep w O K := ⟨h.1.1, fun k hk => h.2 k (.inl hk)⟩
theorem Keep.right {w : World} {O : Nat → Prop} {K L : Kp} (h : Keep w O (K.and L)) : Keep w O L := ⟨h.1.2, fun k hk => h.2 k (.inr hk)⟩
theorem Keep.emp (w : World) (O : Nat → Prop) : Keep w O .emp := ⟨trivial, fun k hk => hk.elim⟩
theorem Keep.pure {w : World} {O : Nat → Prop} {p : Prop} (h : p) : Keep w O (.pure p) := ⟨h, fun k hk => hk.elim⟩
theorem Keep.blk {w : World} {O : Nat → Prop} {b : Nat} {c : Array Value} {t : TypeId} (h : Blk w b c t) (hO : ¬ O b) : Keep w O (.blk b c t) := ⟨h, fun k hk => by cases hk; exact ⟨h.lt, hO⟩⟩
theorem Keep.bs {w : World} {O : Nat → Prop} {B : Nat} {v : Value} {l : List UInt8} (h : Bs w B v l) (hO : ∀ k, v.ownBlock = some k → ¬ O k) : Keep w O (.bs v l) :=
  ⟨h.zero, fun k hk => ⟨by
    rcases h.lt with e | ⟨x, e, _, hx⟩
    · rw [show v.ownBlock = some k from hk] at e; cases e
    · rw [show v.ownBlock = some k from hk] at e; cases e; exact hx, hO k hk⟩⟩
theorem Keep.rb {w : World} {v : Value} {l : List UInt8} (h : Rb w v l) : Keep w (fun _ => False) (.rb v l) := ⟨h, fun k hk => by
  obtain ⟨hl, a, n, cap, hv, rfl⟩ := hk
  rcases h with ⟨_, e⟩ | ⟨a', cap', hv2, h2⟩
  · exact (hl e).elim
  · rw [hv2] at hv; cases hv
    have hj : 0 < l.length := List.length_pos_iff.2 hl
    have := World.block_lt_of_cell? w (a.add 0) (h2 0 hj)
    rw [add_block] at this; exact ⟨this, id⟩⟩
theorem Keep.wider {w : World} {O O' : Nat → Prop} {K : Kp} (h : Keep w O K) (hO : ∀ k, O' k → O k ∨ w.heap.size ≤ k) : Keep w O' K := ⟨h.1, fun k hk => ⟨(h.2 k hk).1, fun h1 => by
  rcases hO k h1 with h2 | h2
  · exact (h.2 k hk).2 h2
  · have := (h.2 k hk).1; omega⟩⟩
theorem Keep.set {w : World} {O : Nat → Prop} {K : Kp} (h : Keep w O K) {b o : Nat} (hb : ¬ K.S b) (v : Value) : Keep (w.setCell ⟨b, o, none⟩ v) O K :=
  ⟨K.stable w _ (fun k hk hl => Below.heap_setCell _ _ _ _ (fun e => hb (by subst e; exact hk))) (Nat.le_of_eq (World.size_setCell _ _ _).symm) h.1, fun k hk => by rw [World.size_setCell]; exact h.2 k hk⟩
theorem Bs.geB {w : World} {B k : Nat} {v : Value} {l : List UInt8} (h : Bs w B v l) (e : v.ownBlock = some k) : B ≤ k := by
  rcases h.lt with e2 | ⟨x, e2, hx, _⟩
  · rw [e] at e2; cases e2
  · rw [e] at e2; cases e2; exact hx
theorem Turn.apart {w w' : World} {O O' : Nat → Prop} {k : Nat} (h : Turn w w' O O') (hk : ¬ O k) (hlt : k < w.heap.size) : ¬ O' k := fun h1 => by
  rcases h.new k h1 with h2 | h2
  · exact hk h2
  · omega
theorem Turn.setOwn {w w' : World} {O O' : Nat → Prop} (h : Turn w w' O O') {b o : Nat} (hb : w.heap.size ≤ b) (v : Value) : Turn w (w'.setCell ⟨b, o, none⟩ v) O O' :=
  ⟨h.os, h.tape, h.output, by rw [World.size_setCell]; exact h.size, fun k hk hO => (Below.heap_setCell _ _ _ _ (show k ≠ b by omega)).trans (h.block k hk hO), h.new⟩
theorem Turn.drawn {w w' : World} {O O' : Nat → Prop} (h : Turn w w' O O') : Turn w w'.drew O O' := ⟨h.os, h.tape, h.output, h.size, h.block, h.new⟩
theorem MemP.drawn {w : World} {base mb : Nat} {M : List UInt8} {O : Nat → Prop} (h : MemP w base mb M O) : MemP w.drew base mb M O := h.below (bel_drew (Below.refl _ _))
theorem MemP.setOwn {w : World} {base mb : Nat} {M : List UInt8} {O : Nat → Prop} (h : MemP w base mb M O) {b o : Nat} (hb : ¬ O b) (v : Value) : MemP (w.setCell ⟨b, o, none⟩ v) base mb M O :=
  h.kept (grownBy_setCell w b o v) (fun k hk => by cases hk; exact hb)

/-- From W, whose memory's blocks were O0, the walk has come to w: the memory is M, K holds. -/
def One (W w : World) (B mb : Nat) (M : List UInt8) (O0 : Nat → Prop) (K : Kp) : Prop := ∃ O, MemP w B mb M O ∧ Turn W w O0 O ∧ Keep w O K ∧ B ≤ W.heap.size
section
variable {W w : World} {B mb : Nat} {M : List UInt8} {O0 : Nat → Prop} {K L : Kp}
theorem One.start {O : Nat → Prop} (h : MemP w B mb M O) (hB : B ≤ w.heap.size) : One w w B mb M O .emp := ⟨O, h, Turn.refl _ _, Keep.emp _ _, hB⟩
theorem One.startK {O : Nat → Prop} (h : MemP w B mb M O) (hB : B ≤ w.heap.size) (hK : Keep w O K) : One w w B mb M O K := ⟨O, h, Turn.refl _ _, hK, hB⟩
theorem One.fact (h : One W w B mb M O0 K) : K.P w := by obtain ⟨_, _, _, h, _⟩ := h; exact h.1
theorem One.size (h : One W w B mb M O0 K) : W.heap.size ≤ w.heap.size := by obtain ⟨_, _, h, _⟩ := h; exact h.size
theorem One.slt (h : One W w B mb M O0 K) {k : Nat} (hk : K.S k) : k < w.heap.size := by obtain ⟨_, _, _, h, _⟩ := h; exact (h.2 k hk).1
theorem One.len (h : One W w B mb M O0 K) : M.length = 8192 := by obtain ⟨_, h, _⟩ := h; exact h.len
theorem One.memQ (h : One W w B mb M O0 K) (v : Value) : MemQ W w B mb M O0 v (.returned v) := by obtain ⟨O, h1, h2, _⟩ := h; exact ⟨rfl, O, h1, h2⟩
theorem One.weak (h : One W w B mb M O0 (K.and L)) : One W w B mb M O0 K := by obtain ⟨O, h1, h2, h3, h4⟩ := h; exact ⟨O, h1, h2, h3.left, h4⟩
theorem One.last (h : One W w B mb M O0 (K.and L)) : One W w B mb M O0 L := by obtain ⟨O, h1, h2, h3, h4⟩ := h; exact ⟨O, h1, h2, h3.right, h4⟩
theorem One.keep (h : One W w B mb M O0 K) (hL : ∀ O, Keep w O K → Keep w O L) : One W w B mb M O0 L := by obtain ⟨O, h1, h2, h3, h4⟩ := h; exact ⟨O, h1, h2, hL O h3, h4⟩
theorem One.alloc (h : One W w B mb M O0 K) (o : Obj) : One W (w.alloc o) B mb M O0 K := by
  obtain ⟨O, h1, h2, h3, h4⟩ := h
  have hb : Below w.heap.size w (w.alloc o) := bel_alloc (Below.refl _ _) o
  exact ⟨O, h1.below hb, h2.trans (Turn.of_below hb O), h3.turn (Turn.of_below hb O), h4⟩
theorem One.new (h : One W w B mb M O0 K) (c : Array Value) (t : TypeId) : One W (w.alloc (.cells c t)) B mb M O0 (K.and (.blk w.heap.size c t)) := by
  obtain ⟨O, h1, h2, h3, h4⟩ := h
  have hb : Below w.heap.size w (w.alloc (.cells c t)) := bel_alloc (Below.refl _ _) _
  exact ⟨O, h1.below hb, h2.trans (Turn.of_below hb O), (h3.turn (Turn.of_below hb O)).and (Keep.blk (Blk.new _ _ _) (fun hO => by have := (h1.lt hO).1; omega)), h4⟩
theorem One.drew (h : One W w B mb M O0 K) : One W w.drew B mb M O0 K := by
  obtain ⟨O, h1, h2, h3, h4⟩ := h
  exact ⟨O, h1.drawn, h2.drawn, h3.turn (Turn.of_below (bel_drew (Below.refl _ _)) O), h4⟩
theorem One.set {b : Nat} {c : Array Value} {t : TypeId} (h : One W w B mb M O0 (K.and (.blk b c t))) (hb : W.heap.size ≤ b) (hK : ¬ K.S b) (o : Nat) (v : Value) : One W (w.setCell ⟨b, o, none⟩ v) B mb M O0 (K.and (.blk b (c.setIfInBounds o v) t)) := by
  obtain ⟨O, h1, h2, h3, h4⟩ := h
  have hO : ¬ O b := (h3.2 b (.inr rfl)).2
  exact ⟨O, h1.setOwn hO v, h2.setOwn hb v, (h3.left.set hK v).and (Keep.blk (h3.right.1.set o v) hO), h4⟩
/-- A call that the memory is handed to. -/
theorem One.mem (h : One W w B mb M O0 K) {f : Nat} {args : Array Value} {M' : List UInt8} {v : Value} (c : ∀ O, MemP w B mb M O → B ≤ w.heap.size → Calls Try.prog f args w fun e w' => MemQ w w' B mb M' O v e) :
    Calls Try.prog f args w fun e w' => e = .returned v ∧ One W w' B mb M' O0 K := by
  obtain ⟨O, h1, h2, h3, h4⟩ := h
  refine (c O h1 (Nat.le_trans h4 h2.size)).mono fun e w' ⟨he, O', h5, h6⟩ => ⟨he, O', h5, h2.trans h6, h3.turn h6, h4⟩
/-- A call that gives something new besides. -/
def MemX {α : Type} (w w' : World) (B mb : Nat) (O : Nat → Prop) (ret : α → Value) (M' : α → List UInt8) (G : α → Kp) (e : Ending) : Prop := ∃ x O', e = .returned (ret x) ∧ MemP w' B mb (M' x) O' ∧ Turn w w' O O' ∧ Keep w' O' (G x)
theorem One.memX {α : Type} (h : One W w B mb M O0 K) {f : Nat} {args : Array Value} {ret : α → Value} {M' : α → List UInt8} {G : α → Kp} (c : ∀ O, MemP w B mb M O → B ≤ w.heap.size → Calls Try.prog f args w fun e w' => MemX w w' B mb O ret M' G e) :
    Calls Try.prog f args w fun e w' => ∃ x, e = .returned (ret x) ∧ One W w' B mb (M' x) O0 (K.and (G x)) := by
  obtain ⟨O, h1, h2, h3, h4⟩ := h
  refine (c O h1 (Nat.le_trans h4 h2.size)).mono fun e w' ⟨x, O', he, h5, h6, h7⟩ => ⟨x, he, O', h5, h2.trans h6, (h3.turn h6).and h7, h4⟩
theorem One.load (h : One W w B mb M O0 K) {f : Nat} {args : Array Value} {l : List UInt8} (c : ∀ O, MemP w B mb M O → B ≤ w.heap.size → Calls Try.prog f args w fun e w' => LoadQ w w' B mb M O l e) :
    Calls Try.prog f args w fun e w' => ∃ v, e = .returned v ∧ One W w' B mb M O0 (K.and (.bs v l)) := by
  obtain ⟨O, h1, h2, h3, h4⟩ := h
  refine (c O h1 (Nat.le_trans h4 h2.size)).mono fun e w' ⟨v, O', he, h5, h6, h7, h8⟩ => ⟨v, he, O', h6, h2.trans h7, (h3.turn h7).and (Keep.bs h5 h8), h4⟩
/-- A call that changes nothing that there was. -/
theorem One.below {w' : World} (h : One W w B mb M O0 K) (hb : Below w.heap.size w w') : One W w' B mb M O0 K := by
  obtain ⟨O, h1, h2, h3, h4⟩ := h
  exact ⟨O, h1.below hb, h2.trans (Turn.of_below hb O), h3.turn (Turn.of_below hb O), h4⟩
theorem One.still (h : One W w B mb M O0 K) {f : Nat} {args : Array Value} {Q : Ending → World → Prop} (c : Calls Try.prog f args w fun e w' => Q e w' ∧ Below w.heap.size w w') :
    Calls Try.prog f args w fun e w' => Q e w' ∧ One W w' B mb M O0 K := c.mono fun e w' ⟨hq, hb⟩ => ⟨hq, h.below hb⟩
/-- New bytes, behind a call that changes nothing that there was. -/
theorem One.newBs {w' : World} (h : One W w B mb M O0 K) (hb : Below w.heap.size w w') {v : Value} {l : List UInt8} (hv : Bs w' w.heap.size v l) : One W w' B mb M O0 (K.and (.bs v l)) := by
  obtain ⟨O, h1, h2, h3, h4⟩ := h
  exact ⟨O, h1.below hb, h2.trans (Turn.of_below hb O), (h3.turn (Turn.of_below hb O)).and (Keep.bs hv (h1.apart hv)), h4⟩
end

/-- Two memories, the program's and the reference's, made behind W. -/
def Two (W w : World) (mb rb : Nat) (M N : List UInt8) (K : Kp) : Prop := ∃ B O R, W.heap.size ≤ B ∧ B ≤ w.heap.size ∧ MemP w B mb M O ∧ RefP w B rb N R ∧ (∀ k, O k → ¬ R k) ∧ Below W.heap.size W w ∧ Keep w (fun k => O k ∨ R k) K
section
variable {W w : World} {mb rb : Nat} {M N : List UInt8} {K L : Kp}
theorem Turn.both {w w' : World} {O O' R : Nat → Prop} (h : Turn w w' O O') : Turn w w' (fun k => O k ∨ R k) (fun k => O' k ∨ R k) :=
  ⟨h.os, h.tape, h.output, h.size, fun k hk hn => h.block k hk (fun h1 => hn (.inl h1)), fun k hk => by
    rcases hk with hk | hk
    · rcases h.new k hk with h1 | h1
      · exact .inl (.inl h1)
      · exact .inr h1
    · exact .inl (.inr hk)⟩
theorem Turn.both' {w w' : World} {O R R' : Nat → Prop} (h : Turn w w' R R') : Turn w w' (fun k => O k ∨ R k) (fun k => O k ∨ R' k) :=
  ⟨h.os, h.tape, h.output, h.size, fun k hk hn => h.block k hk (fun h1 => hn (.inr h1)), fun k hk => by
    rcases hk with hk | hk
    · exact .inl (.inl hk)
    · rcases h.new k hk with h1 | h1
      · exact .inl (.inr h1)
      · exact .inr h1⟩
theorem Two.fact (h : Two W w mb rb M N K) : K.P w := by obtain ⟨_, _, _, _, _, _, _, _, _, h⟩ := h; exact h.1
theorem Two.bel (h : Two W w mb rb M N K) : Below W.heap.size W w := by obtain ⟨_, _, _, _, _, _, _, _, h, _⟩ := h; exact h
theorem Two.lenM (h : Two W w mb rb M N K) : M.length = 8192 := by obtain ⟨_, _, _, _, _, h, _⟩ := h; exact h.len
theorem Two.lenN (h : Two W w mb rb M N K) : N.length = 8192 := by obtain ⟨_, _, _, _, _, _, h, _⟩ := h; exact h.len
theorem Two.keep (h : Two W w mb rb M N K) (hL : ∀ O, Keep w O K → Keep w O L) : Two W w mb rb M N L := by
  obtain ⟨B, O, R, h1, h2, h3, h4, h5, h6, h7⟩ := h
  exact ⟨B, O, R, h1, h2, h3, h4, h5, h6, hL _ h7⟩
theorem Two.weak (h : Two W w mb rb M N (K.and L)) : Two W w mb rb M N K := h.keep fun _ h => h.left
theorem Two.below {w' : World} (h : Two W w mb rb M N K) (hb : Below w.heap.size w w') : Two W w' mb rb M N K := by
  obtain ⟨B, O, R, h1, h2, h3, h4, h5, h6, h7⟩ := h
  exact ⟨B, O, R, h1, Nat.le_trans h2 hb.size, h3.below hb, h4.below hb, h5, h6.trans (hb.mono (Nat.le_trans h1 h2)), h7.turn (Turn.of_below hb _)⟩
theorem Two.alloc (h : Two W w mb rb M N K) (o : Obj) : Two W (w.alloc o) mb rb M N K := h.below (bel_alloc (Below.refl _ _) o)
theorem Two.drew (h : Two W w mb rb M N K) : Two W w.drew mb rb M N K := h.below (bel_drew (Below.refl _ _))
theorem Two.newK {w' : World} (h : Two W w mb rb M N K) (hb : Below w.heap.size w w') (hL : L.P w') (hS : ∀ k, L.S k → w.heap.size ≤ k ∧ k < w'.heap.size) : Two W w' mb rb M N (K.and L) := by
  have h' := h.below hb
  obtain ⟨B, O, R, h1, h2, h3, h4, h5, h6, h7⟩ := h
  exact ⟨B, O, R, h1, Nat.le_trans h2 hb.size, h3.below hb, h4.below hb, h5, h6.trans (hb.mono (Nat.le_trans h1 h2)), (h7.turn (Turn.of_below hb _)).and ⟨hL, fun k hk => ⟨(hS k hk).2, fun hO => by
    have hk1 := (hS k hk).1
    rcases hO with hO | hO
    · have := (h3.lt hO).1; omega
    · have := (h4.lt hO).1; omega⟩⟩⟩
theorem Two.new (h : Two W w mb rb M N K) (c : Array Value) (t : TypeId) : Two W (w.alloc (.cells c t)) mb rb M N (K.and (.blk w.heap.size c t)) :=
  h.newK (bel_alloc (Below.refl _ _) _) (Blk.new _ _ _) (fun k hk => by cases hk; exact ⟨Nat.le_refl _, by simp⟩)
theorem Two.newBs {w' : World} (h : Two W w mb rb M N K) (hb : Below w.heap.size w w') {v : Value} {l : List UInt8} (hv : Bs w' w.heap.size v l) : Two W w' mb rb M N (K.and (.bs v l)) :=
  h.newK hb hv.zero (fun k hk => by
    rcases hv.lt with e | ⟨x, e, hx1, hx2⟩
    · rw [show v.ownBlock = some k from hk] at e; cases e
    · rw [show v.ownBlock = some k from hk] at e; cases e; exact ⟨hx1, hx2⟩)
theorem Two.set {b : Nat} {c : Array Value} {t : TypeId} (h : Two W w mb rb M N (K.and (.blk b c t))) (hb : W.heap.size ≤ b) (hK : ¬ K.S b) (o : Nat) (v : Value) : Two W (w.setCell ⟨b, o, none⟩ v) mb rb M N (K.and (.blk b (c.setIfInBounds o v) t)) := by
  obtain ⟨B, O, R, h1, h2, h3, h4, h5, h6, h7⟩ := h
  have hO : ¬ (O b ∨ R b) := (h7.2 b (.inr rfl)).2
  exact ⟨B, O, R, h1, by rw [World.size_setCell]; exact h2, h3.setOwn (fun h => hO (.inl h)) v, h4.kept (grownBy_setCell w b o v) (fun k hk => by cases hk; exact fun h => hO (.inr h)), h5, bel_set h6 hb v,
    (h7.left.set hK v).and (Keep.blk (h7.right.1.set o v) hO)⟩
/-- A call that the program's memory is handed to. -/
theorem Two.memX {α : Type} (h : Two W w mb rb M N K) {f : Nat} {args : Array Value} {ret : α → Value} {M' : α → List UInt8} {G : α → Kp} (c : ∀ B O, MemP w B mb M O → B ≤ w.heap.size → Calls Try.prog f args w fun e w' => MemX w w' B mb O ret M' G e)
    (hG : ∀ x w', (G x).P w' → ∀ k, (G x).S k → w.heap.size ≤ k) :
    Calls Try.prog f args w fun e w' => ∃ x, e = .returned (ret x) ∧ Two W w' mb rb (M' x) N (K.and (G x)) := by
  obtain ⟨B, O, R, h1, h2, h3, h4, h5, h6, h7⟩ := h
  refine (c B O h3 h2).mono fun e w' ⟨x, O', he, h8, h9, h10⟩ => ⟨x, he, B, O', R, h1, Nat.le_trans h2 h9.size, h8, h4.turn h9 (fun k hk hO => h5 k hO hk), fun k hk hR => h9.apart (fun hO => h5 k hO hR) (h4.lt hR).1 hk,
    h6.trans ((h9.below (fun k hk => (h3.lt hk).2) h2).mono h1), (h7.turn h9.both).and ⟨h10.1, fun k hk => ⟨(h10.2 k hk).1, fun hO => by
      rcases hO with hO | hO
      · exact (h10.2 k hk).2 hO
      · have := hG x w' h10.1 k hk; have := (h4.lt hO).1; omega⟩⟩⟩
theorem Two.mem (h : Two W w mb rb M N K) {f : Nat} {args : Array Value} {M' : List UInt8} {v : Value} (c : ∀ B O, MemP w B mb M O → B ≤ w.heap.size → Calls Try.prog f args w fun e w' => MemQ w w' B mb M' O v e) :
    Calls Try.prog f args w fun e w' => e = .returned v ∧ Two W w' mb rb M' N K :=
  (Two.memX (α := Unit) (ret := fun _ => v) (M' := fun _ => M') (G := fun _ => .emp) h (fun B O h1 h2 => (c B O h1 h2).mono fun e w' ⟨he, O', h3, h4⟩ => ⟨(), O', he, h3, h4, Keep.emp _ _⟩) (fun _ _ _ _ h => h.elim)).mono fun e w' ⟨_, he, h⟩ => ⟨he, h.keep fun _ h => h.left⟩
theorem Two.load (h : Two W w mb rb M N K) {f : Nat} {args : Array Value} {l : List UInt8} (c : ∀ B O, MemP w B mb M O → B ≤ w.heap.size → Calls Try.prog f args w fun e w' => LoadQ w w' B mb M O l e) :
    Calls Try.prog f args w fun e w' => ∃ v, e = .returned v ∧ Two W w' mb rb M N (K.and (.bs v l)) := by
  obtain ⟨B, O, R, h1, h2, h3, h4, h5, h6, h7⟩ := h
  refine (c B O h3 h2).mono fun e w' ⟨v, O', he, hv, h8, h9, h10⟩ => ⟨v, he, B, O', R, h1, Nat.le_trans h2 h9.size, h8, h4.turn h9 (fun k hk hO => h5 k hO hk), fun k hk hR => h9.apart (fun hO => h5 k hO hR) (h4.lt hR).1 hk,
    h6.trans ((h9.below (fun k hk => (h3.lt hk).2) h2).mono h1), (h7.turn h9.both).and (Keep.bs hv (fun k hk hO => by
      rcases hO with hO | hO
      · exact h10 k hk hO
      · have := hv.geB hk; have := (h4.lt hO).1; omega))⟩
/-- A call that the reference's memory is handed to. -/
theorem Two.ref (h : Two W w mb rb M N K) {f : Nat} {args : Array Value} {N' : List UInt8} {v : Value} (c : ∀ B R, RefP w B rb N R → B ≤ w.heap.size → Calls Try.prog f args w fun e w' => RefQ w w' B rb N' R v e) :
    Calls Try.prog f args w fun e w' => e = .returned v ∧ Two W w' mb rb M N' K := by
  obtain ⟨B, O, R, h1, h2, h3, h4, h5, h6, h7⟩ := h
  refine (c B R h4 h2).mono fun e w' ⟨he, R', h8, h9⟩ => ⟨he, B, O, R', h1, Nat.le_trans h2 h9.size, h3.turn h9 (fun k hk hR => h5 k hk hR), h8, fun k hk => h9.apart (h5 k hk) (h3.lt hk).1,
    h6.trans ((h9.below (fun k hk => (h4.lt hk).2) h2).mono h1), h7.turn h9.both'⟩
/-- .. that only reads it. -/
theorem Two.refB (h : Two W w mb rb M N K) {f : Nat} {args : Array Value} {Q : Ending → World → Prop} (c : ∀ B R, RefP w B rb N R → Calls Try.prog f args w fun e w' => Q e w' ∧ Below w.heap.size w w') :
    Calls Try.prog f args w fun e w' => Q e w' ∧ Two W w' mb rb M N K := by
  have h' := h
  obtain ⟨B, O, R, h1, h2, h3, h4, h5, h6, h7⟩ := h
  exact (c B R h4).mono fun e w' ⟨he, hb⟩ => ⟨he, h'.below hb⟩
theorem Two.refBs (h : Two W w mb rb M N K) {f : Nat} {args : Array Value} {l : List UInt8} (c : ∀ B R, RefP w B rb N R → Calls Try.prog f args w fun e w' => ∃ v, e = .returned v ∧ Bs w' w.heap.size v l ∧ Below w.heap.size w w') :
    Calls Try.prog f args w fun e w' => ∃ v, e = .returned v ∧ Two W w' mb rb M N (K.and (.bs v l)) := by
  have h' := h
  obtain ⟨B, O, R, h1, h2, h3, h4, h5, h6, h7⟩ := h
  exact (c B R h4).mono fun e w' ⟨v, he, hv, hb⟩ => ⟨v, he, h'.newBs hb hv⟩
theorem Two.still (h : Two W w mb rb M N K) {f : Nat} {args : Array Value} {Q : Ending → World → Prop} (c : Calls Try.prog f args w fun e w' => Q e w' ∧ Below w.heap.size w w') :
    Calls Try.prog f args w fun e w' => Q e w' ∧ Two W w' mb rb M N K := c.mono fun e w' ⟨hq, hb⟩ => ⟨hq, h.below hb⟩
end
end Go.Proofs.Ytcfblcgdjhpdaaa

/- A slice that holds known cells: what append and slicing do with it. -/
namespace Go.Proofs.Ytcfblcgdjhpdaaa
open Go.RowKit
set_option linter.unusedVariables false
set_option linter.unusedSimpArgs false

/-- The slice value v holds n elements of k cells, cs, in a block from B on; none of its cells is frozen. -/
def Vs (w : World) (B k : Nat) (v : Value) (n : Nat) (cs : List Value) : Prop :=
  cs.length = n * k ∧ (∀ u ∈ cs, u.oneCell' = true) ∧ ((v = .slice none 0 0 ∧ n = 0) ∨
  ∃ b o cap, v = .slice (some ⟨b, o, none⟩) n cap ∧ B ≤ b ∧ b < w.heap.size ∧ n ≤ cap ∧ (∀ j u, cs[j]? = some u → w.cell? ⟨b, o + j, none⟩ = some u) ∧
    (∀ j, j < cap * k → (w.cell? ⟨b, o + j, none⟩).isSome = true ∧ w.frozen? ⟨b, o + j, none⟩ = false))
section
variable {w w' : World} {B k n : Nat} {v : Value} {cs : List Value}
theorem Vs.nil (w : World) (B k : Nat) : Vs w B k (.slice none 0 0) 0 [] := ⟨by simp, by simp, .inl ⟨rfl, rfl⟩⟩
theorem Vs.mono {B' : Nat} (h : Vs w B k v n cs) (hB : B' ≤ B) : Vs w B' k v n cs := by
  obtain ⟨h1, h2, h3⟩ := h
  refine ⟨h1, h2, ?_⟩
  rcases h3 with h3 | ⟨b, o, cap, e1, e2, e3⟩
  · exact .inl h3
  · exact .inr ⟨b, o, cap, e1, by omega, e3⟩
theorem Vs.form (h : Vs w B k v n cs) : ∃ a cap, v = .slice a n cap ∧ n ≤ cap := by
  rcases h.2.2 with ⟨rfl, rfl⟩ | ⟨b, o, cap, rfl, _, _, h4, _⟩
  · exact ⟨none, 0, rfl, Nat.le_refl _⟩
  · exact ⟨_, cap, rfl, h4⟩
theorem Vs.some_of (h : Vs w B k v n cs) (hn : n ≠ 0) : ∃ b o cap, v = .slice (some ⟨b, o, none⟩) n cap := by
  rcases h.2.2 with ⟨_, e⟩ | ⟨b, o, cap, rfl, _⟩
  · exact (hn e).elim
  · exact ⟨b, o, cap, rfl⟩
theorem Vs.own (h : Vs w B k v n cs) : v.ownBlock = none ∨ ∃ b, v.ownBlock = some b ∧ B ≤ b ∧ b < w.heap.size := by
  rcases h.2.2 with ⟨rfl, _⟩ | ⟨b, o, cap, rfl, h2, h3, _⟩
  · exact .inl rfl
  · exact .inr ⟨b, rfl, h2, h3⟩
theorem Vs.cell {b o cap : Nat} (h : Vs w B k (.slice (some ⟨b, o, none⟩) n cap) n cs) (j : Nat) (u : Value) (hj : cs[j]? = some u) : w.cell? ⟨b, o + j, none⟩ = some u := by
  rcases h.2.2 with ⟨e, _⟩ | ⟨b', o', cap', e, _, _, _, h5, _⟩
  · cases e
  · cases e; exact h5 j u hj
theorem Vs.free {b o cap : Nat} (h : Vs w B k (.slice (some ⟨b, o, none⟩) n cap) n cs) (j : Nat) (hj : j < n * k) : w.frozen? ⟨b, o + j, none⟩ = false := by
  rcases h.2.2 with ⟨e, _⟩ | ⟨b', o', cap', e, _, _, h4, _, h6⟩
  · cases e
  · cases e; exact (h6 j (Nat.lt_of_lt_of_le hj (Nat.mul_le_mul_right _ h4))).2
theorem Vs.src {P : Program} (h : Vs w B k v n cs) {t e : TypeId} (ht : P.underlying t = some (.slice e)) : Src P k t v n cs w := by
  obtain ⟨h1, h2, h3⟩ := h
  rcases h3 with ⟨rfl, rfl⟩ | ⟨b, o, cap, rfl, e2, e3, e4, e5, e6⟩
  · have : cs = [] := List.eq_nil_of_length_eq_zero (by simpa using h1)
    subst this
    have := Src.ofNil (size := k) w ht 0
    exact this
  · exact Src.ofSlice w ht ⟨b, o, none⟩ n cap cs h1 (fun j u hu => by rw [Addr.add_lit]; exact e5 j u hu) h2
/-- 'append(v, u...)' -/
theorem Vs.append {P : Program} {m : Nat} {ds : List Value} {u : Value} (hv : Vs w B k v n cs) {t tx e ty : TypeId} {z : Value} {by_ : Nat} (hu : Src P k tx u m ds w) (ht : P.underlying t = some (.slice e))
    (hi : (P.info? e).map (fun i => (i.zero, i.size, i.bytes)) = some (some z, k, by_)) (hz : z.cells.size = k) (hm : 0 < m) (hlen : (n + m) * by_ ≤ 1000000000) (hlen2 : n + m ≤ 1000000000) (hB : B ≤ w.heap.size) :
    ∃ v' w', (Builtin.append_ #[t, tx] ty #[v, u]).run P w = .ok v' w' ∧ Vs w' B k v' (n + m) (cs ++ ds) ∧ w.grownBy w' v.ownBlock ∧ (v'.ownBlock = v.ownBlock ∨ v'.ownBlock = some w.heap.size) := by
  obtain ⟨i, hi1, hi2⟩ := Option.map_eq_some_iff.1 hi
  simp only [Prod.mk.injEq] at hi2
  obtain ⟨hz0, hs1, hb1⟩ := hi2
  have hdl := hu.newsLen
  have hd1 := hu.one
  obtain ⟨hcl, hc1, hv3⟩ := hv
  have hcat : (cs ++ ds).length = (n + m) * k := by rw [List.length_append, hcl, hdl, Nat.add_mul]
  have hone : ∀ x ∈ cs ++ ds, x.oneCell' = true := by
    intro x hx
    rcases List.mem_append.1 hx with h | h
    · exact hc1 x h
    · exact hd1 x h
  have hgrow : ∀ (a : Option Addr) (cap : Nat), v = .slice a n cap → cap < n + m → (Builtin.firstCells i.size n (.slice a n cap)).run P w.drew = .ok cs.toArray w.drew →
      ∃ v' w', (Builtin.append_ #[t, tx] ty #[v, u]).run P w = .ok v' w' ∧ Vs w' B k v' (n + m) (cs ++ ds) ∧ w.grownBy w' v.ownBlock ∧ (v'.ownBlock = v.ownBlock ∨ v'.ownBlock = some w.heap.size) := by
    intro a cap hva hcap hold
    subst hva
    have hfit : Builtin.nextslicecap (n + m) cap * i.bytes ≤ 281474976710656 := growslice_fits hcap (by rw [hb1]; omega)
    have hrun := run_append_grow_src (P := P) w t tx ty e i z ht hi1 hz0 a n cap cs hold u m ds (by rw [hs1]; exact hu) hcap (by omega) hfit
    have hge := grownCap_ge w (n + m) cap e
    obtain ⟨gc, hgc⟩ : ∃ gc, gc = grownCap w (n + m) cap e := ⟨_, rfl⟩
    rw [← hgc] at hrun hge
    obtain ⟨C, hC⟩ : ∃ C, C = (cs ++ ds).toArray ++ Builtin.zeroCells z.cells (gc - (n + m)) := ⟨_, rfl⟩
    rw [← hC] at hrun
    have hZ : (Builtin.zeroCells z.cells (gc - (n + m))).size = (gc - (n + m)) * k := by
      rw [← hz]
      simp [Builtin.zeroCells]
    have hCs : C.size = gc * k := by
      rw [hC, Array.size_append, List.size_toArray, hcat, hZ, ← Nat.add_mul]
      congr 1
      omega
    have hblk : Blk (w.drew.alloc (.cells C e)) w.heap.size C e := Blk.new w.drew C e
    refine ⟨_, _, hrun, ⟨hcat, hone, .inr ⟨w.heap.size, 0, gc, rfl, hB, hblk.lt, hge, fun j x hj => ?_, fun j hj => ?_⟩⟩, ⟨rfl, rfl, rfl, by simp, fun k hk _ => Below.heap_alloc w.drew _ k hk⟩, .inr rfl⟩
    · have hjl := (List.getElem?_eq_some_iff.1 hj).1
      rw [Nat.zero_add, hblk.cell, hC, Array.getElem?_append_left (by simpa using hjl), List.getElem?_toArray]
      exact hj
    · rw [Nat.zero_add, hblk.cell, hblk.frozen]
      exact ⟨by rw [Array.getElem?_eq_getElem (by omega)]; rfl, rfl⟩
  rcases hv3 with ⟨rfl, rfl⟩ | ⟨b, o, cap, rfl, h2, h3, h4, h5, h6⟩
  · have hcs : cs = [] := List.eq_nil_of_length_eq_zero (by simpa using hcl)
    refine hgrow none 0 rfl (by omega) ?_
    rw [hcs]
    exact run_firstCells_none _ _ _ _ _
  · by_cases hroom : n + m ≤ cap
    · have hbd : ∀ j, j < ds.length → n * k + j < cap * k := fun j hj => by
        have : (n + m) * k ≤ cap * k := Nat.mul_le_mul_right _ hroom
        rw [Nat.add_mul] at this
        omega
      have hrun := run_append_room_src (P := P) w t tx ty e i ht hi1 b o n cap u m ds (by rw [hs1]; exact hu) hroom
        (fun j hj => by rw [hs1, Nat.add_assoc]; exact (h6 _ (hbd j hj)).1) (fun j hj => by rw [hs1, Nat.add_assoc]; exact (h6 _ (hbd j hj)).2)
      rw [hs1] at hrun
      obtain ⟨q1, q2, q3, q4⟩ := setCells_size b ds (o + n * k) w
      refine ⟨_, _, hrun, ⟨hcat, hone, .inr ⟨b, o, cap, rfl, h2, by omega, hroom, fun j x hj => ?_, fun j hj => ?_⟩⟩, ⟨q2, q3, q4, by omega, fun k hk hne => setCells_heap b _ _ _ k (fun e => hne (by rw [e]; rfl))⟩, .inl rfl⟩
      · by_cases hjl : j < n * k
        · rw [List.getElem?_append_left (by omega)] at hj
          rw [World.cell?_setCells_out b _ _ _ _ (fun _ _ => .inl (by show o + j < _; omega))]
          exact h5 j x hj
        · rw [List.getElem?_append_right (by omega), hcl] at hj
          have hj2 := (List.getElem?_eq_some_iff.1 hj).1
          have := World.cell?_setCells_in b ds (o + n * k) w (fun j hj => by rw [Nat.add_assoc]; exact (h6 _ (hbd j hj)).1) (j - n * k) hj2
          rw [show o + n * k + (j - n * k) = o + j by omega] at this
          rw [this, ← hj]
          exact (List.getElem?_eq_getElem hj2).symm
      · rw [World.frozen?_setCells]
        exact ⟨cell_isSome_setCells b _ _ _ _ (h6 j hj).1, (h6 j hj).2⟩
    · refine hgrow (some ⟨b, o, none⟩) cap rfl (by omega) ?_
      have hsrc := Vs.src (P := P) (t := t) (e := e) (v := .slice (some ⟨b, o, none⟩) n cap) ⟨hcl, hc1, .inr ⟨b, o, cap, rfl, h2, h3, h4, h5, h6⟩⟩ ht
      rw [hs1]
      exact hsrc.cellsD
theorem Vs.kept {row : Option Nat} (h : Vs w B k v n cs) (hg : w.grownBy w' row) (hne : v.ownBlock = none ∨ v.ownBlock ≠ row) : Vs w' B k v n cs := by
  obtain ⟨h1, h2, h3⟩ := h
  refine ⟨h1, h2, ?_⟩
  rcases h3 with h3 | ⟨b, o, cap, rfl, e2, e3, e4, e5, e6⟩
  · exact .inl h3
  · have hb : w'.heap[b]? = w.heap[b]? := hg.block b e3 (by
      rcases hne with e | e
      · cases e
      · exact e)
    exact .inr ⟨b, o, cap, rfl, e2, Nat.lt_of_lt_of_le e3 hg.size, e4, fun j u hu => by rw [cell_of_block hb]; exact e5 j u hu, fun j hj => by rw [cell_of_block hb, frozen_of_block hb]; exact e6 j hj⟩
theorem Vs.zero (h : Vs w B k v n cs) : Vs w 0 k v n cs := h.mono (Nat.zero_le _)
/-- A block that is known whole, as a slice. -/
theorem Vs.of_blk {b cap : Nat} {t : TypeId} {C : Array Value} (h : Blk w b C t) (hl : cs.length = n * k) (hc : cap * k ≤ C.size) (hn : n ≤ cap) (hcs : ∀ (j : Nat) (u : Value), cs[j]? = some u → C[j]? = some u) (h1 : ∀ u ∈ cs, u.oneCell' = true) (hB : B ≤ b) : Vs w B k (.slice (some ⟨b, 0, none⟩) n cap) n cs :=
  ⟨hl, h1, .inr ⟨b, 0, cap, rfl, hB, h.lt, hn, fun j u hu => by rw [Nat.zero_add, h.cell]; exact hcs j u hu, fun j hj => by rw [Nat.zero_add, h.cell, h.frozen]; exact ⟨by rw [Array.getElem?_eq_getElem (by omega)]; rfl, rfl⟩⟩⟩
end
def Kp.vs (k : Nat) (v : Value) (n : Nat) (cs : List Value) : Kp := ⟨fun b => v.ownBlock = some b, fun w => Vs w 0 k v n cs, fun w1 w2 h hs hp => by
  obtain ⟨h1, h2, h3⟩ := hp
  refine ⟨h1, h2, ?_⟩
  rcases h3 with h3 | ⟨b, o, cap, rfl, e2, e3, e4, e5, e6⟩
  · exact .inl h3
  · have e := h b rfl e3
    exact .inr ⟨b, o, cap, rfl, e2, Nat.lt_of_lt_of_le e3 hs, e4, fun j u hu => by rw [cell_of_block e]; exact e5 j u hu, fun j hj => by rw [cell_of_block e, frozen_of_block e]; exact e6 j hj⟩⟩
theorem Keep.vs {w : World} {O : Nat → Prop} {B k n : Nat} {v : Value} {cs : List Value} (h : Vs w B k v n cs) (hO : ∀ b, v.ownBlock = some b → ¬ O b) : Keep w O (.vs k v n cs) :=
  ⟨h.zero, fun b hb => ⟨by
    rcases h.own with e | ⟨x, e, _, hx⟩
    · rw [show v.ownBlock = some b from hb] at e; cases e
    · rw [show v.ownBlock = some b from hb] at e; cases e; exact hx, hO b hb⟩⟩
/-- .. in a block from N on. -/
def Kp.vsN (N k : Nat) (v : Value) (n : Nat) (cs : List Value) : Kp := (Kp.vs k v n cs).and (.pure (∀ b, v.ownBlock = some b → N ≤ b))
theorem Keep.vsN {w : World} {O : Nat → Prop} {N k n : Nat} {v : Value} {cs : List Value} (h : Keep w O (.vs k v n cs)) (hN : ∀ b, v.ownBlock = some b → N ≤ b) : Keep w O (.vsN N k v n cs) := h.and (Keep.pure hN)
theorem vsN_new {w' : World} {N k n : Nat} {v : Value} {cs : List Value} (h : (Kp.vsN N k v n cs).P w') (j : Nat) (hj : (Kp.vsN N k v n cs).S j) : N ≤ j := by
  rcases hj with hj | hj
  · exact h.2 j hj
  · exact hj.elim
/-- A slice that came in: its cells are read. -/
def Rv (w : World) (k : Nat) (v : Value) (n : Nat) (cs : List Value) : Prop :=
  cs.length = n * k ∧ (∀ u ∈ cs, u.oneCell' = true) ∧ ((v = .slice none 0 0 ∧ n = 0) ∨ ∃ a cap, v = .slice (some a) n cap ∧ ∀ j u, cs[j]? = some u → w.cell? (a.add j) = some u)
theorem Rv.form {w : World} {k n : Nat} {v : Value} {cs : List Value} (h : Rv w k v n cs) : ∃ a cap, v = .slice a n cap := by
  rcases h.2.2 with ⟨rfl, rfl⟩ | ⟨a, cap, rfl, _⟩
  · exact ⟨none, 0, rfl⟩
  · exact ⟨_, cap, rfl⟩
theorem Vs.rv {w : World} {B k n : Nat} {v : Value} {cs : List Value} (h : Vs w B k v n cs) : Rv w k v n cs := by
  obtain ⟨h1, h2, h3⟩ := h
  refine ⟨h1, h2, ?_⟩
  rcases h3 with h3 | ⟨b, o, cap, rfl, e2, e3, e4, e5, e6⟩
  · exact .inl h3
  · exact .inr ⟨_, cap, rfl, fun j u hu => by rw [Addr.add_lit]; exact e5 j u hu⟩
def Kp.rv (k : Nat) (v : Value) (n : Nat) (cs : List Value) : Kp := ⟨fun b => cs ≠ [] ∧ ∃ a n cap, v = .slice (some a) n cap ∧ a.block = b, fun w => Rv w k v n cs, fun w1 w2 h hs hp => by
  obtain ⟨h1, h2, h3⟩ := hp
  refine ⟨h1, h2, ?_⟩
  rcases h3 with h3 | ⟨a, cap, rfl, e5⟩
  · exact .inl h3
  · refine .inr ⟨a, cap, rfl, fun j u hu => ?_⟩
    have hc := e5 j u hu
    have hb : a.block < w1.heap.size := by rw [← add_block a j]; exact World.block_lt_of_cell? w1 (a.add j) hc
    have e := h a.block ⟨by intro e; subst e; simp at hu, a, _, cap, rfl, rfl⟩ hb
    exact (cellA_of_block (a := a.add j) (by rw [add_block]; exact e)).trans hc⟩
theorem Keep.rv {w : World} {k n : Nat} {v : Value} {cs : List Value} (h : Rv w k v n cs) : Keep w (fun _ => False) (.rv k v n cs) := ⟨h, fun b hb => by
  obtain ⟨hl, a, m, cap, hv, rfl⟩ := hb
  rcases h.2.2 with ⟨e, e2⟩ | ⟨a', cap', hv2, h2⟩
  · rw [e] at hv; cases hv
  · rw [hv2] at hv; cases hv
    have hj : 0 < cs.length := List.length_pos_iff.2 hl
    exact ⟨by rw [← add_block a 0]; exact World.block_lt_of_cell? w (a.add 0) (h2 0 _ (List.getElem?_eq_getElem hj)), id⟩⟩
theorem Rv.src {P : Program} {w : World} {k n : Nat} {v : Value} {cs : List Value} (h : Rv w k v n cs) {t e : TypeId} (ht : P.underlying t = some (.slice e)) : Src P k t v n cs w := by
  obtain ⟨h1, h2, h3⟩ := h
  rcases h3 with ⟨rfl, rfl⟩ | ⟨a, cap, rfl, e5⟩
  · have : cs = [] := List.eq_nil_of_length_eq_zero (by simpa using h1)
    subst this
    exact Src.ofNil (size := k) w ht 0
  · exact Src.ofSlice w ht a n cap cs h1 e5 h2
theorem One.newVs {W w w' : World} {Bm mb : Nat} {M : List UInt8} {O0 : Nat → Prop} {K : Kp} (h : One W w Bm mb M O0 K) (hb : Below w.heap.size w w') {k n : Nat} {v : Value} {cs : List Value} (hv : Vs w' w.heap.size k v n cs) : One W w' Bm mb M O0 (K.and (.vs k v n cs)) := by
  obtain ⟨O, h1, h2, h3, h4⟩ := h
  exact ⟨O, h1.below hb, h2.trans (Turn.of_below hb O), (h3.turn (Turn.of_below hb O)).and (Keep.vs hv (fun b hb2 hO => by
    have h8 := (h1.lt hO).1
    rcases hv.own with e | ⟨x, e, hx, _⟩
    · rw [hb2] at e; cases e
    · rw [hb2] at e; cases e; omega)), h4⟩
theorem Two.newVs {W w w' : World} {mb rb : Nat} {M N : List UInt8} {K : Kp} (h : Two W w mb rb M N K) (hb : Below w.heap.size w w') {k n : Nat} {v : Value} {cs : List Value} (hv : Vs w' w.heap.size k v n cs) : Two W w' mb rb M N (K.and (.vs k v n cs)) :=
  h.newK hb hv.zero (fun b hb2 => by
    rcases hv.own with e | ⟨x, e, hx1, hx2⟩
    · rw [show v.ownBlock = some b from hb2] at e; cases e
    · rw [show v.ownBlock = some b from hb2] at e; cases e; exact ⟨hx1, hx2⟩)
theorem Turn.grownOwn {W w w' : World} {O0 O : Nat → Prop} {row : Option Nat} (h : Turn W w O0 O) (hg : w.grownBy w' row) (hr : ∀ b, row = some b → W.heap.size ≤ b) : Turn W w' O0 O :=
  ⟨hg.os.trans h.os, hg.tape.trans h.tape, hg.output.trans h.output, Nat.le_trans h.size hg.size, fun k hk hO => (hg.block k (Nat.lt_of_lt_of_le hk h.size) (fun e => by have := hr k e.symm; omega)).trans (h.block k hk hO), h.new⟩
theorem Keep.grown {w w' : World} {O : Nat → Prop} {K : Kp} {row : Option Nat} (h : Keep w O K) (hg : w.grownBy w' row) (hr : ∀ b, row = some b → ¬ K.S b) : Keep w' O K :=
  ⟨K.stable w w' (fun k hk hl => hg.block k hl (fun e => hr k e.symm hk)) hg.size h.1, fun k hk => ⟨Nat.lt_of_lt_of_le (h.2 k hk).1 hg.size, (h.2 k hk).2⟩⟩
/-- What came in is as it was. -/
theorem Two.old {W w : World} {mb rb : Nat} {M N : List UInt8} {K L : Kp} (h : Two W w mb rb M N K) (hL : L.P W) (hS : ∀ k, L.S k → k < W.heap.size) : Two W w mb rb M N (K.and L) := by
  obtain ⟨B, O, R, h1, h2, h3, h4, h5, h6, h7⟩ := h
  exact ⟨B, O, R, h1, h2, h3, h4, h5, h6, h7.and ⟨L.stable W w (fun k hk hl => h6.block k hl) h6.size hL, fun k hk => ⟨Nat.lt_of_lt_of_le (hS k hk) h6.size, fun hO => by
    have := hS k hk
    rcases hO with hO | hO
    · have := (h3.lt hO).2; omega
    · have := (h4.lt hO).2; omega⟩⟩⟩
theorem Two.oldRv {W w : World} {mb rb : Nat} {M N : List UInt8} {K : Kp} (h : Two W w mb rb M N K) {k n : Nat} {v : Value} {cs : List Value} (hR : Rv W k v n cs) : Two W w mb rb M N (K.and (.rv k v n cs)) :=
  h.old hR (fun b hb => ((Keep.rv hR).2 b hb).1)
/-- An append to a slice of the walk's own. -/
theorem One.appendVs {P : Program} {W w : World} {Bm mb : Nat} {M : List UInt8} {O0 : Nat → Prop} {K : Kp} {k n m : Nat} {v u : Value} {cs ds : List Value} (h : One W w Bm mb M O0 (K.and (.vs k v n cs))) (hown : ∀ b, v.ownBlock = some b → W.heap.size ≤ b ∧ ¬ K.S b)
    {t tx e ty : TypeId} {z : Value} {by_ : Nat} (hu : Src P k tx u m ds w) (ht : P.underlying t = some (.slice e))
    (hi : (P.info? e).map (fun i => (i.zero, i.size, i.bytes)) = some (some z, k, by_)) (hz : z.cells.size = k) (hm : 0 < m) (hlen : (n + m) * by_ ≤ 1000000000) (hlen2 : n + m ≤ 1000000000) :
    ∃ v' w', (Builtin.append_ #[t, tx] ty #[v, u]).run P w = .ok v' w' ∧ One W w' Bm mb M O0 (K.and (.vs k v' (n + m) (cs ++ ds))) ∧ (∀ b, v'.ownBlock = some b → W.heap.size ≤ b ∧ ¬ K.S b) ∧ w.heap.size ≤ w'.heap.size := by
  obtain ⟨O, h1, h2, h3, h4⟩ := h
  have hV : Vs w 0 k v n cs := h3.right.1
  obtain ⟨v', w', hr, hv', hg, hob⟩ := hV.append hu ht hi hz hm hlen hlen2 (Nat.zero_le _) (ty := ty)
  have hvO : ∀ b, v.ownBlock = some b → ¬ O b := fun b hb => (h3.2 b (.inr hb)).2
  have hws := h2.size
  refine ⟨v', w', hr, ⟨O, h1.kept hg hvO, h2.grownOwn hg (fun b hb => (hown b hb).1), (h3.left.grown hg (fun b hb => (hown b hb).2)).and (Keep.vs hv' (fun b hb hO => ?_)), h4⟩, fun b hb => ?_, hg.size⟩
  · rcases hob with e | e
    · exact hvO b (e ▸ hb) hO
    · rw [hb] at e; cases e
      have := (h1.lt hO).1; omega
  · rcases hob with e | e
    · exact hown b (e ▸ hb)
    · rw [hb] at e; cases e
      exact ⟨h2.size, fun hS => by have := (h3.left.2 _ hS).1; omega⟩
theorem One.turnVs {W w w' : World} {Bm mb : Nat} {M : List UInt8} {O0 : Nat → Prop} {K : Kp} {k n : Nat} {v : Value} {cs cs' : List Value} (h : One W w Bm mb M O0 (K.and (.vs k v n cs))) (hown : ∀ b, v.ownBlock = some b → W.heap.size ≤ b ∧ ¬ K.S b) (hv : Vs w' 0 k v n cs') (hg : w.grownBy w' v.ownBlock) : One W w' Bm mb M O0 (K.and (.vs k v n cs')) := by
  obtain ⟨O, h1, h2, h3, h4⟩ := h
  have hvO : ∀ b, v.ownBlock = some b → ¬ O b := fun b hb => (h3.2 b (.inr hb)).2
  exact ⟨O, h1.kept hg hvO, h2.grownOwn hg (fun b hb => (hown b hb).1), (h3.left.grown hg (fun b hb => (hown b hb).2)).and (Keep.vs hv hvO), h4⟩
theorem Vs.lit1 (w : World) (u : Value) (t : TypeId) (hu : u.oneCell' = true) : Vs (w.alloc (.cells #[u] t)) 0 1 (.slice (some ⟨w.heap.size, 0, none⟩) 1 1) 1 [u] :=
  Vs.of_blk (Blk.new _ _ _) rfl (by simp) (Nat.le_refl _) (fun j x hj => by simpa using hj) (fun x hx => by simp at hx; rw [hx]; exact hu) (Nat.zero_le _)
/-- Integers, as cells. -/
def ic (l : List Int) : List Value := l.map (Value.int .i64)
theorem ic_len (l : List Int) : (ic l).length = l.length := by simp [ic]
theorem ic_at (l : List Int) (j : Nat) (h : j < l.length) : (ic l)[j]? = some (.int .i64 l[j]) := by simp [ic, h]
theorem ic_set (l : List Int) (j : Nat) (x : Int) : (ic l).set j (.int .i64 x) = ic (l.set j x) := by simp [ic, List.map_set]
theorem infoI : (Try.prog.info? 2).map (fun i => (i.zero, i.size, i.bytes)) = some (some (.int .i64 0), 1, 8) := by kernel_rfl
theorem Vs.setAt {w : World} {B b o n cap : Nat} {cs : List Value} (h : Vs w B 1 (.slice (some ⟨b, o, none⟩) n cap) n cs) (j : Nat) (u : Value) (hj : j < n) (hu : u.oneCell' = true) : Vs (w.setCell ⟨b, o + j, none⟩ u) B 1 (.slice (some ⟨b, o, none⟩) n cap) n (cs.set j u) := by
  obtain ⟨h1, h2, h3⟩ := h
  refine ⟨by rw [List.length_set]; exact h1, fun x hx => ?_, ?_⟩
  · rcases List.mem_or_eq_of_mem_set hx with h | h
    · exact h2 x h
    · rw [h]; exact hu
  · rcases h3 with ⟨e, _⟩ | ⟨b', o', cap', e, e2, e3, e4, e5, e6⟩
    · cases e
    · cases e
      refine .inr ⟨b, o, cap, rfl, e2, by rw [World.size_setCell]; exact e3, e4, fun i x hx => ?_, fun i hi => ?_⟩
      · by_cases e : j = i
        · subst e
          rw [List.getElem?_set_self (by omega)] at hx
          cases hx
          obtain ⟨y, hy⟩ := Option.isSome_iff_exists.1 (e6 j (by omega)).1
          rw [cell_set, hy]; rfl
        · rw [List.getElem?_set_ne e] at hx
          rw [World.cell?_setCell_other w (a := ⟨b, o + j, none⟩) (b := ⟨b, o + i, none⟩) _ (by intro h; have h2 : o + j = o + i := congrArg Addr.off h; omega)]
          exact e5 i x hx
      · rw [World.frozen?_setCell]
        exact ⟨by
          by_cases e : j = i
          · subst e
            obtain ⟨y, hy⟩ := Option.isSome_iff_exists.1 (e6 j hi).1
            rw [cell_set, hy]; rfl
          · rw [World.cell?_setCell_other w (a := ⟨b, o + j, none⟩) (b := ⟨b, o + i, none⟩) _ (by intro h; have h2 : o + j = o + i := congrArg Addr.off h; omega)]
            exact (e6 i hi).1, (e6 i hi).2⟩
theorem Rv.below {w w' : World} {k n : Nat} {v : Value} {cs : List Value} (h : Rv w k v n cs) (hb : Below w.heap.size w w') : Rv w' k v n cs := by
  obtain ⟨h1, h2, h3⟩ := h
  refine ⟨h1, h2, ?_⟩
  rcases h3 with h3 | ⟨a, cap, rfl, e5⟩
  · exact .inl h3
  · exact .inr ⟨a, cap, rfl, fun j u hu => (hb.cell (World.block_lt_of_cell? w _ (e5 j u hu))).trans (e5 j u hu)⟩
theorem add_next (a : Addr) (m j : Nat) : a.add (m + (j + 1)) = ⟨(a.add m).block, (a.add m).off + (j + 1), none⟩ := by
  have h1 : a.add (m + (j + 1)) = ⟨a.block, a.off + (m + (j + 1)), none⟩ := by simp only [Addr.add]; rw [if_neg (by omega)]
  have h2 : (a.add m).block = a.block := add_block a m
  have h3 : (a.add m).off = a.off + m := by
    simp only [Addr.add]
    split
    · omega
    · rfl
  rw [h1, h2, h3]
  congr 1
  omega
theorem run_madeI (w : World) (N : Nat) (hN : N ≤ 1000000) : (Instr.makeSlice 43 (.int .i64 (N : Int)) (.int .i64 (N : Int))).run Try.prog w = .ok (.slice (some ⟨w.heap.size, 0, none⟩) N N) (w.alloc (.cells (ic (List.replicate N 0)).toArray 2)) := by
  obtain ⟨i, hi1, hi2⟩ := Option.map_eq_some_iff.1 infoI
  simp only [Prod.mk.injEq] at hi2
  obtain ⟨hz, hs1, hb1⟩ := hi2
  have h := run_make (P := Try.prog) w 43 2 i (.int .i64 0) Try.underlying43 hi1 hz .i64 .i64 (N : Int) (N : Int) (by omega) (Int.le_refl _) (by rw [hb1]; omega) (by omega)
  rw [h]
  have e : madeCells (Value.int IntKind.i64 0).cells ((N : Int).toNat * i.size) = (ic (List.replicate N 0)).toArray := by
    rw [hs1, Int.toNat_natCast, Nat.mul_one]
    apply Array.ext
    · simp [madeCells, ic, Value.cells]
    · intro j h1 h2
      simp [madeCells, ic, Value.cells, Nat.mod_one]
  rw [e]
  simp
end Go.Proofs.Ytcfblcgdjhpdaaa

/- States of a walk through the reference. -/
namespace Go.Proofs.Ytcfblcgdjhpdaaa
open Go.RowKit
set_option linter.unusedVariables false
set_option linter.unusedSimpArgs false

theorem RefP.apart {w w2 : World} {B rb : Nat} {M L : List UInt8} {R : Nat → Prop} {v : Value} (h : RefP w B rb M R) (hv : Bs w2 w.heap.size v L) : ∀ k, v.ownBlock = some k → ¬ R k := fun k hk hO => by
  have := (h.lt hO).1
  have := hv.geB hk
  omega
/-- From W, whose memory's blocks were O0, the walk has come to w: the memory is M, K holds. -/
def Onr (W w : World) (B rb : Nat) (M : List UInt8) (O0 : Nat → Prop) (K : Kp) : Prop := ∃ O, RefP w B rb M O ∧ Turn W w O0 O ∧ Keep w O K ∧ B ≤ W.heap.size
section
variable {W w : World} {B rb : Nat} {M : List UInt8} {O0 : Nat → Prop} {K L : Kp}
theorem Onr.start {O : Nat → Prop} (h : RefP w B rb M O) (hB : B ≤ w.heap.size) : Onr w w B rb M O .emp := ⟨O, h, Turn.refl _ _, Keep.emp _ _, hB⟩
theorem Onr.startK {O : Nat → Prop} (h : RefP w B rb M O) (hB : B ≤ w.heap.size) (hK : Keep w O K) : Onr w w B rb M O K := ⟨O, h, Turn.refl _ _, hK, hB⟩
theorem Onr.fact (h : Onr W w B rb M O0 K) : K.P w := by obtain ⟨_, _, _, h, _⟩ := h; exact h.1
theorem Onr.size (h : Onr W w B rb M O0 K) : W.heap.size ≤ w.heap.size := by obtain ⟨_, _, h, _⟩ := h; exact h.size
theorem Onr.slt (h : Onr W w B rb M O0 K) {k : Nat} (hk : K.S k) : k < w.heap.size := by obtain ⟨_, _, _, h, _⟩ := h; exact (h.2 k hk).1
theorem Onr.len (h : Onr W w B rb M O0 K) : M.length = 8192 := by obtain ⟨_, h, _⟩ := h; exact h.len
theorem Onr.refQ (h : Onr W w B rb M O0 K) (v : Value) : RefQ W w B rb M O0 v (.returned v) := by obtain ⟨O, h1, h2, _⟩ := h; exact ⟨rfl, O, h1, h2⟩
theorem Onr.weak (h : Onr W w B rb M O0 (K.and L)) : Onr W w B rb M O0 K := by obtain ⟨O, h1, h2, h3, h4⟩ := h; exact ⟨O, h1, h2, h3.left, h4⟩
theorem Onr.last (h : Onr W w B rb M O0 (K.and L)) : Onr W w B rb M O0 L := by obtain ⟨O, h1, h2, h3, h4⟩ := h; exact ⟨O, h1, h2, h3.right, h4⟩
theorem Onr.keep (h : Onr W w B rb M O0 K) (hL : ∀ O, Keep w O K → Keep w O L) : Onr W w B rb M O0 L := by obtain ⟨O, h1, h2, h3, h4⟩ := h; exact ⟨O, h1, h2, hL O h3, h4⟩
theorem Onr.alloc (h : Onr W w B rb M O0 K) (o : Obj) : Onr W (w.alloc o) B rb M O0 K := by
  obtain ⟨O, h1, h2, h3, h4⟩ := h
  have hb : Below w.heap.size w (w.alloc o) := bel_alloc (Below.refl _ _) o
  exact ⟨O, h1.below hb, h2.trans (Turn.of_below hb O), h3.turn (Turn.of_below hb O), h4⟩
theorem Onr.new (h : Onr W w B rb M O0 K) (c : Array Value) (t : TypeId) : Onr W (w.alloc (.cells c t)) B rb M O0 (K.and (.blk w.heap.size c t)) := by
  obtain ⟨O, h1, h2, h3, h4⟩ := h
  have hb : Below w.heap.size w (w.alloc (.cells c t)) := bel_alloc (Below.refl _ _) _
  exact ⟨O, h1.below hb, h2.trans (Turn.of_below hb O), (h3.turn (Turn.of_below hb O)).and (Keep.blk (Blk.new _ _ _) (fun hO => by have := (h1.lt hO).1; omega)), h4⟩
theorem Onr.drew (h : Onr W w B rb M O0 K) : Onr W w.drew B rb M O0 K := by
  obtain ⟨O, h1, h2, h3, h4⟩ := h
  exact ⟨O, (h1.below (bel_drew (Below.refl _ _))), h2.drawn, h3.turn (Turn.of_below (bel_drew (Below.refl _ _)) O), h4⟩
theorem Onr.set {b : Nat} {c : Array Value} {t : TypeId} (h : Onr W w B rb M O0 (K.and (.blk b c t))) (hb : W.heap.size ≤ b) (hK : ¬ K.S b) (o : Nat) (v : Value) : Onr W (w.setCell ⟨b, o, none⟩ v) B rb M O0 (K.and (.blk b (c.setIfInBounds o v) t)) := by
  obtain ⟨O, h1, h2, h3, h4⟩ := h
  have hO : ¬ O b := (h3.2 b (.inr rfl)).2
  exact ⟨O, (h1.kept (grownBy_setCell w b o v) (fun k hk => by cases hk; exact hO)), h2.setOwn hb v, (h3.left.set hK v).and (Keep.blk (h3.right.1.set o v) hO), h4⟩
/-- A call that the memory is handed to. -/
theorem Onr.ref (h : Onr W w B rb M O0 K) {f : Nat} {args : Array Value} {M' : List UInt8} {v : Value} (c : ∀ O, RefP w B rb M O → B ≤ w.heap.size → Calls Try.prog f args w fun e w' => RefQ w w' B rb M' O v e) :
    Calls Try.prog f args w fun e w' => e = .returned v ∧ Onr W w' B rb M' O0 K := by
  obtain ⟨O, h1, h2, h3, h4⟩ := h
  refine (c O h1 (Nat.le_trans h4 h2.size)).mono fun e w' ⟨he, O', h5, h6⟩ => ⟨he, O', h5, h2.trans h6, h3.turn h6, h4⟩
/-- A call that gives something new besides. -/
def RefX {α : Type} (w w' : World) (B rb : Nat) (O : Nat → Prop) (ret : α → Value) (M' : α → List UInt8) (G : α → Kp) (e : Ending) : Prop := ∃ x O', e = .returned (ret x) ∧ RefP w' B rb (M' x) O' ∧ Turn w w' O O' ∧ Keep w' O' (G x)
theorem Onr.refX {α : Type} (h : Onr W w B rb M O0 K) {f : Nat} {args : Array Value} {ret : α → Value} {M' : α → List UInt8} {G : α → Kp} (c : ∀ O, RefP w B rb M O → B ≤ w.heap.size → Calls Try.prog f args w fun e w' => RefX w w' B rb O ret M' G e) :
    Calls Try.prog f args w fun e w' => ∃ x, e = .returned (ret x) ∧ Onr W w' B rb (M' x) O0 (K.and (G x)) := by
  obtain ⟨O, h1, h2, h3, h4⟩ := h
  refine (c O h1 (Nat.le_trans h4 h2.size)).mono fun e w' ⟨x, O', he, h5, h6, h7⟩ => ⟨x, he, O', h5, h2.trans h6, (h3.turn h6).and h7, h4⟩
theorem Onr.load (h : Onr W w B rb M O0 K) {f : Nat} {args : Array Value} {l : List UInt8} (c : ∀ O, RefP w B rb M O → B ≤ w.heap.size → Calls Try.prog f args w fun e w' => ∃ v, e = .returned v ∧ Bs w' w.heap.size v l ∧ Below w.heap.size w w') :
    Calls Try.prog f args w fun e w' => ∃ v, e = .returned v ∧ Onr W w' B rb M O0 (K.and (.bs v l)) := by
  obtain ⟨O, h1, h2, h3, h4⟩ := h
  refine (c O h1 (Nat.le_trans h4 h2.size)).mono fun e w' ⟨v, he, h5, h6⟩ => ⟨v, he, O, h1.below h6, h2.trans (Turn.of_below h6 O), (h3.turn (Turn.of_below h6 O)).and (Keep.bs h5 (h1.apart h5)), h4⟩
theorem Onr.read (h : Onr W w B rb M O0 K) {f : Nat} {args : Array Value} {Q : Ending → World → Prop} (c : ∀ O, RefP w B rb M O → Calls Try.prog f args w fun e w' => Q e w' ∧ Below w.heap.size w w') :
    Calls Try.prog f args w fun e w' => Q e w' ∧ Onr W w' B rb M O0 K := by
  have h' := h
  obtain ⟨O, h1, h2, h3, h4⟩ := h
  exact (c O h1).mono fun e w' ⟨hq, hb⟩ => ⟨hq, by
    exact ⟨O, h1.below hb, h2.trans (Turn.of_below hb O), h3.turn (Turn.of_below hb O), h4⟩⟩
/-- A call that changes nothing that there was. -/
theorem Onr.below {w' : World} (h : Onr W w B rb M O0 K) (hb : Below w.heap.size w w') : Onr W w' B rb M O0 K := by
  obtain ⟨O, h1, h2, h3, h4⟩ := h
  exact ⟨O, h1.below hb, h2.trans (Turn.of_below hb O), h3.turn (Turn.of_below hb O), h4⟩
theorem Onr.still (h : Onr W w B rb M O0 K) {f : Nat} {args : Array Value} {Q : Ending → World → Prop} (c : Calls Try.prog f args w fun e w' => Q e w' ∧ Below w.heap.size w w') :
    Calls Try.prog f args w fun e w' => Q e w' ∧ Onr W w' B rb M O0 K := c.mono fun e w' ⟨hq, hb⟩ => ⟨hq, h.below hb⟩
/-- New bytes, behind a call that changes nothing that there was. -/
theorem Onr.newBs {w' : World} (h : Onr W w B rb M O0 K) (hb : Below w.heap.size w w') {v : Value} {l : List UInt8} (hv : Bs w' w.heap.size v l) : Onr W w' B rb M O0 (K.and (.bs v l)) := by
  obtain ⟨O, h1, h2, h3, h4⟩ := h
  exact ⟨O, h1.below hb, h2.trans (Turn.of_below hb O), (h3.turn (Turn.of_below hb O)).and (Keep.bs hv (h1.apart hv)), h4⟩
end

theorem Onr.newVs {W w w' : World} {Bm rb : Nat} {M : List UInt8} {O0 : Nat → Prop} {K : Kp} (h : Onr W w Bm rb M O0 K) (hb : Below w.heap.size w w') {k n : Nat} {v : Value} {cs : List Value} (hv : Vs w' w.heap.size k v n cs) : Onr W w' Bm rb M O0 (K.and (.vs k v n cs)) := by
  obtain ⟨O, h1, h2, h3, h4⟩ := h
  exact ⟨O, h1.below hb, h2.trans (Turn.of_below hb O), (h3.turn (Turn.of_below hb O)).and (Keep.vs hv (fun b hb2 hO => by
    have h8 := (h1.lt hO).1
    rcases hv.own with e | ⟨x, e, hx, _⟩
    · rw [hb2] at e; cases e
    · rw [hb2] at e; cases e; omega)), h4⟩
/-- An append to a slice of the walk's own. -/
theorem Onr.appendVs {P : Program} {W w : World} {Bm rb : Nat} {M : List UInt8} {O0 : Nat → Prop} {K : Kp} {k n m : Nat} {v u : Value} {cs ds : List Value} (h : Onr W w Bm rb M O0 (K.and (.vs k v n cs))) (hown : ∀ b, v.ownBlock = some b → W.heap.size ≤ b ∧ ¬ K.S b)
    {t tx e ty : TypeId} {z : Value} {by_ : Nat} (hu : Src P k tx u m ds w) (ht : P.underlying t = some (.slice e))
    (hi : (P.info? e).map (fun i => (i.zero, i.size, i.bytes)) = some (some z, k, by_)) (hz : z.cells.size = k) (hm : 0 < m) (hlen : (n + m) * by_ ≤ 1000000000) (hlen2 : n + m ≤ 1000000000) :
    ∃ v' w', (Builtin.append_ #[t, tx] ty #[v, u]).run P w = .ok v' w' ∧ Onr W w' Bm rb M O0 (K.and (.vs k v' (n + m) (cs ++ ds))) ∧ (∀ b, v'.ownBlock = some b → W.heap.size ≤ b ∧ ¬ K.S b) ∧ w.heap.size ≤ w'.heap.size := by
  obtain ⟨O, h1, h2, h3, h4⟩ := h
  have hV : Vs w 0 k v n cs := h3.right.1
  obtain ⟨v', w', hr, hv', hg, hob⟩ := hV.append hu ht hi hz hm hlen hlen2 (Nat.zero_le _) (ty := ty)
  have hvO : ∀ b, v.ownBlock = some b → ¬ O b := fun b hb => (h3.2 b (.inr hb)).2
  have hws := h2.size
  refine ⟨v', w', hr, ⟨O, h1.kept hg hvO, h2.grownOwn hg (fun b hb => (hown b hb).1), (h3.left.grown hg (fun b hb => (hown b hb).2)).and (Keep.vs hv' (fun b hb hO => ?_)), h4⟩, fun b hb => ?_, hg.size⟩
  · rcases hob with e | e
    · exact hvO b (e ▸ hb) hO
    · rw [hb] at e; cases e
      have := (h1.lt hO).1; omega
  · rcases hob with e | e
    · exact hown b (e ▸ hb)
    · rw [hb] at e; cases e
      exact ⟨h2.size, fun hS => by have := (h3.left.2 _ hS).1; omega⟩
theorem Onr.turnVs {W w w' : World} {Bm rb : Nat} {M : List UInt8} {O0 : Nat → Prop} {K : Kp} {k n : Nat} {v : Value} {cs cs' : List Value} (h : Onr W w Bm rb M O0 (K.and (.vs k v n cs))) (hown : ∀ b, v.ownBlock = some b → W.heap.size ≤ b ∧ ¬ K.S b) (hv : Vs w' 0 k v n cs') (hg : w.grownBy w' v.ownBlock) : Onr W w' Bm rb M O0 (K.and (.vs k v n cs')) := by
  obtain ⟨O, h1, h2, h3, h4⟩ := h
  have hvO : ∀ b, v.ownBlock = some b → ¬ O b := fun b hb => (h3.2 b (.inr hb)).2
  exact ⟨O, h1.kept hg hvO, h2.grownOwn hg (fun b hb => (hown b hb).1), (h3.left.grown hg (fun b hb => (hown b hb).2)).and (Keep.vs hv hvO), h4⟩
end Go.Proofs.Ytcfblcgdjhpdaaa

/- Two memories: how they come to be, and how the reference's bytes are read. -/
namespace Go.Proofs.Ytcfblcgdjhpdaaa
open Go.RowKit
set_option linter.unusedVariables false
set_option linter.unusedSimpArgs false
attribute [local go_sem] cell_set set_set m_undef

theorem RefP.mono {w : World} {B B' rb : Nat} {M : List UInt8} {R : Nat → Prop} (h : RefP w B rb M R) (hB : B' ≤ B) : RefP w B' rb M R := by
  obtain ⟨vb, ob, ⟨h1, h2, h3, cap, ws, nn, h4, h5⟩, h6⟩ := h
  exact ⟨vb, ob, ⟨h1, by omega, h3, cap, ws, nn, h4, h5.mono hB⟩, h6⟩
/-- Both memories are made. -/
theorem Two.make {W w1 w2 w3 : World} {mb rb : Nat} {M N : List UInt8} {O R : Nat → Prop} {K : Kp} (hb1 : Below W.heap.size W w1) (hK : Keep w1 (fun _ => False) K) (hP : MemP w2 w1.heap.size mb M O) (hb2 : Below w1.heap.size w1 w2) (hR : RefP w3 w2.heap.size rb N R) (hb3 : Below w2.heap.size w2 w3) :
    Two W w3 mb rb M N K :=
  ⟨w1.heap.size, O, R, hb1.size, Nat.le_trans hb2.size hb3.size, hP.below hb3, hR.mono hb2.size, fun k hk hr => by have := (hP.lt hk).1; have := (hR.lt hr).2; omega, bel_trans (bel_trans hb1 hb2) hb3,
    ⟨((hK.turn (Turn.of_below hb2 _)).turn (Turn.of_below hb3 _)).1, fun k hk => by
      have h1 := (hK.2 k hk).1
      have h2 := hb2.size
      have h3 := hb3.size
      refine ⟨by omega, fun hO => ?_⟩
      rcases hO with hO | hO
      · have := (hP.lt hO).2; omega
      · have := (hR.lt hO).2; omega⟩⟩
/-- A call that the reference's memory is handed to, and that gives something new. -/
theorem Two.refX {W w : World} {mb rb : Nat} {M N : List UInt8} {K : Kp} {α : Type} (h : Two W w mb rb M N K) {f : Nat} {args : Array Value} {ret : α → Value} {N' : α → List UInt8} {G : α → Kp} (c : ∀ B R, RefP w B rb N R → B ≤ w.heap.size → Calls Try.prog f args w fun e w' => RefX w w' B rb R ret N' G e)
    (hG : ∀ x w', (G x).P w' → ∀ k, (G x).S k → w.heap.size ≤ k) :
    Calls Try.prog f args w fun e w' => ∃ x, e = .returned (ret x) ∧ Two W w' mb rb M (N' x) (K.and (G x)) := by
  obtain ⟨B, O, R, h1, h2, h3, h4, h5, h6, h7⟩ := h
  refine (c B R h4 h2).mono fun e w' ⟨x, R', he, h8, h9, h10⟩ => ⟨x, he, B, O, R', h1, Nat.le_trans h2 h9.size, h3.turn h9 (fun k hk hR => h5 k hk hR), h8, fun k hk => h9.apart (h5 k hk) (h3.lt hk).1,
    h6.trans ((h9.below (fun k hk => (h4.lt hk).2) h2).mono h1), (h7.turn h9.both').and ⟨h10.1, fun k hk => ⟨(h10.2 k hk).1, fun hO => by
      rcases hO with hO | hO
      · have := hG x w' h10.1 k hk; have := (h3.lt hO).1; omega
      · exact (h10.2 k hk).2 hO⟩⟩⟩
/-- .. what is kept is handed over too. -/
theorem Two.memK {W w : World} {mb rb : Nat} {M N : List UInt8} {K : Kp} (h : Two W w mb rb M N K) {f : Nat} {args : Array Value} {M' : List UInt8} {v : Value} (c : ∀ B O, MemP w B mb M O → B ≤ w.heap.size → Keep w O K → Calls Try.prog f args w fun e w' => MemQ w w' B mb M' O v e) :
    Calls Try.prog f args w fun e w' => e = .returned v ∧ Two W w' mb rb M' N K := by
  obtain ⟨B, O, R, h1, h2, h3, h4, h5, h6, h7⟩ := h
  refine (c B O h3 h2 (h7.wider (fun k hk => .inl (.inl hk)))).mono fun e w' ⟨he, O', h8, h9⟩ => ⟨he, B, O', R, h1, Nat.le_trans h2 h9.size, h8, h4.turn h9 (fun k hk hO => h5 k hO hk), fun k hk hR => h9.apart (fun hO => h5 k hO hR) (h4.lt hR).1 hk,
    h6.trans ((h9.below (fun k hk => (h3.lt hk).2) h2).mono h1), h7.turn h9.both⟩
theorem Two.refK {W w : World} {mb rb : Nat} {M N : List UInt8} {K : Kp} (h : Two W w mb rb M N K) {f : Nat} {args : Array Value} {N' : List UInt8} {v : Value} (c : ∀ B R, RefP w B rb N R → B ≤ w.heap.size → Keep w R K → Calls Try.prog f args w fun e w' => RefQ w w' B rb N' R v e) :
    Calls Try.prog f args w fun e w' => e = .returned v ∧ Two W w' mb rb M N' K := by
  obtain ⟨B, O, R, h1, h2, h3, h4, h5, h6, h7⟩ := h
  refine (c B R h4 h2 (h7.wider (fun k hk => .inl (.inr hk)))).mono fun e w' ⟨he, R', h8, h9⟩ => ⟨he, B, O, R', h1, Nat.le_trans h2 h9.size, h3.turn h9 (fun k hk hR => h5 k hk hR), h8, fun k hk => h9.apart (h5 k hk) (h3.lt hk).1,
    h6.trans ((h9.below (fun k hk => (h4.lt hk).2) h2).mono h1), h7.turn h9.both'⟩
/-- The reference's memory, its slice s. -/
def RefV (w : World) (B rb : Nat) (s : Value) (M : List UInt8) (R : Nat → Prop) : Prop :=
  ∃ vb ob cap ws nn, s = .slice (some ⟨vb, ob, none⟩) 8192 cap ∧ M.length = 8192 ∧ B ≤ rb ∧ vb ≠ rb ∧ Blk w rb #[s, ws, .bool nn] 51 ∧ Bs w B s M ∧ ∀ k, R k ↔ (k = rb ∨ k = vb)
theorem RefP.val {w : World} {B rb : Nat} {M : List UInt8} {R : Nat → Prop} (h : RefP w B rb M R) : ∃ s, RefV w B rb s M R := by
  obtain ⟨vb, ob, ⟨h1, h2, h3, cap, ws, nn, h4, h5⟩, h6⟩ := h
  exact ⟨_, vb, ob, cap, ws, nn, rfl, h1, h2, h3, h4, h5, h6⟩
theorem RefV.ref {w : World} {B rb : Nat} {s : Value} {M : List UInt8} {R : Nat → Prop} (h : RefV w B rb s M R) : RefP w B rb M R := by
  obtain ⟨vb, ob, cap, ws, nn, rfl, h1, h2, h3, h4, h5, h6⟩ := h
  exact ⟨vb, ob, ⟨h1, h2, h3, cap, ws, nn, h4, h5⟩, h6⟩
theorem RefV.turn {w w' : World} {B rb : Nat} {s : Value} {M : List UInt8} {R O O' : Nat → Prop} (h : RefV w B rb s M R) (hT : Turn w w' O O') (hd : ∀ k, R k → ¬ O k) : RefV w' B rb s M R := by
  obtain ⟨vb, ob, cap, ws, nn, rfl, h1, h2, h3, h4, h5, h6⟩ := h
  exact ⟨vb, ob, cap, ws, nn, rfl, h1, h2, h3, h4.turn hT (hd _ ((h6 _).2 (.inl rfl))), h5.turn hT (fun k hk => by cases hk; exact hd _ ((h6 _).2 (.inr rfl))), h6⟩
/-- Two memories, the reference's slice s. -/
def TwoS (W w : World) (mb rb : Nat) (s : Value) (M N : List UInt8) (K : Kp) : Prop := ∃ B O R, W.heap.size ≤ B ∧ B ≤ w.heap.size ∧ MemP w B mb M O ∧ RefV w B rb s N R ∧ (∀ k, O k → ¬ R k) ∧ Below W.heap.size W w ∧ Keep w (fun k => O k ∨ R k) K
section
variable {W w : World} {mb rb : Nat} {s : Value} {M N : List UInt8} {K L : Kp}
theorem Two.val (h : Two W w mb rb M N K) : ∃ s, TwoS W w mb rb s M N K := by
  obtain ⟨B, O, R, h1, h2, h3, h4, h5, h6, h7⟩ := h
  obtain ⟨s, hs⟩ := h4.val
  exact ⟨s, B, O, R, h1, h2, h3, hs, h5, h6, h7⟩
theorem TwoS.two (h : TwoS W w mb rb s M N K) : Two W w mb rb M N K := by
  obtain ⟨B, O, R, h1, h2, h3, h4, h5, h6, h7⟩ := h
  exact ⟨B, O, R, h1, h2, h3, h4.ref, h5, h6, h7⟩
theorem TwoS.form (h : TwoS W w mb rb s M N K) : ∃ vb ob cap, s = .slice (some ⟨vb, ob, none⟩) 8192 cap := by
  obtain ⟨B, O, R, h1, h2, h3, ⟨vb, ob, cap, ws, nn, e, _⟩, _⟩ := h
  exact ⟨vb, ob, cap, e⟩
theorem TwoS.cell (h : TwoS W w mb rb s M N K) : w.cell? ⟨rb, 0, none⟩ = some s := by
  obtain ⟨B, O, R, h1, h2, h3, ⟨vb, ob, cap, ws, nn, e, _, _, _, h4, _⟩, _⟩ := h
  rw [h4.cell]; rfl
theorem TwoS.bs (h : TwoS W w mb rb s M N K) : Bs w 0 s N := by
  obtain ⟨B, O, R, h1, h2, h3, ⟨vb, ob, cap, ws, nn, e, _, _, _, _, h4, _⟩, _⟩ := h
  exact h4.zero
theorem TwoS.fact (h : TwoS W w mb rb s M N K) : K.P w := h.two.fact
theorem TwoS.load (h : TwoS W w mb rb s M N K) {f : Nat} {args : Array Value} {l : List UInt8} (c : ∀ B O, MemP w B mb M O → B ≤ w.heap.size → Calls Try.prog f args w fun e w' => LoadQ w w' B mb M O l e) :
    Calls Try.prog f args w fun e w' => ∃ v, e = .returned v ∧ TwoS W w' mb rb s M N (K.and (.bs v l)) := by
  obtain ⟨B, O, R, h1, h2, h3, h4, h5, h6, h7⟩ := h
  refine (c B O h3 h2).mono fun e w' ⟨v, O', he, hv, h8, h9, h10⟩ => ⟨v, he, B, O', R, h1, Nat.le_trans h2 h9.size, h8, h4.turn h9 (fun k hk hO => h5 k hO hk), fun k hk hR => h9.apart (fun hO => h5 k hO hR) (h4.ref.lt hR).1 hk,
    h6.trans ((h9.below (fun k hk => (h3.lt hk).2) h2).mono h1), (h7.turn h9.both).and (Keep.bs hv (fun k hk hO => by
      rcases hO with hO | hO
      · exact h10 k hk hO
      · have := hv.geB hk; have := (h4.ref.lt hO).1; omega))⟩
end
end Go.Proofs.Ytcfblcgdjhpdaaa

/- The reference's memory: 'Set'. -/
namespace Go.Proofs.Ytcfblcgdjhpdaaa
open Go.RowKit
set_option linter.unusedVariables false
set_option linter.unusedSimpArgs false
attribute [local go_sem] cell_set set_set m_undef

theorem Blk.c3 {w : World} {b : Nat} {x y z : Value} {t : TypeId} (h : Blk w b #[x, y, z] t) : (w.cell? ⟨b, 0, none⟩ = some x ∧ w.cell? ⟨b, 1, none⟩ = some y ∧ w.cell? ⟨b, 2, none⟩ = some z) ∧ w.frozen? ⟨b, 0, none⟩ = false ∧ w.frozen? ⟨b, 1, none⟩ = false ∧ w.frozen? ⟨b, 2, none⟩ = false :=
  ⟨⟨h.cell 0, h.cell 1, h.cell 2⟩, h.frozen 0, h.frozen 1, h.frozen 2⟩
set_option maxHeartbeats 1000000 in
theorem rSet {w : World} {B rb : Nat} {M : List UInt8} {R : Nat → Prop} (h : RefP w B rb M R) (a n : Int) (ha : isI a) :
    Calls Try.prog 20 #[.pointer (some ⟨rb, 0, none⟩), .int .i64 a, .int .i64 n] w fun e w' => RefQ w w' B rb (setM M a n) R (.tuple #[]) e := by
  obtain ⟨vb, ob, ⟨h1, h2, h3, cap, ws, nn, hB, hM⟩, hR⟩ := h
  have hPC := Lib.hid (rPutCell w B _ M a n hM ha (by rw [h1]; omega))
  have hm := putCell_mem h1 a n
  rw [hm] at hPC
  have hlen : (setM M a n).length = 8192 := by rw [setM_len]; exact h1
  generalize setM M a n = M2 at *
  have hrl := Lib.hid hB.lt
  obtain ⟨⟨y1, y2, y3⟩, z1, z2, z3⟩ := hB.c3
  replace hB := Lib.hid hB
  replace hlen := Lib.hid hlen
  replace h2 := Lib.hid h2
  clear hm h1 hM
  go_enter Try.func20, Try.ntmps20
  go_wp2_with (go_at_call 49; refine hPC.out.mono ?_; rintro e w2 ⟨v, rfl, hv, hb⟩; obtain ⟨b, o, c, rfl⟩ := hv.some_of (by intro e; have := hlen.out; rw [e] at this; simp at this); rw [hlen.out] at hv ⊢; have hB2 := hB.out.below hb; clear y1 y2 y3 z1 z2 z3; obtain ⟨⟨y1, y2, y3⟩, z1, z2, z3⟩ := hB2.c3; replace hb := Lib.hid hb; replace hv := Lib.hid hv)
  (try go_end0)
  have hb2 : w.heap.size ≤ b := hv.out.lt2.1
  have hT : Turn w (w2.setCell ⟨rb, 0, none⟩ (.slice (some ⟨b, o, none⟩) 8192 c)) R (fun k => k = rb ∨ k = b) :=
    ⟨hb.out.os, hb.out.tape, hb.out.output, by rw [World.size_setCell]; exact hb.out.size, fun k hk hn => (Below.heap_setCell _ _ _ _ (fun e => hn ((hR k).2 (.inl e)))).trans (hb.out.block k hk), fun k hk => by
      rcases hk with rfl | rfl
      · exact .inl ((hR _).2 (.inl rfl))
      · exact .inr hb2⟩
  refine ⟨rfl, _, ⟨b, o, ⟨hlen.out, h2.out, by have := hrl.out; omega, c, ws, nn, ?_, ?_⟩, fun k => Iff.rfl⟩, hT⟩
  · exact hB2.set 0 _
  · exact ((hv.out.set_other (fun e => by have e2 := Option.some.inj e; have e3 : b = rb := e2; have := hrl.out; omega) _)).mono (by have := h2.out; have := hrl.out; omega)
end Go.Proofs.Ytcfblcgdjhpdaaa

/- One memory, made behind W. -/
namespace Go.Proofs.Ytcfblcgdjhpdaaa
open Go.RowKit
set_option linter.unusedVariables false
set_option linter.unusedSimpArgs false

/-- One memory, made behind W. -/
def Uno (W w : World) (mb : Nat) (M : List UInt8) (K : Kp) : Prop := ∃ B O, W.heap.size ≤ B ∧ B ≤ w.heap.size ∧ MemP w B mb M O ∧ Below W.heap.size W w ∧ Keep w O K
section
variable {W w : World} {mb : Nat} {M : List UInt8} {K L : Kp}
theorem Uno.make {w1 w2 : World} {O : Nat → Prop} (hb1 : Below W.heap.size W w1) (hK : Keep w1 (fun _ => False) K) (hP : MemP w2 w1.heap.size mb M O) (hb2 : Below w1.heap.size w1 w2) : Uno W w2 mb M K :=
  ⟨w1.heap.size, O, hb1.size, hb2.size, hP, bel_trans hb1 hb2, (hK.turn (Turn.of_below hb2 _)).1, fun k hk => by
    have h1 := (hK.2 k hk).1
    have h2 := hb2.size
    refine ⟨by omega, fun hO => ?_⟩
    have := (hP.lt hO).2; omega⟩
theorem Uno.fact (h : Uno W w mb M K) : K.P w := by obtain ⟨_, _, _, _, _, _, h⟩ := h; exact h.1
theorem Uno.bel (h : Uno W w mb M K) : Below W.heap.size W w := by obtain ⟨_, _, _, _, _, h, _⟩ := h; exact h
theorem Uno.len (h : Uno W w mb M K) : M.length = 8192 := by obtain ⟨_, _, _, _, h, _⟩ := h; exact h.len
theorem Uno.keep (h : Uno W w mb M K) (hL : ∀ O, Keep w O K → Keep w O L) : Uno W w mb M L := by
  obtain ⟨B, O, h1, h2, h3, h4, h5⟩ := h
  exact ⟨B, O, h1, h2, h3, h4, hL _ h5⟩
theorem Uno.weak (h : Uno W w mb M (K.and L)) : Uno W w mb M K := h.keep fun _ h => h.left
theorem Uno.below {w' : World} (h : Uno W w mb M K) (hb : Below w.heap.size w w') : Uno W w' mb M K := by
  obtain ⟨B, O, h1, h2, h3, h4, h5⟩ := h
  exact ⟨B, O, h1, Nat.le_trans h2 hb.size, h3.below hb, h4.trans (hb.mono (Nat.le_trans h1 h2)), h5.turn (Turn.of_below hb _)⟩
theorem Uno.alloc (h : Uno W w mb M K) (o : Obj) : Uno W (w.alloc o) mb M K := h.below (bel_alloc (Below.refl _ _) o)
theorem Uno.drew (h : Uno W w mb M K) : Uno W w.drew mb M K := h.below (bel_drew (Below.refl _ _))
theorem Uno.newK {w' : World} (h : Uno W w mb M K) (hb : Below w.heap.size w w') (hL : L.P w') (hS : ∀ k, L.S k → w.heap.size ≤ k ∧ k < w'.heap.size) : Uno W w' mb M (K.and L) := by
  obtain ⟨B, O, h1, h2, h3, h4, h5⟩ := h
  exact ⟨B, O, h1, Nat.le_trans h2 hb.size, h3.below hb, h4.trans (hb.mono (Nat.le_trans h1 h2)), (h5.turn (Turn.of_below hb _)).and ⟨hL, fun k hk => ⟨(hS k hk).2, fun hO => by
    have hk1 := (hS k hk).1
    have := (h3.lt hO).1; omega⟩⟩⟩
theorem Uno.new (h : Uno W w mb M K) (c : Array Value) (t : TypeId) : Uno W (w.alloc (.cells c t)) mb M (K.and (.blk w.heap.size c t)) :=
  h.newK (bel_alloc (Below.refl _ _) _) (Blk.new _ _ _) (fun k hk => by cases hk; exact ⟨Nat.le_refl _, by simp⟩)
theorem Uno.newBs {w' : World} (h : Uno W w mb M K) (hb : Below w.heap.size w w') {v : Value} {l : List UInt8} (hv : Bs w' w.heap.size v l) : Uno W w' mb M (K.and (.bs v l)) :=
  h.newK hb hv.zero (fun k hk => by
    rcases hv.lt with e | ⟨x, e, hx1, hx2⟩
    · rw [show v.ownBlock = some k from hk] at e; cases e
    · rw [show v.ownBlock = some k from hk] at e; cases e; exact ⟨hx1, hx2⟩)
theorem Uno.newVs {w' : World} (h : Uno W w mb M K) (hb : Below w.heap.size w w') {k n : Nat} {v : Value} {cs : List Value} (hv : Vs w' w.heap.size k v n cs) : Uno W w' mb M (K.and (.vs k v n cs)) :=
  h.newK hb hv.zero (fun b hb2 => by
    rcases hv.own with e | ⟨x, e, hx1, hx2⟩
    · rw [show v.ownBlock = some b from hb2] at e; cases e
    · rw [show v.ownBlock = some b from hb2] at e; cases e; exact ⟨hx1, hx2⟩)
theorem Uno.set {b : Nat} {c : Array Value} {t : TypeId} (h : Uno W w mb M (K.and (.blk b c t))) (hb : W.heap.size ≤ b) (hK : ¬ K.S b) (o : Nat) (v : Value) : Uno W (w.setCell ⟨b, o, none⟩ v) mb M (K.and (.blk b (c.setIfInBounds o v) t)) := by
  obtain ⟨B, O, h1, h2, h3, h4, h5⟩ := h
  have hO : ¬ O b := (h5.2 b (.inr rfl)).2
  exact ⟨B, O, h1, by rw [World.size_setCell]; exact h2, h3.setOwn hO v, bel_set h4 hb v, (h5.left.set hK v).and (Keep.blk (h5.right.1.set o v) hO)⟩
theorem Uno.memXK {α : Type} (h : Uno W w mb M K) {f : Nat} {args : Array Value} {ret : α → Value} {M' : α → List UInt8} {G : α → Kp} (c : ∀ B O, MemP w B mb M O → B ≤ w.heap.size → Keep w O K → Calls Try.prog f args w fun e w' => MemX w w' B mb O ret M' G e) :
    Calls Try.prog f args w fun e w' => ∃ x, e = .returned (ret x) ∧ Uno W w' mb (M' x) (K.and (G x)) := by
  obtain ⟨B, O, h1, h2, h3, h4, h5⟩ := h
  exact (c B O h3 h2 h5).mono fun e w' ⟨x, O', he, h8, h9, h10⟩ => ⟨x, he, B, O', h1, Nat.le_trans h2 h9.size, h8, h4.trans ((h9.below (fun k hk => (h3.lt hk).2) h2).mono h1), (h5.turn h9).and h10⟩
theorem Uno.memX {α : Type} (h : Uno W w mb M K) {f : Nat} {args : Array Value} {ret : α → Value} {M' : α → List UInt8} {G : α → Kp} (c : ∀ B O, MemP w B mb M O → B ≤ w.heap.size → Calls Try.prog f args w fun e w' => MemX w w' B mb O ret M' G e) :
    Calls Try.prog f args w fun e w' => ∃ x, e = .returned (ret x) ∧ Uno W w' mb (M' x) (K.and (G x)) := h.memXK fun B O h1 h2 _ => c B O h1 h2
theorem Uno.memK (h : Uno W w mb M K) {f : Nat} {args : Array Value} {M' : List UInt8} {v : Value} (c : ∀ B O, MemP w B mb M O → B ≤ w.heap.size → Keep w O K → Calls Try.prog f args w fun e w' => MemQ w w' B mb M' O v e) :
    Calls Try.prog f args w fun e w' => e = .returned v ∧ Uno W w' mb M' K := by
  obtain ⟨B, O, h1, h2, h3, h4, h5⟩ := h
  exact (c B O h3 h2 h5).mono fun e w' ⟨he, O', h8, h9⟩ => ⟨he, B, O', h1, Nat.le_trans h2 h9.size, h8, h4.trans ((h9.below (fun k hk => (h3.lt hk).2) h2).mono h1), h5.turn h9⟩
theorem Uno.mem (h : Uno W w mb M K) {f : Nat} {args : Array Value} {M' : List UInt8} {v : Value} (c : ∀ B O, MemP w B mb M O → B ≤ w.heap.size → Calls Try.prog f args w fun e w' => MemQ w w' B mb M' O v e) :
    Calls Try.prog f args w fun e w' => e = .returned v ∧ Uno W w' mb M' K := h.memK fun B O h1 h2 _ => c B O h1 h2
theorem Uno.load (h : Uno W w mb M K) {f : Nat} {args : Array Value} {l : List UInt8} (c : ∀ B O, MemP w B mb M O → B ≤ w.heap.size → Calls Try.prog f args w fun e w' => LoadQ w w' B mb M O l e) :
    Calls Try.prog f args w fun e w' => ∃ v, e = .returned v ∧ Uno W w' mb M (K.and (.bs v l)) := by
  obtain ⟨B, O, h1, h2, h3, h4, h5⟩ := h
  exact (c B O h3 h2).mono fun e w' ⟨v, O', he, hv, h8, h9, h10⟩ => ⟨v, he, B, O', h1, Nat.le_trans h2 h9.size, h8, h4.trans ((h9.below (fun k hk => (h3.lt hk).2) h2).mono h1), (h5.turn h9).and (Keep.bs hv h10)⟩
theorem Uno.still (h : Uno W w mb M K) {f : Nat} {args : Array Value} {Q : Ending → World → Prop} (c : Calls Try.prog f args w fun e w' => Q e w' ∧ Below w.heap.size w w') :
    Calls Try.prog f args w fun e w' => Q e w' ∧ Uno W w' mb M K := c.mono fun e w' ⟨hq, hb⟩ => ⟨hq, h.below hb⟩
theorem Uno.old (h : Uno W w mb M K) (hL : L.P W) (hS : ∀ k, L.S k → k < W.heap.size) : Uno W w mb M (K.and L) := by
  obtain ⟨B, O, h1, h2, h3, h4, h5⟩ := h
  exact ⟨B, O, h1, h2, h3, h4, h5.and ⟨L.stable W w (fun k hk hl => h4.block k hl) h4.size hL, fun k hk => ⟨Nat.lt_of_lt_of_le (hS k hk) h4.size, fun hO => by
    have := hS k hk
    have := (h3.lt hO).2; omega⟩⟩⟩
theorem Uno.oldRv (h : Uno W w mb M K) {k n : Nat} {v : Value} {cs : List Value} (hR : Rv W k v n cs) : Uno W w mb M (K.and (.rv k v n cs)) := h.old hR (fun b hb => ((Keep.rv hR).2 b hb).1)
end
end Go.Proofs.Ytcfblcgdjhpdaaa

/- 'Here', 'Align', 'byteOf'. -/
namespace Go.Proofs.Ytcfblcgdjhpdaaa
open Go.RowKit
set_option linter.unusedVariables false
set_option linter.unusedSimpArgs false
attribute [local go_sem] cell_set set_set m_undef

theorem and7 (n : Int) (hn : isI n) : bits .and .i64 n 7 = n % 8 := by
  unfold isI at hn
  show IntKind.i64.wrap ((BitVec.ofInt 64 n &&& BitVec.ofInt 64 7).toNat : Int) = _
  rw [BitVec.toNat_and, BitVec.toNat_ofInt, BitVec.toNat_ofInt]
  have e : ((7 : Int) % ((2 ^ 64 : Nat) : Int)).toNat = 2 ^ 3 - 1 := by decide
  rw [e, Nat.and_two_pow_sub_one_eq_mod, IntKind.wrap_i64]
  omega
theorem andm8 (n : Int) (hn : isI n) : bits .and .i64 n (-8) = n - n % 8 := by
  unfold isI at hn
  show IntKind.i64.wrap ((BitVec.ofInt 64 n &&& BitVec.ofInt 64 (-8)).toNat : Int) = _
  rw [BitVec.toNat_and, BitVec.toNat_ofInt, BitVec.toNat_ofInt]
  have e : ((-8 : Int) % ((2 ^ 64 : Nat) : Int)).toNat = 18446744073709551608 := by decide
  rw [e, nat_hi64_3, IntKind.wrap_i64]
  omega
/-- The next multiple of eight. -/
def alignZ (n : Int) : Int := if n % 8 = 0 then n else IntKind.i64.wrap (n + (8 - n % 8))
theorem wAlign (w : World) (n : Int) (hn : isI n) : Calls Try.prog 41 #[.int .i64 n] w fun e w' => e = .returned (.int .i64 (alignZ n)) ∧ w = w' := by
  have h7 := and7 n hn
  unfold alignZ
  obtain ⟨r, hr⟩ : ∃ r, r = n % 8 := ⟨_, rfl⟩
  rw [← hr] at h7 ⊢
  by_cases h0 : r = 0
  · have t1 : ((0 : Int) < r) = False := by simp; omega
    rw [if_pos h0]
    clear h0 hr
    go_enter Try.func41, Try.ntmps41
    go_wp2
    go_ret
    exact ⟨rfl, rfl⟩
  · have t1 : ((0 : Int) < r) = True := by simp; omega
    rw [if_neg h0]
    have w1 : IntKind.i64.wrap (8 - r) = 8 - r := by rw [IntKind.wrap_i64]; omega
    obtain ⟨z, hz⟩ : ∃ z, IntKind.i64.wrap (n + (8 - r)) = z := ⟨_, rfl⟩
    rw [hz]
    clear h0 hr
    go_enter Try.func41, Try.ntmps41
    go_wp2
    go_ret
    exact ⟨rfl, rfl⟩
theorem rAlign (w : World) (n : Int) (hn : isI n) : Calls Try.prog 45 #[.int .i64 n] w fun e w' => e = .returned (.int .i64 (alignZ n)) ∧ w = w' := by
  have hw := IntKind.wrap_i64 (n + 7)
  obtain ⟨m, hm⟩ : ∃ m, IntKind.i64.wrap (n + 7) = m := ⟨_, rfl⟩
  have hmi : isI m := by unfold isI; rw [← hm, hw]; omega
  have h8 := andm8 m hmi
  have e : alignZ n = m - m % 8 := by
    unfold alignZ
    unfold isI at hn
    have h2 := IntKind.wrap_i64 (n + (8 - n % 8))
    split <;> omega
  rw [e]
  obtain ⟨z, hz⟩ : ∃ z, m - m % 8 = z := ⟨_, rfl⟩
  rw [hz] at h8 ⊢
  clear hw hmi e hz
  go_enter Try.func45, Try.ntmps45
  go_wp2
  go_ret
  exact ⟨rfl, rfl⟩
/-- Where the dictionary goes on. -/
def hereL (M : List UInt8) : Int := if 1536 ≤ getM M 0 ∧ getM M 0 ≤ 5632 then getM M 0 else 1536
theorem mHere {w : World} {base mb : Nat} {M : List UInt8} {O : Nat → Prop} (h : MemP w base mb M O) (hbase : base ≤ w.heap.size) :
    Calls Try.prog 42 #[.pointer (some ⟨mb, 0, none⟩)] w fun e w' => MemQ w w' base mb M O (.int .i64 (hereL M)) e := by
  have hG := Lib.hid (mGet h hbase 0 (by unfold isI; omega))
  unfold hereL
  generalize getM M 0 = n at *
  go_enter Try.func42, Try.ntmps42
  by_cases h1 : 1536 ≤ n
  · have t1 : ((1536 : Int) ≤ n) = True := by simp; exact h1
    by_cases h2 : n ≤ 5632
    · have t2 : (n ≤ 5632) = True := by simp; exact h2
      rw [if_pos ⟨h1, h2⟩]
      clear h1 h2
      go_wp2_with (go_at_call 54; refine hG.out.mono ?_; rintro e w1 ⟨rfl, O1, hM1, hT1⟩; replace hM1 := Lib.hid hM1; replace hT1 := Lib.hid hT1)
      go_ret
      exact ⟨rfl, O1, hM1.out, hT1.out⟩
    · have t2 : (n ≤ 5632) = False := by simp; omega
      rw [if_neg (fun h => h2 h.2)]
      clear h1 h2
      go_wp2_with (go_at_call 54; refine hG.out.mono ?_; rintro e w1 ⟨rfl, O1, hM1, hT1⟩; replace hM1 := Lib.hid hM1; replace hT1 := Lib.hid hT1)
      go_ret
      exact ⟨rfl, O1, hM1.out, hT1.out⟩
  · have t1 : ((1536 : Int) ≤ n) = False := by simp; omega
    rw [if_neg (fun h => h1 h.1)]
    clear h1
    go_wp2_with (go_at_call 54; refine hG.out.mono ?_; rintro e w1 ⟨rfl, O1, hM1, hT1⟩; replace hM1 := Lib.hid hM1; replace hT1 := Lib.hid hT1)
    go_ret
    exact ⟨rfl, O1, hM1.out, hT1.out⟩
/-- The byte of a length and marks. -/
def markN (n : Nat) (now hides : Bool) : Nat := n + (if now then 128 else 0) + (if hides then 64 else 0)
theorem wByteOf (w : World) (n : Nat) (now hides : Bool) (hn : n < 32) : Calls Try.prog 62 #[.int .i64 (n : Int), .bool now, .bool hides] w fun e w' => e = .returned (.int .u8 (markN n now hides : Int)) ∧ w = w' := by
  have w1 : IntKind.u8.wrap (n : Int) = (n : Int) := by rw [IntKind.wrap_u8]; omega
  have o1 : bits .or .u8 (n : Int) 128 = ((n + 128 : Nat) : Int) := by
    rw [u8_or128_right _ (by omega) (by omega)]; omega
  have h64 : ∀ m : Nat, m < 64 → bits .or .u8 (m : Int) 64 = ((m + 64 : Nat) : Int) := fun m hm => by
    have h := u8_or_nat m 64 (by omega) (by omega)
    have e := Nat.two_pow_add_eq_or_of_lt (i := 6) (b := m) hm 1
    simp at e
    rw [Nat.or_comm] at e
    rw [← e, Nat.add_comm] at h
    exact h
  have o2 := h64 n (by omega)
  have o3 : bits .or .u8 ((n + 128 : Nat) : Int) 64 = ((n + 128 + 64 : Nat) : Int) := by
    have h := u8_or_nat (n + 128) 64 (by omega) (by omega)
    have e1 := Nat.two_pow_add_eq_or_of_lt (i := 7) (b := n) (by omega) 1
    have e2 := Nat.two_pow_add_eq_or_of_lt (i := 7) (b := n + 64) (by omega) 1
    have e3 := Nat.two_pow_add_eq_or_of_lt (i := 6) (b := n) (by omega) 1
    simp at e1 e2 e3
    have e4 : (n + 128) ||| 64 = n + 128 + 64 := by
      rw [Nat.add_comm n 128, e1, Nat.or_assoc, Nat.or_comm n 64, ← e3, Nat.add_comm 64 n, ← e2]; omega
    rw [e4] at h
    exact h
  obtain ⟨a1, ha1⟩ : ∃ a1 : Int, a1 = ((n + 128 : Nat) : Int) := ⟨_, rfl⟩
  obtain ⟨a2, ha2⟩ : ∃ a2 : Int, a2 = ((n + 64 : Nat) : Int) := ⟨_, rfl⟩
  obtain ⟨a3, ha3⟩ : ∃ a3 : Int, a3 = ((n + 128 + 64 : Nat) : Int) := ⟨_, rfl⟩
  rw [← ha1] at o1 o3
  rw [← ha2] at o2
  rw [← ha3] at o3
  obtain ⟨a0, ha0⟩ : ∃ a0 : Int, a0 = (n : Int) := ⟨_, rfl⟩
  rw [← ha0] at w1 o1 o2 ⊢
  have ha := Lib.hid (And.intro ha0 (And.intro ha1 (And.intro ha2 ha3)))
  clear ha0 ha1 ha2 ha3 h64
  go_enter Try.func62, Try.ntmps62
  cases now <;> cases hides
  all_goals
    go_wp2
    go_ret
    have ha' := ha.out
    refine ⟨?_, rfl⟩
    unfold markN
    simp
    omega
end Go.Proofs.Ytcfblcgdjhpdaaa
