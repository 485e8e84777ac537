/- 'StackActs'. -/
import Derived.Test.YtjeelccdbhhfjaaT12
namespace Go.Proofs.Ytjeelccdbhhfjaa
open Go.RowKit
set_option linter.unusedVariables false
set_option linter.unusedSimpArgs false
attribute [local go_sem] cell_set set_set m_undef

/-- An act, as it came in. -/
structure ActR where
  d : Int
  n : Int
  ad : Option Addr
  cap : Nat
  l : List Int
/-- The acts, as they came in. -/
def Acts (w : World) (v : Value) (A : List ActR) : Prop :=
  (v = .slice none 0 0 ∧ A = []) ∨ ∃ a cap, v = .slice (some a) A.length cap ∧ ∀ i x, A[i]? = some x → w.cell? (a.add (i * 3 + 0)) = some (.int .i64 x.d) ∧ w.cell? (a.add (i * 3 + 1)) = some (.int .i64 x.n) ∧ w.cell? (a.add (i * 3 + 2)) = some (.slice x.ad x.l.length x.cap) ∧ isI x.n ∧ Rv w 1 (.slice x.ad x.l.length x.cap) x.l.length (ic x.l)
theorem Acts.form {w : World} {v : Value} {A : List ActR} (h : Acts w v A) : ∃ a cap, v = .slice a A.length cap := by
  rcases h with ⟨rfl, rfl⟩ | ⟨a, cap, rfl, _⟩
  · exact ⟨none, 0, rfl⟩
  · exact ⟨_, cap, rfl⟩
theorem Acts.at {w : World} {ad : Option Addr} {n cap : Nat} {A : List ActR} (h : Acts w (.slice ad n cap) A) (i : Nat) (x : ActR) (hx : A[i]? = some x) : ∃ a, ad = some a ∧ w.cell? (a.add (i * 3 + 0)) = some (.int .i64 x.d) ∧ w.cell? (a.add (i * 3 + 1)) = some (.int .i64 x.n) ∧ w.cell? (a.add (i * 3 + 2)) = some (.slice x.ad x.l.length x.cap) ∧ isI x.n ∧ Rv w 1 (.slice x.ad x.l.length x.cap) x.l.length (ic x.l) := by
  rcases h with ⟨_, rfl⟩ | ⟨a, cap', e, h⟩
  · simp at hx
  · cases e; exact ⟨a, rfl, h i x hx⟩
theorem add_next (a : Addr) (m j : Nat) : a.add (m + (j + 1)) = ⟨(a.add m).block, (a.add m).off + (j + 1), none⟩ := by
  have h1 : a.add (m + (j + 1)) = ⟨a.block, a.off + (m + (j + 1)), none⟩ := by simp only [Addr.add]; rw [if_neg (by omega)]
  have h2 : (a.add m).block = a.block := add_block a m
  have h3 : (a.add m).off = a.off + m := by
    simp only [Addr.add]
    split
    · omega
    · rfl
  rw [h1, h2, h3]
  congr 1
  omega
theorem cellsL_small (M : List UInt8) : (cellsL M).length ≤ 1000000 := by
  have hd := (depL_bd (M := M) (show Sk 32 256 512 from by unfold Sk; omega))
  unfold cellsL
  rw [cellsN_len]
  unfold depN
  omega
attribute [local irreducible] pushM popM setM layL cellsL depL depN
set_option maxRecDepth 100000 in
set_option maxHeartbeats 4000000 in
theorem stackActs {w : World} (v : Value) (l : List UInt8) (h : Rb w v l) (v2 : Value) (A : List ActR) (hA2 : Acts w v2 A) (hlen : A.length ≤ 9223372036854775807) :
    Calls Try.prog 6 #[v, v2] w fun e w' => e = .returned (.bool true) ∧ Below w.heap.size w w' := by
  have hA := Lib.hid wAwake
  obtain ⟨ad, cap, rfl⟩ := h.form
  obtain ⟨ad2, cap2, rfl⟩ := hA2.form
  replace h := Lib.hid h
  replace hA2 := Lib.hid hA2
  obtain ⟨M, hMd⟩ : ∃ M, M = flatL l := ⟨_, rfl⟩
  have hF1 := Lib.hid (fun (w9 : World) (h9 : Rb w9 (.slice ad l.length cap) l) => wFlatR w9 _ l h9)
  have hF2 := Lib.hid (fun (w9 : World) (h9 : Rb w9 (.slice ad l.length cap) l) => rFlat w9 _ l h9)
  unfold FlatQ at hF1
  rw [← hMd] at hF1 hF2
  clear hMd
  replace hlen := Lib.hid hlen
  go_enter Try.func6, Try.ntmps6
  go_upto_region 4 with (go_at_call 7; refine (hA.out _).mono ?_; rintro e w1 ⟨rfl, hb1⟩; replace hb1 := Lib.hid hb1)
  go_wp2
  go_loopw [5, 16] (fun s i wr => ∃ (k : Nat) (z : Int), i = .int .i64 (k : Int) ∧ k ≤ A.length ∧ s = .int .i64 z ∧ isI z ∧ Below w.heap.size w wr) (fun _ i _ => (A.length - (intOf i).toNat))
  case atStart => exact ⟨0, 0, rfl, by omega, rfl, by unfold isI; omega, hb1.out⟩
  case round =>
    obtain ⟨k, z, rfl, hk, rfl, hz, hb⟩ := hrel
    by_cases hlt : k < A.length
    · have t2 : ((k : Int) < (A.length : Int)) = True := by simp; omega
      have i1 : (0 : Int) ≤ (k : Int) := by omega
      have i2 : (k : Int) < (A.length : Int) := by omega
      have wk : IntKind.i64.wrap ((k : Int) + 1) = ((k + 1 : Nat) : Int) := by have := hlen.out; rw [IntKind.wrap_i64]; omega
      obtain ⟨x, hx⟩ : ∃ x, A[k]? = some x := ⟨A[k], List.getElem?_eq_getElem hlt⟩
      obtain ⟨a, hea, hcs⟩ := hA2.out.at k x hx
      subst hea
      obtain ⟨z0, z1, z2, hxn, hxr⟩ := hcs
      have z0 := (hb.cell (World.block_lt_of_cell? w _ z0)).trans z0
      have z1 := (hb.cell (World.block_lt_of_cell? w _ z1)).trans z1
      have z2 := (hb.cell (World.block_lt_of_cell? w _ z2)).trans z2
      rw [add_next a (k * 3) 0] at z1
      rw [add_next a (k * 3) 1] at z2
      rw [Nat.add_zero] at z0
      obtain ⟨s1, hs1⟩ : ∃ s1, s1 = IntKind.i64.wrap (1 + (x.l.length : Int)) := ⟨_, rfl⟩
      obtain ⟨s2, hs2⟩ : ∃ s2, s2 = IntKind.i64.wrap (z + s1) := ⟨_, rfl⟩
      have w1 : IntKind.i64.wrap (1 + (x.l.length : Int)) = s1 := hs1.symm
      have w2 : IntKind.i64.wrap (z + s1) = s2 := hs2.symm
      have hs2i := Lib.hid (show isI s2 by rw [hs2]; unfold isI; have := IntKind.wrap_i64 (z + s1); omega)
      clear hs1 hs2 hxr hxn hx hz
      replace hlt := Lib.hid hlt
      replace hb := Lib.hid hb
      clear hk
      generalize x.d = xd at *
      generalize x.n = xn at *
      generalize x.ad = xad at *
      generalize x.cap = xcap at *
      generalize x.l.length = xl at *
      go_wp2
      go_roundw
      case rel => exact ⟨k + 1, s2, rfl, hlt.out, rfl, hs2i.out, bel_alloc hb.out _⟩
      case measure => have := hlt.out; simp [intOf]; omega
    · have t2 : ((k : Int) < (A.length : Int)) = False := by simp; omega
      clear hlt hk
      by_cases c9 : 9000 < l.length
      · have t3 : ((9000 : Int) < (l.length : Int)) = True := by simp; omega
        clear c9
        go_wp2
        go_ret
        exact ⟨rfl, hb⟩
      have t3 : ((9000 : Int) < (l.length : Int)) = False := by simp; omega
      clear c9
      by_cases c5 : 500 < z
      · have t4 : (500 < z) = True := by simp; exact c5
        clear c5
        go_wp2
        go_ret
        exact ⟨rfl, hb⟩
      have t4 : (500 < z) = False := by simp; omega
      clear c5 hz
      have h1 := Lib.hid (h.out.below hb)
      replace hb := Lib.hid hb
      go_upto_region 14 with (first
        | (go_at_call 8; refine (hF1.out _ h1.out).mono ?_; rintro e w2 ⟨mb, O2, rfl, hP2, hb2⟩; have h2 := Lib.hid (h1.out.below hb2); replace hP2 := Lib.hid hP2; replace hb2 := Lib.hid hb2)
        | (go_at_call 13; refine (hF2.out _ h2.out).mono ?_; rintro e w3 ⟨rb, R, rfl, hR3, hb3⟩; have hT := Two.make hb.out (Keep.emp _ _) hP2.out hb2.out hR3 hb3; clear hR3 hb3))
      clear h1 h2 hb hb2 hP2 hF1 hF2 hA h hb1
      go_wp2
      go_loopw [42] (fun i wr => ∃ (k : Nat) (M' : List UInt8), i = .int .i64 (k : Int) ∧ k ≤ A.length ∧ Two w wr mb rb M' M' .emp) (fun i _ => (A.length - (intOf i).toNat))
      case atStart => exact ⟨0, M, rfl, by omega, hT⟩
      case round =>
        obtain ⟨k, M', rfl, hk, hT⟩ := hrel
        by_cases hlt : k < A.length
        · have t5 : ((k : Int) < (A.length : Int)) = True := by simp; omega
          have i1 : (0 : Int) ≤ (k : Int) := by omega
          have i2 : (k : Int) < (A.length : Int) := by omega
          have wk : IntKind.i64.wrap ((k : Int) + 1) = ((k + 1 : Nat) : Int) := by have := hlen.out; rw [IntKind.wrap_i64]; omega
          obtain ⟨x, hx⟩ : ∃ x, A[k]? = some x := ⟨A[k], List.getElem?_eq_getElem hlt⟩
          obtain ⟨a, hea, hcs⟩ := hA2.out.at k x hx
          subst hea
          obtain ⟨z0, z1, z2, hxn, hxr⟩ := hcs
          have z0 := (hT.bel.cell (World.block_lt_of_cell? w _ z0)).trans z0
          have z1 := (hT.bel.cell (World.block_lt_of_cell? w _ z1)).trans z1
          have z2 := (hT.bel.cell (World.block_lt_of_cell? w _ z2)).trans z2
          rw [add_next a (k * 3) 0] at z1
          rw [add_next a (k * 3) 1] at z2
          rw [Nat.add_zero] at z0
          replace hxn := Lib.hid hxn
          replace hxr := Lib.hid hxr
          replace hlt := Lib.hid hlt
          clear hk hx
          generalize x.d = xd at *
          generalize x.n = xn at *
          generalize x.ad = xad at *
          generalize x.cap = xcap at *
          generalize x.l = xl at *
          go_upto_region 17 with fail
          have hT2 := hT.new #[.int .i64 xd, .int .i64 xn, .slice xad xl.length xcap] 50
          obtain ⟨w5, hw5⟩ : ∃ w5, w5 = wr.alloc (.cells #[.int .i64 xd, .int .i64 xn, .slice xad xl.length xcap] 50) := ⟨_, rfl⟩
          obtain ⟨b5, hb5⟩ : ∃ b5, b5 = wr.heap.size := ⟨_, rfl⟩
          rw [← hw5, ← hb5] at hT2 ⊢
          clear hT hw5 hb5 z0 z1 z2
          have hT := hT2
          clear hT2
          obtain ⟨y0, y1, y2⟩ := hT.fact.2.c3'
          go_wp2_with (first
            | (go_at_call 25; refine (wAct hT xd xn hxn.out xad xcap xl hxr.out).mono ?_; rintro e w6 ⟨rfl, M2, hT2⟩; clear hT; have hT := hT2; clear hT2)
            | (go_at_call 22; refine (hT.mem (fun B O h hb => kDepth h hb)).mono ?_; rintro e w2 ⟨rfl, hT2⟩; clear hT; have hT := hT2; clear hT2)
            | (go_at_call 26; refine (hT.refB (fun B R h => rDepth h)).mono ?_; rintro e w2 ⟨rfl, hT2⟩; clear hT; have hT := hT2; clear hT2)
            | (go_at_call 23; refine (hT.mem (fun B O h hb => kDeep h hb)).mono ?_; rintro e w2 ⟨rfl, hT2⟩; clear hT; have hT := hT2; clear hT2)
            | (go_at_call 27; refine (hT.refB (fun B R h => rDeep h)).mono ?_; rintro e w2 ⟨rfl, hT2⟩; clear hT; have hT := hT2; clear hT2))
          go_roundw
          case rel => exact ⟨k + 1, M2, rfl, hlt.out, hT.weak⟩
          case measure => have := hlt.out; simp [intOf]; omega
        · have t5 : ((k : Int) < (A.length : Int)) = False := by simp; omega
          clear hlt hk
          have hcl := Lib.hid (cellsL_small M')
          go_upto_region 20 with fail
          replace hT := hT.drew
          refine wp_region_noPanic ?_
          refine wp_region_held_drew (S := (fun _ => True)) (by kernel_rfl) ?_ (fun hHeld => ?_)
          · (try dsimp only); (try trivial)
          refine wpAnyH_take (i := 0) (oi := { dst := some 66, op := Go.Op.move (Go.Operand.tmp 8), type := 24, pos := "law.go:104", after := #[], guard := none }) (v := ?v1) rfl (by kernel_rfl) (by kernel_rfl) (by kernel_rfl) (fun _ _ _ h => h) (Or.inl ⟨by rfl, ?hy1⟩) (by assumption) ?rest1
          case hy1 => (intro w hSw; (try dsimp only at hSw); go_simp <;> with_reducible rfl)
          try simp only [Act.put, List.setIfInBounds_toArray, List.set_cons_zero, List.set_cons_succ]
          refine wpAnyH_take (i := 2) (oi := { dst := some 68, op := Go.Op.move (Go.Operand.tmp 9), type := 31, pos := "law.go:104", after := #[], guard := none }) (v := ?v2) rfl (by kernel_rfl) (by kernel_rfl) (by kernel_rfl) (fun _ _ _ h => h) (Or.inl ⟨by rfl, ?hy2⟩) (by assumption) ?rest2
          case hy2 => (intro w hSw; (try dsimp only at hSw); go_simp <;> with_reducible rfl)
          try simp only [Act.put, List.setIfInBounds_toArray, List.set_cons_zero, List.set_cons_succ]
          refine wpAnyH_ready (rs := [1]) (by kernel_rfl) (by simp) ?_
          refine AllReadyH.cons (o := { dst := some 67, op := Go.Op.call { callee := Go.Callee.value (Go.Operand.func 24), args := #[Go.Operand.tmp 66], argTypes := #[24] }, type := 22, pos := "law.go:104", after := #[{ on := 0, ground := Go.Ground.data }], guard := none }) rfl (fun K hK => ?_) AllReadyH.nil
          go_simp
          go_at_call 24; refine (hT.memX (fun B O h hb => kCells h hb) (fun x w' h k hk => vsN_new h k hk)).mono ?_; rintro e w2 ⟨v1, rfl, hT2⟩; obtain ⟨a1, c1, rfl, hle1⟩ := hT2.fact.2.1.form; clear hle1; clear hT; have hT := hT2; clear hT2
          refine hK.out _ _ ?_ (fun hHeld2 => ?_)
          · (try dsimp only); (try trivial)
          clear hK K hHeld
          have hHeld := hHeld2
          clear hHeld2
          try simp only [Act.put, List.setIfInBounds_toArray, List.set_cons_zero, List.set_cons_succ]
          refine wpAnyH_ready (rs := [3]) (by kernel_rfl) (by simp) ?_
          refine AllReadyH.cons (o := { dst := some 69, op := Go.Op.call { callee := Go.Callee.value (Go.Operand.func 29), args := #[Go.Operand.tmp 68], argTypes := #[31] }, type := 22, pos := "law.go:104", after := #[{ on := 2, ground := Go.Ground.data }, { on := 1, ground := Go.Ground.chain }], guard := none }) rfl (fun K hK => ?_) AllReadyH.nil
          go_simp
          go_at_call 29; refine (hT.refX (fun B O h hb => rCells h) (fun x w' h k hk => vsN_new h k hk)).mono ?_; rintro e w2 ⟨v2, rfl, hT2⟩; obtain ⟨a2, c2, rfl, hle2⟩ := hT2.fact.2.1.form; clear hle2; clear hT; have hT := hT2; clear hT2
          refine hK.out _ _ ?_ (fun hHeld2 => ?_)
          · (try dsimp only); (try trivial)
          clear hK K hHeld
          have hHeld := hHeld2
          clear hHeld2
          try simp only [Act.put, List.setIfInBounds_toArray, List.set_cons_zero, List.set_cons_succ]
          refine wpAnyH_ready (rs := [4]) (by kernel_rfl) (by simp) ?_
          refine AllReadyH.cons (o := { dst := some 70, op := Go.Op.call { callee := Go.Callee.value (Go.Operand.func 28), args := #[Go.Operand.tmp 67, Go.Operand.tmp 69], argTypes := #[22, 22] }, type := 4, pos := "law.go:104", after := #[{ on := 1, ground := Go.Ground.data }, { on := 3, ground := Go.Ground.data }, { on := 3, ground := Go.Ground.chain }], guard := none }) rfl (fun K hK => ?_) AllReadyH.nil
          go_simp
          go_at_call 28; refine (hT.still (alike_yes (l := cellsL M') (by first | exact (hT.fact.1.2.1).rv | exact (hT.fact.2.1).rv) (by first | exact (hT.fact.2.1).rv | exact (hT.fact.1.2.1).rv) hcl.out)).mono ?_; rintro e w2 ⟨rfl, hT2⟩; obtain ⟨s, hS⟩ := hT2.val; obtain ⟨vb, ob, cp, rfl⟩ := hS.form; clear hT hT2; have hT := hS; clear hS
          refine hK.out _ _ ?_ (fun hHeld2 => ?_)
          · (try dsimp only); (try trivial)
          clear hK K hHeld
          have hHeld := hHeld2
          clear hHeld2
          try simp only [Act.put, List.setIfInBounds_toArray, List.set_cons_zero, List.set_cons_succ]
          refine wpAnyH_take (i := 5) (oi := { dst := some 71, op := Go.Op.move (Go.Operand.tmp 70), type := 4, pos := "law.go:104", after := #[{ on := 4, ground := Go.Ground.data }, { on := 4, ground := Go.Ground.chain }], guard := none }) (v := ?v3) rfl (by kernel_rfl) (by kernel_rfl) (by kernel_rfl) (fun _ _ _ h => h) (Or.inl ⟨by rfl, ?hy3⟩) (by assumption) ?rest3
          case hy3 => (intro w hSw; (try dsimp only at hSw); go_simp <;> with_reducible rfl)
          try simp only [Act.put, List.setIfInBounds_toArray, List.set_cons_zero, List.set_cons_succ]
          refine wpAnyH_take (i := 6) (oi := { dst := some 72, op := Go.Op.move (Go.Operand.tmp 8), type := 24, pos := "law.go:104", after := #[{ on := 5, ground := Go.Ground.guard }], guard := some (5, true) }) (v := ?v4) rfl (by kernel_rfl) (by kernel_rfl) (by kernel_rfl) (fun _ _ _ h => h) (Or.inl ⟨by rfl, ?hy4⟩) (by assumption) ?rest4
          case hy4 => (intro w hSw; (try dsimp only at hSw); go_simp <;> with_reducible rfl)
          try simp only [Act.put, List.setIfInBounds_toArray, List.set_cons_zero, List.set_cons_succ]
          refine wpAnyH_take (i := 9) (oi := { dst := some 75, op := Go.Op.move (Go.Operand.tmp 9), type := 31, pos := "law.go:104", after := #[{ on := 5, ground := Go.Ground.guard }], guard := some (5, true) }) (v := ?v5) rfl (by kernel_rfl) (by kernel_rfl) (by kernel_rfl) (fun _ _ _ h => h) (Or.inl ⟨by rfl, ?hy5⟩) (by assumption) ?rest5
          case hy5 => (intro w hSw; (try dsimp only at hSw); go_simp <;> with_reducible rfl)
          try simp only [Act.put, List.setIfInBounds_toArray, List.set_cons_zero, List.set_cons_succ]
          refine wpAnyH_take (i := 10) (oi := { dst := some 76, op := Go.Op.nilCheck (Go.Operand.tmp 75), type := 0, pos := "law.go:104", after := #[{ on := 9, ground := Go.Ground.data }, { on := 5, ground := Go.Ground.guard }], guard := some (5, true) }) (v := ?v6) rfl (by kernel_rfl) (by kernel_rfl) (by kernel_rfl) (fun _ _ _ h => h) (Or.inl ⟨by rfl, ?hy6⟩) (by assumption) ?rest6
          case hy6 => (intro w hSw; (try dsimp only at hSw); go_simp <;> with_reducible rfl)
          try simp only [Act.put, List.setIfInBounds_toArray, List.set_cons_zero, List.set_cons_succ]
          refine wpAnyH_take (i := 11) (oi := { dst := some 77, op := Go.Op.fieldAddr 39 (Go.Operand.tmp 76) 0, type := 0, pos := "law.go:104", after := #[{ on := 10, ground := Go.Ground.data }, { on := 5, ground := Go.Ground.guard }], guard := some (5, true) }) (v := ?v7) rfl (by kernel_rfl) (by kernel_rfl) (by kernel_rfl) (fun _ _ _ h => h) (Or.inl ⟨by rfl, ?hy7⟩) (by assumption) ?rest7
          case hy7 => (intro w hSw; (try dsimp only at hSw); go_simp <;> with_reducible rfl)
          try simp only [Act.put, List.setIfInBounds_toArray, List.set_cons_zero, List.set_cons_succ]
          refine wpAnyH_ready (rs := [7, 12]) (by kernel_rfl) (by simp) ?_
          refine AllReadyH.cons (o := { dst := some 73, op := Go.Op.call { callee := Go.Callee.value (Go.Operand.func 18), args := #[Go.Operand.tmp 72], argTypes := #[24] }, type := 30, pos := "law.go:104", after := #[{ on := 6, ground := Go.Ground.data }, { on := 5, ground := Go.Ground.chain }, { on := 5, ground := Go.Ground.guard }], guard := some (5, true) }) rfl (fun K hK => ?_) ?_
          ·
            go_simp
            go_at_call 18; refine (hT.load (fun B O hP hB => mBytes hP hB)).mono ?_; rintro e w5 ⟨v5, rfl, hT2⟩; obtain ⟨a5, c5, rfl, hle5⟩ := hT2.fact.2.len; clear hle5; clear hT; have hT := hT2; clear hT2
            refine hK.out _ _ ?_ (fun hHeld2 => ?_)
            · (try dsimp only); (try trivial)
            clear hK K hHeld
            have hHeld := hHeld2
            clear hHeld2
            try simp only [Act.put, List.setIfInBounds_toArray, List.set_cons_zero, List.set_cons_succ]
            refine wpAnyH_ready (rs := [8, 12]) (by kernel_rfl) (by simp) ?_
            refine AllReadyH.cons (o := { dst := some 74, op := Go.Op.convert 30 9 (Go.Operand.tmp 73), type := 9, pos := "law.go:104", after := #[{ on := 7, ground := Go.Ground.data }, { on := 5, ground := Go.Ground.guard }], guard := some (5, true) }) rfl (fun K hK => ?_) ?_
            ·
              have estr := Bs.str (P := Try.prog) hT.fact.2 (src := 30) (dst := 9) Try.underlying30 Try.underlying5 Try.underlying9
              go_simp
              refine hK.out _ _ ?_ (fun hHeld2 => ?_)
              · (try dsimp only); (try trivial)
              clear hK K hHeld
              have hHeld := hHeld2
              clear hHeld2
              try simp only [Act.put, List.setIfInBounds_toArray, List.set_cons_zero, List.set_cons_succ]
              refine wpAnyH_ready (rs := [12]) (by kernel_rfl) (by simp) ?_
              refine AllReadyH.cons (o := { dst := some 78, op := Go.Op.load 30 (Go.Operand.tmp 77), type := 30, pos := "law.go:104", after := #[{ on := 11, ground := Go.Ground.data }, { on := 5, ground := Go.Ground.guard }], guard := some (5, true) }) rfl (fun K hK => ?_) AllReadyH.nil
              have rc := hT.cell
              go_simp
              refine hK.out _ _ ?_ (fun hHeld2 => ?_)
              · (try dsimp only); (try trivial)
              clear hK K hHeld
              have hHeld := hHeld2
              clear hHeld2
              try simp only [Act.put, List.setIfInBounds_toArray, List.set_cons_zero, List.set_cons_succ]
              refine wpAnyH_ready (rs := [13]) (by kernel_rfl) (by simp) ?_
              refine AllReadyH.cons (o := { dst := some 79, op := Go.Op.convert 30 9 (Go.Operand.tmp 78), type := 9, pos := "law.go:104", after := #[{ on := 12, ground := Go.Ground.data }, { on := 5, ground := Go.Ground.guard }], guard := some (5, true) }) rfl (fun K hK => ?_) AllReadyH.nil
              have rstr := Bs.str (P := Try.prog) hT.bs (src := 30) (dst := 9) Try.underlying30 Try.underlying5 Try.underlying9
              go_simp
              refine hK.out _ _ ?_ (fun hHeld2 => ?_)
              · (try dsimp only); (try trivial)
              clear hK K hHeld
              have hHeld := hHeld2
              clear hHeld2
              try simp only [Act.put, List.setIfInBounds_toArray, List.set_cons_zero, List.set_cons_succ]
              refine wpAnyH_take (i := 14) (oi := { dst := some 80, op := Go.Op.binOp Go.BinOp.eql 9 (Go.Operand.tmp 74) (Go.Operand.tmp 79) 9, type := 4, pos := "law.go:104", after := #[{ on := 8, ground := Go.Ground.data }, { on := 13, ground := Go.Ground.data }, { on := 5, ground := Go.Ground.guard }], guard := some (5, true) }) (v := ?v8) rfl (by kernel_rfl) (by kernel_rfl) (by kernel_rfl) (fun _ _ _ h => h) (Or.inl ⟨by rfl, ?hy8⟩) (by assumption) ?rest8
              case hy8 => (intro w hSw; (try dsimp only at hSw); go_simp <;> with_reducible rfl)
              try simp only [Act.put, List.setIfInBounds_toArray, List.set_cons_zero, List.set_cons_succ]
              refine wpAnyH_take (i := 15) (oi := { dst := some 81, op := Go.Op.pick (Go.Operand.tmp 71) (Go.Operand.tmp 80) (Go.Operand.const (Go.Value.bool false)), type := 4, pos := "law.go:104", after := #[{ on := 5, ground := Go.Ground.data }, { on := 14, ground := Go.Ground.data }], guard := none }) (v := ?v9) rfl (by kernel_rfl) (by kernel_rfl) (by kernel_rfl) (fun _ _ _ h => h) (Or.inl ⟨by rfl, ?hy9⟩) (by assumption) ?rest9
              case hy9 => (intro w hSw; (try dsimp only at hSw); go_simp <;> with_reducible rfl)
              try simp only [Act.put, List.setIfInBounds_toArray, List.set_cons_zero, List.set_cons_succ]
              refine wpAnyH_take (i := 16) (oi := { dst := some 4, op := Go.Op.assign (Go.Operand.tmp 81), type := 4, pos := "law.go:104", after := #[{ on := 15, ground := Go.Ground.data }, { on := 7, ground := Go.Ground.chain }, { on := 0, ground := Go.Ground.phase }, { on := 1, ground := Go.Ground.phase }, { on := 2, ground := Go.Ground.phase }, { on := 3, ground := Go.Ground.phase }, { on := 4, ground := Go.Ground.phase }, { on := 5, ground := Go.Ground.phase }, { on := 6, ground := Go.Ground.phase }, { on := 7, ground := Go.Ground.phase }, { on := 8, ground := Go.Ground.phase }, { on := 9, ground := Go.Ground.phase }, { on := 10, ground := Go.Ground.phase }, { on := 11, ground := Go.Ground.phase }, { on := 12, ground := Go.Ground.phase }, { on := 13, ground := Go.Ground.phase }, { on := 14, ground := Go.Ground.phase }, { on := 15, ground := Go.Ground.phase }], guard := none }) (v := ?v10) rfl (by kernel_rfl) (by kernel_rfl) (by kernel_rfl) (fun _ _ _ h => h) (Or.inl ⟨by rfl, ?hy10⟩) (by assumption) ?rest10
              case hy10 => (intro w hSw; (try dsimp only at hSw); go_simp <;> with_reducible rfl)
              try simp only [Act.put, List.setIfInBounds_toArray, List.set_cons_zero, List.set_cons_succ]
              refine wpAnyH_done (by kernel_rfl) ?_ _
              refine NoPanic.normal ?_
              go_wp2
              go_ret
              exact ⟨rfl, hT.two.bel⟩
            refine AllReadyH.cons (o := { dst := some 78, op := Go.Op.load 30 (Go.Operand.tmp 77), type := 30, pos := "law.go:104", after := #[{ on := 11, ground := Go.Ground.data }, { on := 5, ground := Go.Ground.guard }], guard := some (5, true) }) rfl (fun K hK => ?_) ?_
            ·
              have rc := hT.cell
              go_simp
              refine hK.out _ _ ?_ (fun hHeld2 => ?_)
              · (try dsimp only); (try trivial)
              clear hK K hHeld
              have hHeld := hHeld2
              clear hHeld2
              try simp only [Act.put, List.setIfInBounds_toArray, List.set_cons_zero, List.set_cons_succ]
              refine wpAnyH_ready (rs := [8, 13]) (by kernel_rfl) (by simp) ?_
              refine AllReadyH.cons (o := { dst := some 74, op := Go.Op.convert 30 9 (Go.Operand.tmp 73), type := 9, pos := "law.go:104", after := #[{ on := 7, ground := Go.Ground.data }, { on := 5, ground := Go.Ground.guard }], guard := some (5, true) }) rfl (fun K hK => ?_) ?_
              ·
                have estr := Bs.str (P := Try.prog) hT.fact.2 (src := 30) (dst := 9) Try.underlying30 Try.underlying5 Try.underlying9
                go_simp
                refine hK.out _ _ ?_ (fun hHeld2 => ?_)
                · (try dsimp only); (try trivial)
                clear hK K hHeld
                have hHeld := hHeld2
                clear hHeld2
                try simp only [Act.put, List.setIfInBounds_toArray, List.set_cons_zero, List.set_cons_succ]
                refine wpAnyH_ready (rs := [13]) (by kernel_rfl) (by simp) ?_
                refine AllReadyH.cons (o := { dst := some 79, op := Go.Op.convert 30 9 (Go.Operand.tmp 78), type := 9, pos := "law.go:104", after := #[{ on := 12, ground := Go.Ground.data }, { on := 5, ground := Go.Ground.guard }], guard := some (5, true) }) rfl (fun K hK => ?_) AllReadyH.nil
                have rstr := Bs.str (P := Try.prog) hT.bs (src := 30) (dst := 9) Try.underlying30 Try.underlying5 Try.underlying9
                go_simp
                refine hK.out _ _ ?_ (fun hHeld2 => ?_)
                · (try dsimp only); (try trivial)
                clear hK K hHeld
                have hHeld := hHeld2
                clear hHeld2
                try simp only [Act.put, List.setIfInBounds_toArray, List.set_cons_zero, List.set_cons_succ]
                refine wpAnyH_take (i := 14) (oi := { dst := some 80, op := Go.Op.binOp Go.BinOp.eql 9 (Go.Operand.tmp 74) (Go.Operand.tmp 79) 9, type := 4, pos := "law.go:104", after := #[{ on := 8, ground := Go.Ground.data }, { on := 13, ground := Go.Ground.data }, { on := 5, ground := Go.Ground.guard }], guard := some (5, true) }) (v := ?v11) rfl (by kernel_rfl) (by kernel_rfl) (by kernel_rfl) (fun _ _ _ h => h) (Or.inl ⟨by rfl, ?hy11⟩) (by assumption) ?rest11
                case hy11 => (intro w hSw; (try dsimp only at hSw); go_simp <;> with_reducible rfl)
                try simp only [Act.put, List.setIfInBounds_toArray, List.set_cons_zero, List.set_cons_succ]
                refine wpAnyH_take (i := 15) (oi := { dst := some 81, op := Go.Op.pick (Go.Operand.tmp 71) (Go.Operand.tmp 80) (Go.Operand.const (Go.Value.bool false)), type := 4, pos := "law.go:104", after := #[{ on := 5, ground := Go.Ground.data }, { on := 14, ground := Go.Ground.data }], guard := none }) (v := ?v12) rfl (by kernel_rfl) (by kernel_rfl) (by kernel_rfl) (fun _ _ _ h => h) (Or.inl ⟨by rfl, ?hy12⟩) (by assumption) ?rest12
                case hy12 => (intro w hSw; (try dsimp only at hSw); go_simp <;> with_reducible rfl)
                try simp only [Act.put, List.setIfInBounds_toArray, List.set_cons_zero, List.set_cons_succ]
                refine wpAnyH_take (i := 16) (oi := { dst := some 4, op := Go.Op.assign (Go.Operand.tmp 81), type := 4, pos := "law.go:104", after := #[{ on := 15, ground := Go.Ground.data }, { on := 7, ground := Go.Ground.chain }, { on := 0, ground := Go.Ground.phase }, { on := 1, ground := Go.Ground.phase }, { on := 2, ground := Go.Ground.phase }, { on := 3, ground := Go.Ground.phase }, { on := 4, ground := Go.Ground.phase }, { on := 5, ground := Go.Ground.phase }, { on := 6, ground := Go.Ground.phase }, { on := 7, ground := Go.Ground.phase }, { on := 8, ground := Go.Ground.phase }, { on := 9, ground := Go.Ground.phase }, { on := 10, ground := Go.Ground.phase }, { on := 11, ground := Go.Ground.phase }, { on := 12, ground := Go.Ground.phase }, { on := 13, ground := Go.Ground.phase }, { on := 14, ground := Go.Ground.phase }, { on := 15, ground := Go.Ground.phase }], guard := none }) (v := ?v13) rfl (by kernel_rfl) (by kernel_rfl) (by kernel_rfl) (fun _ _ _ h => h) (Or.inl ⟨by rfl, ?hy13⟩) (by assumption) ?rest13
                case hy13 => (intro w hSw; (try dsimp only at hSw); go_simp <;> with_reducible rfl)
                try simp only [Act.put, List.setIfInBounds_toArray, List.set_cons_zero, List.set_cons_succ]
                refine wpAnyH_done (by kernel_rfl) ?_ _
                refine NoPanic.normal ?_
                go_wp2
                go_ret
                exact ⟨rfl, hT.two.bel⟩
              refine AllReadyH.cons (o := { dst := some 79, op := Go.Op.convert 30 9 (Go.Operand.tmp 78), type := 9, pos := "law.go:104", after := #[{ on := 12, ground := Go.Ground.data }, { on := 5, ground := Go.Ground.guard }], guard := some (5, true) }) rfl (fun K hK => ?_) ?_
              ·
                have rstr := Bs.str (P := Try.prog) hT.bs (src := 30) (dst := 9) Try.underlying30 Try.underlying5 Try.underlying9
                go_simp
                refine hK.out _ _ ?_ (fun hHeld2 => ?_)
                · (try dsimp only); (try trivial)
                clear hK K hHeld
                have hHeld := hHeld2
                clear hHeld2
                try simp only [Act.put, List.setIfInBounds_toArray, List.set_cons_zero, List.set_cons_succ]
                refine wpAnyH_ready (rs := [8]) (by kernel_rfl) (by simp) ?_
                refine AllReadyH.cons (o := { dst := some 74, op := Go.Op.convert 30 9 (Go.Operand.tmp 73), type := 9, pos := "law.go:104", after := #[{ on := 7, ground := Go.Ground.data }, { on := 5, ground := Go.Ground.guard }], guard := some (5, true) }) rfl (fun K hK => ?_) AllReadyH.nil
                have estr := Bs.str (P := Try.prog) hT.fact.2 (src := 30) (dst := 9) Try.underlying30 Try.underlying5 Try.underlying9
                go_simp
                refine hK.out _ _ ?_ (fun hHeld2 => ?_)
                · (try dsimp only); (try trivial)
                clear hK K hHeld
                have hHeld := hHeld2
                clear hHeld2
                try simp only [Act.put, List.setIfInBounds_toArray, List.set_cons_zero, List.set_cons_succ]
                refine wpAnyH_take (i := 14) (oi := { dst := some 80, op := Go.Op.binOp Go.BinOp.eql 9 (Go.Operand.tmp 74) (Go.Operand.tmp 79) 9, type := 4, pos := "law.go:104", after := #[{ on := 8, ground := Go.Ground.data }, { on := 13, ground := Go.Ground.data }, { on := 5, ground := Go.Ground.guard }], guard := some (5, true) }) (v := ?v14) rfl (by kernel_rfl) (by kernel_rfl) (by kernel_rfl) (fun _ _ _ h => h) (Or.inl ⟨by rfl, ?hy14⟩) (by assumption) ?rest14
                case hy14 => (intro w hSw; (try dsimp only at hSw); go_simp <;> with_reducible rfl)
                try simp only [Act.put, List.setIfInBounds_toArray, List.set_cons_zero, List.set_cons_succ]
                refine wpAnyH_take (i := 15) (oi := { dst := some 81, op := Go.Op.pick (Go.Operand.tmp 71) (Go.Operand.tmp 80) (Go.Operand.const (Go.Value.bool false)), type := 4, pos := "law.go:104", after := #[{ on := 5, ground := Go.Ground.data }, { on := 14, ground := Go.Ground.data }], guard := none }) (v := ?v15) rfl (by kernel_rfl) (by kernel_rfl) (by kernel_rfl) (fun _ _ _ h => h) (Or.inl ⟨by rfl, ?hy15⟩) (by assumption) ?rest15
                case hy15 => (intro w hSw; (try dsimp only at hSw); go_simp <;> with_reducible rfl)
                try simp only [Act.put, List.setIfInBounds_toArray, List.set_cons_zero, List.set_cons_succ]
                refine wpAnyH_take (i := 16) (oi := { dst := some 4, op := Go.Op.assign (Go.Operand.tmp 81), type := 4, pos := "law.go:104", after := #[{ on := 15, ground := Go.Ground.data }, { on := 7, ground := Go.Ground.chain }, { on := 0, ground := Go.Ground.phase }, { on := 1, ground := Go.Ground.phase }, { on := 2, ground := Go.Ground.phase }, { on := 3, ground := Go.Ground.phase }, { on := 4, ground := Go.Ground.phase }, { on := 5, ground := Go.Ground.phase }, { on := 6, ground := Go.Ground.phase }, { on := 7, ground := Go.Ground.phase }, { on := 8, ground := Go.Ground.phase }, { on := 9, ground := Go.Ground.phase }, { on := 10, ground := Go.Ground.phase }, { on := 11, ground := Go.Ground.phase }, { on := 12, ground := Go.Ground.phase }, { on := 13, ground := Go.Ground.phase }, { on := 14, ground := Go.Ground.phase }, { on := 15, ground := Go.Ground.phase }], guard := none }) (v := ?v16) rfl (by kernel_rfl) (by kernel_rfl) (by kernel_rfl) (fun _ _ _ h => h) (Or.inl ⟨by rfl, ?hy16⟩) (by assumption) ?rest16
                case hy16 => (intro w hSw; (try dsimp only at hSw); go_simp <;> with_reducible rfl)
                try simp only [Act.put, List.setIfInBounds_toArray, List.set_cons_zero, List.set_cons_succ]
                refine wpAnyH_done (by kernel_rfl) ?_ _
                refine NoPanic.normal ?_
                go_wp2
                go_ret
                exact ⟨rfl, hT.two.bel⟩
              exact AllReadyH.nil
            exact AllReadyH.nil
          refine AllReadyH.cons (o := { dst := some 78, op := Go.Op.load 30 (Go.Operand.tmp 77), type := 30, pos := "law.go:104", after := #[{ on := 11, ground := Go.Ground.data }, { on := 5, ground := Go.Ground.guard }], guard := some (5, true) }) rfl (fun K hK => ?_) ?_
          ·
            have rc := hT.cell
            go_simp
            refine hK.out _ _ ?_ (fun hHeld2 => ?_)
            · (try dsimp only); (try trivial)
            clear hK K hHeld
            have hHeld := hHeld2
            clear hHeld2
            try simp only [Act.put, List.setIfInBounds_toArray, List.set_cons_zero, List.set_cons_succ]
            refine wpAnyH_ready (rs := [7, 13]) (by kernel_rfl) (by simp) ?_
            refine AllReadyH.cons (o := { dst := some 73, op := Go.Op.call { callee := Go.Callee.value (Go.Operand.func 18), args := #[Go.Operand.tmp 72], argTypes := #[24] }, type := 30, pos := "law.go:104", after := #[{ on := 6, ground := Go.Ground.data }, { on := 5, ground := Go.Ground.chain }, { on := 5, ground := Go.Ground.guard }], guard := some (5, true) }) rfl (fun K hK => ?_) ?_
            ·
              go_simp
              go_at_call 18; refine (hT.load (fun B O hP hB => mBytes hP hB)).mono ?_; rintro e w5 ⟨v5, rfl, hT2⟩; obtain ⟨a5, c5, rfl, hle5⟩ := hT2.fact.2.len; clear hle5; clear hT; have hT := hT2; clear hT2
              refine hK.out _ _ ?_ (fun hHeld2 => ?_)
              · (try dsimp only); (try trivial)
              clear hK K hHeld
              have hHeld := hHeld2
              clear hHeld2
              try simp only [Act.put, List.setIfInBounds_toArray, List.set_cons_zero, List.set_cons_succ]
              refine wpAnyH_ready (rs := [8, 13]) (by kernel_rfl) (by simp) ?_
              refine AllReadyH.cons (o := { dst := some 74, op := Go.Op.convert 30 9 (Go.Operand.tmp 73), type := 9, pos := "law.go:104", after := #[{ on := 7, ground := Go.Ground.data }, { on := 5, ground := Go.Ground.guard }], guard := some (5, true) }) rfl (fun K hK => ?_) ?_
              ·
                have estr := Bs.str (P := Try.prog) hT.fact.2 (src := 30) (dst := 9) Try.underlying30 Try.underlying5 Try.underlying9
                go_simp
                refine hK.out _ _ ?_ (fun hHeld2 => ?_)
                · (try dsimp only); (try trivial)
                clear hK K hHeld
                have hHeld := hHeld2
                clear hHeld2
                try simp only [Act.put, List.setIfInBounds_toArray, List.set_cons_zero, List.set_cons_succ]
                refine wpAnyH_ready (rs := [13]) (by kernel_rfl) (by simp) ?_
                refine AllReadyH.cons (o := { dst := some 79, op := Go.Op.convert 30 9 (Go.Operand.tmp 78), type := 9, pos := "law.go:104", after := #[{ on := 12, ground := Go.Ground.data }, { on := 5, ground := Go.Ground.guard }], guard := some (5, true) }) rfl (fun K hK => ?_) AllReadyH.nil
                have rstr := Bs.str (P := Try.prog) hT.bs (src := 30) (dst := 9) Try.underlying30 Try.underlying5 Try.underlying9
                go_simp
                refine hK.out _ _ ?_ (fun hHeld2 => ?_)
                · (try dsimp only); (try trivial)
                clear hK K hHeld
                have hHeld := hHeld2
                clear hHeld2
                try simp only [Act.put, List.setIfInBounds_toArray, List.set_cons_zero, List.set_cons_succ]
                refine wpAnyH_take (i := 14) (oi := { dst := some 80, op := Go.Op.binOp Go.BinOp.eql 9 (Go.Operand.tmp 74) (Go.Operand.tmp 79) 9, type := 4, pos := "law.go:104", after := #[{ on := 8, ground := Go.Ground.data }, { on := 13, ground := Go.Ground.data }, { on := 5, ground := Go.Ground.guard }], guard := some (5, true) }) (v := ?v17) rfl (by kernel_rfl) (by kernel_rfl) (by kernel_rfl) (fun _ _ _ h => h) (Or.inl ⟨by rfl, ?hy17⟩) (by assumption) ?rest17
                case hy17 => (intro w hSw; (try dsimp only at hSw); go_simp <;> with_reducible rfl)
                try simp only [Act.put, List.setIfInBounds_toArray, List.set_cons_zero, List.set_cons_succ]
                refine wpAnyH_take (i := 15) (oi := { dst := some 81, op := Go.Op.pick (Go.Operand.tmp 71) (Go.Operand.tmp 80) (Go.Operand.const (Go.Value.bool false)), type := 4, pos := "law.go:104", after := #[{ on := 5, ground := Go.Ground.data }, { on := 14, ground := Go.Ground.data }], guard := none }) (v := ?v18) rfl (by kernel_rfl) (by kernel_rfl) (by kernel_rfl) (fun _ _ _ h => h) (Or.inl ⟨by rfl, ?hy18⟩) (by assumption) ?rest18
                case hy18 => (intro w hSw; (try dsimp only at hSw); go_simp <;> with_reducible rfl)
                try simp only [Act.put, List.setIfInBounds_toArray, List.set_cons_zero, List.set_cons_succ]
                refine wpAnyH_take (i := 16) (oi := { dst := some 4, op := Go.Op.assign (Go.Operand.tmp 81), type := 4, pos := "law.go:104", after := #[{ on := 15, ground := Go.Ground.data }, { on := 7, ground := Go.Ground.chain }, { on := 0, ground := Go.Ground.phase }, { on := 1, ground := Go.Ground.phase }, { on := 2, ground := Go.Ground.phase }, { on := 3, ground := Go.Ground.phase }, { on := 4, ground := Go.Ground.phase }, { on := 5, ground := Go.Ground.phase }, { on := 6, ground := Go.Ground.phase }, { on := 7, ground := Go.Ground.phase }, { on := 8, ground := Go.Ground.phase }, { on := 9, ground := Go.Ground.phase }, { on := 10, ground := Go.Ground.phase }, { on := 11, ground := Go.Ground.phase }, { on := 12, ground := Go.Ground.phase }, { on := 13, ground := Go.Ground.phase }, { on := 14, ground := Go.Ground.phase }, { on := 15, ground := Go.Ground.phase }], guard := none }) (v := ?v19) rfl (by kernel_rfl) (by kernel_rfl) (by kernel_rfl) (fun _ _ _ h => h) (Or.inl ⟨by rfl, ?hy19⟩) (by assumption) ?rest19
                case hy19 => (intro w hSw; (try dsimp only at hSw); go_simp <;> with_reducible rfl)
                try simp only [Act.put, List.setIfInBounds_toArray, List.set_cons_zero, List.set_cons_succ]
                refine wpAnyH_done (by kernel_rfl) ?_ _
                refine NoPanic.normal ?_
                go_wp2
                go_ret
                exact ⟨rfl, hT.two.bel⟩
              refine AllReadyH.cons (o := { dst := some 79, op := Go.Op.convert 30 9 (Go.Operand.tmp 78), type := 9, pos := "law.go:104", after := #[{ on := 12, ground := Go.Ground.data }, { on := 5, ground := Go.Ground.guard }], guard := some (5, true) }) rfl (fun K hK => ?_) ?_
              ·
                have rstr := Bs.str (P := Try.prog) hT.bs (src := 30) (dst := 9) Try.underlying30 Try.underlying5 Try.underlying9
                go_simp
                refine hK.out _ _ ?_ (fun hHeld2 => ?_)
                · (try dsimp only); (try trivial)
                clear hK K hHeld
                have hHeld := hHeld2
                clear hHeld2
                try simp only [Act.put, List.setIfInBounds_toArray, List.set_cons_zero, List.set_cons_succ]
                refine wpAnyH_ready (rs := [8]) (by kernel_rfl) (by simp) ?_
                refine AllReadyH.cons (o := { dst := some 74, op := Go.Op.convert 30 9 (Go.Operand.tmp 73), type := 9, pos := "law.go:104", after := #[{ on := 7, ground := Go.Ground.data }, { on := 5, ground := Go.Ground.guard }], guard := some (5, true) }) rfl (fun K hK => ?_) AllReadyH.nil
                have estr := Bs.str (P := Try.prog) hT.fact.2 (src := 30) (dst := 9) Try.underlying30 Try.underlying5 Try.underlying9
                go_simp
                refine hK.out _ _ ?_ (fun hHeld2 => ?_)
                · (try dsimp only); (try trivial)
                clear hK K hHeld
                have hHeld := hHeld2
                clear hHeld2
                try simp only [Act.put, List.setIfInBounds_toArray, List.set_cons_zero, List.set_cons_succ]
                refine wpAnyH_take (i := 14) (oi := { dst := some 80, op := Go.Op.binOp Go.BinOp.eql 9 (Go.Operand.tmp 74) (Go.Operand.tmp 79) 9, type := 4, pos := "law.go:104", after := #[{ on := 8, ground := Go.Ground.data }, { on := 13, ground := Go.Ground.data }, { on := 5, ground := Go.Ground.guard }], guard := some (5, true) }) (v := ?v20) rfl (by kernel_rfl) (by kernel_rfl) (by kernel_rfl) (fun _ _ _ h => h) (Or.inl ⟨by rfl, ?hy20⟩) (by assumption) ?rest20
                case hy20 => (intro w hSw; (try dsimp only at hSw); go_simp <;> with_reducible rfl)
                try simp only [Act.put, List.setIfInBounds_toArray, List.set_cons_zero, List.set_cons_succ]
                refine wpAnyH_take (i := 15) (oi := { dst := some 81, op := Go.Op.pick (Go.Operand.tmp 71) (Go.Operand.tmp 80) (Go.Operand.const (Go.Value.bool false)), type := 4, pos := "law.go:104", after := #[{ on := 5, ground := Go.Ground.data }, { on := 14, ground := Go.Ground.data }], guard := none }) (v := ?v21) rfl (by kernel_rfl) (by kernel_rfl) (by kernel_rfl) (fun _ _ _ h => h) (Or.inl ⟨by rfl, ?hy21⟩) (by assumption) ?rest21
                case hy21 => (intro w hSw; (try dsimp only at hSw); go_simp <;> with_reducible rfl)
                try simp only [Act.put, List.setIfInBounds_toArray, List.set_cons_zero, List.set_cons_succ]
                refine wpAnyH_take (i := 16) (oi := { dst := some 4, op := Go.Op.assign (Go.Operand.tmp 81), type := 4, pos := "law.go:104", after := #[{ on := 15, ground := Go.Ground.data }, { on := 7, ground := Go.Ground.chain }, { on := 0, ground := Go.Ground.phase }, { on := 1, ground := Go.Ground.phase }, { on := 2, ground := Go.Ground.phase }, { on := 3, ground := Go.Ground.phase }, { on := 4, ground := Go.Ground.phase }, { on := 5, ground := Go.Ground.phase }, { on := 6, ground := Go.Ground.phase }, { on := 7, ground := Go.Ground.phase }, { on := 8, ground := Go.Ground.phase }, { on := 9, ground := Go.Ground.phase }, { on := 10, ground := Go.Ground.phase }, { on := 11, ground := Go.Ground.phase }, { on := 12, ground := Go.Ground.phase }, { on := 13, ground := Go.Ground.phase }, { on := 14, ground := Go.Ground.phase }, { on := 15, ground := Go.Ground.phase }], guard := none }) (v := ?v22) rfl (by kernel_rfl) (by kernel_rfl) (by kernel_rfl) (fun _ _ _ h => h) (Or.inl ⟨by rfl, ?hy22⟩) (by assumption) ?rest22
                case hy22 => (intro w hSw; (try dsimp only at hSw); go_simp <;> with_reducible rfl)
                try simp only [Act.put, List.setIfInBounds_toArray, List.set_cons_zero, List.set_cons_succ]
                refine wpAnyH_done (by kernel_rfl) ?_ _
                refine NoPanic.normal ?_
                go_wp2
                go_ret
                exact ⟨rfl, hT.two.bel⟩
              exact AllReadyH.nil
            refine AllReadyH.cons (o := { dst := some 79, op := Go.Op.convert 30 9 (Go.Operand.tmp 78), type := 9, pos := "law.go:104", after := #[{ on := 12, ground := Go.Ground.data }, { on := 5, ground := Go.Ground.guard }], guard := some (5, true) }) rfl (fun K hK => ?_) ?_
            ·
              have rstr := Bs.str (P := Try.prog) hT.bs (src := 30) (dst := 9) Try.underlying30 Try.underlying5 Try.underlying9
              go_simp
              refine hK.out _ _ ?_ (fun hHeld2 => ?_)
              · (try dsimp only); (try trivial)
              clear hK K hHeld
              have hHeld := hHeld2
              clear hHeld2
              try simp only [Act.put, List.setIfInBounds_toArray, List.set_cons_zero, List.set_cons_succ]
              refine wpAnyH_ready (rs := [7]) (by kernel_rfl) (by simp) ?_
              refine AllReadyH.cons (o := { dst := some 73, op := Go.Op.call { callee := Go.Callee.value (Go.Operand.func 18), args := #[Go.Operand.tmp 72], argTypes := #[24] }, type := 30, pos := "law.go:104", after := #[{ on := 6, ground := Go.Ground.data }, { on := 5, ground := Go.Ground.chain }, { on := 5, ground := Go.Ground.guard }], guard := some (5, true) }) rfl (fun K hK => ?_) AllReadyH.nil
              go_simp
              go_at_call 18; refine (hT.load (fun B O hP hB => mBytes hP hB)).mono ?_; rintro e w5 ⟨v5, rfl, hT2⟩; obtain ⟨a5, c5, rfl, hle5⟩ := hT2.fact.2.len; clear hle5; clear hT; have hT := hT2; clear hT2
              refine hK.out _ _ ?_ (fun hHeld2 => ?_)
              · (try dsimp only); (try trivial)
              clear hK K hHeld
              have hHeld := hHeld2
              clear hHeld2
              try simp only [Act.put, List.setIfInBounds_toArray, List.set_cons_zero, List.set_cons_succ]
              refine wpAnyH_ready (rs := [8]) (by kernel_rfl) (by simp) ?_
              refine AllReadyH.cons (o := { dst := some 74, op := Go.Op.convert 30 9 (Go.Operand.tmp 73), type := 9, pos := "law.go:104", after := #[{ on := 7, ground := Go.Ground.data }, { on := 5, ground := Go.Ground.guard }], guard := some (5, true) }) rfl (fun K hK => ?_) AllReadyH.nil
              have estr := Bs.str (P := Try.prog) hT.fact.2 (src := 30) (dst := 9) Try.underlying30 Try.underlying5 Try.underlying9
              go_simp
              refine hK.out _ _ ?_ (fun hHeld2 => ?_)
              · (try dsimp only); (try trivial)
              clear hK K hHeld
              have hHeld := hHeld2
              clear hHeld2
              try simp only [Act.put, List.setIfInBounds_toArray, List.set_cons_zero, List.set_cons_succ]
              refine wpAnyH_take (i := 14) (oi := { dst := some 80, op := Go.Op.binOp Go.BinOp.eql 9 (Go.Operand.tmp 74) (Go.Operand.tmp 79) 9, type := 4, pos := "law.go:104", after := #[{ on := 8, ground := Go.Ground.data }, { on := 13, ground := Go.Ground.data }, { on := 5, ground := Go.Ground.guard }], guard := some (5, true) }) (v := ?v23) rfl (by kernel_rfl) (by kernel_rfl) (by kernel_rfl) (fun _ _ _ h => h) (Or.inl ⟨by rfl, ?hy23⟩) (by assumption) ?rest23
              case hy23 => (intro w hSw; (try dsimp only at hSw); go_simp <;> with_reducible rfl)
              try simp only [Act.put, List.setIfInBounds_toArray, List.set_cons_zero, List.set_cons_succ]
              refine wpAnyH_take (i := 15) (oi := { dst := some 81, op := Go.Op.pick (Go.Operand.tmp 71) (Go.Operand.tmp 80) (Go.Operand.const (Go.Value.bool false)), type := 4, pos := "law.go:104", after := #[{ on := 5, ground := Go.Ground.data }, { on := 14, ground := Go.Ground.data }], guard := none }) (v := ?v24) rfl (by kernel_rfl) (by kernel_rfl) (by kernel_rfl) (fun _ _ _ h => h) (Or.inl ⟨by rfl, ?hy24⟩) (by assumption) ?rest24
              case hy24 => (intro w hSw; (try dsimp only at hSw); go_simp <;> with_reducible rfl)
              try simp only [Act.put, List.setIfInBounds_toArray, List.set_cons_zero, List.set_cons_succ]
              refine wpAnyH_take (i := 16) (oi := { dst := some 4, op := Go.Op.assign (Go.Operand.tmp 81), type := 4, pos := "law.go:104", after := #[{ on := 15, ground := Go.Ground.data }, { on := 7, ground := Go.Ground.chain }, { on := 0, ground := Go.Ground.phase }, { on := 1, ground := Go.Ground.phase }, { on := 2, ground := Go.Ground.phase }, { on := 3, ground := Go.Ground.phase }, { on := 4, ground := Go.Ground.phase }, { on := 5, ground := Go.Ground.phase }, { on := 6, ground := Go.Ground.phase }, { on := 7, ground := Go.Ground.phase }, { on := 8, ground := Go.Ground.phase }, { on := 9, ground := Go.Ground.phase }, { on := 10, ground := Go.Ground.phase }, { on := 11, ground := Go.Ground.phase }, { on := 12, ground := Go.Ground.phase }, { on := 13, ground := Go.Ground.phase }, { on := 14, ground := Go.Ground.phase }, { on := 15, ground := Go.Ground.phase }], guard := none }) (v := ?v25) rfl (by kernel_rfl) (by kernel_rfl) (by kernel_rfl) (fun _ _ _ h => h) (Or.inl ⟨by rfl, ?hy25⟩) (by assumption) ?rest25
              case hy25 => (intro w hSw; (try dsimp only at hSw); go_simp <;> with_reducible rfl)
              try simp only [Act.put, List.setIfInBounds_toArray, List.set_cons_zero, List.set_cons_succ]
              refine wpAnyH_done (by kernel_rfl) ?_ _
              refine NoPanic.normal ?_
              go_wp2
              go_ret
              exact ⟨rfl, hT.two.bel⟩
            exact AllReadyH.nil
          exact AllReadyH.nil

end Go.Proofs.Ytjeelccdbhhfjaa
