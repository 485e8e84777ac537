/- 'HistBound', lines of any size. -/
import Derived.Test.YtjkpapkjlmglbaaDoorU16
namespace Go.Proofs.YtjkpapkjlmglbaaDoor
open Go.RowKit
set_option linter.unusedVariables false
set_option linter.unusedSimpArgs false
attribute [local go_sem] cell_set set_set m_undef
attribute [local irreducible] textV linesL addM layL loadL

theorem join_take_le (L : List (List UInt8)) (k : Nat) : (joinL (L.take k)).length ≤ (joinL L).length := by
  have h : joinL L = joinL (L.take k) ++ joinL (L.drop k) := by rw [← joinL_app, List.take_append_drop]
  rw [h, List.length_append]; omega
set_option maxRecDepth 100000 in
set_option maxHeartbeats 8000000 in
theorem histBoundAll {w : World} (v : Value) (l : List UInt8) (h : Rb w v l) (v1 : Value) (LS : List (List UInt8)) (hK : Rv w 1 v1 LS.length (sl LS)) (hx : ∀ x ∈ LS, x.length ≤ 140737488351232) (hn : LS.length ≤ 1000000000000000) (hg : GL w) :
    Calls Tryd.prog 5 #[v, v1] w fun e w' => e = .returned (.bool true) ∧ Below w.heap.size w w' := by
  obtain ⟨ad, cap, rfl⟩ := h.form
  obtain ⟨ad1, cap1, rfl⟩ := hK.form
  have hA := Lib.hid (wAwakeH w hg)
  have hF1 := Lib.hid (fun (w9 : World) (h9 : Rb w9 (.slice ad l.length cap) l) => wFlatR w9 _ l h9)
  have hF2 := Lib.hid (fun (w9 : World) (h9 : Rb w9 (.slice ad l.length cap) l) => rFlat w9 _ l h9)
  unfold FlatQ at hF1
  have hML := flatL_len l
  generalize flatL l = N at *
  have hK0 := Lib.hid (keepPW hg)
  replace h := Lib.hid h
  replace hK := Lib.hid hK
  replace hx := Lib.hid hx
  clear hg
  go_enter Tryd.func5, Tryd.ntmps5
  go_wp2_with (go_at_call 6; refine hA.out.mono ?_; rintro e w1 ⟨rfl, hb1⟩)
  go_loopw [5, 21] (fun p q wr => ∃ (k : Nat) (z : Int), q = .int .i64 (k : Int) ∧ k ≤ LS.length ∧ p = .int .i64 z ∧ Below w.heap.size w wr) (fun p q wr => LS.length - (intOf q).toNat)
  case atStart => exact ⟨0, _, rfl, Nat.zero_le _, rfl, hb1⟩
  case round =>
  clear hb1
  obtain ⟨k, z, rfl, hk, rfl, hb⟩ := hrel
  by_cases hlt : k < LS.length
  · have t1 : ((k : Int) < (LS.length : Int)) = True := eq_true (by omega)
    have i1 : (0 : Int) ≤ (k : Int) := by omega
    have i2 : (k : Int) < (LS.length : Int) := by omega
    have wi : IntKind.i64.wrap ((k : Int) + 1) = ((k + 1 : Nat) : Int) := by rw [IntKind.wrap_i64]; omega
    obtain ⟨a, rfl, z0⟩ := hK.out.cellAt k _ (sl_at LS k hlt)
    have z1 := (hb.cell (World.block_lt_of_cell? w _ z0)).trans z0
    have hx2 := hx.out _ (List.getElem_mem hlt)
    generalize LS[k] = x at z1 hx2
    have w1 : IntKind.i64.wrap (20 + (x.length : Int)) = 20 + (x.length : Int) := by rw [IntKind.wrap_i64]; omega
    replace hb := Lib.hid hb
    have hlt' := Lib.hid hlt
    clear z0 hlt hk hx2
    go_wp2
    go_roundw
    case rel => exact ⟨k + 1, _, rfl, hlt'.out, rfl, hb.out⟩
    case measure => have := hlt'.out; simp [intOf]; omega
  · have hke : k = LS.length := by omega
    subst hke
    have t1 : ((LS.length : Int) < (LS.length : Int)) = False := eq_false (by omega)
    by_cases c1 : 14000 < z
    · have t2 : ((14000 : Int) < z) = True := eq_true c1
      clear hlt hk
      go_wp2
      go_ret
      exact ⟨rfl, hb⟩
    have t2 : ((14000 : Int) < z) = False := eq_false c1
    by_cases c2 : LS.length = 0
    · have t3 : ((LS.length : Int) == 0) = true := by simp [c2]
      have t3' : ((LS.length : Int) = 0) = True := eq_true (by omega)
      clear hlt hk c2
      go_wp2
      go_ret
      exact ⟨rfl, hb⟩
    have t3 : ((LS.length : Int) == 0) = false := by simp only [beq_eq_false_iff_ne]; omega
    have t3' : ((LS.length : Int) = 0) = False := eq_false (by omega)
    have h1 := Lib.hid (h.out.below hb)
    have hK1 := Lib.hid (hK0.out.turn (Turn.of_below hb _))
    replace hb := Lib.hid hb
    replace hn := Lib.hid hn
    clear hlt hk c1 c2
    go_wp2_with (first
      | (go_at_call 7; refine (hF1.out _ h1.out).mono ?_; rintro e w2 ⟨mb, O2, rfl, hP2, hb2⟩; have h2 := Lib.hid (h1.out.below hb2); replace hP2 := Lib.hid hP2; replace hb2 := Lib.hid hb2)
      | (go_at_call 8; refine (hF2.out _ h2.out).mono ?_; rintro e w3 ⟨rb, R, rfl, hR3, hb3⟩; have hT := Two.make hb.out hK1.out hP2.out hb2.out hR3 hb3; clear hR3 hb3))
    clear h1 h2 hb2 hP2 hF1 hF2 hA h hb hK0 hK1
    go_loopw [46] (fun q wr => ∃ (k : Nat) (M : List UInt8), q = .int .i64 (k : Int) ∧ k ≤ LS.length ∧ M.length = 8192 ∧ (∀ z : Int, ¬ (5632 ≤ z ∧ z < 6144) → memAt M z = memAt N z) ∧ Two w wr mb rb M N PW) (fun q wr => LS.length - (intOf q).toNat)
    case atStart => exact ⟨0, N, rfl, Nat.zero_le _, hML, fun z _ => rfl, hT⟩
    case round =>
      clear hT
      obtain ⟨k, M, rfl, hk, hM, hz, hT⟩ := hrel
      by_cases hlt : k < LS.length
      · have t4 : ((k : Int) < (LS.length : Int)) = True := eq_true (by omega)
        have i1 : (0 : Int) ≤ (k : Int) := by omega
        have i2 : (k : Int) < (LS.length : Int) := by omega
        have wi : IntKind.i64.wrap ((k : Int) + 1) = ((k + 1 : Nat) : Int) := by rw [IntKind.wrap_i64]; have := hn.out; omega
        obtain ⟨a, rfl, z0⟩ := hK.out.cellAt k _ (sl_at LS k hlt)
        have z1 := (hT.bel.cell (World.block_lt_of_cell? w _ z0)).trans z0
        have hx2 := hx.out _ (List.getElem_mem hlt)
        obtain ⟨x, hxe⟩ : ∃ x, x = LS[k] := ⟨_, rfl⟩
        rw [← hxe] at z1 hx2
        have hAd := fun (w9 : World) (B mb : Nat) (O : Nat → Prop) (h : MemP w9 B mb M O) (hb : B ≤ w9.heap.size) (hk : Keep w9 O PW) => wAdd h hb hk x (by omega)
        have hsz := size_addM hM x
        have hM2 : (addM M x).length = 8192 := by rw [addM_len]; exact hM
        have hz2 : ∀ z : Int, ¬ (5632 ≤ z ∧ z < 6144) → memAt (addM M x) z = memAt N z := fun z hq => (memAt_addM hM x z hq).trans (hz z hq)
        generalize addM M x = M2 at *
        have hLw := fun (w9 : World) (B mb : Nat) (O : Nat → Prop) (h : MemP w9 B mb M2 O) (hb : B ≤ w9.heap.size) (hk : Keep w9 O PW) => wLines h hb hk
        have hll := linesL_len (textV M2)
        have htl := textV_len M2
        generalize linesL (textV M2) = L at *
        unfold sizeL at hsz
        have hL5 : L.length ≤ 510 := by omega
        have hjl := Lib.hid (fun (j : Nat) => join_take_le L j)
        have hjs := Lib.hid (fun (j : Nat) (hj : j < L.length) => joinL_len_take L j hj)
        replace hAd := Lib.hid hAd
        replace hLw := Lib.hid hLw
        replace hM2 := Lib.hid hM2
        replace hz2 := Lib.hid hz2
        replace hsz := Lib.hid hsz
        replace hL5 := Lib.hid hL5
        have hlt' := Lib.hid hlt
        clear z0 hxe hx2 hM hz hlt hk hll htl
        go_wp2_with (first
          | (go_at_call 14; refine (hT.memK (fun B O h hb hk => hAd.out _ _ _ _ h hb hk)).mono ?_; rintro e w4 ⟨rfl, hT2⟩; clear hT; have hT := hT2; clear hT2)
          | (go_at_call 10; refine (hT.memXK (fun B O h hb hk => hLw.out _ _ _ _ h hb hk) (fun x w' h => vsN_new h)).mono ?_; rintro e w5 ⟨v5, rfl, hT2⟩; clear hT; have hT := hT2.keep (L := PW.and (.vs 1 v5 L.length (sl L))) fun O h => h.left.and h.right.left; clear hT2; obtain ⟨a5, c5, rfl, -⟩ := (show Vs _ 0 1 _ _ _ from hT.fact.2).form))
        go_loopw [12, 56] (fun p q wr => ∃ j : Nat, q = .int .i64 (j : Int) ∧ j ≤ L.length ∧ p = .int .i64 (((joinL (L.take j)).length : Nat) : Int) ∧ Two w wr mb rb M2 N (PW.and (.vs 1 (.slice a5 L.length c5) L.length (sl L)))) (fun p q wr => L.length - (intOf q).toNat)
        case atStart => exact ⟨0, rfl, Nat.zero_le _, rfl, hT⟩
        case round =>
          clear hT
          obtain ⟨j, rfl, hj, rfl, hT⟩ := hrel
          by_cases hlj : j < L.length
          · have t5 : ((j : Int) < (L.length : Int)) = True := eq_true (by omega)
            have j1 : (0 : Int) ≤ (j : Int) := by omega
            have j2 : (j : Int) < (L.length : Int) := by omega
            have wj : IntKind.i64.wrap ((j : Int) + 1) = ((j + 1 : Nat) : Int) := by rw [IntKind.wrap_i64]; have := hL5.out; omega
            obtain ⟨bu, ou, cu, he⟩ := (show Vs _ 0 1 _ _ _ from hT.fact.2).some_of (by omega)
            cases he
            have y0 := (show Vs _ 0 1 _ _ _ from hT.fact.2).cell j _ (sl_at L j hlj)
            have hs := hjs.out j hlj
            have hs3 := hjl.out (j + 1)
            have hs4 := hsz.out
            obtain ⟨y, hy⟩ : ∃ y, y = L[j] := ⟨_, rfl⟩
            rw [← hy] at y0 hs
            obtain ⟨n1, hn1⟩ : ∃ n1, n1 = (joinL (L.take j)).length := ⟨_, rfl⟩
            obtain ⟨n2, hn2⟩ : ∃ n2, n2 = (joinL (L.take (j + 1))).length := ⟨_, rfl⟩
            rw [← hn1] at hs ⊢
            rw [← hn2] at hs hs3
            have w1 : IntKind.i64.wrap ((y.length : Int) + 1) = (y.length : Int) + 1 := by rw [IntKind.wrap_i64]; omega
            have w2 : IntKind.i64.wrap ((n1 : Int) + ((y.length : Int) + 1)) = (n2 : Int) := by rw [IntKind.wrap_i64]; omega
            replace hn2 := Lib.hid hn2
            have hlj' := Lib.hid hlj
            clear hy hs hs3 hs4 hn1 hj hlj
            go_wp2
            go_roundw
            case rel => exact ⟨j + 1, rfl, hlj'.out, by rw [← hn2.out], hT⟩
            case measure => have := hlj'.out; simp [intOf]; omega
          · have hje : j = L.length := by omega
            subst hje
            have t5 : ((L.length : Int) < (L.length : Int)) = False := eq_false (by omega)
            rw [List.take_length]
            obtain ⟨n1, hn1⟩ : ∃ n1, n1 = (joinL L).length := ⟨_, rfl⟩
            have hq := hsz.out
            rw [← hn1] at hq ⊢
            have t6 : ((510 : Int) < (n1 : Int)) = False := eq_false (by omega)
            have t7 : ((n1 : Int) < 1) = False := eq_false (by omega)
            have t7' : (n1 = 0) = False := eq_false (by omega)
            have hT9 := hT.keep (L := PW) fun O h => h.left
            clear hT hn1 hq hj hlj
            go_wp2
            go_roundw
            case rel => exact ⟨k + 1, M2, rfl, hlt'.out, hM2.out, hz2.out, hT9⟩
            case measure => have := hlt'.out; simp [intOf]; omega
      · have hke : k = LS.length := by omega
        subst hke
        have t4 : ((LS.length : Int) < (LS.length : Int)) = False := eq_false (by omega)
        have hbk := lay_back hM hML hz
        have hLl : (loadL N 5632 512).length ≤ 1000000 := by rw [loadL_len]; omega
        have hLy := fun (w9 : World) (B mb : Nat) (O : Nat → Prop) (h : MemP w9 B mb M O) (hb : B ≤ w9.heap.size) (v9 : Value) (hv : Bs w9 0 v9 (loadL N 5632 512)) (hO : ∀ k, v9.ownBlock = some k → ¬ O k) => mLay h hb 5632 (by unfold isI; omega) hv hLl hO
        rw [hbk] at hLy
        replace hLy := Lib.hid hLy
        clear hbk hLl hz hM hlt hk hML
        go_upto_region 28 with (first
          | (go_at_call 16; refine (hT.refBs (fun B R h => rLoad h 5632 512 (by unfold isI; omega))).mono ?_; rintro e w5 ⟨v5, rfl, hT2⟩; clear hT; have hT := hT2; clear hT2)
          | (go_at_call 15; refine (hT.memK (fun B O h hb hk => hLy.out _ _ _ _ h hb _ hk.right.1 (fun k hk2 => (hk.right.2 k hk2).2))).mono ?_; rintro e w6 ⟨rfl, hT2⟩; clear hT; have hT := hT2.weak; clear hT2))
        replace hT := hT.drew
        obtain ⟨s2, hS⟩ := hT.val
        obtain ⟨vb, ob, cp, rfl⟩ := hS.form
        clear hT
        have hT := hS
        clear hS
        refine wp_region_noPanic ?_
        refine wp_region_held_drew (S := (fun _ => True)) (by kernel_rfl) ?_ (fun hHeld => ?_)
        · (try dsimp only); (try trivial)
        refine wpAnyH_take (i := 0) (oi := { dst := some 77, op := Go.Op.move (Go.Operand.tmp 8), type := 24, pos := "law.go:126", after := #[], guard := none }) (v := ?v1) rfl (by kernel_rfl) (by kernel_rfl) (by kernel_rfl) (fun _ _ _ h => h) (Or.inl ⟨by rfl, ?hy1⟩) (by assumption) ?rest1
        case hy1 => (intro w hSw; (try dsimp only at hSw); go_simp <;> with_reducible rfl)
        try simp only [Act.put, List.setIfInBounds_toArray, List.set_cons_zero, List.set_cons_succ]
        refine wpAnyH_take (i := 3) (oi := { dst := some 80, op := Go.Op.move (Go.Operand.tmp 9), type := 26, pos := "law.go:126", after := #[], guard := none }) (v := ?v2) rfl (by kernel_rfl) (by kernel_rfl) (by kernel_rfl) (fun _ _ _ h => h) (Or.inl ⟨by rfl, ?hy2⟩) (by assumption) ?rest2
        case hy2 => (intro w hSw; (try dsimp only at hSw); go_simp <;> with_reducible rfl)
        try simp only [Act.put, List.setIfInBounds_toArray, List.set_cons_zero, List.set_cons_succ]
        refine wpAnyH_take (i := 4) (oi := { dst := some 81, op := Go.Op.nilCheck (Go.Operand.tmp 80), type := 0, pos := "law.go:126", after := #[{ on := 3, ground := Go.Ground.data }], guard := none }) (v := ?v3) rfl (by kernel_rfl) (by kernel_rfl) (by kernel_rfl) (fun _ _ _ h => h) (Or.inl ⟨by rfl, ?hy3⟩) (by assumption) ?rest3
        case hy3 => (intro w hSw; (try dsimp only at hSw); go_simp <;> with_reducible rfl)
        try simp only [Act.put, List.setIfInBounds_toArray, List.set_cons_zero, List.set_cons_succ]
        refine wpAnyH_take (i := 5) (oi := { dst := some 82, op := Go.Op.fieldAddr 41 (Go.Operand.tmp 81) 0, type := 0, pos := "law.go:126", after := #[{ on := 4, ground := Go.Ground.data }], guard := none }) (v := ?v4) rfl (by kernel_rfl) (by kernel_rfl) (by kernel_rfl) (fun _ _ _ h => h) (Or.inl ⟨by rfl, ?hy4⟩) (by assumption) ?rest4
        case hy4 => (intro w hSw; (try dsimp only at hSw); go_simp <;> with_reducible rfl)
        try simp only [Act.put, List.setIfInBounds_toArray, List.set_cons_zero, List.set_cons_succ]
        refine wpAnyH_ready (rs := [1, 6]) (by kernel_rfl) (by simp) ?_
        refine AllReadyH.cons (o := { dst := some 78, op := Go.Op.call { callee := Go.Callee.value (Go.Operand.func 17), args := #[Go.Operand.tmp 77], argTypes := #[24] }, type := 22, pos := "law.go:126", after := #[{ on := 0, ground := Go.Ground.data }], guard := none }) rfl (fun K hK => ?_) ?_
        ·
          go_simp
          go_at_call 17; refine (hT.load (fun B O hP hB => mBytes hP hB)).mono ?_; rintro e w5 ⟨v5, rfl, hT2⟩; obtain ⟨a5, c5, rfl, hle5⟩ := hT2.fact.2.len; clear hle5; clear hT; have hT := hT2; clear hT2
          refine hK.out _ _ ?_ (fun hHeld2 => ?_)
          · (try dsimp only); (try trivial)
          clear hK K hHeld
          have hHeld := hHeld2
          clear hHeld2
          try simp only [Act.put, List.setIfInBounds_toArray, List.set_cons_zero, List.set_cons_succ]
          refine wpAnyH_ready (rs := [2, 6]) (by kernel_rfl) (by simp) ?_
          refine AllReadyH.cons (o := { dst := some 79, op := Go.Op.convert 22 9 (Go.Operand.tmp 78), type := 9, pos := "law.go:126", after := #[{ on := 1, ground := Go.Ground.data }], guard := none }) rfl (fun K hK => ?_) ?_
          ·
            have estr := Bs.str (P := Tryd.prog) hT.fact.2 (src := 22) (dst := 9) Tryd.underlying22 Tryd.underlying5 Tryd.underlying9
            go_simp
            refine hK.out _ _ ?_ (fun hHeld2 => ?_)
            · (try dsimp only); (try trivial)
            clear hK K hHeld
            have hHeld := hHeld2
            clear hHeld2
            try simp only [Act.put, List.setIfInBounds_toArray, List.set_cons_zero, List.set_cons_succ]
            refine wpAnyH_ready (rs := [6]) (by kernel_rfl) (by simp) ?_
            refine AllReadyH.cons (o := { dst := some 83, op := Go.Op.load 22 (Go.Operand.tmp 82), type := 22, pos := "law.go:126", after := #[{ on := 5, ground := Go.Ground.data }], guard := none }) rfl (fun K hK => ?_) AllReadyH.nil
            have rc := hT.cell
            go_simp
            refine hK.out _ _ ?_ (fun hHeld2 => ?_)
            · (try dsimp only); (try trivial)
            clear hK K hHeld
            have hHeld := hHeld2
            clear hHeld2
            try simp only [Act.put, List.setIfInBounds_toArray, List.set_cons_zero, List.set_cons_succ]
            refine wpAnyH_ready (rs := [7]) (by kernel_rfl) (by simp) ?_
            refine AllReadyH.cons (o := { dst := some 84, op := Go.Op.convert 22 9 (Go.Operand.tmp 83), type := 9, pos := "law.go:126", after := #[{ on := 6, ground := Go.Ground.data }], guard := none }) rfl (fun K hK => ?_) AllReadyH.nil
            have rstr := Bs.str (P := Tryd.prog) hT.bs (src := 22) (dst := 9) Tryd.underlying22 Tryd.underlying5 Tryd.underlying9
            go_simp
            refine hK.out _ _ ?_ (fun hHeld2 => ?_)
            · (try dsimp only); (try trivial)
            clear hK K hHeld
            have hHeld := hHeld2
            clear hHeld2
            try simp only [Act.put, List.setIfInBounds_toArray, List.set_cons_zero, List.set_cons_succ]
            refine wpAnyH_take (i := 8) (oi := { dst := some 85, op := Go.Op.binOp Go.BinOp.eql 9 (Go.Operand.tmp 79) (Go.Operand.tmp 84) 9, type := 4, pos := "law.go:126", after := #[{ on := 2, ground := Go.Ground.data }, { on := 7, ground := Go.Ground.data }], guard := none }) (v := ?v5) rfl (by kernel_rfl) (by kernel_rfl) (by kernel_rfl) (fun _ _ _ h => h) (Or.inl ⟨by rfl, ?hy5⟩) (by assumption) ?rest5
            case hy5 => (intro w hSw; (try dsimp only at hSw); go_simp <;> with_reducible rfl)
            try simp only [Act.put, List.setIfInBounds_toArray, List.set_cons_zero, List.set_cons_succ]
            refine wpAnyH_take (i := 9) (oi := { dst := some 4, op := Go.Op.assign (Go.Operand.tmp 85), type := 4, pos := "law.go:126", after := #[{ on := 8, ground := Go.Ground.data }, { on := 1, ground := Go.Ground.chain }, { on := 0, ground := Go.Ground.phase }, { on := 1, ground := Go.Ground.phase }, { on := 2, ground := Go.Ground.phase }, { on := 3, ground := Go.Ground.phase }, { on := 4, ground := Go.Ground.phase }, { on := 5, ground := Go.Ground.phase }, { on := 6, ground := Go.Ground.phase }, { on := 7, ground := Go.Ground.phase }, { on := 8, ground := Go.Ground.phase }], guard := none }) (v := ?v6) rfl (by kernel_rfl) (by kernel_rfl) (by kernel_rfl) (fun _ _ _ h => h) (Or.inl ⟨by rfl, ?hy6⟩) (by assumption) ?rest6
            case hy6 => (intro w hSw; (try dsimp only at hSw); go_simp <;> with_reducible rfl)
            try simp only [Act.put, List.setIfInBounds_toArray, List.set_cons_zero, List.set_cons_succ]
            refine wpAnyH_done (by kernel_rfl) ?_ _
            refine NoPanic.normal ?_
            go_wp2
            go_ret
            exact ⟨rfl, hT.two.bel⟩
          refine AllReadyH.cons (o := { dst := some 83, op := Go.Op.load 22 (Go.Operand.tmp 82), type := 22, pos := "law.go:126", after := #[{ on := 5, ground := Go.Ground.data }], guard := none }) rfl (fun K hK => ?_) ?_
          ·
            have rc := hT.cell
            go_simp
            refine hK.out _ _ ?_ (fun hHeld2 => ?_)
            · (try dsimp only); (try trivial)
            clear hK K hHeld
            have hHeld := hHeld2
            clear hHeld2
            try simp only [Act.put, List.setIfInBounds_toArray, List.set_cons_zero, List.set_cons_succ]
            refine wpAnyH_ready (rs := [2, 7]) (by kernel_rfl) (by simp) ?_
            refine AllReadyH.cons (o := { dst := some 79, op := Go.Op.convert 22 9 (Go.Operand.tmp 78), type := 9, pos := "law.go:126", after := #[{ on := 1, ground := Go.Ground.data }], guard := none }) rfl (fun K hK => ?_) ?_
            ·
              have estr := Bs.str (P := Tryd.prog) hT.fact.2 (src := 22) (dst := 9) Tryd.underlying22 Tryd.underlying5 Tryd.underlying9
              go_simp
              refine hK.out _ _ ?_ (fun hHeld2 => ?_)
              · (try dsimp only); (try trivial)
              clear hK K hHeld
              have hHeld := hHeld2
              clear hHeld2
              try simp only [Act.put, List.setIfInBounds_toArray, List.set_cons_zero, List.set_cons_succ]
              refine wpAnyH_ready (rs := [7]) (by kernel_rfl) (by simp) ?_
              refine AllReadyH.cons (o := { dst := some 84, op := Go.Op.convert 22 9 (Go.Operand.tmp 83), type := 9, pos := "law.go:126", after := #[{ on := 6, ground := Go.Ground.data }], guard := none }) rfl (fun K hK => ?_) AllReadyH.nil
              have rstr := Bs.str (P := Tryd.prog) hT.bs (src := 22) (dst := 9) Tryd.underlying22 Tryd.underlying5 Tryd.underlying9
              go_simp
              refine hK.out _ _ ?_ (fun hHeld2 => ?_)
              · (try dsimp only); (try trivial)
              clear hK K hHeld
              have hHeld := hHeld2
              clear hHeld2
              try simp only [Act.put, List.setIfInBounds_toArray, List.set_cons_zero, List.set_cons_succ]
              refine wpAnyH_take (i := 8) (oi := { dst := some 85, op := Go.Op.binOp Go.BinOp.eql 9 (Go.Operand.tmp 79) (Go.Operand.tmp 84) 9, type := 4, pos := "law.go:126", after := #[{ on := 2, ground := Go.Ground.data }, { on := 7, ground := Go.Ground.data }], guard := none }) (v := ?v7) rfl (by kernel_rfl) (by kernel_rfl) (by kernel_rfl) (fun _ _ _ h => h) (Or.inl ⟨by rfl, ?hy7⟩) (by assumption) ?rest7
              case hy7 => (intro w hSw; (try dsimp only at hSw); go_simp <;> with_reducible rfl)
              try simp only [Act.put, List.setIfInBounds_toArray, List.set_cons_zero, List.set_cons_succ]
              refine wpAnyH_take (i := 9) (oi := { dst := some 4, op := Go.Op.assign (Go.Operand.tmp 85), type := 4, pos := "law.go:126", after := #[{ on := 8, ground := Go.Ground.data }, { on := 1, ground := Go.Ground.chain }, { on := 0, ground := Go.Ground.phase }, { on := 1, ground := Go.Ground.phase }, { on := 2, ground := Go.Ground.phase }, { on := 3, ground := Go.Ground.phase }, { on := 4, ground := Go.Ground.phase }, { on := 5, ground := Go.Ground.phase }, { on := 6, ground := Go.Ground.phase }, { on := 7, ground := Go.Ground.phase }, { on := 8, ground := Go.Ground.phase }], guard := none }) (v := ?v8) rfl (by kernel_rfl) (by kernel_rfl) (by kernel_rfl) (fun _ _ _ h => h) (Or.inl ⟨by rfl, ?hy8⟩) (by assumption) ?rest8
              case hy8 => (intro w hSw; (try dsimp only at hSw); go_simp <;> with_reducible rfl)
              try simp only [Act.put, List.setIfInBounds_toArray, List.set_cons_zero, List.set_cons_succ]
              refine wpAnyH_done (by kernel_rfl) ?_ _
              refine NoPanic.normal ?_
              go_wp2
              go_ret
              exact ⟨rfl, hT.two.bel⟩
            refine AllReadyH.cons (o := { dst := some 84, op := Go.Op.convert 22 9 (Go.Operand.tmp 83), type := 9, pos := "law.go:126", after := #[{ on := 6, ground := Go.Ground.data }], guard := none }) rfl (fun K hK => ?_) ?_
            ·
              have rstr := Bs.str (P := Tryd.prog) hT.bs (src := 22) (dst := 9) Tryd.underlying22 Tryd.underlying5 Tryd.underlying9
              go_simp
              refine hK.out _ _ ?_ (fun hHeld2 => ?_)
              · (try dsimp only); (try trivial)
              clear hK K hHeld
              have hHeld := hHeld2
              clear hHeld2
              try simp only [Act.put, List.setIfInBounds_toArray, List.set_cons_zero, List.set_cons_succ]
              refine wpAnyH_ready (rs := [2]) (by kernel_rfl) (by simp) ?_
              refine AllReadyH.cons (o := { dst := some 79, op := Go.Op.convert 22 9 (Go.Operand.tmp 78), type := 9, pos := "law.go:126", after := #[{ on := 1, ground := Go.Ground.data }], guard := none }) rfl (fun K hK => ?_) AllReadyH.nil
              have estr := Bs.str (P := Tryd.prog) hT.fact.2 (src := 22) (dst := 9) Tryd.underlying22 Tryd.underlying5 Tryd.underlying9
              go_simp
              refine hK.out _ _ ?_ (fun hHeld2 => ?_)
              · (try dsimp only); (try trivial)
              clear hK K hHeld
              have hHeld := hHeld2
              clear hHeld2
              try simp only [Act.put, List.setIfInBounds_toArray, List.set_cons_zero, List.set_cons_succ]
              refine wpAnyH_take (i := 8) (oi := { dst := some 85, op := Go.Op.binOp Go.BinOp.eql 9 (Go.Operand.tmp 79) (Go.Operand.tmp 84) 9, type := 4, pos := "law.go:126", after := #[{ on := 2, ground := Go.Ground.data }, { on := 7, ground := Go.Ground.data }], guard := none }) (v := ?v9) rfl (by kernel_rfl) (by kernel_rfl) (by kernel_rfl) (fun _ _ _ h => h) (Or.inl ⟨by rfl, ?hy9⟩) (by assumption) ?rest9
              case hy9 => (intro w hSw; (try dsimp only at hSw); go_simp <;> with_reducible rfl)
              try simp only [Act.put, List.setIfInBounds_toArray, List.set_cons_zero, List.set_cons_succ]
              refine wpAnyH_take (i := 9) (oi := { dst := some 4, op := Go.Op.assign (Go.Operand.tmp 85), type := 4, pos := "law.go:126", after := #[{ on := 8, ground := Go.Ground.data }, { on := 1, ground := Go.Ground.chain }, { on := 0, ground := Go.Ground.phase }, { on := 1, ground := Go.Ground.phase }, { on := 2, ground := Go.Ground.phase }, { on := 3, ground := Go.Ground.phase }, { on := 4, ground := Go.Ground.phase }, { on := 5, ground := Go.Ground.phase }, { on := 6, ground := Go.Ground.phase }, { on := 7, ground := Go.Ground.phase }, { on := 8, ground := Go.Ground.phase }], guard := none }) (v := ?v10) rfl (by kernel_rfl) (by kernel_rfl) (by kernel_rfl) (fun _ _ _ h => h) (Or.inl ⟨by rfl, ?hy10⟩) (by assumption) ?rest10
              case hy10 => (intro w hSw; (try dsimp only at hSw); go_simp <;> with_reducible rfl)
              try simp only [Act.put, List.setIfInBounds_toArray, List.set_cons_zero, List.set_cons_succ]
              refine wpAnyH_done (by kernel_rfl) ?_ _
              refine NoPanic.normal ?_
              go_wp2
              go_ret
              exact ⟨rfl, hT.two.bel⟩
            exact AllReadyH.nil
          exact AllReadyH.nil
        refine AllReadyH.cons (o := { dst := some 83, op := Go.Op.load 22 (Go.Operand.tmp 82), type := 22, pos := "law.go:126", after := #[{ on := 5, ground := Go.Ground.data }], guard := none }) rfl (fun K hK => ?_) ?_
        ·
          have rc := hT.cell
          go_simp
          refine hK.out _ _ ?_ (fun hHeld2 => ?_)
          · (try dsimp only); (try trivial)
          clear hK K hHeld
          have hHeld := hHeld2
          clear hHeld2
          try simp only [Act.put, List.setIfInBounds_toArray, List.set_cons_zero, List.set_cons_succ]
          refine wpAnyH_ready (rs := [1, 7]) (by kernel_rfl) (by simp) ?_
          refine AllReadyH.cons (o := { dst := some 78, op := Go.Op.call { callee := Go.Callee.value (Go.Operand.func 17), args := #[Go.Operand.tmp 77], argTypes := #[24] }, type := 22, pos := "law.go:126", after := #[{ on := 0, ground := Go.Ground.data }], guard := none }) rfl (fun K hK => ?_) ?_
          ·
            go_simp
            go_at_call 17; refine (hT.load (fun B O hP hB => mBytes hP hB)).mono ?_; rintro e w5 ⟨v5, rfl, hT2⟩; obtain ⟨a5, c5, rfl, hle5⟩ := hT2.fact.2.len; clear hle5; clear hT; have hT := hT2; clear hT2
            refine hK.out _ _ ?_ (fun hHeld2 => ?_)
            · (try dsimp only); (try trivial)
            clear hK K hHeld
            have hHeld := hHeld2
            clear hHeld2
            try simp only [Act.put, List.setIfInBounds_toArray, List.set_cons_zero, List.set_cons_succ]
            refine wpAnyH_ready (rs := [2, 7]) (by kernel_rfl) (by simp) ?_
            refine AllReadyH.cons (o := { dst := some 79, op := Go.Op.convert 22 9 (Go.Operand.tmp 78), type := 9, pos := "law.go:126", after := #[{ on := 1, ground := Go.Ground.data }], guard := none }) rfl (fun K hK => ?_) ?_
            ·
              have estr := Bs.str (P := Tryd.prog) hT.fact.2 (src := 22) (dst := 9) Tryd.underlying22 Tryd.underlying5 Tryd.underlying9
              go_simp
              refine hK.out _ _ ?_ (fun hHeld2 => ?_)
              · (try dsimp only); (try trivial)
              clear hK K hHeld
              have hHeld := hHeld2
              clear hHeld2
              try simp only [Act.put, List.setIfInBounds_toArray, List.set_cons_zero, List.set_cons_succ]
              refine wpAnyH_ready (rs := [7]) (by kernel_rfl) (by simp) ?_
              refine AllReadyH.cons (o := { dst := some 84, op := Go.Op.convert 22 9 (Go.Operand.tmp 83), type := 9, pos := "law.go:126", after := #[{ on := 6, ground := Go.Ground.data }], guard := none }) rfl (fun K hK => ?_) AllReadyH.nil
              have rstr := Bs.str (P := Tryd.prog) hT.bs (src := 22) (dst := 9) Tryd.underlying22 Tryd.underlying5 Tryd.underlying9
              go_simp
              refine hK.out _ _ ?_ (fun hHeld2 => ?_)
              · (try dsimp only); (try trivial)
              clear hK K hHeld
              have hHeld := hHeld2
              clear hHeld2
              try simp only [Act.put, List.setIfInBounds_toArray, List.set_cons_zero, List.set_cons_succ]
              refine wpAnyH_take (i := 8) (oi := { dst := some 85, op := Go.Op.binOp Go.BinOp.eql 9 (Go.Operand.tmp 79) (Go.Operand.tmp 84) 9, type := 4, pos := "law.go:126", after := #[{ on := 2, ground := Go.Ground.data }, { on := 7, ground := Go.Ground.data }], guard := none }) (v := ?v11) rfl (by kernel_rfl) (by kernel_rfl) (by kernel_rfl) (fun _ _ _ h => h) (Or.inl ⟨by rfl, ?hy11⟩) (by assumption) ?rest11
              case hy11 => (intro w hSw; (try dsimp only at hSw); go_simp <;> with_reducible rfl)
              try simp only [Act.put, List.setIfInBounds_toArray, List.set_cons_zero, List.set_cons_succ]
              refine wpAnyH_take (i := 9) (oi := { dst := some 4, op := Go.Op.assign (Go.Operand.tmp 85), type := 4, pos := "law.go:126", after := #[{ on := 8, ground := Go.Ground.data }, { on := 1, ground := Go.Ground.chain }, { on := 0, ground := Go.Ground.phase }, { on := 1, ground := Go.Ground.phase }, { on := 2, ground := Go.Ground.phase }, { on := 3, ground := Go.Ground.phase }, { on := 4, ground := Go.Ground.phase }, { on := 5, ground := Go.Ground.phase }, { on := 6, ground := Go.Ground.phase }, { on := 7, ground := Go.Ground.phase }, { on := 8, ground := Go.Ground.phase }], guard := none }) (v := ?v12) rfl (by kernel_rfl) (by kernel_rfl) (by kernel_rfl) (fun _ _ _ h => h) (Or.inl ⟨by rfl, ?hy12⟩) (by assumption) ?rest12
              case hy12 => (intro w hSw; (try dsimp only at hSw); go_simp <;> with_reducible rfl)
              try simp only [Act.put, List.setIfInBounds_toArray, List.set_cons_zero, List.set_cons_succ]
              refine wpAnyH_done (by kernel_rfl) ?_ _
              refine NoPanic.normal ?_
              go_wp2
              go_ret
              exact ⟨rfl, hT.two.bel⟩
            refine AllReadyH.cons (o := { dst := some 84, op := Go.Op.convert 22 9 (Go.Operand.tmp 83), type := 9, pos := "law.go:126", after := #[{ on := 6, ground := Go.Ground.data }], guard := none }) rfl (fun K hK => ?_) ?_
            ·
              have rstr := Bs.str (P := Tryd.prog) hT.bs (src := 22) (dst := 9) Tryd.underlying22 Tryd.underlying5 Tryd.underlying9
              go_simp
              refine hK.out _ _ ?_ (fun hHeld2 => ?_)
              · (try dsimp only); (try trivial)
              clear hK K hHeld
              have hHeld := hHeld2
              clear hHeld2
              try simp only [Act.put, List.setIfInBounds_toArray, List.set_cons_zero, List.set_cons_succ]
              refine wpAnyH_ready (rs := [2]) (by kernel_rfl) (by simp) ?_
              refine AllReadyH.cons (o := { dst := some 79, op := Go.Op.convert 22 9 (Go.Operand.tmp 78), type := 9, pos := "law.go:126", after := #[{ on := 1, ground := Go.Ground.data }], guard := none }) rfl (fun K hK => ?_) AllReadyH.nil
              have estr := Bs.str (P := Tryd.prog) hT.fact.2 (src := 22) (dst := 9) Tryd.underlying22 Tryd.underlying5 Tryd.underlying9
              go_simp
              refine hK.out _ _ ?_ (fun hHeld2 => ?_)
              · (try dsimp only); (try trivial)
              clear hK K hHeld
              have hHeld := hHeld2
              clear hHeld2
              try simp only [Act.put, List.setIfInBounds_toArray, List.set_cons_zero, List.set_cons_succ]
              refine wpAnyH_take (i := 8) (oi := { dst := some 85, op := Go.Op.binOp Go.BinOp.eql 9 (Go.Operand.tmp 79) (Go.Operand.tmp 84) 9, type := 4, pos := "law.go:126", after := #[{ on := 2, ground := Go.Ground.data }, { on := 7, ground := Go.Ground.data }], guard := none }) (v := ?v13) rfl (by kernel_rfl) (by kernel_rfl) (by kernel_rfl) (fun _ _ _ h => h) (Or.inl ⟨by rfl, ?hy13⟩) (by assumption) ?rest13
              case hy13 => (intro w hSw; (try dsimp only at hSw); go_simp <;> with_reducible rfl)
              try simp only [Act.put, List.setIfInBounds_toArray, List.set_cons_zero, List.set_cons_succ]
              refine wpAnyH_take (i := 9) (oi := { dst := some 4, op := Go.Op.assign (Go.Operand.tmp 85), type := 4, pos := "law.go:126", after := #[{ on := 8, ground := Go.Ground.data }, { on := 1, ground := Go.Ground.chain }, { on := 0, ground := Go.Ground.phase }, { on := 1, ground := Go.Ground.phase }, { on := 2, ground := Go.Ground.phase }, { on := 3, ground := Go.Ground.phase }, { on := 4, ground := Go.Ground.phase }, { on := 5, ground := Go.Ground.phase }, { on := 6, ground := Go.Ground.phase }, { on := 7, ground := Go.Ground.phase }, { on := 8, ground := Go.Ground.phase }], guard := none }) (v := ?v14) rfl (by kernel_rfl) (by kernel_rfl) (by kernel_rfl) (fun _ _ _ h => h) (Or.inl ⟨by rfl, ?hy14⟩) (by assumption) ?rest14
              case hy14 => (intro w hSw; (try dsimp only at hSw); go_simp <;> with_reducible rfl)
              try simp only [Act.put, List.setIfInBounds_toArray, List.set_cons_zero, List.set_cons_succ]
              refine wpAnyH_done (by kernel_rfl) ?_ _
              refine NoPanic.normal ?_
              go_wp2
              go_ret
              exact ⟨rfl, hT.two.bel⟩
            exact AllReadyH.nil
          refine AllReadyH.cons (o := { dst := some 84, op := Go.Op.convert 22 9 (Go.Operand.tmp 83), type := 9, pos := "law.go:126", after := #[{ on := 6, ground := Go.Ground.data }], guard := none }) rfl (fun K hK => ?_) ?_
          ·
            have rstr := Bs.str (P := Tryd.prog) hT.bs (src := 22) (dst := 9) Tryd.underlying22 Tryd.underlying5 Tryd.underlying9
            go_simp
            refine hK.out _ _ ?_ (fun hHeld2 => ?_)
            · (try dsimp only); (try trivial)
            clear hK K hHeld
            have hHeld := hHeld2
            clear hHeld2
            try simp only [Act.put, List.setIfInBounds_toArray, List.set_cons_zero, List.set_cons_succ]
            refine wpAnyH_ready (rs := [1]) (by kernel_rfl) (by simp) ?_
            refine AllReadyH.cons (o := { dst := some 78, op := Go.Op.call { callee := Go.Callee.value (Go.Operand.func 17), args := #[Go.Operand.tmp 77], argTypes := #[24] }, type := 22, pos := "law.go:126", after := #[{ on := 0, ground := Go.Ground.data }], guard := none }) rfl (fun K hK => ?_) AllReadyH.nil
            go_simp
            go_at_call 17; refine (hT.load (fun B O hP hB => mBytes hP hB)).mono ?_; rintro e w5 ⟨v5, rfl, hT2⟩; obtain ⟨a5, c5, rfl, hle5⟩ := hT2.fact.2.len; clear hle5; clear hT; have hT := hT2; clear hT2
            refine hK.out _ _ ?_ (fun hHeld2 => ?_)
            · (try dsimp only); (try trivial)
            clear hK K hHeld
            have hHeld := hHeld2
            clear hHeld2
            try simp only [Act.put, List.setIfInBounds_toArray, List.set_cons_zero, List.set_cons_succ]
            refine wpAnyH_ready (rs := [2]) (by kernel_rfl) (by simp) ?_
            refine AllReadyH.cons (o := { dst := some 79, op := Go.Op.convert 22 9 (Go.Operand.tmp 78), type := 9, pos := "law.go:126", after := #[{ on := 1, ground := Go.Ground.data }], guard := none }) rfl (fun K hK => ?_) AllReadyH.nil
            have estr := Bs.str (P := Tryd.prog) hT.fact.2 (src := 22) (dst := 9) Tryd.underlying22 Tryd.underlying5 Tryd.underlying9
            go_simp
            refine hK.out _ _ ?_ (fun hHeld2 => ?_)
            · (try dsimp only); (try trivial)
            clear hK K hHeld
            have hHeld := hHeld2
            clear hHeld2
            try simp only [Act.put, List.setIfInBounds_toArray, List.set_cons_zero, List.set_cons_succ]
            refine wpAnyH_take (i := 8) (oi := { dst := some 85, op := Go.Op.binOp Go.BinOp.eql 9 (Go.Operand.tmp 79) (Go.Operand.tmp 84) 9, type := 4, pos := "law.go:126", after := #[{ on := 2, ground := Go.Ground.data }, { on := 7, ground := Go.Ground.data }], guard := none }) (v := ?v15) rfl (by kernel_rfl) (by kernel_rfl) (by kernel_rfl) (fun _ _ _ h => h) (Or.inl ⟨by rfl, ?hy15⟩) (by assumption) ?rest15
            case hy15 => (intro w hSw; (try dsimp only at hSw); go_simp <;> with_reducible rfl)
            try simp only [Act.put, List.setIfInBounds_toArray, List.set_cons_zero, List.set_cons_succ]
            refine wpAnyH_take (i := 9) (oi := { dst := some 4, op := Go.Op.assign (Go.Operand.tmp 85), type := 4, pos := "law.go:126", after := #[{ on := 8, ground := Go.Ground.data }, { on := 1, ground := Go.Ground.chain }, { on := 0, ground := Go.Ground.phase }, { on := 1, ground := Go.Ground.phase }, { on := 2, ground := Go.Ground.phase }, { on := 3, ground := Go.Ground.phase }, { on := 4, ground := Go.Ground.phase }, { on := 5, ground := Go.Ground.phase }, { on := 6, ground := Go.Ground.phase }, { on := 7, ground := Go.Ground.phase }, { on := 8, ground := Go.Ground.phase }], guard := none }) (v := ?v16) rfl (by kernel_rfl) (by kernel_rfl) (by kernel_rfl) (fun _ _ _ h => h) (Or.inl ⟨by rfl, ?hy16⟩) (by assumption) ?rest16
            case hy16 => (intro w hSw; (try dsimp only at hSw); go_simp <;> with_reducible rfl)
            try simp only [Act.put, List.setIfInBounds_toArray, List.set_cons_zero, List.set_cons_succ]
            refine wpAnyH_done (by kernel_rfl) ?_ _
            refine NoPanic.normal ?_
            go_wp2
            go_ret
            exact ⟨rfl, hT.two.bel⟩
          exact AllReadyH.nil
        exact AllReadyH.nil
end Go.Proofs.YtjkpapkjlmglbaaDoor
