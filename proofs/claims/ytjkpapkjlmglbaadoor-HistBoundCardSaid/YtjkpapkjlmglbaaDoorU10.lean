/- 'Add'. -/
import Derived.Test.YtjkpapkjlmglbaaDoorU9
import Derived.Test.YtjkpapkjlmglbaaDoorUR
namespace Go.Proofs.YtjkpapkjlmglbaaDoor
open Go.RowKit
set_option linter.unusedVariables false
set_option linter.unusedSimpArgs false
attribute [local go_sem] cell_set set_set m_undef

theorem One.memK {W w : World} {B mb : Nat} {M : List UInt8} {O0 : Nat → Prop} {K : Kp} (h : One W w B mb M O0 K) {f : Nat} {args : Array Value} {M' : List UInt8} {v : Value} (c : ∀ O, MemP w B mb M O → B ≤ w.heap.size → Keep w O K → Calls Tryd.prog f args w fun e w' => MemQ w w' B mb M' O v e) :
    Calls Tryd.prog f args w fun e w' => e = .returned v ∧ One W w' B mb M' O0 K := by
  obtain ⟨O, h1, h2, h3, h4⟩ := h
  refine (c O h1 (Nat.le_trans h4 h2.size) h3).mono fun e w' ⟨he, O', h5, h6⟩ => ⟨he, O', h5, h2.trans h6, h3.turn h6, h4⟩
/-- The memory behind a text that is laid into the log. -/
def addN (M s : List UInt8) : List UInt8 := layL (layL M 5632 (putL (List.replicate 2 0) 0 s.length 2)) 5634 s
def addM (M l : List UInt8) : List UInt8 := addN M (addL (textV M) l)
theorem own_ext (l : List UInt8) (S : ByteArray) (hS : S = ⟨l.toArray⟩) (k : Nat) : S.extract 0 k = ⟨(l.take k).toArray⟩ := by
  subst hS
  rw [Lib.extract_eq]
  simp
attribute [local irreducible] textV layL putL fitL
set_option maxRecDepth 100000 in
set_option maxHeartbeats 4000000 in
theorem wAdd {w : World} {B mb : Nat} {M : List UInt8} {O : Nat → Prop} (h : MemP w B mb M O) (hB : B ≤ w.heap.size) (hK : Keep w O PW) (l : List UInt8) (hl : l.length ≤ 140737488355328) :
    Calls Tryd.prog 14 #[.pointer (some ⟨mb, 0, none⟩), .string ⟨l.toArray⟩] w fun e w' => MemQ w w' B mb (addM M l) O (.tuple #[]) e := by
  have hS := One.startK h hB hK
  have hTx := Lib.hid (fun (w9 : World) (O : Nat → Prop) (h : MemP w9 B mb M O) (hb : B ≤ w9.heap.size) => wText h hb)
  have htl := textV_len M
  have hRp := fun (w9 : World) => replace_any l w9 hl
  have how : ownL l = (l.filter (fun c => decide (c ≠ 10))).take 200 := rfl
  have hol := ownL_len l
  unfold addM addL
  generalize textV M = t at *
  generalize l.filter (fun c => decide (c ≠ 10)) = f at *
  obtain ⟨F, hF⟩ : ∃ F, F = fitL (t ++ ownL l ++ [10]) := ⟨_, rfl⟩
  rw [← hF]
  obtain ⟨MM, hMM⟩ : ∃ MM, MM = addN M F := ⟨_, rfl⟩
  rw [← hMM]
  replace hMM := Lib.hid hMM
  generalize ownL l = ow at *
  obtain ⟨S, hSe⟩ : ∃ S : ByteArray, S = ⟨f.toArray⟩ := ⟨_, rfl⟩
  obtain ⟨OW, hOW⟩ : ∃ OW : ByteArray, OW = ⟨ow.toArray⟩ := ⟨_, rfl⟩
  rw [← hSe] at hRp
  have hSz : S.size = f.length := by rw [hSe, str_size]
  have hexB : 200 < S.size → S.extract 0 200 = OW := fun _ => by rw [own_ext f S hSe 200, hOW, how]
  have hexA : ¬ 200 < S.size → S.extract 0 S.size = OW := fun hc => by rw [own_ext f S hSe, hOW, how, hSz, List.take_of_length_le (Nat.le_refl _), List.take_of_length_le (by omega)]
  have hJn : ∀ w9 : World, Calls Tryd.prog 22 #[.slice (some ⟨w9.heap.size, 0, none⟩) 3 3] (w9.alloc (.cells #[.string ⟨t.toArray⟩, .string OW, .string ⟨#[10]⟩] 9)) fun e w' => e = .returned (.string ⟨(t ++ ow ++ [10]).toArray⟩) ∧ Below (w9.alloc (.cells #[.string ⟨t.toArray⟩, .string OW, .string ⟨#[10]⟩] 9)).heap.size (w9.alloc (.cells #[.string ⟨t.toArray⟩, .string OW, .string ⟨#[10]⟩] 9)) w' := fun w9 => by
    have h9 := wJoined (w9.alloc (.cells #[.string ⟨t.toArray⟩, .string OW, .string ⟨#[10]⟩] 9)) (.slice (some ⟨w9.heap.size, 0, none⟩) 3 3) [t, ow, [10]] (by
      rw [hOW]
      exact (Vs.of_blk (Blk.new w9 #[.string ⟨t.toArray⟩, .string ⟨ow.toArray⟩, .string ⟨#[10]⟩] 9) rfl (Nat.le_refl _) (Nat.le_refl _) (fun j u hj => by simpa [sl] using hj) (fun u hu => by unfold sl at hu; obtain ⟨x, _, rfl⟩ := List.mem_map.1 hu; rfl) (Nat.zero_le _)).rv) (by simp; omega) (by simp)
    have e : [t, ow, [10]].flatten = t ++ ow ++ [10] := by simp
    rw [e] at h9
    exact h9
  have hj5 := Lib.hid (show (t ++ ow ++ [10]).length ≤ 1000 by simp; omega)
  have hj6 := Lib.hid (show fitL (t ++ ow ++ [10]) = F from hF.symm)
  generalize t ++ ow ++ [10] = s0 at *
  replace hRp := Lib.hid hRp
  replace hJn := Lib.hid hJn
  clear h hB hK hF hSe hOW hSz how htl hol hl
  by_cases hc : 200 < S.size
  · have t1 : min (S.size : Int) 200 = 200 := by omega
    have i1 : (200 : Int) ≤ (S.size : Int) := by omega
    have hex : S.extract 0 200 = OW := hexB hc
    clear hc hexA hexB
    go_enter Tryd.func14, Tryd.ntmps14
    go_upto_region 1 with (go_at_call 23; refine (hS.still (hRp.out _)).mono ?_; rintro e w2 ⟨rfl, hS2⟩; clear hS; have hS := hS2; clear hS2)
    replace hS := hS.drew
    refine wp_region_noPanic ?_
    refine wp_region_held_drew (S := (fun _ => True)) (by kernel_rfl) ?_ (fun hHeld => ?_)
    · (try dsimp only); (try trivial)
    refine wpAnyH_take (i := 0) (oi := { dst := some 8, op := Go.Op.move (Go.Operand.tmp 0), type := 24, pos := "hist.go:61", after := #[], guard := none }) (v := ?v1) rfl (by kernel_rfl) (by kernel_rfl) (by kernel_rfl) (fun _ _ _ h => h) (Or.inl ⟨by rfl, ?hy1⟩) (by assumption) ?rest1
    case hy1 => (intro w hSw; (try dsimp only at hSw); go_simp <;> with_reducible rfl)
    try simp only [Act.put, List.setIfInBounds_toArray, List.set_cons_zero, List.set_cons_succ]
    refine wpAnyH_take (i := 2) (oi := { dst := some 10, op := Go.Op.move (Go.Operand.tmp 4), type := 9, pos := "hist.go:61", after := #[], guard := none }) (v := ?v2) rfl (by kernel_rfl) (by kernel_rfl) (by kernel_rfl) (fun _ _ _ h => h) (Or.inl ⟨by rfl, ?hy2⟩) (by assumption) ?rest2
    case hy2 => (intro w hSw; (try dsimp only at hSw); go_simp <;> with_reducible rfl)
    try simp only [Act.put, List.setIfInBounds_toArray, List.set_cons_zero, List.set_cons_succ]
    refine wpAnyH_take (i := 3) (oi := { dst := some 11, op := Go.Op.move (Go.Operand.tmp 4), type := 9, pos := "hist.go:61", after := #[], guard := none }) (v := ?v3) rfl (by kernel_rfl) (by kernel_rfl) (by kernel_rfl) (fun _ _ _ h => h) (Or.inl ⟨by rfl, ?hy3⟩) (by assumption) ?rest3
    case hy3 => (intro w hSw; (try dsimp only at hSw); go_simp <;> with_reducible rfl)
    try simp only [Act.put, List.setIfInBounds_toArray, List.set_cons_zero, List.set_cons_succ]
    refine wpAnyH_take (i := 4) (oi := { dst := some 12, op := Go.Op.call { callee := Go.Callee.builtin Go.Builtin.len, args := #[Go.Operand.tmp 11], argTypes := #[9] }, type := 3, pos := "hist.go:61", after := #[{ on := 3, ground := Go.Ground.data }], guard := none }) (v := ?v4) rfl (by kernel_rfl) (by kernel_rfl) (by kernel_rfl) (fun _ _ _ h => h) (Or.inl ⟨by rfl, ?hy4⟩) (by assumption) ?rest4
    case hy4 => (intro w hSw; (try dsimp only at hSw); go_simp <;> with_reducible rfl)
    try simp only [Act.put, List.setIfInBounds_toArray, List.set_cons_zero, List.set_cons_succ]
    refine wpAnyH_take (i := 5) (oi := { dst := some 13, op := Go.Op.call { callee := Go.Callee.builtin Go.Builtin.min, args := #[Go.Operand.tmp 12, Go.Operand.const (Go.Value.int Go.IntKind.i64 200)], argTypes := #[3, 3] }, type := 3, pos := "hist.go:61", after := #[{ on := 4, ground := Go.Ground.data }], guard := none }) (v := ?v5) rfl (by kernel_rfl) (by kernel_rfl) (by kernel_rfl) (fun _ _ _ h => h) (Or.inl ⟨by rfl, ?hy5⟩) (by assumption) ?rest5
    case hy5 => (intro w hSw; (try dsimp only at hSw); go_simp <;> with_reducible rfl)
    try simp only [Act.put, List.setIfInBounds_toArray, List.set_cons_zero, List.set_cons_succ]
    refine wpAnyH_take (i := 6) (oi := { dst := some 14, op := Go.Op.slice 9 (Go.Operand.tmp 10) none (some (Go.Operand.tmp 13)) none, type := 9, pos := "hist.go:61", after := #[{ on := 2, ground := Go.Ground.data }, { on := 5, ground := Go.Ground.data }], guard := none }) (v := ?v6) rfl (by kernel_rfl) (by kernel_rfl) (by kernel_rfl) (fun _ _ _ h => h) (Or.inl ⟨by rfl, ?hy6⟩) (by assumption) ?rest6
    case hy6 => (intro w hSw; (try dsimp only at hSw); go_simp <;> with_reducible rfl)
    try simp only [Act.put, List.setIfInBounds_toArray, List.set_cons_zero, List.set_cons_succ]
    refine wpAnyH_ready (rs := [1]) (by kernel_rfl) (by simp) ?_
    refine AllReadyH.cons (o := { dst := some 9, op := Go.Op.call { callee := Go.Callee.value (Go.Operand.func 19), args := #[Go.Operand.tmp 8], argTypes := #[24] }, type := 9, pos := "hist.go:61", after := #[{ on := 0, ground := Go.Ground.data }], guard := none }) rfl (fun K hK => ?_) AllReadyH.nil
    go_simp
    go_at_call 19; refine (hS.mem (fun O h hb => hTx.out _ _ h hb)).mono ?_; rintro e w3 ⟨rfl, hS2⟩; clear hS; have hS := hS2; clear hS2
    refine hK.out _ _ ?_ (fun hHeld2 => ?_)
    · (try dsimp only); (try trivial)
    clear hK K hHeld
    have hHeld := hHeld2
    clear hHeld2
    try simp only [Act.put, List.setIfInBounds_toArray, List.set_cons_zero, List.set_cons_succ]
    refine wpAnyH_ready (rs := [7]) (by kernel_rfl) (by simp) ?_
    refine AllReadyH.cons (o := { dst := some 15, op := Go.Op.buildSlice 29 3 #[(0, Go.Operand.tmp 9), (1, Go.Operand.tmp 14), (2, Go.Operand.const (Go.Value.string { data := #[10] }))], type := 29, pos := "hist.go:61", after := #[{ on := 1, ground := Go.Ground.data }, { on := 6, ground := Go.Ground.data }], guard := none }) rfl (fun K hK => ?_) AllReadyH.nil
    go_simp
    refine hK.out _ _ ?_ (fun hHeld2 => ?_)
    · (try dsimp only); (try trivial)
    clear hK K hHeld
    have hHeld := hHeld2
    clear hHeld2
    try simp only [Act.put, List.setIfInBounds_toArray, List.set_cons_zero, List.set_cons_succ]
    refine wpAnyH_ready (rs := [8]) (by kernel_rfl) (by simp) ?_
    refine AllReadyH.cons (o := { dst := some 16, op := Go.Op.call { callee := Go.Callee.value (Go.Operand.func 22), args := #[Go.Operand.tmp 15], argTypes := #[29] }, type := 9, pos := "hist.go:61", after := #[{ on := 7, ground := Go.Ground.data }, { on := 1, ground := Go.Ground.chain }], guard := none }) rfl (fun K hK => ?_) AllReadyH.nil
    go_simp
    go_at_call 22; refine ((hS.alloc (.cells #[.string ⟨t.toArray⟩, .string OW, .string ⟨#[10]⟩] 9)).still (hJn.out _)).mono ?_; rintro e w4 ⟨rfl, hS2⟩; clear hS; have hS := hS2; clear hS2
    refine hK.out _ _ ?_ (fun hHeld2 => ?_)
    · (try dsimp only); (try trivial)
    clear hK K hHeld
    have hHeld := hHeld2
    clear hHeld2
    try simp only [Act.put, List.setIfInBounds_toArray, List.set_cons_zero, List.set_cons_succ]
    refine wpAnyH_take (i := 9) (oi := { dst := some 5, op := Go.Op.assign (Go.Operand.tmp 16), type := 9, pos := "hist.go:61", after := #[{ on := 8, ground := Go.Ground.data }, { on := 8, ground := Go.Ground.chain }, { on := 0, ground := Go.Ground.phase }, { on := 1, ground := Go.Ground.phase }, { on := 2, ground := Go.Ground.phase }, { on := 3, ground := Go.Ground.phase }, { on := 4, ground := Go.Ground.phase }, { on := 5, ground := Go.Ground.phase }, { on := 6, ground := Go.Ground.phase }, { on := 7, ground := Go.Ground.phase }, { on := 8, ground := Go.Ground.phase }], guard := none }) (v := ?v7) rfl (by kernel_rfl) (by kernel_rfl) (by kernel_rfl) (fun _ _ _ h => h) (Or.inl ⟨by rfl, ?hy7⟩) (by assumption) ?rest7
    case hy7 => (intro w hSw; (try dsimp only at hSw); go_simp <;> with_reducible rfl)
    try simp only [Act.put, List.setIfInBounds_toArray, List.set_cons_zero, List.set_cons_succ]
    refine wpAnyH_done (by kernel_rfl) ?_ _
    refine NoPanic.normal ?_
    go_wp2
    go_loopw [5] (fun u wr => ∃ s : List UInt8, u = .string ⟨s.toArray⟩ ∧ s.length ≤ 1000 ∧ fitL s = F ∧ One w wr B mb M O PW) (fun u wr => strLenC (some u))
    case atStart => exact ⟨_, rfl, hj5.out, hj6.out, hS⟩
    case round =>
      clear hS
      obtain ⟨s, rfl, hs1, hsF, hS⟩ := hrel
      by_cases hlt : 510 < s.length
      · have t2 : ((510 : Int) < (s.length : Int)) = True := eq_true (by omega)
        have hC := fun (w9 : World) (h9 : MaxB w9) => cut_ s w9 h9 (by omega)
        have hst := fitL_step s hlt
        have hr := cut_rest_lt s (by omega)
        generalize (Lib.cut s [10]).1 = c1 at *
        generalize (Lib.cut s [10]).2.2 = c3 at *
        generalize (Lib.cut s [10]).2.1 = r at *
        rw [hsF] at hst
        have hx := Lib.hid (show fitL r = F from hst.symm)
        have hrl := Lib.hid (show r.length ≤ 1000 by omega)
        have hms := Lib.hid (show strLenC (some (.string ⟨r.toArray⟩)) < strLenC (some (.string ⟨s.toArray⟩)) by show (⟨r.toArray⟩ : ByteArray).size < (⟨s.toArray⟩ : ByteArray).size; rw [str_size, str_size]; exact hr)
        replace hC := Lib.hid hC
        clear hst hsF hs1 hr hlt
        go_wp2_with (go_at_call 24; refine (hC.out _ hS.fact.1).mono ?_; rintro e w5 ⟨rfl, n5, rfl⟩; have hS2 := hS.below (bel_drewN _ n5); clear hS; have hS := hS2; clear hS2)
        go_roundw
        case rel => exact ⟨r, rfl, hrl.out, hx.out, hS⟩
        case measure => exact hms.out
      · have t2 : ((510 : Int) < (s.length : Int)) = False := eq_false (by omega)
        rw [fitL_done s hlt] at hsF
        subst hsF
        have wu : IntKind.u64.wrap (s.length : Int) = (s.length : Int) := by rw [IntKind.wrap_u64]; omega
        have hmk := fun (w9 : World) => run_made w9 2 (by omega)
        have hbz := Lib.hid (fun (w9 : World) => (Bs.of_blk (l := List.replicate 2 0) (n := 2) (Blk.new w9 (cb (List.replicate 2 0)).toArray 5) rfl))
        obtain ⟨Zc, hZc⟩ : ∃ Zc, Zc = (cb (List.replicate 2 0)).toArray := ⟨_, rfl⟩
        rw [← hZc] at hbz
        have hmk' : ∀ w9 : World, (Instr.makeSlice 22 (.int .i64 2) (.int .i64 2)).run Tryd.prog w9 = .ok (.slice (some ⟨w9.heap.size, 0, none⟩) 2 2) (w9.alloc (.cells Zc 5)) := fun w9 => by rw [hZc]; exact hmk w9
        have hPn := Lib.hid (fun (w9 : World) (v9 : Value) (hb : Bs w9 0 v9 (List.replicate 2 0)) => wPutNum2 w9 0 v9 (List.replicate 2 0) 0 s.length hb (by unfold isI; omega) (by simp))
        have hpl := putL_len (List.replicate 2 0) 0 s.length 2
        obtain ⟨pl, hpe⟩ : ∃ pl, pl = putL (List.replicate 2 0) 0 s.length 2 := ⟨_, rfl⟩
        rw [← hpe] at hPn hpl
        have hMe := hMM.out
        unfold addN at hMe
        rw [← hpe] at hMe
        clear hMM
        subst hMe
        replace hpl : pl.length ≤ 1000000 := by rw [hpl]; simp
        have hcv := Lib.hid (fun (w9 : World) => lt_conv w9 s)
        have hs5 : s.length ≤ 1000000 := by omega
        clear hmk hlt hs1 hpe hZc
        go_wp2_with (first
          | (go_at_call 25; refine (hPn.out _ _ (hbz.out wr)).mono ?_; rintro e w6 ⟨v6, rfl, hv6, hb6⟩; have hS2 := (hS.alloc (.cells Zc 5)).newBs hb6 hv6; clear hS hv6 hb6)
          | (go_at_call_of 15 (5632 : Int); refine (hS2.memK (fun O h hb hk => mLay h hb 5632 (by unfold isI; omega) hk.right.1 hpl (fun k hk2 => (hk.right.2 k hk2).2))).mono ?_; rintro e w7 ⟨rfl, hS3⟩; clear hS2; obtain ⟨v8, w8, hrn, hv8, hb8⟩ := hcv.out w7; have hS4 := hS3.weak.newBs hb8 hv8; obtain ⟨a8, c8, rfl, hc8⟩ := hv8.len; clear hS3 hv8 hb8 hc8)
          | (go_at_call_of 15 (5634 : Int); refine (hS4.memK (fun O h hb hk => mLay h hb 5634 (by unfold isI; omega) hk.right.1 hs5 (fun k hk2 => (hk.right.2 k hk2).2))).mono ?_; rintro e w9 ⟨rfl, hS5⟩; clear hS4))
        (try go_end0)
        exact hS5.memQ _
  · have t1 : min (S.size : Int) 200 = (S.size : Int) := by omega
    have i0 : (0 : Int) ≤ (S.size : Int) := by omega
    have i1 : (S.size : Int) ≤ (S.size : Int) := by omega
    have hex : S.extract 0 S.size = OW := hexA hc
    clear hc hexA hexB
    go_enter Tryd.func14, Tryd.ntmps14
    go_upto_region 1 with (go_at_call 23; refine (hS.still (hRp.out _)).mono ?_; rintro e w2 ⟨rfl, hS2⟩; clear hS; have hS := hS2; clear hS2)
    replace hS := hS.drew
    refine wp_region_noPanic ?_
    refine wp_region_held_drew (S := (fun _ => True)) (by kernel_rfl) ?_ (fun hHeld => ?_)
    · (try dsimp only); (try trivial)
    refine wpAnyH_take (i := 0) (oi := { dst := some 8, op := Go.Op.move (Go.Operand.tmp 0), type := 24, pos := "hist.go:61", after := #[], guard := none }) (v := ?v8) rfl (by kernel_rfl) (by kernel_rfl) (by kernel_rfl) (fun _ _ _ h => h) (Or.inl ⟨by rfl, ?hy8⟩) (by assumption) ?rest8
    case hy8 => (intro w hSw; (try dsimp only at hSw); go_simp <;> with_reducible rfl)
    try simp only [Act.put, List.setIfInBounds_toArray, List.set_cons_zero, List.set_cons_succ]
    refine wpAnyH_take (i := 2) (oi := { dst := some 10, op := Go.Op.move (Go.Operand.tmp 4), type := 9, pos := "hist.go:61", after := #[], guard := none }) (v := ?v9) rfl (by kernel_rfl) (by kernel_rfl) (by kernel_rfl) (fun _ _ _ h => h) (Or.inl ⟨by rfl, ?hy9⟩) (by assumption) ?rest9
    case hy9 => (intro w hSw; (try dsimp only at hSw); go_simp <;> with_reducible rfl)
    try simp only [Act.put, List.setIfInBounds_toArray, List.set_cons_zero, List.set_cons_succ]
    refine wpAnyH_take (i := 3) (oi := { dst := some 11, op := Go.Op.move (Go.Operand.tmp 4), type := 9, pos := "hist.go:61", after := #[], guard := none }) (v := ?v10) rfl (by kernel_rfl) (by kernel_rfl) (by kernel_rfl) (fun _ _ _ h => h) (Or.inl ⟨by rfl, ?hy10⟩) (by assumption) ?rest10
    case hy10 => (intro w hSw; (try dsimp only at hSw); go_simp <;> with_reducible rfl)
    try simp only [Act.put, List.setIfInBounds_toArray, List.set_cons_zero, List.set_cons_succ]
    refine wpAnyH_take (i := 4) (oi := { dst := some 12, op := Go.Op.call { callee := Go.Callee.builtin Go.Builtin.len, args := #[Go.Operand.tmp 11], argTypes := #[9] }, type := 3, pos := "hist.go:61", after := #[{ on := 3, ground := Go.Ground.data }], guard := none }) (v := ?v11) rfl (by kernel_rfl) (by kernel_rfl) (by kernel_rfl) (fun _ _ _ h => h) (Or.inl ⟨by rfl, ?hy11⟩) (by assumption) ?rest11
    case hy11 => (intro w hSw; (try dsimp only at hSw); go_simp <;> with_reducible rfl)
    try simp only [Act.put, List.setIfInBounds_toArray, List.set_cons_zero, List.set_cons_succ]
    refine wpAnyH_take (i := 5) (oi := { dst := some 13, op := Go.Op.call { callee := Go.Callee.builtin Go.Builtin.min, args := #[Go.Operand.tmp 12, Go.Operand.const (Go.Value.int Go.IntKind.i64 200)], argTypes := #[3, 3] }, type := 3, pos := "hist.go:61", after := #[{ on := 4, ground := Go.Ground.data }], guard := none }) (v := ?v12) rfl (by kernel_rfl) (by kernel_rfl) (by kernel_rfl) (fun _ _ _ h => h) (Or.inl ⟨by rfl, ?hy12⟩) (by assumption) ?rest12
    case hy12 => (intro w hSw; (try dsimp only at hSw); go_simp <;> with_reducible rfl)
    try simp only [Act.put, List.setIfInBounds_toArray, List.set_cons_zero, List.set_cons_succ]
    refine wpAnyH_take (i := 6) (oi := { dst := some 14, op := Go.Op.slice 9 (Go.Operand.tmp 10) none (some (Go.Operand.tmp 13)) none, type := 9, pos := "hist.go:61", after := #[{ on := 2, ground := Go.Ground.data }, { on := 5, ground := Go.Ground.data }], guard := none }) (v := ?v13) rfl (by kernel_rfl) (by kernel_rfl) (by kernel_rfl) (fun _ _ _ h => h) (Or.inl ⟨by rfl, ?hy13⟩) (by assumption) ?rest13
    case hy13 => (intro w hSw; (try dsimp only at hSw); go_simp <;> with_reducible rfl)
    try simp only [Act.put, List.setIfInBounds_toArray, List.set_cons_zero, List.set_cons_succ]
    refine wpAnyH_ready (rs := [1]) (by kernel_rfl) (by simp) ?_
    refine AllReadyH.cons (o := { dst := some 9, op := Go.Op.call { callee := Go.Callee.value (Go.Operand.func 19), args := #[Go.Operand.tmp 8], argTypes := #[24] }, type := 9, pos := "hist.go:61", after := #[{ on := 0, ground := Go.Ground.data }], guard := none }) rfl (fun K hK => ?_) AllReadyH.nil
    go_simp
    go_at_call 19; refine (hS.mem (fun O h hb => hTx.out _ _ h hb)).mono ?_; rintro e w3 ⟨rfl, hS2⟩; clear hS; have hS := hS2; clear hS2
    refine hK.out _ _ ?_ (fun hHeld2 => ?_)
    · (try dsimp only); (try trivial)
    clear hK K hHeld
    have hHeld := hHeld2
    clear hHeld2
    try simp only [Act.put, List.setIfInBounds_toArray, List.set_cons_zero, List.set_cons_succ]
    refine wpAnyH_ready (rs := [7]) (by kernel_rfl) (by simp) ?_
    refine AllReadyH.cons (o := { dst := some 15, op := Go.Op.buildSlice 29 3 #[(0, Go.Operand.tmp 9), (1, Go.Operand.tmp 14), (2, Go.Operand.const (Go.Value.string { data := #[10] }))], type := 29, pos := "hist.go:61", after := #[{ on := 1, ground := Go.Ground.data }, { on := 6, ground := Go.Ground.data }], guard := none }) rfl (fun K hK => ?_) AllReadyH.nil
    go_simp
    refine hK.out _ _ ?_ (fun hHeld2 => ?_)
    · (try dsimp only); (try trivial)
    clear hK K hHeld
    have hHeld := hHeld2
    clear hHeld2
    try simp only [Act.put, List.setIfInBounds_toArray, List.set_cons_zero, List.set_cons_succ]
    refine wpAnyH_ready (rs := [8]) (by kernel_rfl) (by simp) ?_
    refine AllReadyH.cons (o := { dst := some 16, op := Go.Op.call { callee := Go.Callee.value (Go.Operand.func 22), args := #[Go.Operand.tmp 15], argTypes := #[29] }, type := 9, pos := "hist.go:61", after := #[{ on := 7, ground := Go.Ground.data }, { on := 1, ground := Go.Ground.chain }], guard := none }) rfl (fun K hK => ?_) AllReadyH.nil
    go_simp
    go_at_call 22; refine ((hS.alloc (.cells #[.string ⟨t.toArray⟩, .string OW, .string ⟨#[10]⟩] 9)).still (hJn.out _)).mono ?_; rintro e w4 ⟨rfl, hS2⟩; clear hS; have hS := hS2; clear hS2
    refine hK.out _ _ ?_ (fun hHeld2 => ?_)
    · (try dsimp only); (try trivial)
    clear hK K hHeld
    have hHeld := hHeld2
    clear hHeld2
    try simp only [Act.put, List.setIfInBounds_toArray, List.set_cons_zero, List.set_cons_succ]
    refine wpAnyH_take (i := 9) (oi := { dst := some 5, op := Go.Op.assign (Go.Operand.tmp 16), type := 9, pos := "hist.go:61", after := #[{ on := 8, ground := Go.Ground.data }, { on := 8, ground := Go.Ground.chain }, { on := 0, ground := Go.Ground.phase }, { on := 1, ground := Go.Ground.phase }, { on := 2, ground := Go.Ground.phase }, { on := 3, ground := Go.Ground.phase }, { on := 4, ground := Go.Ground.phase }, { on := 5, ground := Go.Ground.phase }, { on := 6, ground := Go.Ground.phase }, { on := 7, ground := Go.Ground.phase }, { on := 8, ground := Go.Ground.phase }], guard := none }) (v := ?v14) rfl (by kernel_rfl) (by kernel_rfl) (by kernel_rfl) (fun _ _ _ h => h) (Or.inl ⟨by rfl, ?hy14⟩) (by assumption) ?rest14
    case hy14 => (intro w hSw; (try dsimp only at hSw); go_simp <;> with_reducible rfl)
    try simp only [Act.put, List.setIfInBounds_toArray, List.set_cons_zero, List.set_cons_succ]
    refine wpAnyH_done (by kernel_rfl) ?_ _
    refine NoPanic.normal ?_
    go_wp2
    go_loopw [5] (fun u wr => ∃ s : List UInt8, u = .string ⟨s.toArray⟩ ∧ s.length ≤ 1000 ∧ fitL s = F ∧ One w wr B mb M O PW) (fun u wr => strLenC (some u))
    case atStart => exact ⟨_, rfl, hj5.out, hj6.out, hS⟩
    case round =>
      clear hS
      obtain ⟨s, rfl, hs1, hsF, hS⟩ := hrel
      by_cases hlt : 510 < s.length
      · have t2 : ((510 : Int) < (s.length : Int)) = True := eq_true (by omega)
        have hC := fun (w9 : World) (h9 : MaxB w9) => cut_ s w9 h9 (by omega)
        have hst := fitL_step s hlt
        have hr := cut_rest_lt s (by omega)
        generalize (Lib.cut s [10]).1 = c1 at *
        generalize (Lib.cut s [10]).2.2 = c3 at *
        generalize (Lib.cut s [10]).2.1 = r at *
        rw [hsF] at hst
        have hx := Lib.hid (show fitL r = F from hst.symm)
        have hrl := Lib.hid (show r.length ≤ 1000 by omega)
        have hms := Lib.hid (show strLenC (some (.string ⟨r.toArray⟩)) < strLenC (some (.string ⟨s.toArray⟩)) by show (⟨r.toArray⟩ : ByteArray).size < (⟨s.toArray⟩ : ByteArray).size; rw [str_size, str_size]; exact hr)
        replace hC := Lib.hid hC
        clear hst hsF hs1 hr hlt
        go_wp2_with (go_at_call 24; refine (hC.out _ hS.fact.1).mono ?_; rintro e w5 ⟨rfl, n5, rfl⟩; have hS2 := hS.below (bel_drewN _ n5); clear hS; have hS := hS2; clear hS2)
        go_roundw
        case rel => exact ⟨r, rfl, hrl.out, hx.out, hS⟩
        case measure => exact hms.out
      · have t2 : ((510 : Int) < (s.length : Int)) = False := eq_false (by omega)
        rw [fitL_done s hlt] at hsF
        subst hsF
        have wu : IntKind.u64.wrap (s.length : Int) = (s.length : Int) := by rw [IntKind.wrap_u64]; omega
        have hmk := fun (w9 : World) => run_made w9 2 (by omega)
        have hbz := Lib.hid (fun (w9 : World) => (Bs.of_blk (l := List.replicate 2 0) (n := 2) (Blk.new w9 (cb (List.replicate 2 0)).toArray 5) rfl))
        obtain ⟨Zc, hZc⟩ : ∃ Zc, Zc = (cb (List.replicate 2 0)).toArray := ⟨_, rfl⟩
        rw [← hZc] at hbz
        have hmk' : ∀ w9 : World, (Instr.makeSlice 22 (.int .i64 2) (.int .i64 2)).run Tryd.prog w9 = .ok (.slice (some ⟨w9.heap.size, 0, none⟩) 2 2) (w9.alloc (.cells Zc 5)) := fun w9 => by rw [hZc]; exact hmk w9
        have hPn := Lib.hid (fun (w9 : World) (v9 : Value) (hb : Bs w9 0 v9 (List.replicate 2 0)) => wPutNum2 w9 0 v9 (List.replicate 2 0) 0 s.length hb (by unfold isI; omega) (by simp))
        have hpl := putL_len (List.replicate 2 0) 0 s.length 2
        obtain ⟨pl, hpe⟩ : ∃ pl, pl = putL (List.replicate 2 0) 0 s.length 2 := ⟨_, rfl⟩
        rw [← hpe] at hPn hpl
        have hMe := hMM.out
        unfold addN at hMe
        rw [← hpe] at hMe
        clear hMM
        subst hMe
        replace hpl : pl.length ≤ 1000000 := by rw [hpl]; simp
        have hcv := Lib.hid (fun (w9 : World) => lt_conv w9 s)
        have hs5 : s.length ≤ 1000000 := by omega
        clear hmk hlt hs1 hpe hZc
        go_wp2_with (first
          | (go_at_call 25; refine (hPn.out _ _ (hbz.out wr)).mono ?_; rintro e w6 ⟨v6, rfl, hv6, hb6⟩; have hS2 := (hS.alloc (.cells Zc 5)).newBs hb6 hv6; clear hS hv6 hb6)
          | (go_at_call_of 15 (5632 : Int); refine (hS2.memK (fun O h hb hk => mLay h hb 5632 (by unfold isI; omega) hk.right.1 hpl (fun k hk2 => (hk.right.2 k hk2).2))).mono ?_; rintro e w7 ⟨rfl, hS3⟩; clear hS2; obtain ⟨v8, w8, hrn, hv8, hb8⟩ := hcv.out w7; have hS4 := hS3.weak.newBs hb8 hv8; obtain ⟨a8, c8, rfl, hc8⟩ := hv8.len; clear hS3 hv8 hb8 hc8)
          | (go_at_call_of 15 (5634 : Int); refine (hS4.memK (fun O h hb hk => mLay h hb 5634 (by unfold isI; omega) hk.right.1 hs5 (fun k hk2 => (hk.right.2 k hk2).2))).mono ?_; rintro e w9 ⟨rfl, hS5⟩; clear hS4))
        (try go_end0)
        exact hS5.memQ _
end Go.Proofs.YtjkpapkjlmglbaaDoor
