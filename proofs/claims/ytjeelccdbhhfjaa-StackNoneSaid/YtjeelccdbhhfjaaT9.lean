/- 'Lays'. -/
import Derived.Test.YtjeelccdbhhfjaaT8
namespace Go.Proofs.Ytjeelccdbhhfjaa
open Go.RowKit
set_option linter.unusedVariables false
set_option linter.unusedSimpArgs false
attribute [local go_sem] cell_set set_set m_undef

def pushAll (M : List UInt8) (l : List Int) : List UInt8 := l.foldl (fun M n => pushM M 32 256 512 n) M
theorem foldl_take {α β : Type} (f : β → α → β) (M : β) (l : List α) (k : Nat) (x : α) (h : l[k]? = some x) : (l.take (k + 1)).foldl f M = f ((l.take k).foldl f M) x := by
  rw [List.take_add_one, h, List.foldl_append]
  simp only [Option.toList, List.foldl]
theorem pushAll_take (M : List UInt8) (l : List Int) (k : Nat) (x : Int) (h : l[k]? = some x) : pushAll M (l.take (k + 1)) = pushM (pushAll M (l.take k)) 32 256 512 x :=
  foldl_take (fun M n => pushM M 32 256 512 n) M l k x h
theorem pushAll_zero (M : List UInt8) (l : List Int) : pushAll M (l.take 0) = M := rfl
attribute [local irreducible] pushM pushAll setM layL
def laysT (M : List UInt8) (l : List Int) : Int := if 32 - depL M 32 256 512 < (l.length : Int) then -3 else 0
def laysM (M : List UInt8) (l : List Int) : List UInt8 := if 32 - depL M 32 256 512 < (l.length : Int) then M else pushAll M l
set_option maxRecDepth 100000 in
set_option maxHeartbeats 1600000 in
theorem kLays {w : World} {B mb : Nat} {M : List UInt8} {O : Nat → Prop} (h : MemP w B mb M O) (hB : B ≤ w.heap.size) {v : Value} {l : List Int} (hK : Keep w O (.rv 1 v l.length (ic l))) :
    Calls Try.prog 53 #[.pointer (some ⟨mb, 0, none⟩), v] w fun e w' => MemQ w w' B mb (laysM M l) O (.int .i64 (laysT M l)) e := by
  obtain ⟨ad, cap, rfl⟩ := Rv.form hK.1
  have hS := One.startK h hB hK
  obtain ⟨b1, b2, b3, b4, b5, b6, b7, b8, b9⟩ := topL_bd (M := M) (show Sk 32 256 512 from by unfold Sk; omega)
  have hd := (depL_bd (M := M) (show Sk 32 256 512 from by unfold Sk; omega))
  have hMk := Lib.hid (fun (w9 : World) => mdata w9 (some ⟨mb, 0, none⟩))
  have hTp := Lib.hid (fun (w9 : World) (O : Nat → Prop) (h : MemP w9 B mb M O) (hb : B ≤ w9.heap.size) => mTop h hb 32 256 512 (-3) (-4) (by unfold Sk; omega))
  unfold laysT laysM
  generalize topL M 32 256 512 = t at *
  generalize depL M 32 256 512 = d at *
  have wd : IntKind.i64.wrap (t - 256) = t - 256 := by rw [IntKind.wrap_i64]; omega
  obtain ⟨fr, hfr⟩ : ∃ fr, fr = (t - 256) / 8 := ⟨_, rfl⟩
  have hq : (t - 256) / 8 = fr := hfr.symm
  have hfd : fr = 32 - d := by omega
  rw [← hfd]
  have hf0 : 0 ≤ fr := by omega
  have hl32 := Lib.hid (show 32 < (l.length : Int) → fr < (l.length : Int) by omega)
  replace hfr := Lib.hid hfr
  replace hfd := Lib.hid hfd
  clear b1 b2 b3 b4 b5 b6 b7 b8 b9 hd h hK
  by_cases c0 : l.length = 0
  · have t0 : (0 < l.length) = False := by simp; exact List.eq_nil_of_length_eq_zero c0
    rw [if_neg (by omega), if_neg (by omega)]
    have hl : l.length ≤ 1000000 := by omega
    clear c0
    go_enter Try.func53, Try.ntmps53
    go_upto_region 2 with (go_at_call 31; refine (hS.still (hMk.out _)).mono ?_; rintro e w1 ⟨rfl, hS2⟩; clear hS; have hS := hS2; clear hS2)
    have hS2 := hS.new #[.pointer (some ⟨mb, 0, none⟩), .int .i64 32, .int .i64 256, .int .i64 512, .int .i64 (-3), .int .i64 (-4)] 60
    obtain ⟨b0, hb0⟩ : ∃ b0, b0 = w1.heap.size := ⟨_, rfl⟩
    obtain ⟨w3, hw3⟩ : ∃ w3, w3 = w1.alloc (.cells #[.pointer (some ⟨mb, 0, none⟩), .int .i64 32, .int .i64 256, .int .i64 512, .int .i64 (-3), .int .i64 (-4)] 60) := ⟨_, rfl⟩
    rw [← hw3, ← hb0] at hS2 ⊢
    clear hS hw3 hb0
    have hS := hS2
    clear hS2
    obtain ⟨y1, y2, y3, y4, y5, y6⟩ := hS.fact.2.c6
    replace hS := hS.drew
    refine wp_region_noPanic ?_
    refine wp_region_held_drew (S := (fun w' => One w w' B mb M O ((Kp.rv 1 (.slice ad l.length cap) l.length (ic l)).and (.blk b0 #[.pointer (some ⟨mb, 0, none⟩), .int .i64 32, .int .i64 256, .int .i64 512, .int .i64 (-3), .int .i64 (-4)] 60)))) (by kernel_rfl) ?_ (fun hHeld => ?_)
    · (try dsimp only); exact hS
    refine wpAnyH_take (i := 0) (oi := { dst := some 11, op := Go.Op.move (Go.Operand.tmp 1), type := 22, pos := "stack.go:113", after := #[], guard := none }) (v := ?v1) rfl (by kernel_rfl) (by kernel_rfl) (by kernel_rfl) (fun _ _ _ h => h) (Or.inl ⟨by rfl, ?hy1⟩) (by assumption) ?rest1
    case hy1 => (intro w hSw; (try dsimp only at hSw); obtain ⟨y1, y2, y3, y4, y5, y6⟩ := (One.fact hSw).2.c6; go_simp <;> with_reducible rfl)
    try simp only [Act.put, List.setIfInBounds_toArray, List.set_cons_zero, List.set_cons_succ]
    refine wpAnyH_take (i := 1) (oi := { dst := some 12, op := Go.Op.call { callee := Go.Callee.builtin Go.Builtin.len, args := #[Go.Operand.tmp 11], argTypes := #[22] }, type := 3, pos := "stack.go:113", after := #[{ on := 0, ground := Go.Ground.data }], guard := none }) (v := ?v2) rfl (by kernel_rfl) (by kernel_rfl) (by kernel_rfl) (fun _ _ _ h => h) (Or.inl ⟨by rfl, ?hy2⟩) (by assumption) ?rest2
    case hy2 => (intro w hSw; (try dsimp only at hSw); obtain ⟨y1, y2, y3, y4, y5, y6⟩ := (One.fact hSw).2.c6; go_simp <;> with_reducible rfl)
    try simp only [Act.put, List.setIfInBounds_toArray, List.set_cons_zero, List.set_cons_succ]
    refine wpAnyH_take (i := 2) (oi := { dst := some 13, op := Go.Op.binOp Go.BinOp.gtr 3 (Go.Operand.tmp 12) (Go.Operand.const (Go.Value.int Go.IntKind.i64 0)) 3, type := 4, pos := "stack.go:113", after := #[{ on := 1, ground := Go.Ground.data }], guard := none }) (v := ?v3) rfl (by kernel_rfl) (by kernel_rfl) (by kernel_rfl) (fun _ _ _ h => h) (Or.inl ⟨by rfl, ?hy3⟩) (by assumption) ?rest3
    case hy3 => (intro w hSw; (try dsimp only at hSw); obtain ⟨y1, y2, y3, y4, y5, y6⟩ := (One.fact hSw).2.c6; go_simp <;> with_reducible rfl)
    try simp only [Act.put, List.setIfInBounds_toArray, List.set_cons_zero, List.set_cons_succ]
    refine wpAnyH_take (i := 3) (oi := { dst := some 14, op := Go.Op.move (Go.Operand.tmp 13), type := 4, pos := "stack.go:113", after := #[{ on := 2, ground := Go.Ground.data }], guard := none }) (v := ?v4) rfl (by kernel_rfl) (by kernel_rfl) (by kernel_rfl) (fun _ _ _ h => h) (Or.inl ⟨by rfl, ?hy4⟩) (by assumption) ?rest4
    case hy4 => (intro w hSw; (try dsimp only at hSw); obtain ⟨y1, y2, y3, y4, y5, y6⟩ := (One.fact hSw).2.c6; go_simp <;> with_reducible rfl)
    try simp only [Act.put, List.setIfInBounds_toArray, List.set_cons_zero, List.set_cons_succ]
    refine wpAnyH_take (i := 4) (oi := { dst := some 15, op := Go.Op.move (Go.Operand.tmp 0), type := 24, pos := "stack.go:113", after := #[{ on := 3, ground := Go.Ground.guard }], guard := some (3, true) }) (v := undef) rfl (by kernel_rfl) (by kernel_rfl) (by kernel_rfl) (fun _ _ _ h => h) (Or.inr ⟨by rfl, rfl⟩) (by assumption) ?_
    try simp only [Act.put, List.setIfInBounds_toArray, List.set_cons_zero, List.set_cons_succ]
    refine wpAnyH_take (i := 5) (oi := { dst := some 16, op := Go.Op.binOp Go.BinOp.eql 24 (Go.Operand.tmp 15) (Go.Operand.const (Go.Value.pointer none)) 24, type := 4, pos := "stack.go:113", after := #[{ on := 4, ground := Go.Ground.data }, { on := 3, ground := Go.Ground.guard }], guard := some (3, true) }) (v := undef) rfl (by kernel_rfl) (by kernel_rfl) (by kernel_rfl) (fun _ _ _ h => h) (Or.inr ⟨by rfl, rfl⟩) (by assumption) ?_
    try simp only [Act.put, List.setIfInBounds_toArray, List.set_cons_zero, List.set_cons_succ]
    refine wpAnyH_take (i := 6) (oi := { dst := some 17, op := Go.Op.move (Go.Operand.tmp 16), type := 4, pos := "stack.go:113", after := #[{ on := 5, ground := Go.Ground.data }, { on := 3, ground := Go.Ground.chain }, { on := 3, ground := Go.Ground.guard }], guard := some (3, true) }) (v := undef) rfl (by kernel_rfl) (by kernel_rfl) (by kernel_rfl) (fun _ _ _ h => h) (Or.inr ⟨by rfl, rfl⟩) (by assumption) ?_
    try simp only [Act.put, List.setIfInBounds_toArray, List.set_cons_zero, List.set_cons_succ]
    refine wpAnyH_take (i := 7) (oi := { dst := some 18, op := Go.Op.move (Go.Operand.tmp 1), type := 22, pos := "stack.go:113", after := #[{ on := 6, ground := Go.Ground.guard }], guard := some (6, false) }) (v := undef) rfl (by kernel_rfl) (by kernel_rfl) (by kernel_rfl) (fun _ _ _ h => h) (Or.inr ⟨by rfl, rfl⟩) (by assumption) ?_
    try simp only [Act.put, List.setIfInBounds_toArray, List.set_cons_zero, List.set_cons_succ]
    refine wpAnyH_take (i := 8) (oi := { dst := some 19, op := Go.Op.call { callee := Go.Callee.builtin Go.Builtin.len, args := #[Go.Operand.tmp 18], argTypes := #[22] }, type := 3, pos := "stack.go:113", after := #[{ on := 7, ground := Go.Ground.data }, { on := 6, ground := Go.Ground.guard }], guard := some (6, false) }) (v := undef) rfl (by kernel_rfl) (by kernel_rfl) (by kernel_rfl) (fun _ _ _ h => h) (Or.inr ⟨by rfl, rfl⟩) (by assumption) ?_
    try simp only [Act.put, List.setIfInBounds_toArray, List.set_cons_zero, List.set_cons_succ]
    refine wpAnyH_take (i := 9) (oi := { dst := some 20, op := Go.Op.load 60 (Go.Operand.tmp 5), type := 60, pos := "stack.go:113", after := #[{ on := 6, ground := Go.Ground.guard }], guard := some (6, false) }) (v := undef) rfl (by kernel_rfl) (by kernel_rfl) (by kernel_rfl) (fun _ _ _ h => h) (Or.inr ⟨by rfl, rfl⟩) (by assumption) ?_
    try simp only [Act.put, List.setIfInBounds_toArray, List.set_cons_zero, List.set_cons_succ]
    refine wpAnyH_take (i := 10) (oi := { dst := some 21, op := Go.Op.call { callee := Go.Callee.value (Go.Operand.func 60), args := #[Go.Operand.tmp 20], argTypes := #[60] }, type := 3, pos := "stack.go:113", after := #[{ on := 9, ground := Go.Ground.data }, { on := 6, ground := Go.Ground.chain }, { on := 6, ground := Go.Ground.guard }], guard := some (6, false) }) (v := undef) rfl (by kernel_rfl) (by kernel_rfl) (by kernel_rfl) (fun _ _ _ h => h) (Or.inr ⟨by rfl, rfl⟩) (by assumption) ?_
    try simp only [Act.put, List.setIfInBounds_toArray, List.set_cons_zero, List.set_cons_succ]
    refine wpAnyH_take (i := 11) (oi := { dst := some 22, op := Go.Op.fieldAddr 60 (Go.Operand.tmp 5) 2, type := 0, pos := "stack.go:113", after := #[{ on := 6, ground := Go.Ground.guard }], guard := some (6, false) }) (v := undef) rfl (by kernel_rfl) (by kernel_rfl) (by kernel_rfl) (fun _ _ _ h => h) (Or.inr ⟨by rfl, rfl⟩) (by assumption) ?_
    try simp only [Act.put, List.setIfInBounds_toArray, List.set_cons_zero, List.set_cons_succ]
    refine wpAnyH_take (i := 12) (oi := { dst := some 23, op := Go.Op.load 3 (Go.Operand.tmp 22), type := 3, pos := "stack.go:113", after := #[{ on := 11, ground := Go.Ground.data }, { on := 6, ground := Go.Ground.guard }], guard := some (6, false) }) (v := undef) rfl (by kernel_rfl) (by kernel_rfl) (by kernel_rfl) (fun _ _ _ h => h) (Or.inr ⟨by rfl, rfl⟩) (by assumption) ?_
    try simp only [Act.put, List.setIfInBounds_toArray, List.set_cons_zero, List.set_cons_succ]
    refine wpAnyH_take (i := 13) (oi := { dst := some 24, op := Go.Op.binOp Go.BinOp.sub 3 (Go.Operand.tmp 21) (Go.Operand.tmp 23) 3, type := 3, pos := "stack.go:113", after := #[{ on := 10, ground := Go.Ground.data }, { on := 12, ground := Go.Ground.data }, { on := 6, ground := Go.Ground.guard }], guard := some (6, false) }) (v := undef) rfl (by kernel_rfl) (by kernel_rfl) (by kernel_rfl) (fun _ _ _ h => h) (Or.inr ⟨by rfl, rfl⟩) (by assumption) ?_
    try simp only [Act.put, List.setIfInBounds_toArray, List.set_cons_zero, List.set_cons_succ]
    refine wpAnyH_take (i := 14) (oi := { dst := some 25, op := Go.Op.binOp Go.BinOp.shr 3 (Go.Operand.tmp 24) (Go.Operand.const (Go.Value.int Go.IntKind.u64 3)) 91, type := 3, pos := "stack.go:113", after := #[{ on := 13, ground := Go.Ground.data }, { on := 6, ground := Go.Ground.guard }], guard := some (6, false) }) (v := undef) rfl (by kernel_rfl) (by kernel_rfl) (by kernel_rfl) (fun _ _ _ h => h) (Or.inr ⟨by rfl, rfl⟩) (by assumption) ?_
    try simp only [Act.put, List.setIfInBounds_toArray, List.set_cons_zero, List.set_cons_succ]
    refine wpAnyH_take (i := 15) (oi := { dst := some 26, op := Go.Op.binOp Go.BinOp.gtr 3 (Go.Operand.tmp 19) (Go.Operand.tmp 25) 3, type := 4, pos := "stack.go:113", after := #[{ on := 8, ground := Go.Ground.data }, { on := 14, ground := Go.Ground.data }, { on := 6, ground := Go.Ground.guard }], guard := some (6, false) }) (v := undef) rfl (by kernel_rfl) (by kernel_rfl) (by kernel_rfl) (fun _ _ _ h => h) (Or.inr ⟨by rfl, rfl⟩) (by assumption) ?_
    try simp only [Act.put, List.setIfInBounds_toArray, List.set_cons_zero, List.set_cons_succ]
    refine wpAnyH_take (i := 16) (oi := { dst := some 27, op := Go.Op.pick (Go.Operand.tmp 17) (Go.Operand.const (Go.Value.bool true)) (Go.Operand.tmp 26), type := 4, pos := "stack.go:113", after := #[{ on := 6, ground := Go.Ground.data }, { on := 15, ground := Go.Ground.data }, { on := 3, ground := Go.Ground.guard }], guard := some (3, true) }) (v := undef) rfl (by kernel_rfl) (by kernel_rfl) (by kernel_rfl) (fun _ _ _ h => h) (Or.inr ⟨by rfl, rfl⟩) (by assumption) ?_
    try simp only [Act.put, List.setIfInBounds_toArray, List.set_cons_zero, List.set_cons_succ]
    refine wpAnyH_take (i := 17) (oi := { dst := some 28, op := Go.Op.pick (Go.Operand.tmp 14) (Go.Operand.tmp 27) (Go.Operand.const (Go.Value.bool false)), type := 4, pos := "stack.go:113", after := #[{ on := 3, ground := Go.Ground.data }, { on := 16, ground := Go.Ground.data }], guard := none }) (v := ?v5) rfl (by kernel_rfl) (by kernel_rfl) (by kernel_rfl) (fun _ _ _ h => h) (Or.inl ⟨by rfl, ?hy5⟩) (by assumption) ?rest5
    case hy5 => (intro w hSw; (try dsimp only at hSw); obtain ⟨y1, y2, y3, y4, y5, y6⟩ := (One.fact hSw).2.c6; go_simp <;> with_reducible rfl)
    try simp only [Act.put, List.setIfInBounds_toArray, List.set_cons_zero, List.set_cons_succ]
    refine wpAnyH_done (by kernel_rfl) ?_ _
    refine NoPanic.normal ?_
    go_wp2
    go_loopw [35] (fun i wr => ∃ (k : Nat), i = .int .i64 (k : Int) ∧ k ≤ l.length ∧ One w wr B mb (pushAll M (l.take k)) O (Kp.rv 1 (.slice ad l.length cap) l.length (ic l))) (fun i _ => (l.length - (intOf i).toNat))
    case atStart => exact ⟨0, rfl, by omega, by rw [pushAll_zero]; exact hS.keep (fun O h => h.left)⟩
    case round =>
      obtain ⟨k, rfl, hk, hS⟩ := hrel
      by_cases hlt : k < l.length
      · have t2 : ((k : Int) < (l.length : Int)) = True := by simp; omega
        have b1 : (0 : Int) ≤ (k : Int) := by omega
        have wk : IntKind.i64.wrap ((k : Int) + 1) = ((k + 1 : Nat) : Int) := by rw [IntKind.wrap_i64]; omega
        obtain ⟨x, hx⟩ : ∃ x, l[k]? = some x := ⟨_, List.getElem?_eq_getElem hlt⟩
        obtain ⟨a2, he, hc⟩ : ∃ a2, ad = some a2 ∧ wr.cell? (a2.add k) = some (.int .i64 x) := by
          rcases hS.fact.2.2 with ⟨e, e2⟩ | ⟨a2, c2, e, hc⟩
          · omega
          · cases e
            exact ⟨a2, rfl, hc k _ (by unfold ic; rw [List.getElem?_map, hx]; rfl)⟩
        subst he
        have hP := Lib.hid (fun (w9 : World) (O : Nat → Prop) (h : MemP w9 B mb (pushAll M (l.take k)) O) (hb : B ≤ w9.heap.size) => mPush h hb 32 256 512 (-3) (-4) (by unfold Sk; omega) x)
        have hst := Lib.hid (show pushM (pushAll M (l.take k)) 32 256 512 x = pushAll M (l.take (k + 1)) from (pushAll_take M l k x hx).symm)
        rw [hst.out] at hP
        replace hlt := Lib.hid hlt
        clear hk hx
        go_wp2_with (go_at_call 32; refine (hS.mem (fun O h hb => hP.out _ _ h hb)).mono ?_; rintro e w4 ⟨rfl, hS2⟩; clear hS; have hS := hS2; clear hS2)
        go_roundw
        case rel => exact ⟨k + 1, rfl, hlt.out, hS⟩
        case measure => have := hlt.out; simp [intOf]; omega
      · have hkN : k = l.length := by omega
        subst hkN
        have t2 : ((l.length : Int) < (l.length : Int)) = False := by simp
        rw [List.take_length] at hS
        clear hlt hk
        go_wp2
        go_ret
        obtain ⟨O', q1, q2, q3, q4⟩ := hS
        exact ⟨rfl, O', q1, q2⟩
  · have t0 : (0 < l.length) = True := by simp only [eq_iff_iff, iff_true]; omega
    by_cases c1 : fr < (l.length : Int)
    · have t1 : (fr < (l.length : Int)) = True := by simp; exact c1
      rw [if_pos c1, if_pos c1]
      clear c0 c1
      go_enter Try.func53, Try.ntmps53
      go_upto_region 2 with (go_at_call 31; refine (hS.still (hMk.out _)).mono ?_; rintro e w1 ⟨rfl, hS2⟩; clear hS; have hS := hS2; clear hS2)
      have hS2 := hS.new #[.pointer (some ⟨mb, 0, none⟩), .int .i64 32, .int .i64 256, .int .i64 512, .int .i64 (-3), .int .i64 (-4)] 60
      obtain ⟨b0, hb0⟩ : ∃ b0, b0 = w1.heap.size := ⟨_, rfl⟩
      obtain ⟨w3, hw3⟩ : ∃ w3, w3 = w1.alloc (.cells #[.pointer (some ⟨mb, 0, none⟩), .int .i64 32, .int .i64 256, .int .i64 512, .int .i64 (-3), .int .i64 (-4)] 60) := ⟨_, rfl⟩
      rw [← hw3, ← hb0] at hS2 ⊢
      clear hS hw3 hb0
      have hS := hS2
      clear hS2
      obtain ⟨y1, y2, y3, y4, y5, y6⟩ := hS.fact.2.c6
      replace hS := hS.drew
      refine wp_region_noPanic ?_
      refine wp_region_held_drew (S := (fun w' => One w w' B mb M O ((Kp.rv 1 (.slice ad l.length cap) l.length (ic l)).and (.blk b0 #[.pointer (some ⟨mb, 0, none⟩), .int .i64 32, .int .i64 256, .int .i64 512, .int .i64 (-3), .int .i64 (-4)] 60)))) (by kernel_rfl) ?_ (fun hHeld => ?_)
      · (try dsimp only); exact hS
      refine wpAnyH_take (i := 0) (oi := { dst := some 11, op := Go.Op.move (Go.Operand.tmp 1), type := 22, pos := "stack.go:113", after := #[], guard := none }) (v := ?v6) rfl (by kernel_rfl) (by kernel_rfl) (by kernel_rfl) (fun _ _ _ h => h) (Or.inl ⟨by rfl, ?hy6⟩) (by assumption) ?rest6
      case hy6 => (intro w hSw; (try dsimp only at hSw); obtain ⟨y1, y2, y3, y4, y5, y6⟩ := (One.fact hSw).2.c6; go_simp <;> with_reducible rfl)
      try simp only [Act.put, List.setIfInBounds_toArray, List.set_cons_zero, List.set_cons_succ]
      refine wpAnyH_take (i := 1) (oi := { dst := some 12, op := Go.Op.call { callee := Go.Callee.builtin Go.Builtin.len, args := #[Go.Operand.tmp 11], argTypes := #[22] }, type := 3, pos := "stack.go:113", after := #[{ on := 0, ground := Go.Ground.data }], guard := none }) (v := ?v7) rfl (by kernel_rfl) (by kernel_rfl) (by kernel_rfl) (fun _ _ _ h => h) (Or.inl ⟨by rfl, ?hy7⟩) (by assumption) ?rest7
      case hy7 => (intro w hSw; (try dsimp only at hSw); obtain ⟨y1, y2, y3, y4, y5, y6⟩ := (One.fact hSw).2.c6; go_simp <;> with_reducible rfl)
      try simp only [Act.put, List.setIfInBounds_toArray, List.set_cons_zero, List.set_cons_succ]
      refine wpAnyH_take (i := 2) (oi := { dst := some 13, op := Go.Op.binOp Go.BinOp.gtr 3 (Go.Operand.tmp 12) (Go.Operand.const (Go.Value.int Go.IntKind.i64 0)) 3, type := 4, pos := "stack.go:113", after := #[{ on := 1, ground := Go.Ground.data }], guard := none }) (v := ?v8) rfl (by kernel_rfl) (by kernel_rfl) (by kernel_rfl) (fun _ _ _ h => h) (Or.inl ⟨by rfl, ?hy8⟩) (by assumption) ?rest8
      case hy8 => (intro w hSw; (try dsimp only at hSw); obtain ⟨y1, y2, y3, y4, y5, y6⟩ := (One.fact hSw).2.c6; go_simp <;> with_reducible rfl)
      try simp only [Act.put, List.setIfInBounds_toArray, List.set_cons_zero, List.set_cons_succ]
      refine wpAnyH_take (i := 3) (oi := { dst := some 14, op := Go.Op.move (Go.Operand.tmp 13), type := 4, pos := "stack.go:113", after := #[{ on := 2, ground := Go.Ground.data }], guard := none }) (v := ?v9) rfl (by kernel_rfl) (by kernel_rfl) (by kernel_rfl) (fun _ _ _ h => h) (Or.inl ⟨by rfl, ?hy9⟩) (by assumption) ?rest9
      case hy9 => (intro w hSw; (try dsimp only at hSw); obtain ⟨y1, y2, y3, y4, y5, y6⟩ := (One.fact hSw).2.c6; go_simp <;> with_reducible rfl)
      try simp only [Act.put, List.setIfInBounds_toArray, List.set_cons_zero, List.set_cons_succ]
      refine wpAnyH_take (i := 4) (oi := { dst := some 15, op := Go.Op.move (Go.Operand.tmp 0), type := 24, pos := "stack.go:113", after := #[{ on := 3, ground := Go.Ground.guard }], guard := some (3, true) }) (v := ?v10) rfl (by kernel_rfl) (by kernel_rfl) (by kernel_rfl) (fun _ _ _ h => h) (Or.inl ⟨by rfl, ?hy10⟩) (by assumption) ?rest10
      case hy10 => (intro w hSw; (try dsimp only at hSw); obtain ⟨y1, y2, y3, y4, y5, y6⟩ := (One.fact hSw).2.c6; go_simp <;> with_reducible rfl)
      try simp only [Act.put, List.setIfInBounds_toArray, List.set_cons_zero, List.set_cons_succ]
      refine wpAnyH_take (i := 5) (oi := { dst := some 16, op := Go.Op.binOp Go.BinOp.eql 24 (Go.Operand.tmp 15) (Go.Operand.const (Go.Value.pointer none)) 24, type := 4, pos := "stack.go:113", after := #[{ on := 4, ground := Go.Ground.data }, { on := 3, ground := Go.Ground.guard }], guard := some (3, true) }) (v := ?v11) rfl (by kernel_rfl) (by kernel_rfl) (by kernel_rfl) (fun _ _ _ h => h) (Or.inl ⟨by rfl, ?hy11⟩) (by assumption) ?rest11
      case hy11 => (intro w hSw; (try dsimp only at hSw); obtain ⟨y1, y2, y3, y4, y5, y6⟩ := (One.fact hSw).2.c6; go_simp <;> with_reducible rfl)
      try simp only [Act.put, List.setIfInBounds_toArray, List.set_cons_zero, List.set_cons_succ]
      refine wpAnyH_take (i := 6) (oi := { dst := some 17, op := Go.Op.move (Go.Operand.tmp 16), type := 4, pos := "stack.go:113", after := #[{ on := 5, ground := Go.Ground.data }, { on := 3, ground := Go.Ground.chain }, { on := 3, ground := Go.Ground.guard }], guard := some (3, true) }) (v := ?v12) rfl (by kernel_rfl) (by kernel_rfl) (by kernel_rfl) (fun _ _ _ h => h) (Or.inl ⟨by rfl, ?hy12⟩) (by assumption) ?rest12
      case hy12 => (intro w hSw; (try dsimp only at hSw); obtain ⟨y1, y2, y3, y4, y5, y6⟩ := (One.fact hSw).2.c6; go_simp <;> with_reducible rfl)
      try simp only [Act.put, List.setIfInBounds_toArray, List.set_cons_zero, List.set_cons_succ]
      refine wpAnyH_take (i := 7) (oi := { dst := some 18, op := Go.Op.move (Go.Operand.tmp 1), type := 22, pos := "stack.go:113", after := #[{ on := 6, ground := Go.Ground.guard }], guard := some (6, false) }) (v := ?v13) rfl (by kernel_rfl) (by kernel_rfl) (by kernel_rfl) (fun _ _ _ h => h) (Or.inl ⟨by rfl, ?hy13⟩) (by assumption) ?rest13
      case hy13 => (intro w hSw; (try dsimp only at hSw); obtain ⟨y1, y2, y3, y4, y5, y6⟩ := (One.fact hSw).2.c6; go_simp <;> with_reducible rfl)
      try simp only [Act.put, List.setIfInBounds_toArray, List.set_cons_zero, List.set_cons_succ]
      refine wpAnyH_take (i := 8) (oi := { dst := some 19, op := Go.Op.call { callee := Go.Callee.builtin Go.Builtin.len, args := #[Go.Operand.tmp 18], argTypes := #[22] }, type := 3, pos := "stack.go:113", after := #[{ on := 7, ground := Go.Ground.data }, { on := 6, ground := Go.Ground.guard }], guard := some (6, false) }) (v := ?v14) rfl (by kernel_rfl) (by kernel_rfl) (by kernel_rfl) (fun _ _ _ h => h) (Or.inl ⟨by rfl, ?hy14⟩) (by assumption) ?rest14
      case hy14 => (intro w hSw; (try dsimp only at hSw); obtain ⟨y1, y2, y3, y4, y5, y6⟩ := (One.fact hSw).2.c6; go_simp <;> with_reducible rfl)
      try simp only [Act.put, List.setIfInBounds_toArray, List.set_cons_zero, List.set_cons_succ]
      refine wpAnyH_take (i := 9) (oi := { dst := some 20, op := Go.Op.load 60 (Go.Operand.tmp 5), type := 60, pos := "stack.go:113", after := #[{ on := 6, ground := Go.Ground.guard }], guard := some (6, false) }) (v := ?v15) rfl (by kernel_rfl) (by kernel_rfl) (by kernel_rfl) (fun _ _ _ h => h) (Or.inl ⟨by rfl, ?hy15⟩) (by assumption) ?rest15
      case hy15 => (intro w hSw; (try dsimp only at hSw); obtain ⟨y1, y2, y3, y4, y5, y6⟩ := (One.fact hSw).2.c6; go_simp <;> with_reducible rfl)
      try simp only [Act.put, List.setIfInBounds_toArray, List.set_cons_zero, List.set_cons_succ]
      refine wpAnyH_take (i := 11) (oi := { dst := some 22, op := Go.Op.fieldAddr 60 (Go.Operand.tmp 5) 2, type := 0, pos := "stack.go:113", after := #[{ on := 6, ground := Go.Ground.guard }], guard := some (6, false) }) (v := ?v16) rfl (by kernel_rfl) (by kernel_rfl) (by kernel_rfl) (fun _ _ _ h => h) (Or.inl ⟨by rfl, ?hy16⟩) (by assumption) ?rest16
      case hy16 => (intro w hSw; (try dsimp only at hSw); obtain ⟨y1, y2, y3, y4, y5, y6⟩ := (One.fact hSw).2.c6; go_simp <;> with_reducible rfl)
      try simp only [Act.put, List.setIfInBounds_toArray, List.set_cons_zero, List.set_cons_succ]
      refine wpAnyH_take (i := 12) (oi := { dst := some 23, op := Go.Op.load 3 (Go.Operand.tmp 22), type := 3, pos := "stack.go:113", after := #[{ on := 11, ground := Go.Ground.data }, { on := 6, ground := Go.Ground.guard }], guard := some (6, false) }) (v := ?v17) rfl (by kernel_rfl) (by kernel_rfl) (by kernel_rfl) (fun _ _ _ h => h) (Or.inl ⟨by rfl, ?hy17⟩) (by assumption) ?rest17
      case hy17 => (intro w hSw; (try dsimp only at hSw); obtain ⟨y1, y2, y3, y4, y5, y6⟩ := (One.fact hSw).2.c6; go_simp <;> with_reducible rfl)
      try simp only [Act.put, List.setIfInBounds_toArray, List.set_cons_zero, List.set_cons_succ]
      refine wpAnyH_ready (rs := [10]) (by kernel_rfl) (by simp) ?_
      refine AllReadyH.cons (o := { dst := some 21, op := Go.Op.call { callee := Go.Callee.value (Go.Operand.func 60), args := #[Go.Operand.tmp 20], argTypes := #[60] }, type := 3, pos := "stack.go:113", after := #[{ on := 9, ground := Go.Ground.data }, { on := 6, ground := Go.Ground.chain }, { on := 6, ground := Go.Ground.guard }], guard := some (6, false) }) rfl (fun K hK => ?_) AllReadyH.nil
      go_simp
      go_at_call 60; refine (hS.mem (fun O h hb => hTp.out _ _ h hb)).mono ?_; rintro e w2 ⟨rfl, hS2⟩; clear hS; have hS := hS2; clear hS2; clear y1 y2 y3 y4 y5 y6; obtain ⟨y1, y2, y3, y4, y5, y6⟩ := hS.fact.2.c6
      refine hK.out _ _ ?_ (fun hHeld2 => ?_)
      · (try dsimp only); exact hS
      clear hK K hHeld
      have hHeld := hHeld2
      clear hHeld2
      try simp only [Act.put, List.setIfInBounds_toArray, List.set_cons_zero, List.set_cons_succ]
      refine wpAnyH_take (i := 13) (oi := { dst := some 24, op := Go.Op.binOp Go.BinOp.sub 3 (Go.Operand.tmp 21) (Go.Operand.tmp 23) 3, type := 3, pos := "stack.go:113", after := #[{ on := 10, ground := Go.Ground.data }, { on := 12, ground := Go.Ground.data }, { on := 6, ground := Go.Ground.guard }], guard := some (6, false) }) (v := ?v18) rfl (by kernel_rfl) (by kernel_rfl) (by kernel_rfl) (fun _ _ _ h => h) (Or.inl ⟨by rfl, ?hy18⟩) (by assumption) ?rest18
      case hy18 => (intro w hSw; (try dsimp only at hSw); obtain ⟨y1, y2, y3, y4, y5, y6⟩ := (One.fact hSw).2.c6; go_simp <;> with_reducible rfl)
      try simp only [Act.put, List.setIfInBounds_toArray, List.set_cons_zero, List.set_cons_succ]
      refine wpAnyH_take (i := 14) (oi := { dst := some 25, op := Go.Op.binOp Go.BinOp.shr 3 (Go.Operand.tmp 24) (Go.Operand.const (Go.Value.int Go.IntKind.u64 3)) 91, type := 3, pos := "stack.go:113", after := #[{ on := 13, ground := Go.Ground.data }, { on := 6, ground := Go.Ground.guard }], guard := some (6, false) }) (v := ?v19) rfl (by kernel_rfl) (by kernel_rfl) (by kernel_rfl) (fun _ _ _ h => h) (Or.inl ⟨by rfl, ?hy19⟩) (by assumption) ?rest19
      case hy19 => (intro w hSw; (try dsimp only at hSw); obtain ⟨y1, y2, y3, y4, y5, y6⟩ := (One.fact hSw).2.c6; go_simp <;> with_reducible rfl)
      try simp only [Act.put, List.setIfInBounds_toArray, List.set_cons_zero, List.set_cons_succ]
      refine wpAnyH_take (i := 15) (oi := { dst := some 26, op := Go.Op.binOp Go.BinOp.gtr 3 (Go.Operand.tmp 19) (Go.Operand.tmp 25) 3, type := 4, pos := "stack.go:113", after := #[{ on := 8, ground := Go.Ground.data }, { on := 14, ground := Go.Ground.data }, { on := 6, ground := Go.Ground.guard }], guard := some (6, false) }) (v := ?v20) rfl (by kernel_rfl) (by kernel_rfl) (by kernel_rfl) (fun _ _ _ h => h) (Or.inl ⟨by rfl, ?hy20⟩) (by assumption) ?rest20
      case hy20 => (intro w hSw; (try dsimp only at hSw); obtain ⟨y1, y2, y3, y4, y5, y6⟩ := (One.fact hSw).2.c6; go_simp <;> with_reducible rfl)
      try simp only [Act.put, List.setIfInBounds_toArray, List.set_cons_zero, List.set_cons_succ]
      refine wpAnyH_take (i := 16) (oi := { dst := some 27, op := Go.Op.pick (Go.Operand.tmp 17) (Go.Operand.const (Go.Value.bool true)) (Go.Operand.tmp 26), type := 4, pos := "stack.go:113", after := #[{ on := 6, ground := Go.Ground.data }, { on := 15, ground := Go.Ground.data }, { on := 3, ground := Go.Ground.guard }], guard := some (3, true) }) (v := ?v21) rfl (by kernel_rfl) (by kernel_rfl) (by kernel_rfl) (fun _ _ _ h => h) (Or.inl ⟨by rfl, ?hy21⟩) (by assumption) ?rest21
      case hy21 => (intro w hSw; (try dsimp only at hSw); obtain ⟨y1, y2, y3, y4, y5, y6⟩ := (One.fact hSw).2.c6; go_simp <;> with_reducible rfl)
      try simp only [Act.put, List.setIfInBounds_toArray, List.set_cons_zero, List.set_cons_succ]
      refine wpAnyH_take (i := 17) (oi := { dst := some 28, op := Go.Op.pick (Go.Operand.tmp 14) (Go.Operand.tmp 27) (Go.Operand.const (Go.Value.bool false)), type := 4, pos := "stack.go:113", after := #[{ on := 3, ground := Go.Ground.data }, { on := 16, ground := Go.Ground.data }], guard := none }) (v := ?v22) rfl (by kernel_rfl) (by kernel_rfl) (by kernel_rfl) (fun _ _ _ h => h) (Or.inl ⟨by rfl, ?hy22⟩) (by assumption) ?rest22
      case hy22 => (intro w hSw; (try dsimp only at hSw); obtain ⟨y1, y2, y3, y4, y5, y6⟩ := (One.fact hSw).2.c6; go_simp <;> with_reducible rfl)
      try simp only [Act.put, List.setIfInBounds_toArray, List.set_cons_zero, List.set_cons_succ]
      refine wpAnyH_done (by kernel_rfl) ?_ _
      refine NoPanic.normal ?_
      go_wp2
      go_ret
      obtain ⟨O', q1, q2, q3, q4⟩ := hS
      exact ⟨rfl, O', q1, q2⟩
    · have t1 : (fr < (l.length : Int)) = False := by simp; omega
      rw [if_neg c1, if_neg c1]
      have hl : l.length ≤ 1000000 := by have := hl32.out; omega
      clear c0 c1
      go_enter Try.func53, Try.ntmps53
      go_upto_region 2 with (go_at_call 31; refine (hS.still (hMk.out _)).mono ?_; rintro e w1 ⟨rfl, hS2⟩; clear hS; have hS := hS2; clear hS2)
      have hS2 := hS.new #[.pointer (some ⟨mb, 0, none⟩), .int .i64 32, .int .i64 256, .int .i64 512, .int .i64 (-3), .int .i64 (-4)] 60
      obtain ⟨b0, hb0⟩ : ∃ b0, b0 = w1.heap.size := ⟨_, rfl⟩
      obtain ⟨w3, hw3⟩ : ∃ w3, w3 = w1.alloc (.cells #[.pointer (some ⟨mb, 0, none⟩), .int .i64 32, .int .i64 256, .int .i64 512, .int .i64 (-3), .int .i64 (-4)] 60) := ⟨_, rfl⟩
      rw [← hw3, ← hb0] at hS2 ⊢
      clear hS hw3 hb0
      have hS := hS2
      clear hS2
      obtain ⟨y1, y2, y3, y4, y5, y6⟩ := hS.fact.2.c6
      replace hS := hS.drew
      refine wp_region_noPanic ?_
      refine wp_region_held_drew (S := (fun w' => One w w' B mb M O ((Kp.rv 1 (.slice ad l.length cap) l.length (ic l)).and (.blk b0 #[.pointer (some ⟨mb, 0, none⟩), .int .i64 32, .int .i64 256, .int .i64 512, .int .i64 (-3), .int .i64 (-4)] 60)))) (by kernel_rfl) ?_ (fun hHeld => ?_)
      · (try dsimp only); exact hS
      refine wpAnyH_take (i := 0) (oi := { dst := some 11, op := Go.Op.move (Go.Operand.tmp 1), type := 22, pos := "stack.go:113", after := #[], guard := none }) (v := ?v23) rfl (by kernel_rfl) (by kernel_rfl) (by kernel_rfl) (fun _ _ _ h => h) (Or.inl ⟨by rfl, ?hy23⟩) (by assumption) ?rest23
      case hy23 => (intro w hSw; (try dsimp only at hSw); obtain ⟨y1, y2, y3, y4, y5, y6⟩ := (One.fact hSw).2.c6; go_simp <;> with_reducible rfl)
      try simp only [Act.put, List.setIfInBounds_toArray, List.set_cons_zero, List.set_cons_succ]
      refine wpAnyH_take (i := 1) (oi := { dst := some 12, op := Go.Op.call { callee := Go.Callee.builtin Go.Builtin.len, args := #[Go.Operand.tmp 11], argTypes := #[22] }, type := 3, pos := "stack.go:113", after := #[{ on := 0, ground := Go.Ground.data }], guard := none }) (v := ?v24) rfl (by kernel_rfl) (by kernel_rfl) (by kernel_rfl) (fun _ _ _ h => h) (Or.inl ⟨by rfl, ?hy24⟩) (by assumption) ?rest24
      case hy24 => (intro w hSw; (try dsimp only at hSw); obtain ⟨y1, y2, y3, y4, y5, y6⟩ := (One.fact hSw).2.c6; go_simp <;> with_reducible rfl)
      try simp only [Act.put, List.setIfInBounds_toArray, List.set_cons_zero, List.set_cons_succ]
      refine wpAnyH_take (i := 2) (oi := { dst := some 13, op := Go.Op.binOp Go.BinOp.gtr 3 (Go.Operand.tmp 12) (Go.Operand.const (Go.Value.int Go.IntKind.i64 0)) 3, type := 4, pos := "stack.go:113", after := #[{ on := 1, ground := Go.Ground.data }], guard := none }) (v := ?v25) rfl (by kernel_rfl) (by kernel_rfl) (by kernel_rfl) (fun _ _ _ h => h) (Or.inl ⟨by rfl, ?hy25⟩) (by assumption) ?rest25
      case hy25 => (intro w hSw; (try dsimp only at hSw); obtain ⟨y1, y2, y3, y4, y5, y6⟩ := (One.fact hSw).2.c6; go_simp <;> with_reducible rfl)
      try simp only [Act.put, List.setIfInBounds_toArray, List.set_cons_zero, List.set_cons_succ]
      refine wpAnyH_take (i := 3) (oi := { dst := some 14, op := Go.Op.move (Go.Operand.tmp 13), type := 4, pos := "stack.go:113", after := #[{ on := 2, ground := Go.Ground.data }], guard := none }) (v := ?v26) rfl (by kernel_rfl) (by kernel_rfl) (by kernel_rfl) (fun _ _ _ h => h) (Or.inl ⟨by rfl, ?hy26⟩) (by assumption) ?rest26
      case hy26 => (intro w hSw; (try dsimp only at hSw); obtain ⟨y1, y2, y3, y4, y5, y6⟩ := (One.fact hSw).2.c6; go_simp <;> with_reducible rfl)
      try simp only [Act.put, List.setIfInBounds_toArray, List.set_cons_zero, List.set_cons_succ]
      refine wpAnyH_take (i := 4) (oi := { dst := some 15, op := Go.Op.move (Go.Operand.tmp 0), type := 24, pos := "stack.go:113", after := #[{ on := 3, ground := Go.Ground.guard }], guard := some (3, true) }) (v := ?v27) rfl (by kernel_rfl) (by kernel_rfl) (by kernel_rfl) (fun _ _ _ h => h) (Or.inl ⟨by rfl, ?hy27⟩) (by assumption) ?rest27
      case hy27 => (intro w hSw; (try dsimp only at hSw); obtain ⟨y1, y2, y3, y4, y5, y6⟩ := (One.fact hSw).2.c6; go_simp <;> with_reducible rfl)
      try simp only [Act.put, List.setIfInBounds_toArray, List.set_cons_zero, List.set_cons_succ]
      refine wpAnyH_take (i := 5) (oi := { dst := some 16, op := Go.Op.binOp Go.BinOp.eql 24 (Go.Operand.tmp 15) (Go.Operand.const (Go.Value.pointer none)) 24, type := 4, pos := "stack.go:113", after := #[{ on := 4, ground := Go.Ground.data }, { on := 3, ground := Go.Ground.guard }], guard := some (3, true) }) (v := ?v28) rfl (by kernel_rfl) (by kernel_rfl) (by kernel_rfl) (fun _ _ _ h => h) (Or.inl ⟨by rfl, ?hy28⟩) (by assumption) ?rest28
      case hy28 => (intro w hSw; (try dsimp only at hSw); obtain ⟨y1, y2, y3, y4, y5, y6⟩ := (One.fact hSw).2.c6; go_simp <;> with_reducible rfl)
      try simp only [Act.put, List.setIfInBounds_toArray, List.set_cons_zero, List.set_cons_succ]
      refine wpAnyH_take (i := 6) (oi := { dst := some 17, op := Go.Op.move (Go.Operand.tmp 16), type := 4, pos := "stack.go:113", after := #[{ on := 5, ground := Go.Ground.data }, { on := 3, ground := Go.Ground.chain }, { on := 3, ground := Go.Ground.guard }], guard := some (3, true) }) (v := ?v29) rfl (by kernel_rfl) (by kernel_rfl) (by kernel_rfl) (fun _ _ _ h => h) (Or.inl ⟨by rfl, ?hy29⟩) (by assumption) ?rest29
      case hy29 => (intro w hSw; (try dsimp only at hSw); obtain ⟨y1, y2, y3, y4, y5, y6⟩ := (One.fact hSw).2.c6; go_simp <;> with_reducible rfl)
      try simp only [Act.put, List.setIfInBounds_toArray, List.set_cons_zero, List.set_cons_succ]
      refine wpAnyH_take (i := 7) (oi := { dst := some 18, op := Go.Op.move (Go.Operand.tmp 1), type := 22, pos := "stack.go:113", after := #[{ on := 6, ground := Go.Ground.guard }], guard := some (6, false) }) (v := ?v30) rfl (by kernel_rfl) (by kernel_rfl) (by kernel_rfl) (fun _ _ _ h => h) (Or.inl ⟨by rfl, ?hy30⟩) (by assumption) ?rest30
      case hy30 => (intro w hSw; (try dsimp only at hSw); obtain ⟨y1, y2, y3, y4, y5, y6⟩ := (One.fact hSw).2.c6; go_simp <;> with_reducible rfl)
      try simp only [Act.put, List.setIfInBounds_toArray, List.set_cons_zero, List.set_cons_succ]
      refine wpAnyH_take (i := 8) (oi := { dst := some 19, op := Go.Op.call { callee := Go.Callee.builtin Go.Builtin.len, args := #[Go.Operand.tmp 18], argTypes := #[22] }, type := 3, pos := "stack.go:113", after := #[{ on := 7, ground := Go.Ground.data }, { on := 6, ground := Go.Ground.guard }], guard := some (6, false) }) (v := ?v31) rfl (by kernel_rfl) (by kernel_rfl) (by kernel_rfl) (fun _ _ _ h => h) (Or.inl ⟨by rfl, ?hy31⟩) (by assumption) ?rest31
      case hy31 => (intro w hSw; (try dsimp only at hSw); obtain ⟨y1, y2, y3, y4, y5, y6⟩ := (One.fact hSw).2.c6; go_simp <;> with_reducible rfl)
      try simp only [Act.put, List.setIfInBounds_toArray, List.set_cons_zero, List.set_cons_succ]
      refine wpAnyH_take (i := 9) (oi := { dst := some 20, op := Go.Op.load 60 (Go.Operand.tmp 5), type := 60, pos := "stack.go:113", after := #[{ on := 6, ground := Go.Ground.guard }], guard := some (6, false) }) (v := ?v32) rfl (by kernel_rfl) (by kernel_rfl) (by kernel_rfl) (fun _ _ _ h => h) (Or.inl ⟨by rfl, ?hy32⟩) (by assumption) ?rest32
      case hy32 => (intro w hSw; (try dsimp only at hSw); obtain ⟨y1, y2, y3, y4, y5, y6⟩ := (One.fact hSw).2.c6; go_simp <;> with_reducible rfl)
      try simp only [Act.put, List.setIfInBounds_toArray, List.set_cons_zero, List.set_cons_succ]
      refine wpAnyH_take (i := 11) (oi := { dst := some 22, op := Go.Op.fieldAddr 60 (Go.Operand.tmp 5) 2, type := 0, pos := "stack.go:113", after := #[{ on := 6, ground := Go.Ground.guard }], guard := some (6, false) }) (v := ?v33) rfl (by kernel_rfl) (by kernel_rfl) (by kernel_rfl) (fun _ _ _ h => h) (Or.inl ⟨by rfl, ?hy33⟩) (by assumption) ?rest33
      case hy33 => (intro w hSw; (try dsimp only at hSw); obtain ⟨y1, y2, y3, y4, y5, y6⟩ := (One.fact hSw).2.c6; go_simp <;> with_reducible rfl)
      try simp only [Act.put, List.setIfInBounds_toArray, List.set_cons_zero, List.set_cons_succ]
      refine wpAnyH_take (i := 12) (oi := { dst := some 23, op := Go.Op.load 3 (Go.Operand.tmp 22), type := 3, pos := "stack.go:113", after := #[{ on := 11, ground := Go.Ground.data }, { on := 6, ground := Go.Ground.guard }], guard := some (6, false) }) (v := ?v34) rfl (by kernel_rfl) (by kernel_rfl) (by kernel_rfl) (fun _ _ _ h => h) (Or.inl ⟨by rfl, ?hy34⟩) (by assumption) ?rest34
      case hy34 => (intro w hSw; (try dsimp only at hSw); obtain ⟨y1, y2, y3, y4, y5, y6⟩ := (One.fact hSw).2.c6; go_simp <;> with_reducible rfl)
      try simp only [Act.put, List.setIfInBounds_toArray, List.set_cons_zero, List.set_cons_succ]
      refine wpAnyH_ready (rs := [10]) (by kernel_rfl) (by simp) ?_
      refine AllReadyH.cons (o := { dst := some 21, op := Go.Op.call { callee := Go.Callee.value (Go.Operand.func 60), args := #[Go.Operand.tmp 20], argTypes := #[60] }, type := 3, pos := "stack.go:113", after := #[{ on := 9, ground := Go.Ground.data }, { on := 6, ground := Go.Ground.chain }, { on := 6, ground := Go.Ground.guard }], guard := some (6, false) }) rfl (fun K hK => ?_) AllReadyH.nil
      go_simp
      go_at_call 60; refine (hS.mem (fun O h hb => hTp.out _ _ h hb)).mono ?_; rintro e w2 ⟨rfl, hS2⟩; clear hS; have hS := hS2; clear hS2; clear y1 y2 y3 y4 y5 y6; obtain ⟨y1, y2, y3, y4, y5, y6⟩ := hS.fact.2.c6
      refine hK.out _ _ ?_ (fun hHeld2 => ?_)
      · (try dsimp only); exact hS
      clear hK K hHeld
      have hHeld := hHeld2
      clear hHeld2
      try simp only [Act.put, List.setIfInBounds_toArray, List.set_cons_zero, List.set_cons_succ]
      refine wpAnyH_take (i := 13) (oi := { dst := some 24, op := Go.Op.binOp Go.BinOp.sub 3 (Go.Operand.tmp 21) (Go.Operand.tmp 23) 3, type := 3, pos := "stack.go:113", after := #[{ on := 10, ground := Go.Ground.data }, { on := 12, ground := Go.Ground.data }, { on := 6, ground := Go.Ground.guard }], guard := some (6, false) }) (v := ?v35) rfl (by kernel_rfl) (by kernel_rfl) (by kernel_rfl) (fun _ _ _ h => h) (Or.inl ⟨by rfl, ?hy35⟩) (by assumption) ?rest35
      case hy35 => (intro w hSw; (try dsimp only at hSw); obtain ⟨y1, y2, y3, y4, y5, y6⟩ := (One.fact hSw).2.c6; go_simp <;> with_reducible rfl)
      try simp only [Act.put, List.setIfInBounds_toArray, List.set_cons_zero, List.set_cons_succ]
      refine wpAnyH_take (i := 14) (oi := { dst := some 25, op := Go.Op.binOp Go.BinOp.shr 3 (Go.Operand.tmp 24) (Go.Operand.const (Go.Value.int Go.IntKind.u64 3)) 91, type := 3, pos := "stack.go:113", after := #[{ on := 13, ground := Go.Ground.data }, { on := 6, ground := Go.Ground.guard }], guard := some (6, false) }) (v := ?v36) rfl (by kernel_rfl) (by kernel_rfl) (by kernel_rfl) (fun _ _ _ h => h) (Or.inl ⟨by rfl, ?hy36⟩) (by assumption) ?rest36
      case hy36 => (intro w hSw; (try dsimp only at hSw); obtain ⟨y1, y2, y3, y4, y5, y6⟩ := (One.fact hSw).2.c6; go_simp <;> with_reducible rfl)
      try simp only [Act.put, List.setIfInBounds_toArray, List.set_cons_zero, List.set_cons_succ]
      refine wpAnyH_take (i := 15) (oi := { dst := some 26, op := Go.Op.binOp Go.BinOp.gtr 3 (Go.Operand.tmp 19) (Go.Operand.tmp 25) 3, type := 4, pos := "stack.go:113", after := #[{ on := 8, ground := Go.Ground.data }, { on := 14, ground := Go.Ground.data }, { on := 6, ground := Go.Ground.guard }], guard := some (6, false) }) (v := ?v37) rfl (by kernel_rfl) (by kernel_rfl) (by kernel_rfl) (fun _ _ _ h => h) (Or.inl ⟨by rfl, ?hy37⟩) (by assumption) ?rest37
      case hy37 => (intro w hSw; (try dsimp only at hSw); obtain ⟨y1, y2, y3, y4, y5, y6⟩ := (One.fact hSw).2.c6; go_simp <;> with_reducible rfl)
      try simp only [Act.put, List.setIfInBounds_toArray, List.set_cons_zero, List.set_cons_succ]
      refine wpAnyH_take (i := 16) (oi := { dst := some 27, op := Go.Op.pick (Go.Operand.tmp 17) (Go.Operand.const (Go.Value.bool true)) (Go.Operand.tmp 26), type := 4, pos := "stack.go:113", after := #[{ on := 6, ground := Go.Ground.data }, { on := 15, ground := Go.Ground.data }, { on := 3, ground := Go.Ground.guard }], guard := some (3, true) }) (v := ?v38) rfl (by kernel_rfl) (by kernel_rfl) (by kernel_rfl) (fun _ _ _ h => h) (Or.inl ⟨by rfl, ?hy38⟩) (by assumption) ?rest38
      case hy38 => (intro w hSw; (try dsimp only at hSw); obtain ⟨y1, y2, y3, y4, y5, y6⟩ := (One.fact hSw).2.c6; go_simp <;> with_reducible rfl)
      try simp only [Act.put, List.setIfInBounds_toArray, List.set_cons_zero, List.set_cons_succ]
      refine wpAnyH_take (i := 17) (oi := { dst := some 28, op := Go.Op.pick (Go.Operand.tmp 14) (Go.Operand.tmp 27) (Go.Operand.const (Go.Value.bool false)), type := 4, pos := "stack.go:113", after := #[{ on := 3, ground := Go.Ground.data }, { on := 16, ground := Go.Ground.data }], guard := none }) (v := ?v39) rfl (by kernel_rfl) (by kernel_rfl) (by kernel_rfl) (fun _ _ _ h => h) (Or.inl ⟨by rfl, ?hy39⟩) (by assumption) ?rest39
      case hy39 => (intro w hSw; (try dsimp only at hSw); obtain ⟨y1, y2, y3, y4, y5, y6⟩ := (One.fact hSw).2.c6; go_simp <;> with_reducible rfl)
      try simp only [Act.put, List.setIfInBounds_toArray, List.set_cons_zero, List.set_cons_succ]
      refine wpAnyH_done (by kernel_rfl) ?_ _
      refine NoPanic.normal ?_
      go_wp2
      go_loopw [35] (fun i wr => ∃ (k : Nat), i = .int .i64 (k : Int) ∧ k ≤ l.length ∧ One w wr B mb (pushAll M (l.take k)) O (Kp.rv 1 (.slice ad l.length cap) l.length (ic l))) (fun i _ => (l.length - (intOf i).toNat))
      case atStart => exact ⟨0, rfl, by omega, by rw [pushAll_zero]; exact hS.keep (fun O h => h.left)⟩
      case round =>
        obtain ⟨k, rfl, hk, hS⟩ := hrel
        by_cases hlt : k < l.length
        · have t2 : ((k : Int) < (l.length : Int)) = True := by simp; omega
          have b1 : (0 : Int) ≤ (k : Int) := by omega
          have wk : IntKind.i64.wrap ((k : Int) + 1) = ((k + 1 : Nat) : Int) := by rw [IntKind.wrap_i64]; omega
          obtain ⟨x, hx⟩ : ∃ x, l[k]? = some x := ⟨_, List.getElem?_eq_getElem hlt⟩
          obtain ⟨a2, he, hc⟩ : ∃ a2, ad = some a2 ∧ wr.cell? (a2.add k) = some (.int .i64 x) := by
            rcases hS.fact.2.2 with ⟨e, e2⟩ | ⟨a2, c2, e, hc⟩
            · omega
            · cases e
              exact ⟨a2, rfl, hc k _ (by unfold ic; rw [List.getElem?_map, hx]; rfl)⟩
          subst he
          have hP := Lib.hid (fun (w9 : World) (O : Nat → Prop) (h : MemP w9 B mb (pushAll M (l.take k)) O) (hb : B ≤ w9.heap.size) => mPush h hb 32 256 512 (-3) (-4) (by unfold Sk; omega) x)
          have hst := Lib.hid (show pushM (pushAll M (l.take k)) 32 256 512 x = pushAll M (l.take (k + 1)) from (pushAll_take M l k x hx).symm)
          rw [hst.out] at hP
          replace hlt := Lib.hid hlt
          clear hk hx
          go_wp2_with (go_at_call 32; refine (hS.mem (fun O h hb => hP.out _ _ h hb)).mono ?_; rintro e w4 ⟨rfl, hS2⟩; clear hS; have hS := hS2; clear hS2)
          go_roundw
          case rel => exact ⟨k + 1, rfl, hlt.out, hS⟩
          case measure => have := hlt.out; simp [intOf]; omega
        · have hkN : k = l.length := by omega
          subst hkN
          have t2 : ((l.length : Int) < (l.length : Int)) = False := by simp
          rw [List.take_length] at hS
          clear hlt hk
          go_wp2
          go_ret
          obtain ⟨O', q1, q2, q3, q4⟩ := hS
          exact ⟨rfl, O', q1, q2⟩
set_option maxHeartbeats 1000000 in
theorem rLays {w : World} {B rb : Nat} {M : List UInt8} {R : Nat → Prop} (h : RefP w B rb M R) {v : Value} {l : List Int} (hK : Keep w R (.rv 1 v l.length (ic l))) :
    Calls Try.prog 54 #[.pointer (some ⟨rb, 0, none⟩), v] w fun e w' => RefQ w w' B rb (laysM M l) R (.int .i64 (laysT M l)) e := by
  obtain ⟨ad, cap, rfl⟩ := Rv.form hK.1
  have hS := Onr.startK h h.base_le hK
  have hd := (depL_bd (M := M) (show Sk 32 256 512 from by unfold Sk; omega))
  have hD := Lib.hid (fun (w9 : World) (O : Nat → Prop) (h : RefP w9 B rb M O) => rDepth h)
  unfold laysT laysM
  generalize depL M 32 256 512 = d at *
  have wd : IntKind.i64.wrap (32 - d) = 32 - d := by rw [IntKind.wrap_i64]; omega
  have hl32 := Lib.hid (show 32 < (l.length : Int) → 32 - d < (l.length : Int) by omega)
  clear hd h hK
  by_cases c1 : 32 - d < (l.length : Int)
  · have t1 : (32 - d < (l.length : Int)) = True := by simp; exact c1
    rw [if_pos c1, if_pos c1]
    clear c1
    go_enter Try.func54, Try.ntmps54
    go_wp2_with (go_at_call 26; refine (hS.read (fun O h => hD.out _ _ h)).mono ?_; rintro e w2 ⟨rfl, hS2⟩; clear hS; have hS := hS2; clear hS2)
    go_ret
    exact hS.refQ _
  · have t1 : (32 - d < (l.length : Int)) = False := by simp; omega
    rw [if_neg c1, if_neg c1]
    have hl : l.length ≤ 1000000 := by have := hl32.out; omega
    clear c1
    go_enter Try.func54, Try.ntmps54
    go_wp2_with (go_at_call 26; refine (hS.read (fun O h => hD.out _ _ h)).mono ?_; rintro e w2 ⟨rfl, hS2⟩; clear hS; have hS := hS2; clear hS2)
    go_loopw [15] (fun i wr => ∃ (k : Nat), i = .int .i64 (k : Int) ∧ k ≤ l.length ∧ Onr w wr B rb (pushAll M (l.take k)) R (Kp.rv 1 (.slice ad l.length cap) l.length (ic l))) (fun i _ => (l.length - (intOf i).toNat))
    case atStart => exact ⟨0, rfl, by omega, by rw [pushAll_zero]; exact hS⟩
    case round =>
      obtain ⟨k, rfl, hk, hS⟩ := hrel
      by_cases hlt : k < l.length
      · have t2 : ((k : Int) < (l.length : Int)) = True := by simp; omega
        have b1 : (0 : Int) ≤ (k : Int) := by omega
        have wk : IntKind.i64.wrap ((k : Int) + 1) = ((k + 1 : Nat) : Int) := by rw [IntKind.wrap_i64]; omega
        obtain ⟨x, hx⟩ : ∃ x, l[k]? = some x := ⟨_, List.getElem?_eq_getElem hlt⟩
        obtain ⟨a2, he, hc⟩ : ∃ a2, ad = some a2 ∧ wr.cell? (a2.add k) = some (.int .i64 x) := by
          rcases hS.fact.2.2 with ⟨e, e2⟩ | ⟨a2, c2, e, hc⟩
          · omega
          · cases e
            exact ⟨a2, rfl, hc k _ (by unfold ic; rw [List.getElem?_map, hx]; rfl)⟩
        subst he
        have hP := Lib.hid (fun (w9 : World) (O : Nat → Prop) (h : RefP w9 B rb (pushAll M (l.take k)) O) (hb : B ≤ w9.heap.size) => rPush h x)
        have hst := Lib.hid (show pushM (pushAll M (l.take k)) 32 256 512 x = pushAll M (l.take (k + 1)) from (pushAll_take M l k x hx).symm)
        rw [hst.out] at hP
        replace hlt := Lib.hid hlt
        clear hk hx
        go_wp2_with (go_at_call 44; refine (hS.ref (fun O h hb => hP.out _ _ h hb)).mono ?_; rintro e w4 ⟨rfl, hS2⟩; clear hS; have hS := hS2; clear hS2)
        go_roundw
        case rel => exact ⟨k + 1, rfl, hlt.out, hS⟩
        case measure => have := hlt.out; simp [intOf]; omega
      · have hkN : k = l.length := by omega
        subst hkN
        have t2 : ((l.length : Int) < (l.length : Int)) = False := by simp
        rw [List.take_length] at hS
        clear hlt hk
        go_wp2
        go_ret
        obtain ⟨O', q1, q2, q3, q4⟩ := hS
        exact ⟨rfl, O', q1, q2⟩
end Go.Proofs.Ytjeelccdbhhfjaa
