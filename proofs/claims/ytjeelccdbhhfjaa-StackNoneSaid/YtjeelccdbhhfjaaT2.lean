/- One stack: what is laid and taken. -/
import Derived.Test.YtjeelccdbhhfjaaT1
namespace Go.Proofs.Ytjeelccdbhhfjaa
open Go.RowKit
set_option linter.unusedVariables false
set_option linter.unusedSimpArgs false
attribute [local go_sem] cell_set set_set m_undef

set_option maxHeartbeats 1000000 in
theorem mSetT {w : World} {B mb : Nat} {M : List UInt8} {O : Nat → Prop} (h : MemP w B mb M O) (hB : B ≤ w.heap.size) (a lo hi ov un : Int) (x : Int) (ha : isI a) :
    Calls Try.prog 40 #[.agg #[.pointer (some ⟨mb, 0, none⟩), .int .i64 a, .int .i64 lo, .int .i64 hi, .int .i64 ov, .int .i64 un], .int .i64 x] w fun e w' => MemQ w w' B mb (setM M a x) O (.tuple #[]) e := by
  obtain ⟨w0, hw0, hS⟩ := skEnter h hB a lo hi ov un
  obtain ⟨y1, y2, y3, y4, y5, y6⟩ := hS.fact.c6
  go_enter Try.func40, Try.ntmps40
  go_upto_region 1 with fail
  rw [← hw0]
  clear hw0
  go_wp2_with (go_at_call 14; refine (hS.mem (fun O h hb => mSet h hb a x ha)).mono ?_; rintro e w2 ⟨rfl, hS2⟩; clear hS; have hS := hS2; clear hS2; clear y1 y2 y3 y4 y5 y6; obtain ⟨y1, y2, y3, y4, y5, y6⟩ := hS.fact.c6)
  (try go_end0)
  exact hS.memQ _
set_option maxRecDepth 100000 in
set_option maxHeartbeats 1000000 in
theorem mDep {w : World} {B mb : Nat} {M : List UInt8} {O : Nat → Prop} (h : MemP w B mb M O) (hB : B ≤ w.heap.size) (a lo hi ov un : Int) (hk : Sk a lo hi) :
    Calls Try.prog 43 #[.agg #[.pointer (some ⟨mb, 0, none⟩), .int .i64 a, .int .i64 lo, .int .i64 hi, .int .i64 ov, .int .i64 un]] w fun e w' => MemQ w w' B mb M O (.int .i64 (depL M a lo hi)) e := by
  obtain ⟨b1, b2, b3, b4, b5, b6, b7, b8, b9⟩ := topL_bd (M := M) hk
  unfold depL
  have hTp := Lib.hid (fun (w9 : World) (O : Nat → Prop) (h : MemP w9 B mb M O) (hb : B ≤ w9.heap.size) => mTop h hb a lo hi ov un hk)
  generalize topL M a lo hi = t at *
  have wd : IntKind.i64.wrap (hi - t) = hi - t := by rw [IntKind.wrap_i64]; omega
  clear b1 b2 b3 b4 b5 b6 b7 b8 b9
  obtain ⟨w0, hw0, hS⟩ := skEnter h hB a lo hi ov un
  obtain ⟨y1, y2, y3, y4, y5, y6⟩ := hS.fact.c6
  go_enter Try.func43, Try.ntmps43
  go_upto_region 1 with fail
  rw [← hw0]
  clear hw0
  replace hS := hS.drew
  refine wp_region_noPanic ?_
  refine wp_region_held_drew (S := (fun w' => One w w' B mb M O (.blk w.heap.size #[.pointer (some ⟨mb, 0, none⟩), .int .i64 a, .int .i64 lo, .int .i64 hi, .int .i64 ov, .int .i64 un] 60))) (by kernel_rfl) ?_ (fun hHeld => ?_)
  · (try dsimp only); exact hS
  refine wpAnyH_take (i := 0) (oi := { dst := some 3, op := Go.Op.fieldAddr 60 (Go.Operand.tmp 1) 3, type := 0, pos := "stack.go:41", after := #[], guard := none }) (v := ?v1) rfl (by kernel_rfl) (by kernel_rfl) (by kernel_rfl) (fun _ _ _ h => h) (Or.inl ⟨by rfl, ?hy1⟩) (by assumption) ?rest1
  case hy1 => (intro w hSw; (try dsimp only at hSw); obtain ⟨y1, y2, y3, y4, y5, y6⟩ := (One.fact hSw).c6; go_simp <;> with_reducible rfl)
  try simp only [Act.put, List.setIfInBounds_toArray, List.set_cons_zero, List.set_cons_succ]
  refine wpAnyH_take (i := 1) (oi := { dst := some 4, op := Go.Op.load 3 (Go.Operand.tmp 3), type := 3, pos := "stack.go:41", after := #[{ on := 0, ground := Go.Ground.data }], guard := none }) (v := ?v2) rfl (by kernel_rfl) (by kernel_rfl) (by kernel_rfl) (fun _ _ _ h => h) (Or.inl ⟨by rfl, ?hy2⟩) (by assumption) ?rest2
  case hy2 => (intro w hSw; (try dsimp only at hSw); obtain ⟨y1, y2, y3, y4, y5, y6⟩ := (One.fact hSw).c6; go_simp <;> with_reducible rfl)
  try simp only [Act.put, List.setIfInBounds_toArray, List.set_cons_zero, List.set_cons_succ]
  refine wpAnyH_take (i := 2) (oi := { dst := some 5, op := Go.Op.load 60 (Go.Operand.tmp 1), type := 60, pos := "stack.go:41", after := #[], guard := none }) (v := ?v3) rfl (by kernel_rfl) (by kernel_rfl) (by kernel_rfl) (fun _ _ _ h => h) (Or.inl ⟨by rfl, ?hy3⟩) (by assumption) ?rest3
  case hy3 => (intro w hSw; (try dsimp only at hSw); obtain ⟨y1, y2, y3, y4, y5, y6⟩ := (One.fact hSw).c6; go_simp <;> with_reducible rfl)
  try simp only [Act.put, List.setIfInBounds_toArray, List.set_cons_zero, List.set_cons_succ]
  refine wpAnyH_ready (rs := [3]) (by kernel_rfl) (by simp) ?_
  refine AllReadyH.cons (o := { dst := some 6, op := Go.Op.call { callee := Go.Callee.value (Go.Operand.func 60), args := #[Go.Operand.tmp 5], argTypes := #[60] }, type := 3, pos := "stack.go:41", after := #[{ on := 2, ground := Go.Ground.data }], guard := none }) rfl (fun K hK => ?_) AllReadyH.nil
  go_simp
  go_at_call 60; refine (hS.mem (fun O h hb => hTp.out _ _ h hb)).mono ?_; rintro e w2 ⟨rfl, hS2⟩; clear hS; have hS := hS2; clear hS2; clear y1 y2 y3 y4 y5 y6; obtain ⟨y1, y2, y3, y4, y5, y6⟩ := hS.fact.c6
  refine hK.out _ _ ?_ (fun hHeld2 => ?_)
  · (try dsimp only); exact hS
  clear hK K hHeld
  have hHeld := hHeld2
  clear hHeld2
  try simp only [Act.put, List.setIfInBounds_toArray, List.set_cons_zero, List.set_cons_succ]
  refine wpAnyH_take (i := 4) (oi := { dst := some 7, op := Go.Op.binOp Go.BinOp.sub 3 (Go.Operand.tmp 4) (Go.Operand.tmp 6) 3, type := 3, pos := "stack.go:41", after := #[{ on := 1, ground := Go.Ground.data }, { on := 3, ground := Go.Ground.data }], guard := none }) (v := ?v4) rfl (by kernel_rfl) (by kernel_rfl) (by kernel_rfl) (fun _ _ _ h => h) (Or.inl ⟨by rfl, ?hy4⟩) (by assumption) ?rest4
  case hy4 => (intro w hSw; (try dsimp only at hSw); obtain ⟨y1, y2, y3, y4, y5, y6⟩ := (One.fact hSw).c6; go_simp <;> with_reducible rfl)
  try simp only [Act.put, List.setIfInBounds_toArray, List.set_cons_zero, List.set_cons_succ]
  refine wpAnyH_take (i := 5) (oi := { dst := some 8, op := Go.Op.binOp Go.BinOp.shr 3 (Go.Operand.tmp 7) (Go.Operand.const (Go.Value.int Go.IntKind.u64 3)) 91, type := 3, pos := "stack.go:41", after := #[{ on := 4, ground := Go.Ground.data }], guard := none }) (v := ?v5) rfl (by kernel_rfl) (by kernel_rfl) (by kernel_rfl) (fun _ _ _ h => h) (Or.inl ⟨by rfl, ?hy5⟩) (by assumption) ?rest5
  case hy5 => (intro w hSw; (try dsimp only at hSw); obtain ⟨y1, y2, y3, y4, y5, y6⟩ := (One.fact hSw).c6; go_simp <;> with_reducible rfl)
  try simp only [Act.put, List.setIfInBounds_toArray, List.set_cons_zero, List.set_cons_succ]
  refine wpAnyH_take (i := 6) (oi := { dst := some 2, op := Go.Op.assign (Go.Operand.tmp 8), type := 3, pos := "stack.go:41", after := #[{ on := 5, ground := Go.Ground.data }, { on := 3, ground := Go.Ground.chain }, { on := 0, ground := Go.Ground.phase }, { on := 1, ground := Go.Ground.phase }, { on := 2, ground := Go.Ground.phase }, { on := 3, ground := Go.Ground.phase }, { on := 4, ground := Go.Ground.phase }, { on := 5, ground := Go.Ground.phase }], guard := none }) (v := ?v6) rfl (by kernel_rfl) (by kernel_rfl) (by kernel_rfl) (fun _ _ _ h => h) (Or.inl ⟨by rfl, ?hy6⟩) (by assumption) ?rest6
  case hy6 => (intro w hSw; (try dsimp only at hSw); obtain ⟨y1, y2, y3, y4, y5, y6⟩ := (One.fact hSw).c6; go_simp <;> with_reducible rfl)
  try simp only [Act.put, List.setIfInBounds_toArray, List.set_cons_zero, List.set_cons_succ]
  refine wpAnyH_done (by kernel_rfl) ?_ _
  refine NoPanic.normal ?_
  go_wp2
  go_ret
  exact hS.memQ _
set_option maxHeartbeats 1000000 in
theorem mPush {w : World} {B mb : Nat} {M : List UInt8} {O : Nat → Prop} (h : MemP w B mb M O) (hB : B ≤ w.heap.size) (a lo hi ov un : Int) (hk : Sk a lo hi) (n : Int) :
    Calls Try.prog 32 #[.agg #[.pointer (some ⟨mb, 0, none⟩), .int .i64 a, .int .i64 lo, .int .i64 hi, .int .i64 ov, .int .i64 un], .int .i64 n] w fun e w' => MemQ w w' B mb (pushM M a lo hi n) O (.int .i64 (pushT M a lo hi ov)) e := by
  obtain ⟨b1, b2, b3, b4, b5, b6, b7, b8, b9⟩ := topL_bd (M := M) hk
  unfold pushM pushT
  have hTp := Lib.hid (fun (w9 : World) (O : Nat → Prop) (h : MemP w9 B mb M O) (hb : B ≤ w9.heap.size) => mTop h hb a lo hi ov un hk)
  generalize topL M a lo hi = t at *
  obtain ⟨p, hp⟩ : ∃ p, p = t - 8 := ⟨_, rfl⟩
  have wd : IntKind.i64.wrap (t - 8) = p := by rw [hp, IntKind.wrap_i64]; omega
  rw [← hp]
  have hpi : isI p := by unfold isI; omega
  have hai : isI a := by unfold isI; omega
  obtain ⟨w0, hw0, hS⟩ := skEnter h hB a lo hi ov un
  obtain ⟨y1, y2, y3, y4, y5, y6⟩ := hS.fact.c6
  by_cases c1 : p < lo
  · have t1 : (p < lo) = True := by simp; exact c1
    rw [if_pos c1, if_pos c1]
    clear c1 b1 b2 b3 b4 b5 b6 b7 b8 b9 hp
    go_enter Try.func32, Try.ntmps32
    go_upto_region 1 with fail
    rw [← hw0]
    clear hw0
    go_wp2_with (go_at_call 60; refine (hS.mem (fun O h hb => hTp.out _ _ h hb)).mono ?_; rintro e w2 ⟨rfl, hS2⟩; clear hS; have hS := hS2; clear hS2; clear y1 y2 y3 y4 y5 y6; obtain ⟨y1, y2, y3, y4, y5, y6⟩ := hS.fact.c6)
    go_ret
    exact hS.memQ _
  · have t1 : (p < lo) = False := by simp; omega
    rw [if_neg c1, if_neg c1]
    clear c1 b1 b2 b3 b4 b5 b6 b7 b8 b9 hp
    go_enter Try.func32, Try.ntmps32
    go_upto_region 1 with fail
    rw [← hw0]
    clear hw0
    go_wp2_with (first
      | (go_at_call 60; refine (hS.mem (fun O h hb => hTp.out _ _ h hb)).mono ?_; rintro e w2 ⟨rfl, hS2⟩; clear hS; have hS := hS2; clear hS2; clear y1 y2 y3 y4 y5 y6; obtain ⟨y1, y2, y3, y4, y5, y6⟩ := hS.fact.c6)
      | (go_at_call 14; refine (hS.mem (fun O h hb => mSet h hb p n hpi)).mono ?_; rintro e w2 ⟨rfl, hS2⟩; clear hS; have hS := hS2; clear hS2; clear y1 y2 y3 y4 y5 y6; obtain ⟨y1, y2, y3, y4, y5, y6⟩ := hS.fact.c6)
      | (go_at_call 40; refine (hS.mem (fun O h hb => mSetT h hb a lo hi ov un p hai)).mono ?_; rintro e w2 ⟨rfl, hS2⟩; clear hS; have hS := hS2; clear hS2; clear y1 y2 y3 y4 y5 y6; obtain ⟨y1, y2, y3, y4, y5, y6⟩ := hS.fact.c6))
    go_ret
    exact hS.memQ _
end Go.Proofs.Ytjeelccdbhhfjaa
