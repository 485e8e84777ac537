/- One stack: what is looked at and taken. -/
import Derived.Test.YtjeelccdbhhfjaaT2
namespace Go.Proofs.Ytjeelccdbhhfjaa
open Go.RowKit
set_option linter.unusedVariables false
set_option linter.unusedSimpArgs false
attribute [local go_sem] cell_set set_set m_undef

set_option maxRecDepth 100000 in
set_option maxHeartbeats 1000000 in
theorem mPeek {w : World} {B mb : Nat} {M : List UInt8} {O : Nat → Prop} (h : MemP w B mb M O) (hB : B ≤ w.heap.size) (a lo hi ov un : Int) (hk : Sk a lo hi) (n : Int) (hn : isI n) :
    Calls Try.prog 41 #[.agg #[.pointer (some ⟨mb, 0, none⟩), .int .i64 a, .int .i64 lo, .int .i64 hi, .int .i64 ov, .int .i64 un], .int .i64 n] w fun e w' => MemQ w w' B mb M O (.tuple #[.int .i64 (peekV M a lo hi n), .int .i64 (peekT M a lo hi un n)]) e := by
  obtain ⟨b1, b2, b3, b4, b5, b6, b7, b8, b9⟩ := topL_bd (M := M) hk
  obtain ⟨d1, d2, d3⟩ := depL_bd (M := M) hk
  unfold peekV peekT
  have hTp := Lib.hid (fun (w9 : World) (O : Nat → Prop) (h : MemP w9 B mb M O) (hb : B ≤ w9.heap.size) => mTop h hb a lo hi ov un hk)
  have hDp := Lib.hid (fun (w9 : World) (O : Nat → Prop) (h : MemP w9 B mb M O) (hb : B ≤ w9.heap.size) => mDep h hb a lo hi ov un hk)
  generalize topL M a lo hi = t at *
  generalize depL M a lo hi = d at *
  unfold isI at hn
  obtain ⟨w0, hw0, hS⟩ := skEnter h hB a lo hi ov un
  obtain ⟨y1, y2, y3, y4, y5, y6⟩ := hS.fact.c6
  by_cases c1 : n < 0
  · have t1 : (n < 0) = True := by simp; exact c1
    rw [if_neg (by omega), if_neg (by omega)]
    clear c1 b1 b2 b3 b4 b5 b6 b7 b8 b9 d1 d2 d3 hn
    go_enter Try.func41, Try.ntmps41
    go_upto_region 1 with fail
    rw [← hw0]
    clear hw0
    go_wp2
    replace hS := hS.drew
    refine wp_region_noPanic ?_
    refine wp_region_held_drew (S := (fun w' => One w w' B mb M O (.blk w.heap.size #[.pointer (some ⟨mb, 0, none⟩), .int .i64 a, .int .i64 lo, .int .i64 hi, .int .i64 ov, .int .i64 un] 60))) (by kernel_rfl) ?_ (fun hHeld => ?_)
    · (try dsimp only); exact hS
    refine wpAnyH_take (i := 0) (oi := { dst := some 14, op := Go.Op.fieldAddr 60 (Go.Operand.tmp 2) 5, type := 0, pos := "stack.go:57", after := #[{ on := 2, ground := Go.Ground.gcOnly Go.Departure.lateStores }], guard := none }) (v := ?v1) rfl (by kernel_rfl) (by kernel_rfl) (by kernel_rfl) (fun _ _ _ h => h) (Or.inl ⟨by rfl, ?hy1⟩) (by assumption) ?rest1
    case hy1 => (intro w hSw; (try dsimp only at hSw); obtain ⟨y1, y2, y3, y4, y5, y6⟩ := (One.fact hSw).c6; go_simp <;> with_reducible rfl)
    try simp only [Act.put, List.setIfInBounds_toArray, List.set_cons_zero, List.set_cons_succ]
    refine wpAnyH_take (i := 1) (oi := { dst := some 15, op := Go.Op.load 3 (Go.Operand.tmp 14), type := 3, pos := "stack.go:57", after := #[{ on := 0, ground := Go.Ground.data }, { on := 2, ground := Go.Ground.gcOnly Go.Departure.lateStores }], guard := none }) (v := ?v2) rfl (by kernel_rfl) (by kernel_rfl) (by kernel_rfl) (fun _ _ _ h => h) (Or.inl ⟨by rfl, ?hy2⟩) (by assumption) ?rest2
    case hy2 => (intro w hSw; (try dsimp only at hSw); obtain ⟨y1, y2, y3, y4, y5, y6⟩ := (One.fact hSw).c6; go_simp <;> with_reducible rfl)
    try simp only [Act.put, List.setIfInBounds_toArray, List.set_cons_zero, List.set_cons_succ]
    refine wpAnyH_take (i := 2) (oi := { dst := some 4, op := Go.Op.assign (Go.Operand.const (Go.Value.int Go.IntKind.i64 0)), type := 2, pos := "stack.go:57", after := #[{ on := 0, ground := Go.Ground.textOnly Go.Departure.lateStores }, { on := 1, ground := Go.Ground.textOnly Go.Departure.lateStores }], guard := none }) (v := ?v3) rfl (by kernel_rfl) (by kernel_rfl) (by kernel_rfl) (fun _ _ _ h => h) (Or.inl ⟨by rfl, ?hy3⟩) (by assumption) ?rest3
    case hy3 => (intro w hSw; (try dsimp only at hSw); obtain ⟨y1, y2, y3, y4, y5, y6⟩ := (One.fact hSw).c6; go_simp <;> with_reducible rfl)
    try simp only [Act.put, List.setIfInBounds_toArray, List.set_cons_zero, List.set_cons_succ]
    refine wpAnyH_take (i := 3) (oi := { dst := some 5, op := Go.Op.assign (Go.Operand.tmp 15), type := 3, pos := "stack.go:57", after := #[{ on := 1, ground := Go.Ground.data }, { on := 2, ground := Go.Ground.chain }, { on := 0, ground := Go.Ground.phase }, { on := 1, ground := Go.Ground.phase }, { on := 2, ground := Go.Ground.phase }], guard := none }) (v := ?v4) rfl (by kernel_rfl) (by kernel_rfl) (by kernel_rfl) (fun _ _ _ h => h) (Or.inl ⟨by rfl, ?hy4⟩) (by assumption) ?rest4
    case hy4 => (intro w hSw; (try dsimp only at hSw); obtain ⟨y1, y2, y3, y4, y5, y6⟩ := (One.fact hSw).c6; go_simp <;> with_reducible rfl)
    try simp only [Act.put, List.setIfInBounds_toArray, List.set_cons_zero, List.set_cons_succ]
    refine wpAnyH_done (by kernel_rfl) ?_ _
    refine NoPanic.normal ?_
    go_wp2
    go_ret2
    exact hS.memQ _
  by_cases c2 : d ≤ n
  · have t1 : (n < 0) = False := by simp; omega
    have t2 : (d ≤ n) = True := by simp; exact c2
    rw [if_neg (by omega), if_neg (by omega)]
    clear c1 c2 b1 b2 b3 b4 b5 b6 b7 b8 b9 d1 d2 d3 hn
    go_enter Try.func41, Try.ntmps41
    go_upto_region 1 with fail
    rw [← hw0]
    clear hw0
    go_wp2_with (go_at_call 43; refine (hS.mem (fun O h hb => hDp.out _ _ h hb)).mono ?_; rintro e w2 ⟨rfl, hS2⟩; clear hS; have hS := hS2; clear hS2; clear y1 y2 y3 y4 y5 y6; obtain ⟨y1, y2, y3, y4, y5, y6⟩ := hS.fact.c6)
    replace hS := hS.drew
    refine wp_region_noPanic ?_
    refine wp_region_held_drew (S := (fun w' => One w w' B mb M O (.blk w.heap.size #[.pointer (some ⟨mb, 0, none⟩), .int .i64 a, .int .i64 lo, .int .i64 hi, .int .i64 ov, .int .i64 un] 60))) (by kernel_rfl) ?_ (fun hHeld => ?_)
    · (try dsimp only); exact hS
    refine wpAnyH_take (i := 0) (oi := { dst := some 14, op := Go.Op.fieldAddr 60 (Go.Operand.tmp 2) 5, type := 0, pos := "stack.go:57", after := #[{ on := 2, ground := Go.Ground.gcOnly Go.Departure.lateStores }], guard := none }) (v := ?v5) rfl (by kernel_rfl) (by kernel_rfl) (by kernel_rfl) (fun _ _ _ h => h) (Or.inl ⟨by rfl, ?hy5⟩) (by assumption) ?rest5
    case hy5 => (intro w hSw; (try dsimp only at hSw); obtain ⟨y1, y2, y3, y4, y5, y6⟩ := (One.fact hSw).c6; go_simp <;> with_reducible rfl)
    try simp only [Act.put, List.setIfInBounds_toArray, List.set_cons_zero, List.set_cons_succ]
    refine wpAnyH_take (i := 1) (oi := { dst := some 15, op := Go.Op.load 3 (Go.Operand.tmp 14), type := 3, pos := "stack.go:57", after := #[{ on := 0, ground := Go.Ground.data }, { on := 2, ground := Go.Ground.gcOnly Go.Departure.lateStores }], guard := none }) (v := ?v6) rfl (by kernel_rfl) (by kernel_rfl) (by kernel_rfl) (fun _ _ _ h => h) (Or.inl ⟨by rfl, ?hy6⟩) (by assumption) ?rest6
    case hy6 => (intro w hSw; (try dsimp only at hSw); obtain ⟨y1, y2, y3, y4, y5, y6⟩ := (One.fact hSw).c6; go_simp <;> with_reducible rfl)
    try simp only [Act.put, List.setIfInBounds_toArray, List.set_cons_zero, List.set_cons_succ]
    refine wpAnyH_take (i := 2) (oi := { dst := some 4, op := Go.Op.assign (Go.Operand.const (Go.Value.int Go.IntKind.i64 0)), type := 2, pos := "stack.go:57", after := #[{ on := 0, ground := Go.Ground.textOnly Go.Departure.lateStores }, { on := 1, ground := Go.Ground.textOnly Go.Departure.lateStores }], guard := none }) (v := ?v7) rfl (by kernel_rfl) (by kernel_rfl) (by kernel_rfl) (fun _ _ _ h => h) (Or.inl ⟨by rfl, ?hy7⟩) (by assumption) ?rest7
    case hy7 => (intro w hSw; (try dsimp only at hSw); obtain ⟨y1, y2, y3, y4, y5, y6⟩ := (One.fact hSw).c6; go_simp <;> with_reducible rfl)
    try simp only [Act.put, List.setIfInBounds_toArray, List.set_cons_zero, List.set_cons_succ]
    refine wpAnyH_take (i := 3) (oi := { dst := some 5, op := Go.Op.assign (Go.Operand.tmp 15), type := 3, pos := "stack.go:57", after := #[{ on := 1, ground := Go.Ground.data }, { on := 2, ground := Go.Ground.chain }, { on := 0, ground := Go.Ground.phase }, { on := 1, ground := Go.Ground.phase }, { on := 2, ground := Go.Ground.phase }], guard := none }) (v := ?v8) rfl (by kernel_rfl) (by kernel_rfl) (by kernel_rfl) (fun _ _ _ h => h) (Or.inl ⟨by rfl, ?hy8⟩) (by assumption) ?rest8
    case hy8 => (intro w hSw; (try dsimp only at hSw); obtain ⟨y1, y2, y3, y4, y5, y6⟩ := (One.fact hSw).c6; go_simp <;> with_reducible rfl)
    try simp only [Act.put, List.setIfInBounds_toArray, List.set_cons_zero, List.set_cons_succ]
    refine wpAnyH_done (by kernel_rfl) ?_ _
    refine NoPanic.normal ?_
    go_wp2
    go_ret2
    exact hS.memQ _
  have t1 : (n < 0) = False := by simp; omega
  have t2 : (d ≤ n) = False := by simp; omega
  rw [if_pos ⟨by omega, by omega⟩, if_pos ⟨by omega, by omega⟩]
  obtain ⟨n8, hn8⟩ : ∃ n8, n8 = 8 * n := ⟨_, rfl⟩
  obtain ⟨p, hp⟩ : ∃ p, p = t + n8 := ⟨_, rfl⟩
  have w1 : IntKind.i64.wrap (8 * n) = n8 := by rw [IntKind.wrap_i64]; omega
  have w2 : IntKind.i64.wrap (t + n8) = p := by rw [IntKind.wrap_i64]; omega
  have hpi : isI p := by unfold isI; omega
  rw [← hn8, ← hp]
  clear c1 c2 b1 b2 b3 b4 b5 b6 b7 b8 b9 d1 d2 d3 hn hn8 hp
  go_enter Try.func41, Try.ntmps41
  go_upto_region 1 with fail
  rw [← hw0]
  clear hw0
  go_upto_region 3 with (go_at_call 43; refine (hS.mem (fun O h hb => hDp.out _ _ h hb)).mono ?_; rintro e w2 ⟨rfl, hS2⟩; clear hS; have hS := hS2; clear hS2; clear y1 y2 y3 y4 y5 y6; obtain ⟨y1, y2, y3, y4, y5, y6⟩ := hS.fact.c6)
  replace hS := hS.drew
  refine wp_region_noPanic ?_
  refine wp_region_held_drew (S := (fun w' => One w w' B mb M O (.blk w.heap.size #[.pointer (some ⟨mb, 0, none⟩), .int .i64 a, .int .i64 lo, .int .i64 hi, .int .i64 ov, .int .i64 un] 60))) (by kernel_rfl) ?_ (fun hHeld => ?_)
  · (try dsimp only); exact hS
  refine wpAnyH_take (i := 0) (oi := { dst := some 16, op := Go.Op.fieldAddr 60 (Go.Operand.tmp 2) 0, type := 0, pos := "stack.go:59", after := #[], guard := none }) (v := ?v9) rfl (by kernel_rfl) (by kernel_rfl) (by kernel_rfl) (fun _ _ _ h => h) (Or.inl ⟨by rfl, ?hy9⟩) (by assumption) ?rest9
  case hy9 => (intro w hSw; (try dsimp only at hSw); obtain ⟨y1, y2, y3, y4, y5, y6⟩ := (One.fact hSw).c6; go_simp <;> with_reducible rfl)
  try simp only [Act.put, List.setIfInBounds_toArray, List.set_cons_zero, List.set_cons_succ]
  refine wpAnyH_take (i := 1) (oi := { dst := some 17, op := Go.Op.load 24 (Go.Operand.tmp 16), type := 24, pos := "stack.go:59", after := #[{ on := 0, ground := Go.Ground.data }], guard := none }) (v := ?v10) rfl (by kernel_rfl) (by kernel_rfl) (by kernel_rfl) (fun _ _ _ h => h) (Or.inl ⟨by rfl, ?hy10⟩) (by assumption) ?rest10
  case hy10 => (intro w hSw; (try dsimp only at hSw); obtain ⟨y1, y2, y3, y4, y5, y6⟩ := (One.fact hSw).c6; go_simp <;> with_reducible rfl)
  try simp only [Act.put, List.setIfInBounds_toArray, List.set_cons_zero, List.set_cons_succ]
  refine wpAnyH_take (i := 2) (oi := { dst := some 18, op := Go.Op.load 60 (Go.Operand.tmp 2), type := 60, pos := "stack.go:59", after := #[], guard := none }) (v := ?v11) rfl (by kernel_rfl) (by kernel_rfl) (by kernel_rfl) (fun _ _ _ h => h) (Or.inl ⟨by rfl, ?hy11⟩) (by assumption) ?rest11
  case hy11 => (intro w hSw; (try dsimp only at hSw); obtain ⟨y1, y2, y3, y4, y5, y6⟩ := (One.fact hSw).c6; go_simp <;> with_reducible rfl)
  try simp only [Act.put, List.setIfInBounds_toArray, List.set_cons_zero, List.set_cons_succ]
  refine wpAnyH_take (i := 4) (oi := { dst := some 20, op := Go.Op.move (Go.Operand.tmp 1), type := 3, pos := "stack.go:59", after := #[], guard := none }) (v := ?v12) rfl (by kernel_rfl) (by kernel_rfl) (by kernel_rfl) (fun _ _ _ h => h) (Or.inl ⟨by rfl, ?hy12⟩) (by assumption) ?rest12
  case hy12 => (intro w hSw; (try dsimp only at hSw); obtain ⟨y1, y2, y3, y4, y5, y6⟩ := (One.fact hSw).c6; go_simp <;> with_reducible rfl)
  try simp only [Act.put, List.setIfInBounds_toArray, List.set_cons_zero, List.set_cons_succ]
  refine wpAnyH_take (i := 5) (oi := { dst := some 21, op := Go.Op.binOp Go.BinOp.mul 3 (Go.Operand.const (Go.Value.int Go.IntKind.i64 8)) (Go.Operand.tmp 20) 3, type := 3, pos := "stack.go:59", after := #[{ on := 4, ground := Go.Ground.data }], guard := none }) (v := ?v13) rfl (by kernel_rfl) (by kernel_rfl) (by kernel_rfl) (fun _ _ _ h => h) (Or.inl ⟨by rfl, ?hy13⟩) (by assumption) ?rest13
  case hy13 => (intro w hSw; (try dsimp only at hSw); obtain ⟨y1, y2, y3, y4, y5, y6⟩ := (One.fact hSw).c6; go_simp <;> with_reducible rfl)
  try simp only [Act.put, List.setIfInBounds_toArray, List.set_cons_zero, List.set_cons_succ]
  refine wpAnyH_ready (rs := [3]) (by kernel_rfl) (by simp) ?_
  refine AllReadyH.cons (o := { dst := some 19, op := Go.Op.call { callee := Go.Callee.value (Go.Operand.func 60), args := #[Go.Operand.tmp 18], argTypes := #[60] }, type := 3, pos := "stack.go:59", after := #[{ on := 2, ground := Go.Ground.data }], guard := none }) rfl (fun K hK => ?_) AllReadyH.nil
  go_simp
  go_at_call 60; refine (hS.mem (fun O h hb => hTp.out _ _ h hb)).mono ?_; rintro e w2 ⟨rfl, hS2⟩; clear hS; have hS := hS2; clear hS2; clear y1 y2 y3 y4 y5 y6; obtain ⟨y1, y2, y3, y4, y5, y6⟩ := hS.fact.c6
  refine hK.out _ _ ?_ (fun hHeld2 => ?_)
  · (try dsimp only); exact hS
  clear hK K hHeld
  have hHeld := hHeld2
  clear hHeld2
  try simp only [Act.put, List.setIfInBounds_toArray, List.set_cons_zero, List.set_cons_succ]
  refine wpAnyH_take (i := 6) (oi := { dst := some 22, op := Go.Op.binOp Go.BinOp.add 3 (Go.Operand.tmp 19) (Go.Operand.tmp 21) 3, type := 3, pos := "stack.go:59", after := #[{ on := 3, ground := Go.Ground.data }, { on := 5, ground := Go.Ground.data }], guard := none }) (v := ?v14) rfl (by kernel_rfl) (by kernel_rfl) (by kernel_rfl) (fun _ _ _ h => h) (Or.inl ⟨by rfl, ?hy14⟩) (by assumption) ?rest14
  case hy14 => (intro w hSw; (try dsimp only at hSw); obtain ⟨y1, y2, y3, y4, y5, y6⟩ := (One.fact hSw).c6; go_simp <;> with_reducible rfl)
  try simp only [Act.put, List.setIfInBounds_toArray, List.set_cons_zero, List.set_cons_succ]
  refine wpAnyH_ready (rs := [7]) (by kernel_rfl) (by simp) ?_
  refine AllReadyH.cons (o := { dst := some 23, op := Go.Op.call { callee := Go.Callee.value (Go.Operand.func 30), args := #[Go.Operand.tmp 17, Go.Operand.tmp 22], argTypes := #[24, 3] }, type := 2, pos := "stack.go:59", after := #[{ on := 1, ground := Go.Ground.data }, { on := 6, ground := Go.Ground.data }, { on := 3, ground := Go.Ground.chain }], guard := none }) rfl (fun K hK => ?_) AllReadyH.nil
  go_simp
  go_at_call 30; refine (hS.mem (fun O h hb => mGet h hb p hpi)).mono ?_; rintro e w2 ⟨rfl, hS2⟩; clear hS; have hS := hS2; clear hS2; clear y1 y2 y3 y4 y5 y6; obtain ⟨y1, y2, y3, y4, y5, y6⟩ := hS.fact.c6
  refine hK.out _ _ ?_ (fun hHeld2 => ?_)
  · (try dsimp only); exact hS
  clear hK K hHeld
  have hHeld := hHeld2
  clear hHeld2
  try simp only [Act.put, List.setIfInBounds_toArray, List.set_cons_zero, List.set_cons_succ]
  refine wpAnyH_take (i := 8) (oi := { dst := some 4, op := Go.Op.assign (Go.Operand.tmp 23), type := 2, pos := "stack.go:59", after := #[{ on := 7, ground := Go.Ground.data }, { on := 7, ground := Go.Ground.chain }, { on := 0, ground := Go.Ground.phase }, { on := 1, ground := Go.Ground.phase }, { on := 2, ground := Go.Ground.phase }, { on := 3, ground := Go.Ground.phase }, { on := 4, ground := Go.Ground.phase }, { on := 5, ground := Go.Ground.phase }, { on := 6, ground := Go.Ground.phase }, { on := 7, ground := Go.Ground.phase }], guard := none }) (v := ?v15) rfl (by kernel_rfl) (by kernel_rfl) (by kernel_rfl) (fun _ _ _ h => h) (Or.inl ⟨by rfl, ?hy15⟩) (by assumption) ?rest15
  case hy15 => (intro w hSw; (try dsimp only at hSw); obtain ⟨y1, y2, y3, y4, y5, y6⟩ := (One.fact hSw).c6; go_simp <;> with_reducible rfl)
  try simp only [Act.put, List.setIfInBounds_toArray, List.set_cons_zero, List.set_cons_succ]
  refine wpAnyH_take (i := 9) (oi := { dst := some 5, op := Go.Op.assign (Go.Operand.const (Go.Value.int Go.IntKind.i64 0)), type := 3, pos := "stack.go:59", after := #[{ on := 8, ground := Go.Ground.chain }, { on := 0, ground := Go.Ground.phase }, { on := 1, ground := Go.Ground.phase }, { on := 2, ground := Go.Ground.phase }, { on := 3, ground := Go.Ground.phase }, { on := 4, ground := Go.Ground.phase }, { on := 5, ground := Go.Ground.phase }, { on := 6, ground := Go.Ground.phase }, { on := 7, ground := Go.Ground.phase }, { on := 8, ground := Go.Ground.phase }], guard := none }) (v := ?v16) rfl (by kernel_rfl) (by kernel_rfl) (by kernel_rfl) (fun _ _ _ h => h) (Or.inl ⟨by rfl, ?hy16⟩) (by assumption) ?rest16
  case hy16 => (intro w hSw; (try dsimp only at hSw); obtain ⟨y1, y2, y3, y4, y5, y6⟩ := (One.fact hSw).c6; go_simp <;> with_reducible rfl)
  try simp only [Act.put, List.setIfInBounds_toArray, List.set_cons_zero, List.set_cons_succ]
  refine wpAnyH_done (by kernel_rfl) ?_ _
  refine NoPanic.normal ?_
  go_wp2
  go_ret2
  exact hS.memQ _
set_option maxRecDepth 100000 in
set_option maxHeartbeats 1000000 in
theorem mPop {w : World} {B mb : Nat} {M : List UInt8} {O : Nat → Prop} (h : MemP w B mb M O) (hB : B ≤ w.heap.size) (a lo hi ov un : Int) (hk : Sk a lo hi) (hun : (un == 0) = false) :
    Calls Try.prog 34 #[.agg #[.pointer (some ⟨mb, 0, none⟩), .int .i64 a, .int .i64 lo, .int .i64 hi, .int .i64 ov, .int .i64 un]] w fun e w' => MemQ w w' B mb (popM M a lo hi) O (.tuple #[.int .i64 (peekV M a lo hi 0), .int .i64 (peekT M a lo hi un 0)]) e := by
  obtain ⟨b1, b2, b3, b4, b5, b6, b7, b8, b9⟩ := topL_bd (M := M) hk
  have hPk := Lib.hid (fun (w9 : World) (O : Nat → Prop) (h : MemP w9 B mb M O) (hb : B ≤ w9.heap.size) => mPeek h hb a lo hi ov un hk 0 (by unfold isI; omega))
  have hTp := Lib.hid (fun (w9 : World) (O : Nat → Prop) (h : MemP w9 B mb M O) (hb : B ≤ w9.heap.size) => mTop h hb a lo hi ov un hk)
  unfold popM
  have hai : isI a := by unfold isI; omega
  have hV : ∃ x, x = peekV M a lo hi 0 := ⟨_, rfl⟩
  obtain ⟨x, hx⟩ := hV
  rw [← hx] at hPk ⊢
  by_cases c1 : 0 < depL M a lo hi
  · have hT : peekT M a lo hi un 0 = 0 := by unfold peekT; rw [if_pos ⟨by omega, c1⟩]
    rw [hT] at hPk ⊢
    rw [if_pos c1]
    generalize topL M a lo hi = t at *
    obtain ⟨p, hp⟩ : ∃ p, p = t + 8 := ⟨_, rfl⟩
    have w1 : IntKind.i64.wrap (t + 8) = p := by rw [IntKind.wrap_i64]; omega
    rw [← hp]
    clear hT c1 hx hp b1 b2 b3 b4 b5 b6 b7 b8 b9 hun
    obtain ⟨w0, hw0, hS⟩ := skEnter h hB a lo hi ov un
    obtain ⟨y1, y2, y3, y4, y5, y6⟩ := hS.fact.c6
    go_enter Try.func34, Try.ntmps34
    go_upto_region 1 with fail
    rw [← hw0]
    clear hw0
    go_upto_region 3 with (go_at_call 41; refine (hS.mem (fun O h hb => hPk.out _ _ h hb)).mono ?_; rintro e w2 ⟨rfl, hS2⟩; clear hS; have hS := hS2; clear hS2; clear y1 y2 y3 y4 y5 y6; obtain ⟨y1, y2, y3, y4, y5, y6⟩ := hS.fact.c6)
    replace hS := hS.drew
    refine wp_region_noPanic ?_
    refine wp_region_held_drew (S := (fun w' => ∃ M', One w w' B mb M' O (.blk w.heap.size #[.pointer (some ⟨mb, 0, none⟩), .int .i64 a, .int .i64 lo, .int .i64 hi, .int .i64 ov, .int .i64 un] 60))) (by kernel_rfl) ?_ (fun hHeld => ?_)
    · (try dsimp only); exact ⟨_, hS⟩
    refine wpAnyH_take (i := 0) (oi := { dst := some 13, op := Go.Op.load 60 (Go.Operand.tmp 1), type := 60, pos := "stack.go:66", after := #[], guard := none }) (v := ?v17) rfl (by kernel_rfl) (by kernel_rfl) (by kernel_rfl) (fun _ _ _ h => h) (Or.inl ⟨by rfl, ?hy17⟩) (by assumption) ?rest17
    case hy17 => (intro w hSw; (try dsimp only at hSw); obtain ⟨M', hS'⟩ := hSw; obtain ⟨y1, y2, y3, y4, y5, y6⟩ := (One.fact hS').c6; go_simp <;> with_reducible rfl)
    try simp only [Act.put, List.setIfInBounds_toArray, List.set_cons_zero, List.set_cons_succ]
    refine wpAnyH_take (i := 1) (oi := { dst := some 14, op := Go.Op.load 60 (Go.Operand.tmp 1), type := 60, pos := "stack.go:66", after := #[], guard := none }) (v := ?v18) rfl (by kernel_rfl) (by kernel_rfl) (by kernel_rfl) (fun _ _ _ h => h) (Or.inl ⟨by rfl, ?hy18⟩) (by assumption) ?rest18
    case hy18 => (intro w hSw; (try dsimp only at hSw); obtain ⟨M', hS'⟩ := hSw; obtain ⟨y1, y2, y3, y4, y5, y6⟩ := (One.fact hS').c6; go_simp <;> with_reducible rfl)
    try simp only [Act.put, List.setIfInBounds_toArray, List.set_cons_zero, List.set_cons_succ]
    refine wpAnyH_ready (rs := [2]) (by kernel_rfl) (by simp) ?_
    refine AllReadyH.cons (o := { dst := some 15, op := Go.Op.call { callee := Go.Callee.value (Go.Operand.func 60), args := #[Go.Operand.tmp 14], argTypes := #[60] }, type := 3, pos := "stack.go:66", after := #[{ on := 1, ground := Go.Ground.data }], guard := none }) rfl (fun K hK => ?_) AllReadyH.nil
    go_simp
    go_at_call 60; refine (hS.mem (fun O h hb => hTp.out _ _ h hb)).mono ?_; rintro e w2 ⟨rfl, hS2⟩; clear hS; have hS := hS2; clear hS2; clear y1 y2 y3 y4 y5 y6; obtain ⟨y1, y2, y3, y4, y5, y6⟩ := hS.fact.c6
    refine hK.out _ _ ?_ (fun hHeld2 => ?_)
    · (try dsimp only); exact ⟨_, hS⟩
    clear hK K hHeld
    have hHeld := hHeld2
    clear hHeld2
    try simp only [Act.put, List.setIfInBounds_toArray, List.set_cons_zero, List.set_cons_succ]
    refine wpAnyH_take (i := 3) (oi := { dst := some 16, op := Go.Op.binOp Go.BinOp.add 3 (Go.Operand.tmp 15) (Go.Operand.const (Go.Value.int Go.IntKind.i64 8)) 3, type := 3, pos := "stack.go:66", after := #[{ on := 2, ground := Go.Ground.data }], guard := none }) (v := ?v19) rfl (by kernel_rfl) (by kernel_rfl) (by kernel_rfl) (fun _ _ _ h => h) (Or.inl ⟨by rfl, ?hy19⟩) (by assumption) ?rest19
    case hy19 => (intro w hSw; (try dsimp only at hSw); obtain ⟨M', hS'⟩ := hSw; obtain ⟨y1, y2, y3, y4, y5, y6⟩ := (One.fact hS').c6; go_simp <;> with_reducible rfl)
    try simp only [Act.put, List.setIfInBounds_toArray, List.set_cons_zero, List.set_cons_succ]
    refine wpAnyH_ready (rs := [4]) (by kernel_rfl) (by simp) ?_
    refine AllReadyH.cons (o := { dst := some 17, op := Go.Op.call { callee := Go.Callee.value (Go.Operand.func 40), args := #[Go.Operand.tmp 13, Go.Operand.tmp 16], argTypes := #[60, 3] }, type := 0, pos := "stack.go:66", after := #[{ on := 0, ground := Go.Ground.data }, { on := 3, ground := Go.Ground.data }, { on := 2, ground := Go.Ground.chain }], guard := none }) rfl (fun K hK => ?_) AllReadyH.nil
    go_simp
    go_at_call 40; refine (hS.mem (fun O h hb => mSetT h hb a lo hi ov un p hai)).mono ?_; rintro e w2 ⟨rfl, hS2⟩; clear hS; have hS := hS2; clear hS2; clear y1 y2 y3 y4 y5 y6; obtain ⟨y1, y2, y3, y4, y5, y6⟩ := hS.fact.c6
    refine hK.out _ _ ?_ (fun hHeld2 => ?_)
    · (try dsimp only); exact ⟨_, hS⟩
    clear hK K hHeld
    have hHeld := hHeld2
    clear hHeld2
    try simp only [Act.put, List.setIfInBounds_toArray, List.set_cons_zero, List.set_cons_succ]
    refine wpAnyH_done (by kernel_rfl) ?_ _
    refine NoPanic.normal ?_
    go_wp2
    go_ret2
    exact hS.memQ _
  · have hT : peekT M a lo hi un 0 = un := by unfold peekT; rw [if_neg (fun h => c1 h.2)]
    rw [hT] at hPk ⊢
    rw [if_neg c1]
    clear hT c1 hx b1 b2 b3 b4 b5 b6 b7 b8 b9
    obtain ⟨w0, hw0, hS⟩ := skEnter h hB a lo hi ov un
    obtain ⟨y1, y2, y3, y4, y5, y6⟩ := hS.fact.c6
    go_enter Try.func34, Try.ntmps34
    go_upto_region 1 with fail
    rw [← hw0]
    clear hw0
    go_wp2_with (go_at_call 41; refine (hS.mem (fun O h hb => hPk.out _ _ h hb)).mono ?_; rintro e w2 ⟨rfl, hS2⟩; clear hS; have hS := hS2; clear hS2; clear y1 y2 y3 y4 y5 y6; obtain ⟨y1, y2, y3, y4, y5, y6⟩ := hS.fact.c6)
    go_ret2
    exact hS.memQ _
end Go.Proofs.Ytjeelccdbhhfjaa
