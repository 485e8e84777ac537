/- One act. -/
import Derived.Test.YtjeelccdbhhfjaaT11
import Derived.Test.YtjeelccdbhhfjaaQ2
namespace Go.Proofs.Ytjeelccdbhhfjaa
open Go.RowKit
set_option linter.unusedVariables false
set_option linter.unusedSimpArgs false
attribute [local go_sem] cell_set set_set m_undef

theorem Blk.c3' {w : World} {b : Nat} {x y z : Value} {t : TypeId} (h : Blk w b #[x, y, z] t) : w.cell? ⟨b, 0, none⟩ = some x ∧ w.cell? ⟨b, 1, none⟩ = some y ∧ w.cell? ⟨b, 2, none⟩ = some z :=
  ⟨h.cell 0, h.cell 1, h.cell 2⟩
/-- Both answer alike, and stand alike. -/
def ActP (W w' : World) (mb rb : Nat) (K : Kp) (e : Ending) : Prop := e = .returned (.bool true) ∧ ∃ M', Two W w' mb rb M' M' K
theorem placeN_isI (n : Int) : isI (placeN n) := by unfold placeN isI; omega
theorem Rv.keep2 {W w : World} {mb rb : Nat} {M N : List UInt8} {K L : Kp} {k n : Nat} {v : Value} {cs : List Value} : True := trivial
theorem takesL_small (M : List UInt8) (n : Int) : (takesL M n).length ≤ 1000000 := by
  have hd := (depL_bd (M := M) (show Sk 32 256 512 from by unfold Sk; omega))
  unfold takesL takesN
  split
  · simp
  · rw [List.length_reverse, popsL_len]; omega
attribute [local irreducible] pushM popM setM layL peekV peekT pushT laysM laysT clearM takesM takesT takesL
set_option maxRecDepth 100000 in
set_option maxHeartbeats 2000000 in
theorem act0 {W w : World} {mb rb : Nat} {M : List UInt8} {K : Kp} (hT : Two W w mb rb M M K) (d n : Int) (hn : isI n) (ad : Option Addr) (cap : Nat) (l : List Int) (hr : Rv W 1 (.slice ad l.length cap) l.length (ic l)) (hd : d = 0) :
    Calls Try.prog 25 #[.pointer (some ⟨mb, 0, none⟩), .pointer (some ⟨rb, 0, none⟩), .agg #[.int .i64 d, .int .i64 n, .slice ad l.length cap]] w fun e w' => ActP W w' mb rb K e := by
  have hT2 := (hT.oldRv hr).new #[.int .i64 d, .int .i64 n, .slice ad l.length cap] 50
  obtain ⟨ab, hab⟩ : ∃ ab, ab = w.heap.size := ⟨_, rfl⟩
  obtain ⟨w0, hw0⟩ : ∃ w0, w0 = w.alloc (.cells #[.int .i64 d, .int .i64 n, .slice ad l.length cap] 50) := ⟨_, rfl⟩
  rw [← hw0, ← hab] at hT2
  clear hT
  have hT := hT2
  clear hT2
  obtain ⟨y1, y2, y3⟩ := hT.fact.2.c3'
  have t0 : (d == 0) = true := by rw [beq_iff_eq]; omega
  clear hd
  go_enter Try.func25, Try.ntmps25
  go_upto_region 1 with fail
  rw [← hw0, ← hab]
  clear hw0 hab hr
  go_upto_region 6 with fail
  replace hT := hT.drew
  refine wp_region_noPanic ?_
  refine wp_region_held_drew (S := (fun w' => w'.cell? ⟨ab, 1, none⟩ = some (.int .i64 n) ∧ w'.cell? ⟨ab, 2, none⟩ = some (.slice ad l.length cap))) (by kernel_rfl) ?_ (fun hHeld => ?_)
  · (try dsimp only); exact ⟨y2, y3⟩
  refine wpAnyH_take (i := 0) (oi := { dst := some 27, op := Go.Op.move (Go.Operand.tmp 0), type := 24, pos := "law.go:52", after := #[], guard := none }) (v := ?v1) rfl (by kernel_rfl) (by kernel_rfl) (by kernel_rfl) (fun _ _ _ h => h) (Or.inl ⟨by rfl, ?hy1⟩) (by assumption) ?rest1
  case hy1 => (intro w hSw; (try dsimp only at hSw); go_simp <;> with_reducible rfl)
  try simp only [Act.put, List.setIfInBounds_toArray, List.set_cons_zero, List.set_cons_succ]
  refine wpAnyH_take (i := 1) (oi := { dst := some 28, op := Go.Op.fieldAddr 50 (Go.Operand.tmp 5) 1, type := 0, pos := "law.go:52", after := #[], guard := none }) (v := ?v2) rfl (by kernel_rfl) (by kernel_rfl) (by kernel_rfl) (fun _ _ _ h => h) (Or.inl ⟨by rfl, ?hy2⟩) (by assumption) ?rest2
  case hy2 => (intro w hSw; (try dsimp only at hSw); go_simp <;> with_reducible rfl)
  try simp only [Act.put, List.setIfInBounds_toArray, List.set_cons_zero, List.set_cons_succ]
  refine wpAnyH_take (i := 2) (oi := { dst := some 29, op := Go.Op.load 2 (Go.Operand.tmp 28), type := 2, pos := "law.go:52", after := #[{ on := 1, ground := Go.Ground.data }], guard := none }) (v := ?v3) rfl (by kernel_rfl) (by kernel_rfl) (by kernel_rfl) (fun _ _ _ h => h) (Or.inl ⟨by rfl, ?hy3⟩) (by assumption) ?rest3
  case hy3 => (intro w hSw; (try dsimp only at hSw); go_simp <;> with_reducible rfl)
  try simp only [Act.put, List.setIfInBounds_toArray, List.set_cons_zero, List.set_cons_succ]
  refine wpAnyH_take (i := 4) (oi := { dst := some 31, op := Go.Op.move (Go.Operand.tmp 1), type := 31, pos := "law.go:52", after := #[], guard := none }) (v := ?v4) rfl (by kernel_rfl) (by kernel_rfl) (by kernel_rfl) (fun _ _ _ h => h) (Or.inl ⟨by rfl, ?hy4⟩) (by assumption) ?rest4
  case hy4 => (intro w hSw; (try dsimp only at hSw); go_simp <;> with_reducible rfl)
  try simp only [Act.put, List.setIfInBounds_toArray, List.set_cons_zero, List.set_cons_succ]
  refine wpAnyH_take (i := 5) (oi := { dst := some 32, op := Go.Op.fieldAddr 50 (Go.Operand.tmp 5) 1, type := 0, pos := "law.go:52", after := #[], guard := none }) (v := ?v5) rfl (by kernel_rfl) (by kernel_rfl) (by kernel_rfl) (fun _ _ _ h => h) (Or.inl ⟨by rfl, ?hy5⟩) (by assumption) ?rest5
  case hy5 => (intro w hSw; (try dsimp only at hSw); go_simp <;> with_reducible rfl)
  try simp only [Act.put, List.setIfInBounds_toArray, List.set_cons_zero, List.set_cons_succ]
  refine wpAnyH_take (i := 6) (oi := { dst := some 33, op := Go.Op.load 2 (Go.Operand.tmp 32), type := 2, pos := "law.go:52", after := #[{ on := 5, ground := Go.Ground.data }], guard := none }) (v := ?v6) rfl (by kernel_rfl) (by kernel_rfl) (by kernel_rfl) (fun _ _ _ h => h) (Or.inl ⟨by rfl, ?hy6⟩) (by assumption) ?rest6
  case hy6 => (intro w hSw; (try dsimp only at hSw); go_simp <;> with_reducible rfl)
  try simp only [Act.put, List.setIfInBounds_toArray, List.set_cons_zero, List.set_cons_succ]
  refine wpAnyH_ready (rs := [3]) (by kernel_rfl) (by simp) ?_
  refine AllReadyH.cons (o := { dst := some 30, op := Go.Op.call { callee := Go.Callee.value (Go.Operand.func 9), args := #[Go.Operand.tmp 27, Go.Operand.tmp 29], argTypes := #[24, 2] }, type := 3, pos := "law.go:52", after := #[{ on := 0, ground := Go.Ground.data }, { on := 2, ground := Go.Ground.data }], guard := none }) rfl (fun K hK => ?_) AllReadyH.nil
  go_simp
  go_at_call 9; refine (hT.mem (fun B O h hb => kPush h hb n)).mono ?_; rintro e w2 ⟨rfl, hT2⟩; clear hT; have hT := hT2; clear hT2; clear y1 y2 y3; obtain ⟨y1, y2, y3⟩ := hT.fact.2.c3'
  refine hK.out _ _ ?_ (fun hHeld2 => ?_)
  · (try dsimp only); exact ⟨y2, y3⟩
  clear hK K hHeld
  have hHeld := hHeld2
  clear hHeld2
  try simp only [Act.put, List.setIfInBounds_toArray, List.set_cons_zero, List.set_cons_succ]
  refine wpAnyH_ready (rs := [7]) (by kernel_rfl) (by simp) ?_
  refine AllReadyH.cons (o := { dst := some 34, op := Go.Op.call { callee := Go.Callee.value (Go.Operand.func 44), args := #[Go.Operand.tmp 31, Go.Operand.tmp 33], argTypes := #[31, 2] }, type := 3, pos := "law.go:52", after := #[{ on := 4, ground := Go.Ground.data }, { on := 6, ground := Go.Ground.data }, { on := 3, ground := Go.Ground.chain }], guard := none }) rfl (fun K hK => ?_) AllReadyH.nil
  go_simp
  go_at_call 44; refine (hT.ref (fun B O h hb => rPush h n)).mono ?_; rintro e w2 ⟨rfl, hT2⟩; clear hT; have hT := hT2; clear hT2; clear y1 y2 y3; obtain ⟨y1, y2, y3⟩ := hT.fact.2.c3'
  refine hK.out _ _ ?_ (fun hHeld2 => ?_)
  · (try dsimp only); exact ⟨y2, y3⟩
  clear hK K hHeld
  have hHeld := hHeld2
  clear hHeld2
  try simp only [Act.put, List.setIfInBounds_toArray, List.set_cons_zero, List.set_cons_succ]
  refine wpAnyH_take (i := 8) (oi := { dst := some 8, op := Go.Op.assign (Go.Operand.tmp 30), type := 3, pos := "law.go:52", after := #[{ on := 3, ground := Go.Ground.data }, { on := 7, ground := Go.Ground.chain }, { on := 0, ground := Go.Ground.phase }, { on := 1, ground := Go.Ground.phase }, { on := 2, ground := Go.Ground.phase }, { on := 3, ground := Go.Ground.phase }, { on := 4, ground := Go.Ground.textOnly Go.Departure.lateStores }, { on := 5, ground := Go.Ground.textOnly Go.Departure.lateStores }, { on := 6, ground := Go.Ground.textOnly Go.Departure.lateStores }, { on := 7, ground := Go.Ground.textOnly Go.Departure.lateStoresUnsure }], guard := none }) (v := ?v7) rfl (by kernel_rfl) (by kernel_rfl) (by kernel_rfl) (fun _ _ _ h => h) (Or.inl ⟨by rfl, ?hy7⟩) (by assumption) ?rest7
  case hy7 => (intro w hSw; (try dsimp only at hSw); go_simp <;> with_reducible rfl)
  try simp only [Act.put, List.setIfInBounds_toArray, List.set_cons_zero, List.set_cons_succ]
  refine wpAnyH_take (i := 9) (oi := { dst := some 10, op := Go.Op.assign (Go.Operand.tmp 34), type := 3, pos := "law.go:52", after := #[{ on := 7, ground := Go.Ground.data }, { on := 8, ground := Go.Ground.chain }, { on := 0, ground := Go.Ground.phase }, { on := 1, ground := Go.Ground.phase }, { on := 2, ground := Go.Ground.phase }, { on := 3, ground := Go.Ground.phase }, { on := 4, ground := Go.Ground.phase }, { on := 5, ground := Go.Ground.phase }, { on := 6, ground := Go.Ground.phase }, { on := 7, ground := Go.Ground.phase }, { on := 8, ground := Go.Ground.phase }], guard := none }) (v := ?v8) rfl (by kernel_rfl) (by kernel_rfl) (by kernel_rfl) (fun _ _ _ h => h) (Or.inl ⟨by rfl, ?hy8⟩) (by assumption) ?rest8
  case hy8 => (intro w hSw; (try dsimp only at hSw); go_simp <;> with_reducible rfl)
  try simp only [Act.put, List.setIfInBounds_toArray, List.set_cons_zero, List.set_cons_succ]
  refine wpAnyH_done (by kernel_rfl) ?_ _
  refine NoPanic.normal ?_
  go_wp2
  go_ret
  exact ⟨rfl, _, hT.weak.weak⟩
set_option maxRecDepth 100000 in
set_option maxHeartbeats 2000000 in
theorem act1 {W w : World} {mb rb : Nat} {M : List UInt8} {K : Kp} (hT : Two W w mb rb M M K) (d n : Int) (hn : isI n) (ad : Option Addr) (cap : Nat) (l : List Int) (hr : Rv W 1 (.slice ad l.length cap) l.length (ic l)) (hd : d = 1) :
    Calls Try.prog 25 #[.pointer (some ⟨mb, 0, none⟩), .pointer (some ⟨rb, 0, none⟩), .agg #[.int .i64 d, .int .i64 n, .slice ad l.length cap]] w fun e w' => ActP W w' mb rb K e := by
  have hT2 := (hT.oldRv hr).new #[.int .i64 d, .int .i64 n, .slice ad l.length cap] 50
  obtain ⟨ab, hab⟩ : ∃ ab, ab = w.heap.size := ⟨_, rfl⟩
  obtain ⟨w0, hw0⟩ : ∃ w0, w0 = w.alloc (.cells #[.int .i64 d, .int .i64 n, .slice ad l.length cap] 50) := ⟨_, rfl⟩
  rw [← hw0, ← hab] at hT2
  clear hT
  have hT := hT2
  clear hT2
  obtain ⟨y1, y2, y3⟩ := hT.fact.2.c3'
  have t0 : (d == 0) = false := by rw [beq_eq_false_iff_ne]; omega
  have t1 : (d == 1) = true := by rw [beq_iff_eq]; omega
  clear hd
  go_enter Try.func25, Try.ntmps25
  go_upto_region 1 with fail
  rw [← hw0, ← hab]
  clear hw0 hab hr
  go_wp2_with (first
    | (go_at_call 11; refine (hT.mem (fun B O h hb => kPop h hb)).mono ?_; rintro e w2 ⟨rfl, hT2⟩; clear hT; have hT := hT2; clear hT2; clear y1 y2 y3; obtain ⟨y1, y2, y3⟩ := hT.fact.2.c3')
    | (go_at_call 45; refine (hT.ref (fun B O h hb => rPop h)).mono ?_; rintro e w2 ⟨rfl, hT2⟩; clear hT; have hT := hT2; clear hT2; clear y1 y2 y3; obtain ⟨y1, y2, y3⟩ := hT.fact.2.c3'))
  go_ret
  exact ⟨rfl, _, hT.weak.weak⟩
set_option maxRecDepth 100000 in
set_option maxHeartbeats 2000000 in
theorem act2 {W w : World} {mb rb : Nat} {M : List UInt8} {K : Kp} (hT : Two W w mb rb M M K) (d n : Int) (hn : isI n) (ad : Option Addr) (cap : Nat) (l : List Int) (hr : Rv W 1 (.slice ad l.length cap) l.length (ic l)) (hd : d = 2) :
    Calls Try.prog 25 #[.pointer (some ⟨mb, 0, none⟩), .pointer (some ⟨rb, 0, none⟩), .agg #[.int .i64 d, .int .i64 n, .slice ad l.length cap]] w fun e w' => ActP W w' mb rb K e := by
  have hT2 := (hT.oldRv hr).new #[.int .i64 d, .int .i64 n, .slice ad l.length cap] 50
  obtain ⟨ab, hab⟩ : ∃ ab, ab = w.heap.size := ⟨_, rfl⟩
  obtain ⟨w0, hw0⟩ : ∃ w0, w0 = w.alloc (.cells #[.int .i64 d, .int .i64 n, .slice ad l.length cap] 50) := ⟨_, rfl⟩
  rw [← hw0, ← hab] at hT2
  clear hT
  have hT := hT2
  clear hT2
  obtain ⟨y1, y2, y3⟩ := hT.fact.2.c3'
  have t0 : (d == 0) = false := by rw [beq_eq_false_iff_ne]; omega
  have t1 : (d == 1) = false := by rw [beq_eq_false_iff_ne]; omega
  have t2 : (d == 2) = true := by rw [beq_iff_eq]; omega
  clear hd
  go_enter Try.func25, Try.ntmps25
  go_upto_region 1 with fail
  rw [← hw0, ← hab]
  clear hw0 hab hr
  go_upto_region 11 with fail
  replace hT := hT.drew
  refine wp_region_noPanic ?_
  refine wp_region_held_drew (S := (fun w' => w'.cell? ⟨ab, 1, none⟩ = some (.int .i64 n) ∧ w'.cell? ⟨ab, 2, none⟩ = some (.slice ad l.length cap))) (by kernel_rfl) ?_ (fun hHeld => ?_)
  · (try dsimp only); exact ⟨y2, y3⟩
  refine wpAnyH_take (i := 0) (oi := { dst := some 49, op := Go.Op.move (Go.Operand.tmp 0), type := 24, pos := "law.go:57", after := #[], guard := none }) (v := ?v9) rfl (by kernel_rfl) (by kernel_rfl) (by kernel_rfl) (fun _ _ _ h => h) (Or.inl ⟨by rfl, ?hy9⟩) (by assumption) ?rest9
  case hy9 => (intro w hSw; (try dsimp only at hSw); go_simp <;> with_reducible rfl)
  try simp only [Act.put, List.setIfInBounds_toArray, List.set_cons_zero, List.set_cons_succ]
  refine wpAnyH_take (i := 1) (oi := { dst := some 50, op := Go.Op.fieldAddr 50 (Go.Operand.tmp 5) 1, type := 0, pos := "law.go:57", after := #[], guard := none }) (v := ?v10) rfl (by kernel_rfl) (by kernel_rfl) (by kernel_rfl) (fun _ _ _ h => h) (Or.inl ⟨by rfl, ?hy10⟩) (by assumption) ?rest10
  case hy10 => (intro w hSw; (try dsimp only at hSw); go_simp <;> with_reducible rfl)
  try simp only [Act.put, List.setIfInBounds_toArray, List.set_cons_zero, List.set_cons_succ]
  refine wpAnyH_take (i := 2) (oi := { dst := some 51, op := Go.Op.load 2 (Go.Operand.tmp 50), type := 2, pos := "law.go:57", after := #[{ on := 1, ground := Go.Ground.data }], guard := none }) (v := ?v11) rfl (by kernel_rfl) (by kernel_rfl) (by kernel_rfl) (fun _ _ _ h => h) (Or.inl ⟨by rfl, ?hy11⟩) (by assumption) ?rest11
  case hy11 => (intro w hSw; (try dsimp only at hSw); go_simp <;> with_reducible rfl)
  try simp only [Act.put, List.setIfInBounds_toArray, List.set_cons_zero, List.set_cons_succ]
  refine wpAnyH_take (i := 4) (oi := { dst := some 53, op := Go.Op.move (Go.Operand.tmp 1), type := 31, pos := "law.go:57", after := #[], guard := none }) (v := ?v12) rfl (by kernel_rfl) (by kernel_rfl) (by kernel_rfl) (fun _ _ _ h => h) (Or.inl ⟨by rfl, ?hy12⟩) (by assumption) ?rest12
  case hy12 => (intro w hSw; (try dsimp only at hSw); go_simp <;> with_reducible rfl)
  try simp only [Act.put, List.setIfInBounds_toArray, List.set_cons_zero, List.set_cons_succ]
  refine wpAnyH_take (i := 5) (oi := { dst := some 54, op := Go.Op.fieldAddr 50 (Go.Operand.tmp 5) 1, type := 0, pos := "law.go:57", after := #[], guard := none }) (v := ?v13) rfl (by kernel_rfl) (by kernel_rfl) (by kernel_rfl) (fun _ _ _ h => h) (Or.inl ⟨by rfl, ?hy13⟩) (by assumption) ?rest13
  case hy13 => (intro w hSw; (try dsimp only at hSw); go_simp <;> with_reducible rfl)
  try simp only [Act.put, List.setIfInBounds_toArray, List.set_cons_zero, List.set_cons_succ]
  refine wpAnyH_take (i := 6) (oi := { dst := some 55, op := Go.Op.load 2 (Go.Operand.tmp 54), type := 2, pos := "law.go:57", after := #[{ on := 5, ground := Go.Ground.data }], guard := none }) (v := ?v14) rfl (by kernel_rfl) (by kernel_rfl) (by kernel_rfl) (fun _ _ _ h => h) (Or.inl ⟨by rfl, ?hy14⟩) (by assumption) ?rest14
  case hy14 => (intro w hSw; (try dsimp only at hSw); go_simp <;> with_reducible rfl)
  try simp only [Act.put, List.setIfInBounds_toArray, List.set_cons_zero, List.set_cons_succ]
  refine wpAnyH_ready (rs := [3]) (by kernel_rfl) (by simp) ?_
  refine AllReadyH.cons (o := { dst := some 52, op := Go.Op.call { callee := Go.Callee.value (Go.Operand.func 10), args := #[Go.Operand.tmp 49, Go.Operand.tmp 51], argTypes := #[24, 2] }, type := 3, pos := "law.go:57", after := #[{ on := 0, ground := Go.Ground.data }, { on := 2, ground := Go.Ground.data }], guard := none }) rfl (fun K hK => ?_) AllReadyH.nil
  go_simp
  go_at_call 10; refine (hT.mem (fun B O h hb => kRPush h hb n)).mono ?_; rintro e w2 ⟨rfl, hT2⟩; clear hT; have hT := hT2; clear hT2; clear y1 y2 y3; obtain ⟨y1, y2, y3⟩ := hT.fact.2.c3'
  refine hK.out _ _ ?_ (fun hHeld2 => ?_)
  · (try dsimp only); exact ⟨y2, y3⟩
  clear hK K hHeld
  have hHeld := hHeld2
  clear hHeld2
  try simp only [Act.put, List.setIfInBounds_toArray, List.set_cons_zero, List.set_cons_succ]
  refine wpAnyH_ready (rs := [7]) (by kernel_rfl) (by simp) ?_
  refine AllReadyH.cons (o := { dst := some 56, op := Go.Op.call { callee := Go.Callee.value (Go.Operand.func 46), args := #[Go.Operand.tmp 53, Go.Operand.tmp 55], argTypes := #[31, 2] }, type := 3, pos := "law.go:57", after := #[{ on := 4, ground := Go.Ground.data }, { on := 6, ground := Go.Ground.data }, { on := 3, ground := Go.Ground.chain }], guard := none }) rfl (fun K hK => ?_) AllReadyH.nil
  go_simp
  go_at_call 46; refine (hT.ref (fun B O h hb => rRPush h n)).mono ?_; rintro e w2 ⟨rfl, hT2⟩; clear hT; have hT := hT2; clear hT2; clear y1 y2 y3; obtain ⟨y1, y2, y3⟩ := hT.fact.2.c3'
  refine hK.out _ _ ?_ (fun hHeld2 => ?_)
  · (try dsimp only); exact ⟨y2, y3⟩
  clear hK K hHeld
  have hHeld := hHeld2
  clear hHeld2
  try simp only [Act.put, List.setIfInBounds_toArray, List.set_cons_zero, List.set_cons_succ]
  refine wpAnyH_take (i := 8) (oi := { dst := some 8, op := Go.Op.assign (Go.Operand.tmp 52), type := 3, pos := "law.go:57", after := #[{ on := 3, ground := Go.Ground.data }, { on := 7, ground := Go.Ground.chain }, { on := 0, ground := Go.Ground.phase }, { on := 1, ground := Go.Ground.phase }, { on := 2, ground := Go.Ground.phase }, { on := 3, ground := Go.Ground.phase }, { on := 4, ground := Go.Ground.textOnly Go.Departure.lateStores }, { on := 5, ground := Go.Ground.textOnly Go.Departure.lateStores }, { on := 6, ground := Go.Ground.textOnly Go.Departure.lateStores }, { on := 7, ground := Go.Ground.textOnly Go.Departure.lateStoresUnsure }], guard := none }) (v := ?v15) rfl (by kernel_rfl) (by kernel_rfl) (by kernel_rfl) (fun _ _ _ h => h) (Or.inl ⟨by rfl, ?hy15⟩) (by assumption) ?rest15
  case hy15 => (intro w hSw; (try dsimp only at hSw); go_simp <;> with_reducible rfl)
  try simp only [Act.put, List.setIfInBounds_toArray, List.set_cons_zero, List.set_cons_succ]
  refine wpAnyH_take (i := 9) (oi := { dst := some 10, op := Go.Op.assign (Go.Operand.tmp 56), type := 3, pos := "law.go:57", after := #[{ on := 7, ground := Go.Ground.data }, { on := 8, ground := Go.Ground.chain }, { on := 0, ground := Go.Ground.phase }, { on := 1, ground := Go.Ground.phase }, { on := 2, ground := Go.Ground.phase }, { on := 3, ground := Go.Ground.phase }, { on := 4, ground := Go.Ground.phase }, { on := 5, ground := Go.Ground.phase }, { on := 6, ground := Go.Ground.phase }, { on := 7, ground := Go.Ground.phase }, { on := 8, ground := Go.Ground.phase }], guard := none }) (v := ?v16) rfl (by kernel_rfl) (by kernel_rfl) (by kernel_rfl) (fun _ _ _ h => h) (Or.inl ⟨by rfl, ?hy16⟩) (by assumption) ?rest16
  case hy16 => (intro w hSw; (try dsimp only at hSw); go_simp <;> with_reducible rfl)
  try simp only [Act.put, List.setIfInBounds_toArray, List.set_cons_zero, List.set_cons_succ]
  refine wpAnyH_done (by kernel_rfl) ?_ _
  refine NoPanic.normal ?_
  go_wp2
  go_ret
  exact ⟨rfl, _, hT.weak.weak⟩
set_option maxRecDepth 100000 in
set_option maxHeartbeats 2000000 in
theorem act3 {W w : World} {mb rb : Nat} {M : List UInt8} {K : Kp} (hT : Two W w mb rb M M K) (d n : Int) (hn : isI n) (ad : Option Addr) (cap : Nat) (l : List Int) (hr : Rv W 1 (.slice ad l.length cap) l.length (ic l)) (hd : d = 3) :
    Calls Try.prog 25 #[.pointer (some ⟨mb, 0, none⟩), .pointer (some ⟨rb, 0, none⟩), .agg #[.int .i64 d, .int .i64 n, .slice ad l.length cap]] w fun e w' => ActP W w' mb rb K e := by
  have hT2 := (hT.oldRv hr).new #[.int .i64 d, .int .i64 n, .slice ad l.length cap] 50
  obtain ⟨ab, hab⟩ : ∃ ab, ab = w.heap.size := ⟨_, rfl⟩
  obtain ⟨w0, hw0⟩ : ∃ w0, w0 = w.alloc (.cells #[.int .i64 d, .int .i64 n, .slice ad l.length cap] 50) := ⟨_, rfl⟩
  rw [← hw0, ← hab] at hT2
  clear hT
  have hT := hT2
  clear hT2
  obtain ⟨y1, y2, y3⟩ := hT.fact.2.c3'
  have t0 : (d == 0) = false := by rw [beq_eq_false_iff_ne]; omega
  have t1 : (d == 1) = false := by rw [beq_eq_false_iff_ne]; omega
  have t2 : (d == 2) = false := by rw [beq_eq_false_iff_ne]; omega
  have t3 : (d == 3) = true := by rw [beq_iff_eq]; omega
  clear hd
  go_enter Try.func25, Try.ntmps25
  go_upto_region 1 with fail
  rw [← hw0, ← hab]
  clear hw0 hab hr
  go_wp2_with (first
    | (go_at_call 12; refine (hT.mem (fun B O h hb => kRPop h hb)).mono ?_; rintro e w2 ⟨rfl, hT2⟩; clear hT; have hT := hT2; clear hT2; clear y1 y2 y3; obtain ⟨y1, y2, y3⟩ := hT.fact.2.c3')
    | (go_at_call 47; refine (hT.ref (fun B O h hb => rRPop h)).mono ?_; rintro e w2 ⟨rfl, hT2⟩; clear hT; have hT := hT2; clear hT2; clear y1 y2 y3; obtain ⟨y1, y2, y3⟩ := hT.fact.2.c3'))
  go_ret
  exact ⟨rfl, _, hT.weak.weak⟩
set_option maxRecDepth 100000 in
set_option maxHeartbeats 2000000 in
theorem act4 {W w : World} {mb rb : Nat} {M : List UInt8} {K : Kp} (hT : Two W w mb rb M M K) (d n : Int) (hn : isI n) (ad : Option Addr) (cap : Nat) (l : List Int) (hr : Rv W 1 (.slice ad l.length cap) l.length (ic l)) (hd : d = 4) :
    Calls Try.prog 25 #[.pointer (some ⟨mb, 0, none⟩), .pointer (some ⟨rb, 0, none⟩), .agg #[.int .i64 d, .int .i64 n, .slice ad l.length cap]] w fun e w' => ActP W w' mb rb K e := by
  have hT2 := (hT.oldRv hr).new #[.int .i64 d, .int .i64 n, .slice ad l.length cap] 50
  obtain ⟨ab, hab⟩ : ∃ ab, ab = w.heap.size := ⟨_, rfl⟩
  obtain ⟨w0, hw0⟩ : ∃ w0, w0 = w.alloc (.cells #[.int .i64 d, .int .i64 n, .slice ad l.length cap] 50) := ⟨_, rfl⟩
  rw [← hw0, ← hab] at hT2
  clear hT
  have hT := hT2
  clear hT2
  obtain ⟨y1, y2, y3⟩ := hT.fact.2.c3'
  have t0 : (d == 0) = false := by rw [beq_eq_false_iff_ne]; omega
  have t1 : (d == 1) = false := by rw [beq_eq_false_iff_ne]; omega
  have t2 : (d == 2) = false := by rw [beq_eq_false_iff_ne]; omega
  have t3 : (d == 3) = false := by rw [beq_eq_false_iff_ne]; omega
  have t4 : (d == 4) = true := by rw [beq_iff_eq]; omega
  clear hd
  go_enter Try.func25, Try.ntmps25
  go_upto_region 1 with fail
  rw [← hw0, ← hab]
  clear hw0 hab hr
  go_wp2_with (first
    | (go_at_call 48; refine (wPlace n hn _).mono ?_; rintro e _ ⟨rfl, rfl⟩)
    | (go_at_call 20; refine (hT.mem (fun B O h hb => kAt h hb (placeN n) (placeN_isI n))).mono ?_; rintro e w2 ⟨rfl, hT2⟩; clear hT; have hT := hT2; clear hT2; clear y1 y2 y3; obtain ⟨y1, y2, y3⟩ := hT.fact.2.c3')
    | (go_at_call 49; refine (hT.refB (fun B O h => rAt h (placeN n) (placeN_isI n))).mono ?_; rintro e w2 ⟨rfl, hT2⟩; clear hT; have hT := hT2; clear hT2; clear y1 y2 y3; obtain ⟨y1, y2, y3⟩ := hT.fact.2.c3'))
  go_ret
  exact ⟨rfl, _, hT.weak.weak⟩
set_option maxRecDepth 100000 in
set_option maxHeartbeats 2000000 in
theorem act5 {W w : World} {mb rb : Nat} {M : List UInt8} {K : Kp} (hT : Two W w mb rb M M K) (d n : Int) (hn : isI n) (ad : Option Addr) (cap : Nat) (l : List Int) (hr : Rv W 1 (.slice ad l.length cap) l.length (ic l)) (hd : d = 5) :
    Calls Try.prog 25 #[.pointer (some ⟨mb, 0, none⟩), .pointer (some ⟨rb, 0, none⟩), .agg #[.int .i64 d, .int .i64 n, .slice ad l.length cap]] w fun e w' => ActP W w' mb rb K e := by
  have hT2 := (hT.oldRv hr).new #[.int .i64 d, .int .i64 n, .slice ad l.length cap] 50
  obtain ⟨ab, hab⟩ : ∃ ab, ab = w.heap.size := ⟨_, rfl⟩
  obtain ⟨w0, hw0⟩ : ∃ w0, w0 = w.alloc (.cells #[.int .i64 d, .int .i64 n, .slice ad l.length cap] 50) := ⟨_, rfl⟩
  rw [← hw0, ← hab] at hT2
  clear hT
  have hT := hT2
  clear hT2
  obtain ⟨y1, y2, y3⟩ := hT.fact.2.c3'
  have t0 : (d == 0) = false := by rw [beq_eq_false_iff_ne]; omega
  have t1 : (d == 1) = false := by rw [beq_eq_false_iff_ne]; omega
  have t2 : (d == 2) = false := by rw [beq_eq_false_iff_ne]; omega
  have t3 : (d == 3) = false := by rw [beq_eq_false_iff_ne]; omega
  have t4 : (d == 4) = false := by rw [beq_eq_false_iff_ne]; omega
  have t5 : (d == 5) = true := by rw [beq_iff_eq]; omega
  clear hd
  go_enter Try.func25, Try.ntmps25
  go_upto_region 1 with fail
  rw [← hw0, ← hab]
  clear hw0 hab hr
  go_wp2_with (first
    | (go_at_call 48; refine (wPlace n hn _).mono ?_; rintro e _ ⟨rfl, rfl⟩)
    | (go_at_call 50; refine (hT.mem (fun B O h hb => kRAt h hb (placeN n) (placeN_isI n))).mono ?_; rintro e w2 ⟨rfl, hT2⟩; clear hT; have hT := hT2; clear hT2; clear y1 y2 y3; obtain ⟨y1, y2, y3⟩ := hT.fact.2.c3')
    | (go_at_call 51; refine (hT.refB (fun B O h => rRAt h (placeN n) (placeN_isI n))).mono ?_; rintro e w2 ⟨rfl, hT2⟩; clear hT; have hT := hT2; clear hT2; clear y1 y2 y3; obtain ⟨y1, y2, y3⟩ := hT.fact.2.c3'))
  go_ret
  exact ⟨rfl, _, hT.weak.weak⟩
set_option maxRecDepth 100000 in
set_option maxHeartbeats 2000000 in
theorem act6 {W w : World} {mb rb : Nat} {M : List UInt8} {K : Kp} (hT : Two W w mb rb M M K) (d n : Int) (hn : isI n) (ad : Option Addr) (cap : Nat) (l : List Int) (hr : Rv W 1 (.slice ad l.length cap) l.length (ic l)) (hd : d = 6) :
    Calls Try.prog 25 #[.pointer (some ⟨mb, 0, none⟩), .pointer (some ⟨rb, 0, none⟩), .agg #[.int .i64 d, .int .i64 n, .slice ad l.length cap]] w fun e w' => ActP W w' mb rb K e := by
  have hT2 := (hT.oldRv hr).new #[.int .i64 d, .int .i64 n, .slice ad l.length cap] 50
  obtain ⟨ab, hab⟩ : ∃ ab, ab = w.heap.size := ⟨_, rfl⟩
  obtain ⟨w0, hw0⟩ : ∃ w0, w0 = w.alloc (.cells #[.int .i64 d, .int .i64 n, .slice ad l.length cap] 50) := ⟨_, rfl⟩
  rw [← hw0, ← hab] at hT2
  clear hT
  have hT := hT2
  clear hT2
  obtain ⟨y1, y2, y3⟩ := hT.fact.2.c3'
  have t0 : (d == 0) = false := by rw [beq_eq_false_iff_ne]; omega
  have t1 : (d == 1) = false := by rw [beq_eq_false_iff_ne]; omega
  have t2 : (d == 2) = false := by rw [beq_eq_false_iff_ne]; omega
  have t3 : (d == 3) = false := by rw [beq_eq_false_iff_ne]; omega
  have t4 : (d == 4) = false := by rw [beq_eq_false_iff_ne]; omega
  have t5 : (d == 5) = false := by rw [beq_eq_false_iff_ne]; omega
  have t6 : (d == 6) = true := by rw [beq_iff_eq]; omega
  clear hd
  go_enter Try.func25, Try.ntmps25
  go_upto_region 1 with fail
  rw [← hw0, ← hab]
  clear hw0 hab hr
  go_upto_region 23 with (first
    | (go_at_call 48; refine (wPlace n hn _).mono ?_; rintro e _ ⟨rfl, rfl⟩)
    | (go_at_call 21; refine (hT.memX (fun B O h hb => kTakes h hb (placeN n) (placeN_isI n)) (fun x w' h k hk => vsN_new h k hk)).mono ?_; rintro e w2 ⟨v1, rfl, hT2⟩; clear hT; have hT := hT2; clear hT2; clear y1 y2 y3; obtain ⟨y1, y2, y3⟩ := hT.fact.1.2.c3'; obtain ⟨a1, c1, rfl, hle1⟩ := hT.fact.2.1.form; clear hle1))
  go_upto_region 24 with (first
    | (go_at_call 48; refine (wPlace n hn _).mono ?_; rintro e _ ⟨rfl, rfl⟩)
    | (go_at_call 52; refine (hT.refX (fun B O h hb => rTakes h (placeN n) (placeN_isI n)) (fun x w' h k hk => vsN_new h k hk)).mono ?_; rintro e w2 ⟨v2, rfl, hT2⟩; clear hT; have hT := hT2; clear hT2; clear y1 y2 y3; obtain ⟨a2, c2, rfl, hle2⟩ := hT.fact.2.1.form; clear hle2))
  have hA := Lib.hid (alike_yes (hT.fact.1.2.1).rv (hT.fact.2.1).rv (takesL_small M (placeN n)))
  go_wp2_with (go_at_call 28; refine (hT.still hA.out).mono ?_; rintro e w2 ⟨rfl, hT2⟩; clear hT; have hT := hT2; clear hT2)
  go_ret
  exact ⟨rfl, _, hT.weak.weak.weak.weak⟩
set_option maxRecDepth 100000 in
set_option maxHeartbeats 2000000 in
theorem act7 {W w : World} {mb rb : Nat} {M : List UInt8} {K : Kp} (hT : Two W w mb rb M M K) (d n : Int) (hn : isI n) (ad : Option Addr) (cap : Nat) (l : List Int) (hr : Rv W 1 (.slice ad l.length cap) l.length (ic l)) (hd : d = 7) :
    Calls Try.prog 25 #[.pointer (some ⟨mb, 0, none⟩), .pointer (some ⟨rb, 0, none⟩), .agg #[.int .i64 d, .int .i64 n, .slice ad l.length cap]] w fun e w' => ActP W w' mb rb K e := by
  have hT2 := (hT.oldRv hr).new #[.int .i64 d, .int .i64 n, .slice ad l.length cap] 50
  obtain ⟨ab, hab⟩ : ∃ ab, ab = w.heap.size := ⟨_, rfl⟩
  obtain ⟨w0, hw0⟩ : ∃ w0, w0 = w.alloc (.cells #[.int .i64 d, .int .i64 n, .slice ad l.length cap] 50) := ⟨_, rfl⟩
  rw [← hw0, ← hab] at hT2
  clear hT
  have hT := hT2
  clear hT2
  obtain ⟨y1, y2, y3⟩ := hT.fact.2.c3'
  have t0 : (d == 0) = false := by rw [beq_eq_false_iff_ne]; omega
  have t1 : (d == 1) = false := by rw [beq_eq_false_iff_ne]; omega
  have t2 : (d == 2) = false := by rw [beq_eq_false_iff_ne]; omega
  have t3 : (d == 3) = false := by rw [beq_eq_false_iff_ne]; omega
  have t4 : (d == 4) = false := by rw [beq_eq_false_iff_ne]; omega
  have t5 : (d == 5) = false := by rw [beq_eq_false_iff_ne]; omega
  have t6 : (d == 6) = false := by rw [beq_eq_false_iff_ne]; omega
  have t7 : (d == 7) = true := by rw [beq_iff_eq]; omega
  clear hd
  go_enter Try.func25, Try.ntmps25
  go_upto_region 1 with fail
  rw [← hw0, ← hab]
  clear hw0 hab hr
  go_upto_region 26 with fail
  replace hT := hT.drew
  refine wp_region_noPanic ?_
  refine wp_region_held_drew (S := (fun w' => w'.cell? ⟨ab, 1, none⟩ = some (.int .i64 n) ∧ w'.cell? ⟨ab, 2, none⟩ = some (.slice ad l.length cap))) (by kernel_rfl) ?_ (fun hHeld => ?_)
  · (try dsimp only); exact ⟨y2, y3⟩
  refine wpAnyH_take (i := 0) (oi := { dst := some 133, op := Go.Op.move (Go.Operand.tmp 0), type := 24, pos := "law.go:72", after := #[], guard := none }) (v := ?v17) rfl (by kernel_rfl) (by kernel_rfl) (by kernel_rfl) (fun _ _ _ h => h) (Or.inl ⟨by rfl, ?hy17⟩) (by assumption) ?rest17
  case hy17 => (intro w hSw; (try dsimp only at hSw); go_simp <;> with_reducible rfl)
  try simp only [Act.put, List.setIfInBounds_toArray, List.set_cons_zero, List.set_cons_succ]
  refine wpAnyH_take (i := 1) (oi := { dst := some 134, op := Go.Op.fieldAddr 50 (Go.Operand.tmp 5) 2, type := 0, pos := "law.go:72", after := #[], guard := none }) (v := ?v18) rfl (by kernel_rfl) (by kernel_rfl) (by kernel_rfl) (fun _ _ _ h => h) (Or.inl ⟨by rfl, ?hy18⟩) (by assumption) ?rest18
  case hy18 => (intro w hSw; (try dsimp only at hSw); go_simp <;> with_reducible rfl)
  try simp only [Act.put, List.setIfInBounds_toArray, List.set_cons_zero, List.set_cons_succ]
  refine wpAnyH_take (i := 2) (oi := { dst := some 135, op := Go.Op.load 22 (Go.Operand.tmp 134), type := 22, pos := "law.go:72", after := #[{ on := 1, ground := Go.Ground.data }], guard := none }) (v := ?v19) rfl (by kernel_rfl) (by kernel_rfl) (by kernel_rfl) (fun _ _ _ h => h) (Or.inl ⟨by rfl, ?hy19⟩) (by assumption) ?rest19
  case hy19 => (intro w hSw; (try dsimp only at hSw); go_simp <;> with_reducible rfl)
  try simp only [Act.put, List.setIfInBounds_toArray, List.set_cons_zero, List.set_cons_succ]
  refine wpAnyH_take (i := 4) (oi := { dst := some 137, op := Go.Op.move (Go.Operand.tmp 1), type := 31, pos := "law.go:72", after := #[], guard := none }) (v := ?v20) rfl (by kernel_rfl) (by kernel_rfl) (by kernel_rfl) (fun _ _ _ h => h) (Or.inl ⟨by rfl, ?hy20⟩) (by assumption) ?rest20
  case hy20 => (intro w hSw; (try dsimp only at hSw); go_simp <;> with_reducible rfl)
  try simp only [Act.put, List.setIfInBounds_toArray, List.set_cons_zero, List.set_cons_succ]
  refine wpAnyH_take (i := 5) (oi := { dst := some 138, op := Go.Op.fieldAddr 50 (Go.Operand.tmp 5) 2, type := 0, pos := "law.go:72", after := #[], guard := none }) (v := ?v21) rfl (by kernel_rfl) (by kernel_rfl) (by kernel_rfl) (fun _ _ _ h => h) (Or.inl ⟨by rfl, ?hy21⟩) (by assumption) ?rest21
  case hy21 => (intro w hSw; (try dsimp only at hSw); go_simp <;> with_reducible rfl)
  try simp only [Act.put, List.setIfInBounds_toArray, List.set_cons_zero, List.set_cons_succ]
  refine wpAnyH_take (i := 6) (oi := { dst := some 139, op := Go.Op.load 22 (Go.Operand.tmp 138), type := 22, pos := "law.go:72", after := #[{ on := 5, ground := Go.Ground.data }], guard := none }) (v := ?v22) rfl (by kernel_rfl) (by kernel_rfl) (by kernel_rfl) (fun _ _ _ h => h) (Or.inl ⟨by rfl, ?hy22⟩) (by assumption) ?rest22
  case hy22 => (intro w hSw; (try dsimp only at hSw); go_simp <;> with_reducible rfl)
  try simp only [Act.put, List.setIfInBounds_toArray, List.set_cons_zero, List.set_cons_succ]
  refine wpAnyH_ready (rs := [3]) (by kernel_rfl) (by simp) ?_
  refine AllReadyH.cons (o := { dst := some 136, op := Go.Op.call { callee := Go.Callee.value (Go.Operand.func 53), args := #[Go.Operand.tmp 133, Go.Operand.tmp 135], argTypes := #[24, 22] }, type := 3, pos := "law.go:72", after := #[{ on := 0, ground := Go.Ground.data }, { on := 2, ground := Go.Ground.data }], guard := none }) rfl (fun K hK => ?_) AllReadyH.nil
  go_simp
  go_at_call 53; refine (hT.memK (fun B O h hb hk => kLays h hb hk.left.right)).mono ?_; rintro e w2 ⟨rfl, hT2⟩; clear hT; have hT := hT2; clear hT2; clear y1 y2 y3; obtain ⟨y1, y2, y3⟩ := hT.fact.2.c3'
  refine hK.out _ _ ?_ (fun hHeld2 => ?_)
  · (try dsimp only); exact ⟨y2, y3⟩
  clear hK K hHeld
  have hHeld := hHeld2
  clear hHeld2
  try simp only [Act.put, List.setIfInBounds_toArray, List.set_cons_zero, List.set_cons_succ]
  refine wpAnyH_ready (rs := [7]) (by kernel_rfl) (by simp) ?_
  refine AllReadyH.cons (o := { dst := some 140, op := Go.Op.call { callee := Go.Callee.value (Go.Operand.func 54), args := #[Go.Operand.tmp 137, Go.Operand.tmp 139], argTypes := #[31, 22] }, type := 3, pos := "law.go:72", after := #[{ on := 4, ground := Go.Ground.data }, { on := 6, ground := Go.Ground.data }, { on := 3, ground := Go.Ground.chain }], guard := none }) rfl (fun K hK => ?_) AllReadyH.nil
  go_simp
  go_at_call 54; refine (hT.refK (fun B O h hb hk => rLays h hk.left.right)).mono ?_; rintro e w2 ⟨rfl, hT2⟩; clear hT; have hT := hT2; clear hT2; clear y1 y2 y3; obtain ⟨y1, y2, y3⟩ := hT.fact.2.c3'
  refine hK.out _ _ ?_ (fun hHeld2 => ?_)
  · (try dsimp only); exact ⟨y2, y3⟩
  clear hK K hHeld
  have hHeld := hHeld2
  clear hHeld2
  try simp only [Act.put, List.setIfInBounds_toArray, List.set_cons_zero, List.set_cons_succ]
  refine wpAnyH_take (i := 8) (oi := { dst := some 8, op := Go.Op.assign (Go.Operand.tmp 136), type := 3, pos := "law.go:72", after := #[{ on := 3, ground := Go.Ground.data }, { on := 7, ground := Go.Ground.chain }, { on := 0, ground := Go.Ground.phase }, { on := 1, ground := Go.Ground.phase }, { on := 2, ground := Go.Ground.phase }, { on := 3, ground := Go.Ground.phase }, { on := 4, ground := Go.Ground.textOnly Go.Departure.lateStores }, { on := 5, ground := Go.Ground.textOnly Go.Departure.lateStores }, { on := 6, ground := Go.Ground.textOnly Go.Departure.lateStores }, { on := 7, ground := Go.Ground.textOnly Go.Departure.lateStoresUnsure }], guard := none }) (v := ?v23) rfl (by kernel_rfl) (by kernel_rfl) (by kernel_rfl) (fun _ _ _ h => h) (Or.inl ⟨by rfl, ?hy23⟩) (by assumption) ?rest23
  case hy23 => (intro w hSw; (try dsimp only at hSw); go_simp <;> with_reducible rfl)
  try simp only [Act.put, List.setIfInBounds_toArray, List.set_cons_zero, List.set_cons_succ]
  refine wpAnyH_take (i := 9) (oi := { dst := some 10, op := Go.Op.assign (Go.Operand.tmp 140), type := 3, pos := "law.go:72", after := #[{ on := 7, ground := Go.Ground.data }, { on := 8, ground := Go.Ground.chain }, { on := 0, ground := Go.Ground.phase }, { on := 1, ground := Go.Ground.phase }, { on := 2, ground := Go.Ground.phase }, { on := 3, ground := Go.Ground.phase }, { on := 4, ground := Go.Ground.phase }, { on := 5, ground := Go.Ground.phase }, { on := 6, ground := Go.Ground.phase }, { on := 7, ground := Go.Ground.phase }, { on := 8, ground := Go.Ground.phase }], guard := none }) (v := ?v24) rfl (by kernel_rfl) (by kernel_rfl) (by kernel_rfl) (fun _ _ _ h => h) (Or.inl ⟨by rfl, ?hy24⟩) (by assumption) ?rest24
  case hy24 => (intro w hSw; (try dsimp only at hSw); go_simp <;> with_reducible rfl)
  try simp only [Act.put, List.setIfInBounds_toArray, List.set_cons_zero, List.set_cons_succ]
  refine wpAnyH_done (by kernel_rfl) ?_ _
  refine NoPanic.normal ?_
  go_wp2
  go_ret
  exact ⟨rfl, _, hT.weak.weak⟩
set_option maxRecDepth 100000 in
set_option maxHeartbeats 2000000 in
theorem act8 {W w : World} {mb rb : Nat} {M : List UInt8} {K : Kp} (hT : Two W w mb rb M M K) (d n : Int) (hn : isI n) (ad : Option Addr) (cap : Nat) (l : List Int) (hr : Rv W 1 (.slice ad l.length cap) l.length (ic l)) (hd : d = 8) :
    Calls Try.prog 25 #[.pointer (some ⟨mb, 0, none⟩), .pointer (some ⟨rb, 0, none⟩), .agg #[.int .i64 d, .int .i64 n, .slice ad l.length cap]] w fun e w' => ActP W w' mb rb K e := by
  have hT2 := (hT.oldRv hr).new #[.int .i64 d, .int .i64 n, .slice ad l.length cap] 50
  obtain ⟨ab, hab⟩ : ∃ ab, ab = w.heap.size := ⟨_, rfl⟩
  obtain ⟨w0, hw0⟩ : ∃ w0, w0 = w.alloc (.cells #[.int .i64 d, .int .i64 n, .slice ad l.length cap] 50) := ⟨_, rfl⟩
  rw [← hw0, ← hab] at hT2
  clear hT
  have hT := hT2
  clear hT2
  obtain ⟨y1, y2, y3⟩ := hT.fact.2.c3'
  have t0 : (d == 0) = false := by rw [beq_eq_false_iff_ne]; omega
  have t1 : (d == 1) = false := by rw [beq_eq_false_iff_ne]; omega
  have t2 : (d == 2) = false := by rw [beq_eq_false_iff_ne]; omega
  have t3 : (d == 3) = false := by rw [beq_eq_false_iff_ne]; omega
  have t4 : (d == 4) = false := by rw [beq_eq_false_iff_ne]; omega
  have t5 : (d == 5) = false := by rw [beq_eq_false_iff_ne]; omega
  have t6 : (d == 6) = false := by rw [beq_eq_false_iff_ne]; omega
  have t7 : (d == 7) = false := by rw [beq_eq_false_iff_ne]; omega
  have t8 : (d == 8) = true := by rw [beq_iff_eq]; omega
  clear hd
  go_enter Try.func25, Try.ntmps25
  go_upto_region 1 with fail
  rw [← hw0, ← hab]
  clear hw0 hab hr
  go_wp2_with (first
    | (go_at_call 19; refine (hT.mem (fun B O h hb => kClear h hb)).mono ?_; rintro e w2 ⟨rfl, hT2⟩; clear hT; have hT := hT2; clear hT2; clear y1 y2 y3; obtain ⟨y1, y2, y3⟩ := hT.fact.2.c3')
    | (go_at_call 55; refine (hT.ref (fun B O h hb => rClear h)).mono ?_; rintro e w2 ⟨rfl, hT2⟩; clear hT; have hT := hT2; clear hT2; clear y1 y2 y3; obtain ⟨y1, y2, y3⟩ := hT.fact.2.c3'))
  go_ret
  exact ⟨rfl, _, hT.weak.weak⟩
set_option maxRecDepth 100000 in
set_option maxHeartbeats 2000000 in
theorem act9 {W w : World} {mb rb : Nat} {M : List UInt8} {K : Kp} (hT : Two W w mb rb M M K) (d n : Int) (hn : isI n) (ad : Option Addr) (cap : Nat) (l : List Int) (hr : Rv W 1 (.slice ad l.length cap) l.length (ic l)) (hd : ¬ (d = 0 ∨ d = 1 ∨ d = 2 ∨ d = 3 ∨ d = 4 ∨ d = 5 ∨ d = 6 ∨ d = 7 ∨ d = 8)) :
    Calls Try.prog 25 #[.pointer (some ⟨mb, 0, none⟩), .pointer (some ⟨rb, 0, none⟩), .agg #[.int .i64 d, .int .i64 n, .slice ad l.length cap]] w fun e w' => ActP W w' mb rb K e := by
  have hT2 := (hT.oldRv hr).new #[.int .i64 d, .int .i64 n, .slice ad l.length cap] 50
  obtain ⟨ab, hab⟩ : ∃ ab, ab = w.heap.size := ⟨_, rfl⟩
  obtain ⟨w0, hw0⟩ : ∃ w0, w0 = w.alloc (.cells #[.int .i64 d, .int .i64 n, .slice ad l.length cap] 50) := ⟨_, rfl⟩
  rw [← hw0, ← hab] at hT2
  clear hT
  have hT := hT2
  clear hT2
  obtain ⟨y1, y2, y3⟩ := hT.fact.2.c3'
  have t0 : (d == 0) = false := by rw [beq_eq_false_iff_ne]; omega
  have t1 : (d == 1) = false := by rw [beq_eq_false_iff_ne]; omega
  have t2 : (d == 2) = false := by rw [beq_eq_false_iff_ne]; omega
  have t3 : (d == 3) = false := by rw [beq_eq_false_iff_ne]; omega
  have t4 : (d == 4) = false := by rw [beq_eq_false_iff_ne]; omega
  have t5 : (d == 5) = false := by rw [beq_eq_false_iff_ne]; omega
  have t6 : (d == 6) = false := by rw [beq_eq_false_iff_ne]; omega
  have t7 : (d == 7) = false := by rw [beq_eq_false_iff_ne]; omega
  have t8 : (d == 8) = false := by rw [beq_eq_false_iff_ne]; omega
  clear hd
  go_enter Try.func25, Try.ntmps25
  go_upto_region 1 with fail
  rw [← hw0, ← hab]
  clear hw0 hab hr
  go_wp2_with (first
    | (go_at_call 14; refine (hT.mem (fun B O h hb => mSet h hb 32 n (by unfold isI; omega))).mono ?_; rintro e w2 ⟨rfl, hT2⟩; clear hT; have hT := hT2; clear hT2; clear y1 y2 y3; obtain ⟨y1, y2, y3⟩ := hT.fact.2.c3')
    | (go_at_call 56; refine (hT.ref (fun B O h hb => rSet h 32 n (by unfold isI; omega))).mono ?_; rintro e w2 ⟨rfl, hT2⟩; clear hT; have hT := hT2; clear hT2; clear y1 y2 y3; obtain ⟨y1, y2, y3⟩ := hT.fact.2.c3'))
  go_ret
  exact ⟨rfl, _, hT.weak.weak⟩
theorem wAct {W w : World} {mb rb : Nat} {M : List UInt8} {K : Kp} (hT : Two W w mb rb M M K) (d n : Int) (hn : isI n) (ad : Option Addr) (cap : Nat) (l : List Int) (hr : Rv W 1 (.slice ad l.length cap) l.length (ic l)) :
    Calls Try.prog 25 #[.pointer (some ⟨mb, 0, none⟩), .pointer (some ⟨rb, 0, none⟩), .agg #[.int .i64 d, .int .i64 n, .slice ad l.length cap]] w fun e w' => ActP W w' mb rb K e := by
  by_cases h0 : d = 0
  · exact act0 hT d n hn ad cap l hr h0
  by_cases h1 : d = 1
  · exact act1 hT d n hn ad cap l hr h1
  by_cases h2 : d = 2
  · exact act2 hT d n hn ad cap l hr h2
  by_cases h3 : d = 3
  · exact act3 hT d n hn ad cap l hr h3
  by_cases h4 : d = 4
  · exact act4 hT d n hn ad cap l hr h4
  by_cases h5 : d = 5
  · exact act5 hT d n hn ad cap l hr h5
  by_cases h6 : d = 6
  · exact act6 hT d n hn ad cap l hr h6
  by_cases h7 : d = 7
  · exact act7 hT d n hn ad cap l hr h7
  by_cases h8 : d = 8
  · exact act8 hT d n hn ad cap l hr h8
  exact act9 hT d n hn ad cap l hr (by omega)
end Go.Proofs.Ytjeelccdbhhfjaa
