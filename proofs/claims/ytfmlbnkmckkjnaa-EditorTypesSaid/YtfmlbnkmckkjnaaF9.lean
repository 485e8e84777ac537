/- EditorTypes. -/
import Derived.Test.YtfmlbnkmckkjnaaF7
import Derived.Test.YtfmlbnkmckkjnaaE13
namespace Go.Proofs.Ytfmlbnkmckkjnaa
open Go.RowKit
set_option linter.unusedVariables false
set_option linter.unusedSimpArgs false
attribute [local go_sem] cell_set set_set m_undef ba_get field0 field1 field2

/-- Views are equal. -/
theorem eqlW (x y : ByteArray) (a b : Int) (d e : Bool) (w : World) : (binOp .eql 23 (.agg #[.string x, .int .i64 a, .bool d]) (.agg #[.string y, .int .i64 b, .bool e])).run Try.prog w = .ok (.bool ((x.toList == y.toList) && (a == b) && (d == e))) w := by
  go_simp
  by_cases h1 : x.toList = y.toList <;> by_cases h2 : a = b <;> by_cases h3 : d = e <;> simp [h1, h2, h3]
attribute [local go_sem high] eqlW
theorem cells3_below {w w' : World} {b : Nat} {x y z : Value} (h : w.cell? ⟨b, 0, none⟩ = some x ∧ w.cell? ⟨b, 1, none⟩ = some y ∧ w.cell? ⟨b, 2, none⟩ = some z) (hb : Below w.heap.size w w') : w'.cell? ⟨b, 0, none⟩ = some x ∧ w'.cell? ⟨b, 1, none⟩ = some y ∧ w'.cell? ⟨b, 2, none⟩ = some z :=
  ⟨(hb.cell (World.block_lt_of_cell? _ _ h.1)).trans h.1, (hb.cell (World.block_lt_of_cell? _ _ h.2.1)).trans h.2.1, (hb.cell (World.block_lt_of_cell? _ _ h.2.2)).trans h.2.2⟩
/-- A byte that is typed. -/
def tb (c : UInt8) : Prop := 32 ≤ c.toNat ∧ c.toNat ≤ 126
theorem fold_tb (s : List UInt8) : ∀ b : List UInt8, (∀ c ∈ b, tb c) → ∀ c ∈ s.foldl typedS b, tb c := by
  induction s with
  | nil => intro b h; exact h
  | cons x s ih =>
    intro b h
    refine ih _ fun c hc => ?_
    unfold typedS at hc
    split at hc
    · rename_i h1
      rcases List.mem_append.1 hc with h2 | h2
      · exact h c h2
      · rw [List.mem_singleton.1 h2]; exact h1.1
    · exact h c hc
theorem typedL_tb (s : List UInt8) : ∀ c ∈ typedL s, tb c := fold_tb s [] (by simp)
theorem key_tb (l : List UInt8) (c : UInt8) (hc : tb c) (hl : l.length < 200) : Vw.key ⟨l, (l.length : Int), false⟩ c = ⟨l ++ [c], ((l ++ [c]).length : Int), false⟩ := by
  obtain ⟨h1, h2⟩ := hc
  have hk : clampN l (l.length : Int) = l.length := by unfold clampN; omega
  unfold Vw.key keyT
  simp only [hk]
  rw [if_neg (by simp), if_neg (by omega), if_pos ⟨h1, h2⟩, if_pos hl, List.take_length, List.drop_length]
  simp
theorem key_cr (l : List UInt8) : Vw.key ⟨l, (l.length : Int), false⟩ 13 = ⟨l, (l.length : Int), true⟩ := by
  have hk : clampN l (l.length : Int) = l.length := by unfold clampN; omega
  unfold Vw.key
  simp only [hk]
  rw [if_neg (by simp), if_pos (Or.inr (by decide))]
theorem edit_tb (r : List UInt8) : ∀ (l : List UInt8) (k : Nat), (∀ c ∈ r, tb c) → l.length + r.length ≤ 200 →
    editR [] (r ++ [13]) k 0 ⟨l, (l.length : Int), false⟩ = (⟨l ++ r, ((l ++ r).length : Int), true⟩, k + r.length + 1) := by
  induction r with
  | nil =>
    intro l k _ _
    have e : editS [] 0 ⟨l, (l.length : Int), false⟩ 13 = (0, ⟨l, (l.length : Int), true⟩) := by
      unfold editS
      rw [if_neg (by decide), if_neg (by decide), key_cr]
    rw [List.nil_append, editR_done e rfl]
    simp
  | cons c r ih =>
    intro l k h hl
    obtain ⟨h1, h2⟩ := h c (by simp)
    simp only [List.length_cons] at hl
    have e : editS [] 0 ⟨l, (l.length : Int), false⟩ c = (0, ⟨l ++ [c], ((l ++ [c]).length : Int), false⟩) := by
      unfold editS
      rw [if_neg (by omega), if_neg (by omega), key_tb l c ⟨h1, h2⟩ (by omega)]
    rw [List.cons_append, editR_next e rfl, ih (l ++ [c]) (k + 1) (fun c hc => h c (by simp [hc])) (by simp; omega)]
    simp
    omega
theorem edit_typed (s : List UInt8) : editL [] (typedL s ++ [13]) = (⟨typedL s, ((typedL s).length : Int), true⟩, (typedL s).length + 1) := by
  have h := edit_tb (typedL s) [] 0 (typedL_tb s) (by simpa using typedL_len s)
  simpa [editL] using h
set_option maxHeartbeats 1600000 in
theorem law_types (w : World) (s : List UInt8) :
    Calls Try.prog 4 #[.string ⟨s.toArray⟩] w fun e w' => e = .returned (.bool true) ∧ Below w.heap.size w w' := by
  go_enter Try.func4, Try.ntmps4
  go_upto_region 3 with (go_at_call 8; refine (wAwake _).mono ?_; rintro e w1 ⟨rfl, hb1⟩)
  by_cases h2 : 2000 < s.length
  · have t1 : ((2000 : Int) < (s.length : Int)) = True := by simp; omega
    go_wp2
    go_ret
    exact ⟨rfl, hb1⟩
  have t1 : ((2000 : Int) < (s.length : Int)) = False := by simp; omega
  have hlen := typedL_len s
  have hE := edit_typed s
  have hK := Lib.hid (wKeys w1 s (by omega))
  have hk1 := Lib.hid (fun w => rKeys w s (by omega))
  have hk2 := Lib.hid (fun w => rTyped w s (by omega))
  generalize typedL s = l at *
  have hD := Lib.hid (fun w => wEdit w (.slice none 0 0) [] (l ++ [13]) (by simp; omega) (.inl ⟨rfl, rfl⟩) (by simp) (by simp))
  rw [hE] at hD
  unfold EditP at hD
  simp only at hD
  clear hE
  have hl13 : (l ++ [13]).length = l.length + 1 := by simp
  obtain ⟨K, hKe⟩ : ∃ K, l ++ [13] = K := ⟨_, rfl⟩
  rw [hKe] at hK hk1 hD hl13
  have w2 : IntKind.i64.wrap ((K.length : Int) - 1) = (l.length : Int) := by rw [IntKind.wrap_i64]; omega
  have q1 : ((l.length + 1 : Nat) : Int) = (K.length : Int) := by omega
  rw [q1] at hD
  clear hKe h2 hlen hl13 q1
  go_upto_region 6 with (go_at_call 11; refine hK.out.mono ?_; rintro e w2 ⟨rfl, hb2⟩)
  go_upto_region 7 with (go_at_call 12; refine (hD.out _).mono ?_; rintro e w3 ⟨rfl, hb3⟩)
  have B1 : Blk (w3.alloc (.cells #[.string ⟨l.toArray⟩, .int .i64 (l.length : Int), .bool true] 23)) w3.heap.size #[.string ⟨l.toArray⟩, .int .i64 (l.length : Int), .bool true] 23 := Blk.new _ _ _
  have hb4 : Below w.heap.size w (w3.alloc (.cells #[.string ⟨l.toArray⟩, .int .i64 (l.length : Int), .bool true] 23)) := bel_alloc (bel_trans (bel_trans hb1 hb2) hb3) _
  clear hb1 hb2 hb3
  generalize w3.alloc (.cells #[.string ⟨l.toArray⟩, .int .i64 (l.length : Int), .bool true] 23) = w4 at *
  generalize w3.heap.size = b4 at *
  obtain ⟨c1, c2, c3, f1, f2, f3, l1⟩ := B1.three
  have hS0 : w4.drew.cell? ⟨b4, 0, none⟩ = some (.string ⟨l.toArray⟩) ∧ w4.drew.cell? ⟨b4, 1, none⟩ = some (.int .i64 (l.length : Int)) ∧ w4.drew.cell? ⟨b4, 2, none⟩ = some (.bool true) := ⟨c1, c2, c3⟩
  refine wp_region_noPanic ?_
  refine wp_region_held_drew (S := (fun w' => w'.cell? ⟨b4, 0, none⟩ = some (.string ⟨l.toArray⟩) ∧ w'.cell? ⟨b4, 1, none⟩ = some (.int .i64 (l.length : Int)) ∧ w'.cell? ⟨b4, 2, none⟩ = some (.bool true))) (by kernel_rfl) ?_ (fun hHeld => ?_)
  · (try dsimp only); (first | exact hS0 | exact hS5 | exact hS6)
  refine wpAnyH_take (i := 0) (oi := { dst := some 18, op := Go.Op.move (Go.Operand.tmp 3), type := 9, pos := "law.go:52", after := #[], guard := none }) (v := ?v1) rfl (by kernel_rfl) (by kernel_rfl) (by kernel_rfl) (fun _ _ _ h => h) (Or.inl ⟨by rfl, ?hy1⟩) (by assumption) ?rest1
  case hy1 => (intro w hSw; (try dsimp only at hSw); go_simp <;> with_reducible rfl)
  try simp only [Act.put, List.setIfInBounds_toArray, List.set_cons_zero, List.set_cons_succ]
  refine wpAnyH_take (i := 1) (oi := { dst := some 19, op := Go.Op.move (Go.Operand.tmp 0), type := 9, pos := "law.go:52", after := #[], guard := none }) (v := ?v2) rfl (by kernel_rfl) (by kernel_rfl) (by kernel_rfl) (fun _ _ _ h => h) (Or.inl ⟨by rfl, ?hy2⟩) (by assumption) ?rest2
  case hy2 => (intro w hSw; (try dsimp only at hSw); go_simp <;> with_reducible rfl)
  try simp only [Act.put, List.setIfInBounds_toArray, List.set_cons_zero, List.set_cons_succ]
  refine wpAnyH_ready (rs := [2]) (by kernel_rfl) (by simp) ?_
  refine AllReadyH.cons (o := { dst := some 20, op := Go.Op.call { callee := Go.Callee.value (Go.Operand.func 13), args := #[Go.Operand.tmp 19], argTypes := #[9] }, type := 9, pos := "law.go:52", after := #[{ on := 1, ground := Go.Ground.data }], guard := none }) rfl (fun K hK => ?_) AllReadyH.nil
  go_simp
  go_at_call 13; refine (hk1.out _).mono ?_; rintro e w5 ⟨rfl, hb5⟩; have hS5 := cells3_below hS0 hb5
  refine hK.out _ _ ?_ (fun hHeld2 => ?_)
  · (try dsimp only); (first | exact hS0 | exact hS5 | exact hS6)
  clear hK K hHeld
  have hHeld := hHeld2
  clear hHeld2
  try simp only [Act.put, List.setIfInBounds_toArray, List.set_cons_zero, List.set_cons_succ]
  refine wpAnyH_take (i := 3) (oi := { dst := some 21, op := Go.Op.binOp Go.BinOp.eql 9 (Go.Operand.tmp 18) (Go.Operand.tmp 20) 9, type := 4, pos := "law.go:52", after := #[{ on := 0, ground := Go.Ground.data }, { on := 2, ground := Go.Ground.data }], guard := none }) (v := ?v3) rfl (by kernel_rfl) (by kernel_rfl) (by kernel_rfl) (fun _ _ _ h => h) (Or.inl ⟨by rfl, ?hy3⟩) (by assumption) ?rest3
  case hy3 => (intro w hSw; (try dsimp only at hSw); go_simp <;> with_reducible rfl)
  try simp only [Act.put, List.setIfInBounds_toArray, List.set_cons_zero, List.set_cons_succ]
  refine wpAnyH_take (i := 4) (oi := { dst := some 22, op := Go.Op.move (Go.Operand.tmp 21), type := 4, pos := "law.go:52", after := #[{ on := 3, ground := Go.Ground.data }, { on := 2, ground := Go.Ground.chain }], guard := none }) (v := ?v4) rfl (by kernel_rfl) (by kernel_rfl) (by kernel_rfl) (fun _ _ _ h => h) (Or.inl ⟨by rfl, ?hy4⟩) (by assumption) ?rest4
  case hy4 => (intro w hSw; (try dsimp only at hSw); go_simp <;> with_reducible rfl)
  try simp only [Act.put, List.setIfInBounds_toArray, List.set_cons_zero, List.set_cons_succ]
  refine wpAnyH_take (i := 5) (oi := { dst := some 23, op := Go.Op.move (Go.Operand.tmp 5), type := 3, pos := "law.go:52", after := #[{ on := 4, ground := Go.Ground.guard }], guard := some (4, true) }) (v := ?v5) rfl (by kernel_rfl) (by kernel_rfl) (by kernel_rfl) (fun _ _ _ h => h) (Or.inl ⟨by rfl, ?hy5⟩) (by assumption) ?rest5
  case hy5 => (intro w hSw; (try dsimp only at hSw); go_simp <;> with_reducible rfl)
  try simp only [Act.put, List.setIfInBounds_toArray, List.set_cons_zero, List.set_cons_succ]
  refine wpAnyH_take (i := 6) (oi := { dst := some 24, op := Go.Op.move (Go.Operand.tmp 3), type := 9, pos := "law.go:52", after := #[{ on := 4, ground := Go.Ground.guard }], guard := some (4, true) }) (v := ?v6) rfl (by kernel_rfl) (by kernel_rfl) (by kernel_rfl) (fun _ _ _ h => h) (Or.inl ⟨by rfl, ?hy6⟩) (by assumption) ?rest6
  case hy6 => (intro w hSw; (try dsimp only at hSw); go_simp <;> with_reducible rfl)
  try simp only [Act.put, List.setIfInBounds_toArray, List.set_cons_zero, List.set_cons_succ]
  refine wpAnyH_take (i := 7) (oi := { dst := some 25, op := Go.Op.call { callee := Go.Callee.builtin Go.Builtin.len, args := #[Go.Operand.tmp 24], argTypes := #[9] }, type := 3, pos := "law.go:52", after := #[{ on := 6, ground := Go.Ground.data }, { on := 4, ground := Go.Ground.guard }], guard := some (4, true) }) (v := ?v7) rfl (by kernel_rfl) (by kernel_rfl) (by kernel_rfl) (fun _ _ _ h => h) (Or.inl ⟨by rfl, ?hy7⟩) (by assumption) ?rest7
  case hy7 => (intro w hSw; (try dsimp only at hSw); go_simp <;> with_reducible rfl)
  try simp only [Act.put, List.setIfInBounds_toArray, List.set_cons_zero, List.set_cons_succ]
  refine wpAnyH_take (i := 8) (oi := { dst := some 26, op := Go.Op.binOp Go.BinOp.eql 3 (Go.Operand.tmp 23) (Go.Operand.tmp 25) 3, type := 4, pos := "law.go:52", after := #[{ on := 5, ground := Go.Ground.data }, { on := 7, ground := Go.Ground.data }, { on := 4, ground := Go.Ground.guard }], guard := some (4, true) }) (v := ?v8) rfl (by kernel_rfl) (by kernel_rfl) (by kernel_rfl) (fun _ _ _ h => h) (Or.inl ⟨by rfl, ?hy8⟩) (by assumption) ?rest8
  case hy8 => (intro w hSw; (try dsimp only at hSw); go_simp <;> with_reducible rfl)
  try simp only [Act.put, List.setIfInBounds_toArray, List.set_cons_zero, List.set_cons_succ]
  refine wpAnyH_take (i := 9) (oi := { dst := some 27, op := Go.Op.pick (Go.Operand.tmp 22) (Go.Operand.tmp 26) (Go.Operand.const (Go.Value.bool false)), type := 4, pos := "law.go:52", after := #[{ on := 4, ground := Go.Ground.data }, { on := 8, ground := Go.Ground.data }], guard := none }) (v := ?v9) rfl (by kernel_rfl) (by kernel_rfl) (by kernel_rfl) (fun _ _ _ h => h) (Or.inl ⟨by rfl, ?hy9⟩) (by assumption) ?rest9
  case hy9 => (intro w hSw; (try dsimp only at hSw); go_simp <;> with_reducible rfl)
  try simp only [Act.put, List.setIfInBounds_toArray, List.set_cons_zero, List.set_cons_succ]
  refine wpAnyH_take (i := 10) (oi := { dst := some 28, op := Go.Op.move (Go.Operand.tmp 27), type := 4, pos := "law.go:52", after := #[{ on := 9, ground := Go.Ground.data }, { on := 4, ground := Go.Ground.chain }], guard := none }) (v := ?v10) rfl (by kernel_rfl) (by kernel_rfl) (by kernel_rfl) (fun _ _ _ h => h) (Or.inl ⟨by rfl, ?hy10⟩) (by assumption) ?rest10
  case hy10 => (intro w hSw; (try dsimp only at hSw); go_simp <;> with_reducible rfl)
  try simp only [Act.put, List.setIfInBounds_toArray, List.set_cons_zero, List.set_cons_succ]
  refine wpAnyH_take (i := 11) (oi := { dst := some 29, op := Go.Op.fieldAddr 23 (Go.Operand.tmp 4) 2, type := 0, pos := "law.go:52", after := #[{ on := 10, ground := Go.Ground.guard }], guard := some (10, true) }) (v := ?v11) rfl (by kernel_rfl) (by kernel_rfl) (by kernel_rfl) (fun _ _ _ h => h) (Or.inl ⟨by rfl, ?hy11⟩) (by assumption) ?rest11
  case hy11 => (intro w hSw; (try dsimp only at hSw); go_simp <;> with_reducible rfl)
  try simp only [Act.put, List.setIfInBounds_toArray, List.set_cons_zero, List.set_cons_succ]
  refine wpAnyH_take (i := 12) (oi := { dst := some 30, op := Go.Op.load 4 (Go.Operand.tmp 29), type := 4, pos := "law.go:52", after := #[{ on := 11, ground := Go.Ground.data }, { on := 10, ground := Go.Ground.guard }], guard := some (10, true) }) (v := ?v12) rfl (by kernel_rfl) (by kernel_rfl) (by kernel_rfl) (fun _ _ _ h => h) (Or.inl ⟨by rfl, ?hy12⟩) (by assumption) ?rest12
  case hy12 => (intro w hSw; (try dsimp only at hSw); go_simp <;> with_reducible rfl)
  try simp only [Act.put, List.setIfInBounds_toArray, List.set_cons_zero, List.set_cons_succ]
  refine wpAnyH_take (i := 13) (oi := { dst := some 31, op := Go.Op.pick (Go.Operand.tmp 28) (Go.Operand.tmp 30) (Go.Operand.const (Go.Value.bool false)), type := 4, pos := "law.go:52", after := #[{ on := 10, ground := Go.Ground.data }, { on := 12, ground := Go.Ground.data }], guard := none }) (v := ?v13) rfl (by kernel_rfl) (by kernel_rfl) (by kernel_rfl) (fun _ _ _ h => h) (Or.inl ⟨by rfl, ?hy13⟩) (by assumption) ?rest13
  case hy13 => (intro w hSw; (try dsimp only at hSw); go_simp <;> with_reducible rfl)
  try simp only [Act.put, List.setIfInBounds_toArray, List.set_cons_zero, List.set_cons_succ]
  refine wpAnyH_take (i := 14) (oi := { dst := some 32, op := Go.Op.move (Go.Operand.tmp 31), type := 4, pos := "law.go:52", after := #[{ on := 13, ground := Go.Ground.data }, { on := 10, ground := Go.Ground.chain }], guard := none }) (v := ?v14) rfl (by kernel_rfl) (by kernel_rfl) (by kernel_rfl) (fun _ _ _ h => h) (Or.inl ⟨by rfl, ?hy14⟩) (by assumption) ?rest14
  case hy14 => (intro w hSw; (try dsimp only at hSw); go_simp <;> with_reducible rfl)
  try simp only [Act.put, List.setIfInBounds_toArray, List.set_cons_zero, List.set_cons_succ]
  refine wpAnyH_take (i := 15) (oi := { dst := some 33, op := Go.Op.load 23 (Go.Operand.tmp 4), type := 23, pos := "law.go:52", after := #[{ on := 14, ground := Go.Ground.guard }], guard := some (14, true) }) (v := ?v15) rfl (by kernel_rfl) (by kernel_rfl) (by kernel_rfl) (fun _ _ _ h => h) (Or.inl ⟨by rfl, ?hy15⟩) (by assumption) ?rest15
  case hy15 => (intro w hSw; (try dsimp only at hSw); go_simp <;> with_reducible rfl)
  try simp only [Act.put, List.setIfInBounds_toArray, List.set_cons_zero, List.set_cons_succ]
  refine wpAnyH_take (i := 16) (oi := { dst := some 34, op := Go.Op.move (Go.Operand.tmp 0), type := 9, pos := "law.go:52", after := #[{ on := 14, ground := Go.Ground.guard }], guard := some (14, true) }) (v := ?v16) rfl (by kernel_rfl) (by kernel_rfl) (by kernel_rfl) (fun _ _ _ h => h) (Or.inl ⟨by rfl, ?hy16⟩) (by assumption) ?rest16
  case hy16 => (intro w hSw; (try dsimp only at hSw); go_simp <;> with_reducible rfl)
  try simp only [Act.put, List.setIfInBounds_toArray, List.set_cons_zero, List.set_cons_succ]
  refine wpAnyH_take (i := 19) (oi := { dst := some 37, op := Go.Op.move (Go.Operand.tmp 3), type := 9, pos := "law.go:52", after := #[{ on := 14, ground := Go.Ground.guard }], guard := some (14, true) }) (v := ?v17) rfl (by kernel_rfl) (by kernel_rfl) (by kernel_rfl) (fun _ _ _ h => h) (Or.inl ⟨by rfl, ?hy17⟩) (by assumption) ?rest17
  case hy17 => (intro w hSw; (try dsimp only at hSw); go_simp <;> with_reducible rfl)
  try simp only [Act.put, List.setIfInBounds_toArray, List.set_cons_zero, List.set_cons_succ]
  refine wpAnyH_take (i := 20) (oi := { dst := some 38, op := Go.Op.call { callee := Go.Callee.builtin Go.Builtin.len, args := #[Go.Operand.tmp 37], argTypes := #[9] }, type := 3, pos := "law.go:52", after := #[{ on := 19, ground := Go.Ground.data }, { on := 14, ground := Go.Ground.guard }], guard := some (14, true) }) (v := ?v18) rfl (by kernel_rfl) (by kernel_rfl) (by kernel_rfl) (fun _ _ _ h => h) (Or.inl ⟨by rfl, ?hy18⟩) (by assumption) ?rest18
  case hy18 => (intro w hSw; (try dsimp only at hSw); go_simp <;> with_reducible rfl)
  try simp only [Act.put, List.setIfInBounds_toArray, List.set_cons_zero, List.set_cons_succ]
  refine wpAnyH_take (i := 21) (oi := { dst := some 39, op := Go.Op.binOp Go.BinOp.sub 3 (Go.Operand.tmp 38) (Go.Operand.const (Go.Value.int Go.IntKind.i64 1)) 3, type := 3, pos := "law.go:52", after := #[{ on := 20, ground := Go.Ground.data }, { on := 14, ground := Go.Ground.guard }], guard := some (14, true) }) (v := ?v19) rfl (by kernel_rfl) (by kernel_rfl) (by kernel_rfl) (fun _ _ _ h => h) (Or.inl ⟨by rfl, ?hy19⟩) (by assumption) ?rest19
  case hy19 => (intro w hSw; (try dsimp only at hSw); go_simp <;> with_reducible rfl)
  try simp only [Act.put, List.setIfInBounds_toArray, List.set_cons_zero, List.set_cons_succ]
  refine wpAnyH_ready (rs := [17]) (by kernel_rfl) (by simp) ?_
  refine AllReadyH.cons (o := { dst := some 35, op := Go.Op.call { callee := Go.Callee.value (Go.Operand.func 14), args := #[Go.Operand.tmp 34], argTypes := #[9] }, type := 23, pos := "law.go:52", after := #[{ on := 16, ground := Go.Ground.data }, { on := 14, ground := Go.Ground.chain }, { on := 14, ground := Go.Ground.guard }], guard := some (14, true) }) rfl (fun K hK => ?_) AllReadyH.nil
  go_simp
  go_at_call 14; refine (hk2.out _).mono ?_; rintro e w6 ⟨rfl, hb6⟩; have hS6 := cells3_below hS5 hb6
  refine hK.out _ _ ?_ (fun hHeld2 => ?_)
  · (try dsimp only); (first | exact hS0 | exact hS5 | exact hS6)
  clear hK K hHeld
  have hHeld := hHeld2
  clear hHeld2
  try simp only [Act.put, List.setIfInBounds_toArray, List.set_cons_zero, List.set_cons_succ]
  refine wpAnyH_take (i := 18) (oi := { dst := some 36, op := Go.Op.field 23 (Go.Operand.tmp 35) 0, type := 9, pos := "law.go:52", after := #[{ on := 17, ground := Go.Ground.data }, { on := 14, ground := Go.Ground.guard }], guard := some (14, true) }) (v := ?v20) rfl (by kernel_rfl) (by kernel_rfl) (by kernel_rfl) (fun _ _ _ h => h) (Or.inl ⟨by rfl, ?hy20⟩) (by assumption) ?rest20
  case hy20 => (intro w hSw; (try dsimp only at hSw); go_simp <;> with_reducible rfl)
  try simp only [Act.put, List.setIfInBounds_toArray, List.set_cons_zero, List.set_cons_succ]
  refine wpAnyH_take (i := 22) (oi := { dst := some 40, op := Go.Op.build 23 #[(0, Go.Operand.tmp 36), (1, Go.Operand.tmp 39), (2, Go.Operand.const (Go.Value.bool true))], type := 23, pos := "law.go:52", after := #[{ on := 18, ground := Go.Ground.data }, { on := 21, ground := Go.Ground.data }, { on := 14, ground := Go.Ground.guard }], guard := some (14, true) }) (v := ?v21) rfl (by kernel_rfl) (by kernel_rfl) (by kernel_rfl) (fun _ _ _ h => h) (Or.inl ⟨by rfl, ?hy21⟩) (by assumption) ?rest21
  case hy21 => (intro w hSw; (try dsimp only at hSw); go_simp <;> with_reducible rfl)
  try simp only [Act.put, List.setIfInBounds_toArray, List.set_cons_zero, List.set_cons_succ]
  refine wpAnyH_take (i := 23) (oi := { dst := some 41, op := Go.Op.binOp Go.BinOp.eql 23 (Go.Operand.tmp 33) (Go.Operand.tmp 40) 23, type := 4, pos := "law.go:52", after := #[{ on := 15, ground := Go.Ground.data }, { on := 22, ground := Go.Ground.data }, { on := 14, ground := Go.Ground.guard }], guard := some (14, true) }) (v := ?v22) rfl (by kernel_rfl) (by kernel_rfl) (by kernel_rfl) (fun _ _ _ h => h) (Or.inl ⟨by rfl, ?hy22⟩) (by assumption) ?rest22
  case hy22 => (intro w hSw; (try dsimp only at hSw); go_simp <;> with_reducible rfl)
  try simp only [Act.put, List.setIfInBounds_toArray, List.set_cons_zero, List.set_cons_succ]
  refine wpAnyH_take (i := 24) (oi := { dst := some 42, op := Go.Op.pick (Go.Operand.tmp 32) (Go.Operand.tmp 41) (Go.Operand.const (Go.Value.bool false)), type := 4, pos := "law.go:52", after := #[{ on := 14, ground := Go.Ground.data }, { on := 23, ground := Go.Ground.data }], guard := none }) (v := ?v23) rfl (by kernel_rfl) (by kernel_rfl) (by kernel_rfl) (fun _ _ _ h => h) (Or.inl ⟨by rfl, ?hy23⟩) (by assumption) ?rest23
  case hy23 => (intro w hSw; (try dsimp only at hSw); go_simp <;> with_reducible rfl)
  try simp only [Act.put, List.setIfInBounds_toArray, List.set_cons_zero, List.set_cons_succ]
  refine wpAnyH_take (i := 25) (oi := { dst := some 2, op := Go.Op.assign (Go.Operand.tmp 42), type := 4, pos := "law.go:52", after := #[{ on := 24, ground := Go.Ground.data }, { on := 17, ground := Go.Ground.chain }, { on := 0, ground := Go.Ground.phase }, { on := 1, ground := Go.Ground.phase }, { on := 2, ground := Go.Ground.phase }, { on := 3, ground := Go.Ground.phase }, { on := 4, ground := Go.Ground.phase }, { on := 5, ground := Go.Ground.phase }, { on := 6, ground := Go.Ground.phase }, { on := 7, ground := Go.Ground.phase }, { on := 8, ground := Go.Ground.phase }, { on := 9, ground := Go.Ground.phase }, { on := 10, ground := Go.Ground.phase }, { on := 11, ground := Go.Ground.phase }, { on := 12, ground := Go.Ground.phase }, { on := 13, ground := Go.Ground.phase }, { on := 14, ground := Go.Ground.phase }, { on := 15, ground := Go.Ground.phase }, { on := 16, ground := Go.Ground.phase }, { on := 17, ground := Go.Ground.phase }, { on := 18, ground := Go.Ground.phase }, { on := 19, ground := Go.Ground.phase }, { on := 20, ground := Go.Ground.phase }, { on := 21, ground := Go.Ground.phase }, { on := 22, ground := Go.Ground.phase }, { on := 23, ground := Go.Ground.phase }, { on := 24, ground := Go.Ground.phase }], guard := none }) (v := ?v24) rfl (by kernel_rfl) (by kernel_rfl) (by kernel_rfl) (fun _ _ _ h => h) (Or.inl ⟨by rfl, ?hy24⟩) (by assumption) ?rest24
  case hy24 => (intro w hSw; (try dsimp only at hSw); go_simp <;> with_reducible rfl)
  try simp only [Act.put, List.setIfInBounds_toArray, List.set_cons_zero, List.set_cons_succ]
  refine wpAnyH_done (by kernel_rfl) ?_ _
  refine NoPanic.normal ?_
  go_wp2
  go_ret
  exact ⟨rfl, bel_trans (bel_trans (bel_drew hb4) hb5) hb6⟩
theorem lawTypes (s : ByteArray) (w : World) : Calls Try.prog 4 #[.string s] w fun e w' => e = .returned (.bool true) ∧ Below w.heap.size w w' := by
  have h := law_types w s.data.toList
  rw [str_list] at h
  exact h
end Go.Proofs.Ytfmlbnkmckkjnaa
