/- Numbers laid in bytes. -/
import Derived.Test.YtjkpapkjlmglbaaDoorL1
import Derived.Laws.BitsAllLaws
import Derived.Laws.Shifts
namespace Go.Proofs.YtjkpapkjlmglbaaDoor
open Go.RowKit
set_option linter.unusedVariables false
set_option linter.unusedSimpArgs false
attribute [local go_sem] cell_set set_set m_undef

theorem cell_other {w : World} {b o b2 o2 : Nat} {u v : Value} (h : w.cell? ⟨b2, o2, none⟩ = some u) (hne : b ≠ b2) : (w.setCell ⟨b, o, none⟩ v).cell? ⟨b2, o2, none⟩ = some u :=
  (World.cell?_setCell_other w (a := ⟨b, o, none⟩) (b := ⟨b2, o2, none⟩) _ (by intro h; cases h; exact hne rfl)).trans h
theorem eight {k : Nat} (h : k < 8) : k = 0 ∨ k = 1 ∨ k = 2 ∨ k = 3 ∨ k = 4 ∨ k = 5 ∨ k = 6 ∨ k = 7 := by omega
theorem shl8 (yk : IntKind) (x k : Nat) (hx : x < 256) (hk : k < 8) : Op.shift .shl .u64 (x : Int) yk (8 * (k : Int)) = pure (.int .u64 ((x * 2 ^ (8 * k) : Nat) : Int)) := by
  rw [shift_shl_any _ _ _ _ (by omega)]
  congr 2
  rcases eight hk with rfl | rfl | rfl | rfl | rfl | rfl | rfl | rfl <;> (simp [IntKind.wrap_u64, IntKind.bits]; try omega)
theorem shr8 (yk : IntKind) (v k : Nat) (hk : k < 8) : Op.shift .shr .u64 (v : Int) yk (8 * (k : Int)) = pure (.int .u64 ((v / 2 ^ (8 * k) : Nat) : Int)) := by
  rw [shift_shr_any _ _ _ _ (by omega)]
  congr 2
  rcases eight hk with rfl | rfl | rfl | rfl | rfl | rfl | rfl | rfl <;> simp [IntKind.bits]
theorem or8 (v x k : Nat) (hx : x < 256) (hk : k < 8) (hv : v < 2 ^ (8 * k)) : bits .or .u64 (v : Int) ((x * 2 ^ (8 * k) : Nat) : Int) = ((v + x * 2 ^ (8 * k) : Nat) : Int) := by
  have h1 : v < 18446744073709551616 := by rcases eight hk with rfl | rfl | rfl | rfl | rfl | rfl | rfl | rfl <;> omega
  have h2 : x * 2 ^ (8 * k) < 18446744073709551616 := by rcases eight hk with rfl | rfl | rfl | rfl | rfl | rfl | rfl | rfl <;> omega
  rw [u64_or_nat v _ h1 h2, Nat.or_comm, Nat.mul_comm, ← Nat.two_pow_add_eq_or_of_lt hv x, Nat.add_comm]

set_option maxHeartbeats 1000000 in
theorem num_step (w : World) (nb bb b o n cap j k : Nat) (v x : Nat) (i : Int) (hi : i = (j : Int)) (hj : j < n) (hk : k < 8) (hx : x < 256) (hv : v < 2 ^ (8 * k)) (hN : Blk w nb #[.int .u64 (v : Int)] 56)
    (hne1 : nb ≠ bb) (hne2 : nb ≠ b) (s1 : w.cell? ⟨bb, 0, none⟩ = some (.slice (some ⟨b, o, none⟩) n cap)) (s2 : w.cell? ⟨b, o + j, none⟩ = some (.int .u8 (x : Int))) :
    Calls Tryd.prog 41 #[.int .i64 i, .int .i64 (k : Int), .pointer (some ⟨nb, 0, none⟩), .pointer (some ⟨bb, 0, none⟩)] w fun e w' => e = .returned (.tuple #[]) ∧ w' = (w.setCell ⟨nb, 0, none⟩ (.int .u64 ((v + x * 2 ^ (8 * k) : Nat) : Int))).drew := by
  obtain ⟨k1, k2, k3⟩ := hN.one
  have s3 : (w.setCell ⟨nb, 0, none⟩ (.int .u64 ((v + x * 2 ^ (8 * k) : Nat) : Int))).drew.cell? ⟨bb, 0, none⟩ = some (.slice (some ⟨b, o, none⟩) n cap) := cell_other s1 hne1
  have s4 : (w.setCell ⟨nb, 0, none⟩ (.int .u64 ((v + x * 2 ^ (8 * k) : Nat) : Int))).drew.cell? ⟨b, o + j, none⟩ = some (.int .u8 (x : Int)) := cell_other s2 hne2
  have hsh := shl8 .i64 x k hx hk
  have hor := or8 v x k hx hk hv
  obtain ⟨q, hq⟩ : ∃ q : Int, q = 8 * (k : Int) := ⟨_, rfl⟩
  obtain ⟨z, hz⟩ : ∃ z : Nat, z = x * 2 ^ (8 * k) := ⟨_, rfl⟩
  have w1 : IntKind.u64.wrap (x : Int) = (x : Int) := by rw [IntKind.wrap_u64]; omega
  have w2 : IntKind.i64.wrap (8 * (k : Int)) = q := by rw [IntKind.wrap_i64]; omega
  rw [← hz] at s3 s4 hor hsh ⊢
  rw [← hq] at hsh
  clear hz hq hv hx hk
  have i1 : ((0 : Int) ≤ i) = True := by simp; omega
  have i2 : (i < (n : Int)) = True := by simp; omega
  have i3 : i.toNat = j := by omega
  go_enter Tryd.func41, Tryd.ntmps41
  go_upto_region 0 with fail
  refine wp_region_noPanic ?_
  refine wp_region_held_drew (S := (fun w' => w'.cell? ⟨bb, 0, none⟩ = some (.slice (some ⟨b, o, none⟩) n cap) ∧ w'.cell? ⟨b, o + j, none⟩ = some (.int .u8 (x : Int)))) (by kernel_rfl) ?_ (fun hHeld => ?_)
  · (try dsimp only); (first | exact ⟨s1, s2⟩ | exact ⟨s3, s4⟩)
  refine wpAnyH_take (i := 1) (oi := { dst := some 7, op := Go.Op.load 22 (Go.Operand.tmp 3), type := 22, pos := "le.go:16", after := #[], guard := none }) (v := ?v1) rfl (by kernel_rfl) (by kernel_rfl) (by kernel_rfl) (fun _ _ _ h => h) (Or.inl ⟨by rfl, ?hy1⟩) (by assumption) ?rest1
  case hy1 => (intro w hSw; (try dsimp only at hSw); go_simp <;> with_reducible rfl)
  try simp only [Act.put, List.setIfInBounds_toArray, List.set_cons_zero, List.set_cons_succ]
  refine wpAnyH_take (i := 2) (oi := { dst := some 8, op := Go.Op.move (Go.Operand.tmp 0), type := 3, pos := "le.go:16", after := #[], guard := none }) (v := ?v2) rfl (by kernel_rfl) (by kernel_rfl) (by kernel_rfl) (fun _ _ _ h => h) (Or.inl ⟨by rfl, ?hy2⟩) (by assumption) ?rest2
  case hy2 => (intro w hSw; (try dsimp only at hSw); go_simp <;> with_reducible rfl)
  try simp only [Act.put, List.setIfInBounds_toArray, List.set_cons_zero, List.set_cons_succ]
  refine wpAnyH_take (i := 6) (oi := { dst := some 12, op := Go.Op.move (Go.Operand.tmp 1), type := 3, pos := "le.go:16", after := #[], guard := none }) (v := ?v3) rfl (by kernel_rfl) (by kernel_rfl) (by kernel_rfl) (fun _ _ _ h => h) (Or.inl ⟨by rfl, ?hy3⟩) (by assumption) ?rest3
  case hy3 => (intro w hSw; (try dsimp only at hSw); go_simp <;> with_reducible rfl)
  try simp only [Act.put, List.setIfInBounds_toArray, List.set_cons_zero, List.set_cons_succ]
  refine wpAnyH_take (i := 3) (oi := { dst := some 9, op := Go.Op.indexAddr 22 (Go.Operand.tmp 7) (Go.Operand.tmp 8), type := 0, pos := "le.go:16", after := #[{ on := 1, ground := Go.Ground.data }, { on := 2, ground := Go.Ground.data }], guard := none }) (v := ?v4) rfl (by kernel_rfl) (by kernel_rfl) (by kernel_rfl) (fun _ _ _ h => h) (Or.inl ⟨by rfl, ?hy4⟩) (by assumption) ?rest4
  case hy4 => (intro w hSw; (try dsimp only at hSw); go_simp <;> with_reducible rfl)
  try simp only [Act.put, List.setIfInBounds_toArray, List.set_cons_zero, List.set_cons_succ]
  refine wpAnyH_take (i := 4) (oi := { dst := some 10, op := Go.Op.load 5 (Go.Operand.tmp 9), type := 5, pos := "le.go:16", after := #[{ on := 3, ground := Go.Ground.data }], guard := none }) (v := ?v5) rfl (by kernel_rfl) (by kernel_rfl) (by kernel_rfl) (fun _ _ _ h => h) (Or.inl ⟨by rfl, ?hy5⟩) (by assumption) ?rest5
  case hy5 => (intro w hSw; (try dsimp only at hSw); go_simp <;> with_reducible rfl)
  try simp only [Act.put, List.setIfInBounds_toArray, List.set_cons_zero, List.set_cons_succ]
  refine wpAnyH_take (i := 5) (oi := { dst := some 11, op := Go.Op.convert 5 56 (Go.Operand.tmp 10), type := 56, pos := "le.go:16", after := #[{ on := 4, ground := Go.Ground.data }], guard := none }) (v := ?v6) rfl (by kernel_rfl) (by kernel_rfl) (by kernel_rfl) (fun _ _ _ h => h) (Or.inl ⟨by rfl, ?hy6⟩) (by assumption) ?rest6
  case hy6 => (intro w hSw; (try dsimp only at hSw); go_simp <;> with_reducible rfl)
  try simp only [Act.put, List.setIfInBounds_toArray, List.set_cons_zero, List.set_cons_succ]
  refine wpAnyH_take (i := 7) (oi := { dst := some 13, op := Go.Op.binOp Go.BinOp.mul 3 (Go.Operand.const (Go.Value.int Go.IntKind.i64 8)) (Go.Operand.tmp 12) 3, type := 3, pos := "le.go:16", after := #[{ on := 6, ground := Go.Ground.data }], guard := none }) (v := ?v7) rfl (by kernel_rfl) (by kernel_rfl) (by kernel_rfl) (fun _ _ _ h => h) (Or.inl ⟨by rfl, ?hy7⟩) (by assumption) ?rest7
  case hy7 => (intro w hSw; (try dsimp only at hSw); go_simp <;> with_reducible rfl)
  try simp only [Act.put, List.setIfInBounds_toArray, List.set_cons_zero, List.set_cons_succ]
  refine wpAnyH_take (i := 8) (oi := { dst := some 14, op := Go.Op.binOp Go.BinOp.shl 56 (Go.Operand.tmp 11) (Go.Operand.tmp 13) 3, type := 56, pos := "le.go:16", after := #[{ on := 5, ground := Go.Ground.data }, { on := 7, ground := Go.Ground.data }], guard := none }) (v := ?v8) rfl (by kernel_rfl) (by kernel_rfl) (by kernel_rfl) (fun _ _ _ h => h) (Or.inl ⟨by rfl, ?hy8⟩) (by assumption) ?rest8
  case hy8 => (intro w hSw; (try dsimp only at hSw); go_simp <;> with_reducible rfl)
  try simp only [Act.put, List.setIfInBounds_toArray, List.set_cons_zero, List.set_cons_succ]
  refine wpAnyH_ready (rs := [0]) (by kernel_rfl) (by simp) ?_
  refine AllReadyH.cons (o := { dst := some 6, op := Go.Op.load 56 (Go.Operand.tmp 2), type := 56, pos := "le.go:16", after := #[], guard := none }) rfl (fun K hK => ?_) AllReadyH.nil
  go_simp
  refine hK.out _ _ ?_ (fun hHeld2 => ?_)
  · (try dsimp only); (first | exact ⟨s1, s2⟩ | exact ⟨s3, s4⟩)
  clear hK K hHeld
  have hHeld := hHeld2
  clear hHeld2
  try simp only [Act.put, List.setIfInBounds_toArray, List.set_cons_zero, List.set_cons_succ]
  refine wpAnyH_take (i := 9) (oi := { dst := some 15, op := Go.Op.binOp Go.BinOp.or 56 (Go.Operand.tmp 6) (Go.Operand.tmp 14) 56, type := 56, pos := "le.go:16", after := #[{ on := 0, ground := Go.Ground.data }, { on := 8, ground := Go.Ground.data }], guard := none }) (v := ?v9) rfl (by kernel_rfl) (by kernel_rfl) (by kernel_rfl) (fun _ _ _ h => h) (Or.inl ⟨by rfl, ?hy9⟩) (by assumption) ?rest9
  case hy9 => (intro w hSw; (try dsimp only at hSw); go_simp <;> with_reducible rfl)
  try simp only [Act.put, List.setIfInBounds_toArray, List.set_cons_zero, List.set_cons_succ]
  refine wpAnyH_ready (rs := [10]) (by kernel_rfl) (by simp) ?_
  refine AllReadyH.cons (o := { dst := none, op := Go.Op.store 56 (Go.Operand.tmp 2) (Go.Operand.tmp 15), type := 0, pos := "le.go:16", after := #[{ on := 9, ground := Go.Ground.data }, { on := 0, ground := Go.Ground.phase }, { on := 1, ground := Go.Ground.phase }, { on := 2, ground := Go.Ground.phase }, { on := 3, ground := Go.Ground.phase }, { on := 4, ground := Go.Ground.phase }, { on := 5, ground := Go.Ground.phase }, { on := 6, ground := Go.Ground.phase }, { on := 7, ground := Go.Ground.phase }, { on := 8, ground := Go.Ground.phase }, { on := 9, ground := Go.Ground.phase }], guard := none }) rfl (fun K hK => ?_) AllReadyH.nil
  go_simp
  refine hK.out _ _ ?_ (fun hHeld2 => ?_)
  · (try dsimp only); (first | exact ⟨s1, s2⟩ | exact ⟨s3, s4⟩)
  clear hK K hHeld
  have hHeld := hHeld2
  clear hHeld2
  try simp only [Act.put, List.setIfInBounds_toArray, List.set_cons_zero, List.set_cons_succ]
  refine wpAnyH_done (by kernel_rfl) ?_ _
  refine NoPanic.normal ?_
  go_wp2
  (try go_end0)
  exact ⟨rfl, by rw [Int.natCast_add]⟩

set_option maxHeartbeats 1000000 in
theorem put_step (w : World) (nb ob b o n cap j k : Nat) (v : Nat) (i : Int) (hi : i = (j : Int)) (hj : j < n) (hk : k < 8)
    (s1 : w.cell? ⟨ob, 0, none⟩ = some (.slice (some ⟨b, o, none⟩) n cap)) (s2 : w.cell? ⟨nb, 0, none⟩ = some (.int .u64 (v : Int))) (hne1 : b ≠ ob) (hne2 : b ≠ nb) (x : Value) (hb : w.cell? ⟨b, o + j, none⟩ = some x) (hf : w.frozen? ⟨b, o + j, none⟩ = false) :
    Calls Tryd.prog 39 #[.int .i64 i, .int .i64 (k : Int), .pointer (some ⟨nb, 0, none⟩), .pointer (some ⟨ob, 0, none⟩)] w fun e w' => e = .returned (.tuple #[]) ∧ w' = (w.setCell ⟨b, o + j, none⟩ (.int .u8 (((UInt8.ofNat (v / 2 ^ (8 * k))).toNat : Nat) : Int))).drew := by
  have s3 : (w.setCell ⟨b, o + j, none⟩ (.int .u8 (((UInt8.ofNat (v / 2 ^ (8 * k))).toNat : Nat) : Int))).drew.cell? ⟨ob, 0, none⟩ = some (.slice (some ⟨b, o, none⟩) n cap) := cell_other s1 hne1
  have s4 : (w.setCell ⟨b, o + j, none⟩ (.int .u8 (((UInt8.ofNat (v / 2 ^ (8 * k))).toNat : Nat) : Int))).drew.cell? ⟨nb, 0, none⟩ = some (.int .u64 (v : Int)) := cell_other s2 hne2
  have hsh := shr8 .i64 v k hk
  obtain ⟨q, hq⟩ : ∃ q : Int, q = 8 * (k : Int) := ⟨_, rfl⟩
  obtain ⟨z, hz⟩ : ∃ z : Nat, z = v / 2 ^ (8 * k) := ⟨_, rfl⟩
  have w2 : IntKind.i64.wrap (8 * (k : Int)) = q := by rw [IntKind.wrap_i64]; omega
  rw [← hz] at s3 s4 hsh ⊢
  rw [← hq] at hsh
  have w3 : IntKind.u8.wrap (z : Int) = (((UInt8.ofNat z).toNat : Nat) : Int) := by rw [IntKind.wrap_u8, UInt8.toNat_ofNat']; omega
  obtain ⟨y, hy⟩ : ∃ y : Int, y = (((UInt8.ofNat z).toNat : Nat) : Int) := ⟨_, rfl⟩
  rw [← hy] at w3 s3 s4 ⊢
  clear hz hq hk hy
  have i1 : ((0 : Int) ≤ i) = True := by simp; omega
  have i2 : (i < (n : Int)) = True := by simp; omega
  have i3 : i.toNat = j := by omega
  go_enter Tryd.func39, Tryd.ntmps39
  go_upto_region 0 with fail
  refine wp_region_noPanic ?_
  refine wp_region_held_drew (S := (fun w' => w'.cell? ⟨ob, 0, none⟩ = some (.slice (some ⟨b, o, none⟩) n cap) ∧ w'.cell? ⟨nb, 0, none⟩ = some (.int .u64 (v : Int)))) (by kernel_rfl) ?_ (fun hHeld => ?_)
  · (try dsimp only); (first | exact ⟨s1, s2⟩ | exact ⟨s3, s4⟩)
  refine wpAnyH_take (i := 0) (oi := { dst := some 6, op := Go.Op.load 22 (Go.Operand.tmp 3), type := 22, pos := "le.go:23", after := #[], guard := none }) (v := ?v10) rfl (by kernel_rfl) (by kernel_rfl) (by kernel_rfl) (fun _ _ _ h => h) (Or.inl ⟨by rfl, ?hy10⟩) (by assumption) ?rest10
  case hy10 => (intro w hSw; (try dsimp only at hSw); go_simp <;> with_reducible rfl)
  try simp only [Act.put, List.setIfInBounds_toArray, List.set_cons_zero, List.set_cons_succ]
  refine wpAnyH_take (i := 1) (oi := { dst := some 7, op := Go.Op.move (Go.Operand.tmp 0), type := 3, pos := "le.go:23", after := #[], guard := none }) (v := ?v11) rfl (by kernel_rfl) (by kernel_rfl) (by kernel_rfl) (fun _ _ _ h => h) (Or.inl ⟨by rfl, ?hy11⟩) (by assumption) ?rest11
  case hy11 => (intro w hSw; (try dsimp only at hSw); go_simp <;> with_reducible rfl)
  try simp only [Act.put, List.setIfInBounds_toArray, List.set_cons_zero, List.set_cons_succ]
  refine wpAnyH_take (i := 2) (oi := { dst := some 8, op := Go.Op.load 56 (Go.Operand.tmp 2), type := 56, pos := "le.go:23", after := #[], guard := none }) (v := ?v12) rfl (by kernel_rfl) (by kernel_rfl) (by kernel_rfl) (fun _ _ _ h => h) (Or.inl ⟨by rfl, ?hy12⟩) (by assumption) ?rest12
  case hy12 => (intro w hSw; (try dsimp only at hSw); go_simp <;> with_reducible rfl)
  try simp only [Act.put, List.setIfInBounds_toArray, List.set_cons_zero, List.set_cons_succ]
  refine wpAnyH_take (i := 3) (oi := { dst := some 9, op := Go.Op.move (Go.Operand.tmp 1), type := 3, pos := "le.go:23", after := #[], guard := none }) (v := ?v13) rfl (by kernel_rfl) (by kernel_rfl) (by kernel_rfl) (fun _ _ _ h => h) (Or.inl ⟨by rfl, ?hy13⟩) (by assumption) ?rest13
  case hy13 => (intro w hSw; (try dsimp only at hSw); go_simp <;> with_reducible rfl)
  try simp only [Act.put, List.setIfInBounds_toArray, List.set_cons_zero, List.set_cons_succ]
  refine wpAnyH_take (i := 4) (oi := { dst := some 10, op := Go.Op.binOp Go.BinOp.mul 3 (Go.Operand.const (Go.Value.int Go.IntKind.i64 8)) (Go.Operand.tmp 9) 3, type := 3, pos := "le.go:23", after := #[{ on := 3, ground := Go.Ground.data }], guard := none }) (v := ?v14) rfl (by kernel_rfl) (by kernel_rfl) (by kernel_rfl) (fun _ _ _ h => h) (Or.inl ⟨by rfl, ?hy14⟩) (by assumption) ?rest14
  case hy14 => (intro w hSw; (try dsimp only at hSw); go_simp <;> with_reducible rfl)
  try simp only [Act.put, List.setIfInBounds_toArray, List.set_cons_zero, List.set_cons_succ]
  refine wpAnyH_take (i := 5) (oi := { dst := some 11, op := Go.Op.binOp Go.BinOp.shr 56 (Go.Operand.tmp 8) (Go.Operand.tmp 10) 3, type := 56, pos := "le.go:23", after := #[{ on := 2, ground := Go.Ground.data }, { on := 4, ground := Go.Ground.data }], guard := none }) (v := ?v15) rfl (by kernel_rfl) (by kernel_rfl) (by kernel_rfl) (fun _ _ _ h => h) (Or.inl ⟨by rfl, ?hy15⟩) (by assumption) ?rest15
  case hy15 => (intro w hSw; (try dsimp only at hSw); go_simp <;> with_reducible rfl)
  try simp only [Act.put, List.setIfInBounds_toArray, List.set_cons_zero, List.set_cons_succ]
  refine wpAnyH_take (i := 6) (oi := { dst := some 12, op := Go.Op.convert 56 5 (Go.Operand.tmp 11), type := 5, pos := "le.go:23", after := #[{ on := 5, ground := Go.Ground.data }], guard := none }) (v := ?v16) rfl (by kernel_rfl) (by kernel_rfl) (by kernel_rfl) (fun _ _ _ h => h) (Or.inl ⟨by rfl, ?hy16⟩) (by assumption) ?rest16
  case hy16 => (intro w hSw; (try dsimp only at hSw); go_simp <;> with_reducible rfl)
  try simp only [Act.put, List.setIfInBounds_toArray, List.set_cons_zero, List.set_cons_succ]
  refine wpAnyH_take (i := 7) (oi := { dst := some 13, op := Go.Op.indexAddr 22 (Go.Operand.tmp 6) (Go.Operand.tmp 7), type := 0, pos := "le.go:23", after := #[{ on := 0, ground := Go.Ground.data }, { on := 1, ground := Go.Ground.data }, { on := 0, ground := Go.Ground.phase }, { on := 1, ground := Go.Ground.phase }, { on := 2, ground := Go.Ground.phase }, { on := 3, ground := Go.Ground.phase }, { on := 4, ground := Go.Ground.phase }, { on := 5, ground := Go.Ground.phase }, { on := 6, ground := Go.Ground.phase }], guard := none }) (v := ?v17) rfl (by kernel_rfl) (by kernel_rfl) (by kernel_rfl) (fun _ _ _ h => h) (Or.inl ⟨by rfl, ?hy17⟩) (by assumption) ?rest17
  case hy17 => (intro w hSw; (try dsimp only at hSw); go_simp <;> with_reducible rfl)
  try simp only [Act.put, List.setIfInBounds_toArray, List.set_cons_zero, List.set_cons_succ]
  refine wpAnyH_ready (rs := [8]) (by kernel_rfl) (by simp) ?_
  refine AllReadyH.cons (o := { dst := none, op := Go.Op.store 5 (Go.Operand.tmp 13) (Go.Operand.tmp 12), type := 0, pos := "le.go:23", after := #[{ on := 7, ground := Go.Ground.data }, { on := 6, ground := Go.Ground.data }, { on := 0, ground := Go.Ground.phase }, { on := 1, ground := Go.Ground.phase }, { on := 2, ground := Go.Ground.phase }, { on := 3, ground := Go.Ground.phase }, { on := 4, ground := Go.Ground.phase }, { on := 5, ground := Go.Ground.phase }, { on := 6, ground := Go.Ground.phase }], guard := none }) rfl (fun K hK => ?_) AllReadyH.nil
  go_simp
  refine hK.out _ _ ?_ (fun hHeld2 => ?_)
  · (try dsimp only); (first | exact ⟨s1, s2⟩ | exact ⟨s3, s4⟩)
  clear hK K hHeld
  have hHeld := hHeld2
  clear hHeld2
  try simp only [Act.put, List.setIfInBounds_toArray, List.set_cons_zero, List.set_cons_succ]
  refine wpAnyH_done (by kernel_rfl) ?_ _
  refine NoPanic.normal ?_
  go_wp2
  (try go_end0)
  exact ⟨rfl, rfl⟩
end Go.Proofs.YtjkpapkjlmglbaaDoor
