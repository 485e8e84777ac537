/- 'Clear', 'Cells'. -/
import Derived.Test.YtjeelccdbhhfjaaT9
namespace Go.Proofs.Ytjeelccdbhhfjaa
open Go.RowKit
set_option linter.unusedVariables false
set_option linter.unusedSimpArgs false
attribute [local go_sem] cell_set set_set m_undef

def clearM (M : List UInt8) : List UInt8 := setM (setM M 32 512) 40 768
def clr (M : List UInt8) : Nat → List UInt8
  | 0 => M
  | 1 => setM M 32 512
  | _ => setM (setM M 32 512) 40 768
theorem Blk.c12 {w : World} {b : Nat} {c0 c1 c2 c3 c4 c5 c6 c7 c8 c9 c10 c11 : Value} {t : TypeId} (h : Blk w b #[c0, c1, c2, c3, c4, c5, c6, c7, c8, c9, c10, c11] t) :
    (w.cell? ⟨b, 0, none⟩ = some c0 ∧ w.cell? ⟨b, 1, none⟩ = some c1 ∧ w.cell? ⟨b, 2, none⟩ = some c2 ∧ w.cell? ⟨b, 3, none⟩ = some c3 ∧ w.cell? ⟨b, 4, none⟩ = some c4 ∧ w.cell? ⟨b, 5, none⟩ = some c5) ∧
    w.cell? ⟨b, 6, none⟩ = some c6 ∧ w.cell? ⟨b, 7, none⟩ = some c7 ∧ w.cell? ⟨b, 8, none⟩ = some c8 ∧ w.cell? ⟨b, 9, none⟩ = some c9 ∧ w.cell? ⟨b, 10, none⟩ = some c10 ∧ w.cell? ⟨b, 11, none⟩ = some c11 :=
  ⟨⟨h.cell 0, h.cell 1, h.cell 2, h.cell 3, h.cell 4, h.cell 5⟩, h.cell 6, h.cell 7, h.cell 8, h.cell 9, h.cell 10, h.cell 11⟩
set_option maxRecDepth 100000 in
set_option maxHeartbeats 1600000 in
theorem kClear {w : World} {B mb : Nat} {M : List UInt8} {O : Nat → Prop} (h : MemP w B mb M O) (hB : B ≤ w.heap.size) :
    Calls Try.prog 19 #[.pointer (some ⟨mb, 0, none⟩)] w fun e w' => MemQ w w' B mb (clearM M) O (.tuple #[]) e := by
  have hS := One.start h hB
  have hMd := Lib.hid (fun (w9 : World) => mdata w9 (some ⟨mb, 0, none⟩))
  have hMb := Lib.hid (fun (w9 : World) => mback w9 (some ⟨mb, 0, none⟩))
  clear h hB
  go_enter Try.func19, Try.ntmps19
  go_wp2_with (first
    | (go_at_call 31; refine (hS.still (hMd.out _)).mono ?_; rintro e w1 ⟨rfl, hS2⟩; clear hS; have hS := hS2; clear hS2)
    | (go_at_call 33; refine (hS.still (hMb.out _)).mono ?_; rintro e w2 ⟨rfl, hS2⟩; clear hS; have hS := hS2; clear hS2))
  have hS2 := (hS.new #[.pointer (some ⟨mb, 0, none⟩), .int .i64 32, .int .i64 256, .int .i64 512, .int .i64 (-3), .int .i64 (-4), .pointer (some ⟨mb, 0, none⟩), .int .i64 40, .int .i64 512, .int .i64 768, .int .i64 (-5), .int .i64 (-6)] 60).last
  obtain ⟨b0, hb0⟩ : ∃ b0, b0 = w2.heap.size := ⟨_, rfl⟩
  obtain ⟨w3, hw3⟩ : ∃ w3, w3 = w2.alloc (.cells #[.pointer (some ⟨mb, 0, none⟩), .int .i64 32, .int .i64 256, .int .i64 512, .int .i64 (-3), .int .i64 (-4), .pointer (some ⟨mb, 0, none⟩), .int .i64 40, .int .i64 512, .int .i64 768, .int .i64 (-5), .int .i64 (-6)] 60) := ⟨_, rfl⟩
  rw [← hw3, ← hb0] at hS2 ⊢
  clear hS hw3 hb0
  have hS := hS2
  clear hS2
  go_loopw [10] (fun i wr => ∃ (k : Nat), i = .int .i64 (k : Int) ∧ k ≤ 2 ∧ One w wr B mb (clr M k) O (.blk b0 #[.pointer (some ⟨mb, 0, none⟩), .int .i64 32, .int .i64 256, .int .i64 512, .int .i64 (-3), .int .i64 (-4), .pointer (some ⟨mb, 0, none⟩), .int .i64 40, .int .i64 512, .int .i64 768, .int .i64 (-5), .int .i64 (-6)] 60)) (fun i _ => (2 - (intOf i).toNat))
  case atStart => exact ⟨0, rfl, by omega, hS⟩
  case round =>
    obtain ⟨k, rfl, hk, hS⟩ := hrel
    obtain ⟨⟨z0, z1, z2, z3, z4, z5⟩, x0, x1, x2, x3, x4, x5⟩ := hS.fact.c12
    rcases (show k = 0 ∨ k = 1 ∨ k = 2 by omega) with rfl | rfl | rfl
    · clear x0 x1 x2 x3 x4 x5
      go_upto_region 3 with fail
      have hS2 := hS.new #[.pointer (some ⟨mb, 0, none⟩), .int .i64 32, .int .i64 256, .int .i64 512, .int .i64 (-3), .int .i64 (-4)] 60
      obtain ⟨b1, hb1⟩ : ∃ b1, b1 = wr.heap.size := ⟨_, rfl⟩
      obtain ⟨w3, hw3⟩ : ∃ w3, w3 = wr.alloc (.cells #[.pointer (some ⟨mb, 0, none⟩), .int .i64 32, .int .i64 256, .int .i64 512, .int .i64 (-3), .int .i64 (-4)] 60) := ⟨_, rfl⟩
      rw [← hw3, ← hb1] at hS2 ⊢
      clear hS hw3 hb1 z0 z1 z2 z3 z4 z5
      have hS := hS2
      clear hS2
      obtain ⟨y1, y2, y3, y4, y5, y6⟩ := hS.fact.2.c6
      go_wp2_with (go_at_call 40; refine (hS.mem (fun O h hb => mSetT h hb 32 256 512 (-3) (-4) 512 (by unfold isI; omega))).mono ?_; rintro e w4 ⟨rfl, hS2⟩; clear hS; have hS := hS2; clear hS2)
      go_roundw
      case rel => exact ⟨1, rfl, by omega, hS.keep (fun O h => h.left)⟩
      case measure => simp [intOf]
    · clear z0 z1 z2 z3 z4 z5
      have z0 := x0
      have z1 := x1
      have z2 := x2
      have z3 := x3
      have z4 := x4
      have z5 := x5
      clear x0 x1 x2 x3 x4 x5
      go_upto_region 3 with fail
      have hS2 := hS.new #[.pointer (some ⟨mb, 0, none⟩), .int .i64 40, .int .i64 512, .int .i64 768, .int .i64 (-5), .int .i64 (-6)] 60
      obtain ⟨b1, hb1⟩ : ∃ b1, b1 = wr.heap.size := ⟨_, rfl⟩
      obtain ⟨w3, hw3⟩ : ∃ w3, w3 = wr.alloc (.cells #[.pointer (some ⟨mb, 0, none⟩), .int .i64 40, .int .i64 512, .int .i64 768, .int .i64 (-5), .int .i64 (-6)] 60) := ⟨_, rfl⟩
      rw [← hw3, ← hb1] at hS2 ⊢
      clear hS hw3 hb1 z0 z1 z2 z3 z4 z5
      have hS := hS2
      clear hS2
      obtain ⟨y1, y2, y3, y4, y5, y6⟩ := hS.fact.2.c6
      go_wp2_with (go_at_call 40; refine (hS.mem (fun O h hb => mSetT h hb 40 512 768 (-5) (-6) 768 (by unfold isI; omega))).mono ?_; rintro e w4 ⟨rfl, hS2⟩; clear hS; have hS := hS2; clear hS2)
      go_roundw
      case rel => exact ⟨2, rfl, by omega, hS.keep (fun O h => h.left)⟩
      case measure => simp [intOf]
    · clear z0 z1 z2 z3 z4 z5 x0 x1 x2 x3 x4 x5
      go_wp2
      (try go_end0)
      exact hS.memQ _
set_option maxHeartbeats 1000000 in
theorem rClear {w : World} {B rb : Nat} {M : List UInt8} {R : Nat → Prop} (h : RefP w B rb M R) :
    Calls Try.prog 55 #[.pointer (some ⟨rb, 0, none⟩)] w fun e w' => RefQ w w' B rb (clearM M) R (.tuple #[]) e := by
  have hS := Onr.start h h.base_le
  clear h
  go_enter Try.func55, Try.ntmps55
  go_upto_region 1 with (go_at_call 56; refine (hS.ref (fun O h hb => rSet h 32 512 (by unfold isI; omega))).mono ?_; rintro e w2 ⟨rfl, hS2⟩; clear hS; have hS := hS2; clear hS2)
  go_wp2_with (go_at_call 56; refine (hS.ref (fun O h hb => rSet h 40 768 (by unfold isI; omega))).mono ?_; rintro e w2 ⟨rfl, hS2⟩; clear hS; have hS := hS2; clear hS2)
  (try go_end0)
  exact hS.refQ _
/-- The cells as they are collected. -/
def cellsN (M : List UInt8) (N k : Nat) : List Int := (List.range k).map fun j => peekV M 32 256 512 ((N - 1 - j : Nat) : Int)
theorem cellsN_succ (M : List UInt8) (N k : Nat) : cellsN M N (k + 1) = cellsN M N k ++ [peekV M 32 256 512 ((N - 1 - k : Nat) : Int)] := by simp [cellsN, List.range_succ]
theorem cellsN_len (M : List UInt8) (N k : Nat) : (cellsN M N k).length = k := by simp [cellsN]
def depN (M : List UInt8) : Nat := (depL M 32 256 512).toNat
def cellsL (M : List UInt8) : List Int := cellsN M (depN M) (depN M)
set_option maxRecDepth 100000 in
set_option maxHeartbeats 1600000 in
theorem kCells {w : World} {B mb : Nat} {M : List UInt8} {O : Nat → Prop} (h : MemP w B mb M O) (hB : B ≤ w.heap.size) :
    Calls Try.prog 24 #[.pointer (some ⟨mb, 0, none⟩)] w fun e w' => MemX w w' B mb O (fun v : Value => v) (fun _ => M) (fun v => .vsN w.heap.size 1 v (depN M) (ic (cellsL M))) e := by
  have hS := One.start h hB
  have hd := (depL_bd (M := M) (show Sk 32 256 512 from by unfold Sk; omega))
  have hD := Lib.hid (fun (w9 : World) (O : Nat → Prop) (h : MemP w9 B mb M O) (hb : B ≤ w9.heap.size) => kDepth h hb)
  unfold cellsL
  obtain ⟨N, hN⟩ : ∃ N, N = depN M := ⟨_, rfl⟩
  have hNn : depL M 32 256 512 = (N : Int) := by rw [hN]; unfold depN; omega
  rw [hNn] at hD
  rw [← hN]
  have hN32 : N ≤ 32 := by omega
  have w1 : IntKind.i64.wrap ((N : Int) - 1) = (N : Int) - 1 := by rw [IntKind.wrap_i64]; omega
  clear hd h hN hNn
  go_enter Try.func24, Try.ntmps24
  go_wp2_with (go_at_call 22; refine (hS.mem (fun O h hb => hD.out _ _ h hb)).mono ?_; rintro e w2 ⟨rfl, hS2⟩; clear hS; have hS := hS2; clear hS2)
  clear hD
  go_loopw [3, 4] (fun l i wr => ∃ (k : Nat), i = .int .i64 ((N : Int) - 1 - (k : Int)) ∧ k ≤ N ∧ One w wr B mb M O (Kp.emp.and (.vs 1 l k (ic (cellsN M N k)))) ∧ (∀ b, l.ownBlock = some b → w.heap.size ≤ b ∧ ¬ Kp.emp.S b)) (fun _ i _ => (intOf i + 1).toNat)
  case atStart => exact ⟨0, by simp, by omega, hS.keep (fun O h => h.and (Keep.vs (Vs.nil _ 0 1) (fun b hb => by cases hb))), fun b hb => by cases hb⟩
  case round =>
    obtain ⟨k, rfl, hk, hS, hown⟩ := hrel
    obtain ⟨ad, cap, rfl, hcap⟩ := hS.fact.2.form
    clear hcap
    by_cases hlt : k < N
    · obtain ⟨q, hq⟩ : ∃ q : Nat, q + k + 1 = N := ⟨N - 1 - k, by omega⟩
      have eq : (N : Int) - 1 - (k : Int) = (q : Int) := by omega
      rw [eq]
      have t2 : ((0 : Int) ≤ (q : Int)) = True := by simp
      have wq : IntKind.i64.wrap ((q : Int) - 1) = (q : Int) - 1 := by rw [IntKind.wrap_i64]; omega
      have hj2 := Lib.hid (show Value.int .i64 ((q : Int) - 1) = .int .i64 ((N : Int) - 1 - ((k + 1 : Nat) : Int)) by congr 1; omega)
      obtain ⟨x, hx⟩ : ∃ x, x = peekV M 32 256 512 (q : Int) := ⟨_, rfl⟩
      obtain ⟨y, hy⟩ : ∃ y, y = peekT M 32 256 512 (-4) (q : Int) := ⟨_, rfl⟩
      have hP := Lib.hid (fun (w9 : World) (O : Nat → Prop) (h : MemP w9 B mb M O) (hb : B ≤ w9.heap.size) => kAt h hb (q : Int) (by unfold isI; omega))
      rw [← hx, ← hy] at hP
      have hxe := Lib.hid (show ic (cellsN M N k) ++ [Value.int .i64 x] = ic (cellsN M N (k + 1)) by rw [cellsN_succ, show N - 1 - k = q by omega, hx]; simp [ic])
      clear hx hy eq hq
      replace hlt := Lib.hid hlt
      have hk32 : k ≤ 1000 := by have := hlt.out; omega
      clear hk
      go_upto_region 6 with (go_at_call 20; refine (hS.mem (fun O h hb => hP.out _ _ h hb)).mono ?_; rintro e w2 ⟨rfl, hS2⟩; clear hS; have hS := hS2; clear hS2)
      have hSa := hS.alloc (.cells #[.int .i64 x] 2)
      obtain ⟨v', w3, hr, hS4, hown4, hsz⟩ := One.appendVs (P := Try.prog) (ty := 22) hSa hown ((Vs.lit1 _ (.int .i64 x) _ rfl).src (t := 22) Try.underlying22) Try.underlying22 infoI rfl (by omega) (by omega) (by omega)
      obtain ⟨a', c', rfl, hcap'⟩ := hS4.fact.2.form
      rw [hxe.out] at hS4
      have hT4 := Lib.hid hS4
      have hT5 := Lib.hid hown4
      clear hS hSa hS4 hown hown4 hcap' hsz hP
      go_wp2_with (at_builtin; refine wpList_append_bs rfl _ _ 22 rfl hr rfl rfl ?_)
      go_roundw
      case rel => exact ⟨k + 1, hj2.out, hlt.out, hT4.out, hT5.out⟩
      case measure => simp [intOf]
    · have hkN : k = N := by omega
      subst hkN
      have t2 : ((0 : Int) ≤ (k : Int) - 1 - (k : Int)) = False := by simp; omega
      clear hlt hk
      go_wp2
      go_ret
      obtain ⟨O', q1, q2, q3, q4⟩ := hS
      exact ⟨_, O', rfl, q1, q2, q3.right.vsN (fun b hb => (hown b hb).1)⟩
set_option maxRecDepth 100000 in
set_option maxHeartbeats 1600000 in
theorem rCells {w : World} {B rb : Nat} {M : List UInt8} {R : Nat → Prop} (h : RefP w B rb M R) :
    Calls Try.prog 29 #[.pointer (some ⟨rb, 0, none⟩)] w fun e w' => RefX w w' B rb R (fun v : Value => v) (fun _ => M) (fun v => .vsN w.heap.size 1 v (depN M) (ic (cellsL M))) e := by
  have hS := Onr.start h h.base_le
  have hd := (depL_bd (M := M) (show Sk 32 256 512 from by unfold Sk; omega))
  have hD := Lib.hid (fun (w9 : World) (O : Nat → Prop) (h : RefP w9 B rb M O) => rDepth h)
  unfold cellsL
  obtain ⟨N, hN⟩ : ∃ N, N = depN M := ⟨_, rfl⟩
  have hNn : depL M 32 256 512 = (N : Int) := by rw [hN]; unfold depN; omega
  rw [hNn] at hD
  rw [← hN]
  have hN32 : N ≤ 32 := by omega
  have w1 : IntKind.i64.wrap ((N : Int) - 1) = (N : Int) - 1 := by rw [IntKind.wrap_i64]; omega
  clear hd h hN hNn
  go_enter Try.func29, Try.ntmps29
  go_wp2_with (go_at_call 26; refine (hS.read (fun O h => hD.out _ _ h)).mono ?_; rintro e w2 ⟨rfl, hS2⟩; clear hS; have hS := hS2; clear hS2)
  clear hD
  go_loopw [3, 4] (fun l i wr => ∃ (k : Nat), i = .int .i64 ((N : Int) - 1 - (k : Int)) ∧ k ≤ N ∧ Onr w wr B rb M R (Kp.emp.and (.vs 1 l k (ic (cellsN M N k)))) ∧ (∀ b, l.ownBlock = some b → w.heap.size ≤ b ∧ ¬ Kp.emp.S b)) (fun _ i _ => (intOf i + 1).toNat)
  case atStart => exact ⟨0, by simp, by omega, hS.keep (fun O h => h.and (Keep.vs (Vs.nil _ 0 1) (fun b hb => by cases hb))), fun b hb => by cases hb⟩
  case round =>
    obtain ⟨k, rfl, hk, hS, hown⟩ := hrel
    obtain ⟨ad, cap, rfl, hcap⟩ := hS.fact.2.form
    clear hcap
    by_cases hlt : k < N
    · obtain ⟨q, hq⟩ : ∃ q : Nat, q + k + 1 = N := ⟨N - 1 - k, by omega⟩
      have eq : (N : Int) - 1 - (k : Int) = (q : Int) := by omega
      rw [eq]
      have t2 : ((0 : Int) ≤ (q : Int)) = True := by simp
      have wq : IntKind.i64.wrap ((q : Int) - 1) = (q : Int) - 1 := by rw [IntKind.wrap_i64]; omega
      have hj2 := Lib.hid (show Value.int .i64 ((q : Int) - 1) = .int .i64 ((N : Int) - 1 - ((k + 1 : Nat) : Int)) by congr 1; omega)
      obtain ⟨x, hx⟩ : ∃ x, x = peekV M 32 256 512 (q : Int) := ⟨_, rfl⟩
      obtain ⟨y, hy⟩ : ∃ y, y = peekT M 32 256 512 (-4) (q : Int) := ⟨_, rfl⟩
      have hP := Lib.hid (fun (w9 : World) (O : Nat → Prop) (h : RefP w9 B rb M O) => rAt h (q : Int) (by unfold isI; omega))
      rw [← hx, ← hy] at hP
      have hxe := Lib.hid (show ic (cellsN M N k) ++ [Value.int .i64 x] = ic (cellsN M N (k + 1)) by rw [cellsN_succ, show N - 1 - k = q by omega, hx]; simp [ic])
      clear hx hy eq hq
      replace hlt := Lib.hid hlt
      have hk32 : k ≤ 1000 := by have := hlt.out; omega
      clear hk
      go_upto_region 6 with (go_at_call 49; refine (hS.read (fun O h => hP.out _ _ h)).mono ?_; rintro e w2 ⟨rfl, hS2⟩; clear hS; have hS := hS2; clear hS2)
      have hSa := hS.alloc (.cells #[.int .i64 x] 2)
      obtain ⟨v', w3, hr, hS4, hown4, hsz⟩ := Onr.appendVs (P := Try.prog) (ty := 22) hSa hown ((Vs.lit1 _ (.int .i64 x) _ rfl).src (t := 22) Try.underlying22) Try.underlying22 infoI rfl (by omega) (by omega) (by omega)
      obtain ⟨a', c', rfl, hcap'⟩ := hS4.fact.2.form
      rw [hxe.out] at hS4
      have hT4 := Lib.hid hS4
      have hT5 := Lib.hid hown4
      clear hS hSa hS4 hown hown4 hcap' hsz hP
      go_wp2_with (at_builtin; refine wpList_append_bs rfl _ _ 22 rfl hr rfl rfl ?_)
      go_roundw
      case rel => exact ⟨k + 1, hj2.out, hlt.out, hT4.out, hT5.out⟩
      case measure => simp [intOf]
    · have hkN : k = N := by omega
      subst hkN
      have t2 : ((0 : Int) ≤ (k : Int) - 1 - (k : Int)) = False := by simp; omega
      clear hlt hk
      go_wp2
      go_ret
      obtain ⟨O', q1, q2, q3, q4⟩ := hS
      exact ⟨_, O', rfl, q1, q2, q3.right.vsN (fun b hb => (hown b hb).1)⟩
end Go.Proofs.Ytjeelccdbhhfjaa
