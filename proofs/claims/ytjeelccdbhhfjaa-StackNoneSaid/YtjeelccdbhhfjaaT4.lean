/- The two stacks. -/
import Derived.Test.YtjeelccdbhhfjaaT3
namespace Go.Proofs.Ytjeelccdbhhfjaa
open Go.RowKit
set_option linter.unusedVariables false
set_option linter.unusedSimpArgs false
attribute [local go_sem] cell_set set_set m_undef

theorem mdata (w : World) (p : Option Addr) : Calls Try.prog 31 #[.pointer p] w fun e w' => e = .returned (.agg #[.pointer p, .int .i64 32, .int .i64 256, .int .i64 512, .int .i64 (-3), .int .i64 (-4)]) ∧ Below w.heap.size w w' := by
  go_enter Try.func31, Try.ntmps31
  go_wp2
  refine ret_blk (v := .agg #[.pointer p, .int .i64 32, .int .i64 256, .int .i64 512, .int .i64 (-3), .int .i64 (-4)]) w.heap.size #[.pointer p, .int .i64 32, .int .i64 256, .int .i64 512, .int .i64 (-3), .int .i64 (-4)] 60 (Blk.new _ _ _) (fun w' h => by obtain ⟨e1, e2, e3, e4, e5, e6⟩ := h.c6; simp [results, Try.results31, go_sem, e1, e2, e3, e4, e5, e6]) rfl ⟨rfl, bel_alloc (Below.refl _ _) _⟩
theorem mback (w : World) (p : Option Addr) : Calls Try.prog 33 #[.pointer p] w fun e w' => e = .returned (.agg #[.pointer p, .int .i64 40, .int .i64 512, .int .i64 768, .int .i64 (-5), .int .i64 (-6)]) ∧ Below w.heap.size w w' := by
  go_enter Try.func33, Try.ntmps33
  go_wp2
  refine ret_blk (v := .agg #[.pointer p, .int .i64 40, .int .i64 512, .int .i64 768, .int .i64 (-5), .int .i64 (-6)]) w.heap.size #[.pointer p, .int .i64 40, .int .i64 512, .int .i64 768, .int .i64 (-5), .int .i64 (-6)] 60 (Blk.new _ _ _) (fun w' h => by obtain ⟨e1, e2, e3, e4, e5, e6⟩ := h.c6; simp [results, Try.results33, go_sem, e1, e2, e3, e4, e5, e6]) rfl ⟨rfl, bel_alloc (Below.refl _ _) _⟩
set_option maxHeartbeats 1000000 in
theorem kDepth {w : World} {B mb : Nat} {M : List UInt8} {O : Nat → Prop} (h : MemP w B mb M O) (hB : B ≤ w.heap.size) :
    Calls Try.prog 22 #[.pointer (some ⟨mb, 0, none⟩)] w fun e w' => MemQ w w' B mb (M) O (.int .i64 (depL M 32 256 512)) e := by
  have hS := One.start h hB
  have hD := Lib.hid (fun (w9 : World) => mdata w9 (some ⟨mb, 0, none⟩))
  have hC := Lib.hid (fun (w9 : World) (O : Nat → Prop) (h : MemP w9 B mb M O) (hb : B ≤ w9.heap.size) => mDep h hb 32 256 512 (-3) (-4) (by unfold Sk; omega))
  go_enter Try.func22, Try.ntmps22
  go_wp2_with (first
    | (go_at_call 31; refine (hS.still (hD.out _)).mono ?_; rintro e w2 ⟨rfl, hS2⟩; clear hS; have hS := hS2; clear hS2)
    | (go_at_call 43; refine (hS.mem (fun O h hb => hC.out _ _ h hb)).mono ?_; rintro e w2 ⟨rfl, hS2⟩; clear hS; have hS := hS2; clear hS2))
  go_ret
  exact hS.memQ _
set_option maxHeartbeats 1000000 in
theorem kDeep {w : World} {B mb : Nat} {M : List UInt8} {O : Nat → Prop} (h : MemP w B mb M O) (hB : B ≤ w.heap.size) :
    Calls Try.prog 23 #[.pointer (some ⟨mb, 0, none⟩)] w fun e w' => MemQ w w' B mb (M) O (.int .i64 (depL M 40 512 768)) e := by
  have hS := One.start h hB
  have hD := Lib.hid (fun (w9 : World) => mback w9 (some ⟨mb, 0, none⟩))
  have hC := Lib.hid (fun (w9 : World) (O : Nat → Prop) (h : MemP w9 B mb M O) (hb : B ≤ w9.heap.size) => mDep h hb 40 512 768 (-5) (-6) (by unfold Sk; omega))
  go_enter Try.func23, Try.ntmps23
  go_wp2_with (first
    | (go_at_call 33; refine (hS.still (hD.out _)).mono ?_; rintro e w2 ⟨rfl, hS2⟩; clear hS; have hS := hS2; clear hS2)
    | (go_at_call 43; refine (hS.mem (fun O h hb => hC.out _ _ h hb)).mono ?_; rintro e w2 ⟨rfl, hS2⟩; clear hS; have hS := hS2; clear hS2))
  go_ret
  exact hS.memQ _
set_option maxHeartbeats 1000000 in
theorem kPush {w : World} {B mb : Nat} {M : List UInt8} {O : Nat → Prop} (h : MemP w B mb M O) (hB : B ≤ w.heap.size) (n : Int) :
    Calls Try.prog 9 #[.pointer (some ⟨mb, 0, none⟩), .int .i64 n] w fun e w' => MemQ w w' B mb (pushM M 32 256 512 n) O (.int .i64 (pushT M 32 256 512 (-3))) e := by
  have hS := One.start h hB
  have hD := Lib.hid (fun (w9 : World) => mdata w9 (some ⟨mb, 0, none⟩))
  have hC := Lib.hid (fun (w9 : World) (O : Nat → Prop) (h : MemP w9 B mb M O) (hb : B ≤ w9.heap.size) => mPush h hb 32 256 512 (-3) (-4) (by unfold Sk; omega) n)
  go_enter Try.func9, Try.ntmps9
  go_wp2_with (first
    | (go_at_call 31; refine (hS.still (hD.out _)).mono ?_; rintro e w2 ⟨rfl, hS2⟩; clear hS; have hS := hS2; clear hS2)
    | (go_at_call 32; refine (hS.mem (fun O h hb => hC.out _ _ h hb)).mono ?_; rintro e w2 ⟨rfl, hS2⟩; clear hS; have hS := hS2; clear hS2))
  go_ret
  exact hS.memQ _
set_option maxHeartbeats 1000000 in
theorem kRPush {w : World} {B mb : Nat} {M : List UInt8} {O : Nat → Prop} (h : MemP w B mb M O) (hB : B ≤ w.heap.size) (n : Int) :
    Calls Try.prog 10 #[.pointer (some ⟨mb, 0, none⟩), .int .i64 n] w fun e w' => MemQ w w' B mb (pushM M 40 512 768 n) O (.int .i64 (pushT M 40 512 768 (-5))) e := by
  have hS := One.start h hB
  have hD := Lib.hid (fun (w9 : World) => mback w9 (some ⟨mb, 0, none⟩))
  have hC := Lib.hid (fun (w9 : World) (O : Nat → Prop) (h : MemP w9 B mb M O) (hb : B ≤ w9.heap.size) => mPush h hb 40 512 768 (-5) (-6) (by unfold Sk; omega) n)
  go_enter Try.func10, Try.ntmps10
  go_wp2_with (first
    | (go_at_call 33; refine (hS.still (hD.out _)).mono ?_; rintro e w2 ⟨rfl, hS2⟩; clear hS; have hS := hS2; clear hS2)
    | (go_at_call 32; refine (hS.mem (fun O h hb => hC.out _ _ h hb)).mono ?_; rintro e w2 ⟨rfl, hS2⟩; clear hS; have hS := hS2; clear hS2))
  go_ret
  exact hS.memQ _
set_option maxHeartbeats 1000000 in
theorem kPop {w : World} {B mb : Nat} {M : List UInt8} {O : Nat → Prop} (h : MemP w B mb M O) (hB : B ≤ w.heap.size) :
    Calls Try.prog 11 #[.pointer (some ⟨mb, 0, none⟩)] w fun e w' => MemQ w w' B mb (popM M 32 256 512) O (.tuple #[.int .i64 (peekV M 32 256 512 0), .int .i64 (peekT M 32 256 512 (-4) 0)]) e := by
  have hS := One.start h hB
  have hD := Lib.hid (fun (w9 : World) => mdata w9 (some ⟨mb, 0, none⟩))
  have hC := Lib.hid (fun (w9 : World) (O : Nat → Prop) (h : MemP w9 B mb M O) (hb : B ≤ w9.heap.size) => mPop h hb 32 256 512 (-3) (-4) (by unfold Sk; omega) (by decide))
  go_enter Try.func11, Try.ntmps11
  go_wp2_with (first
    | (go_at_call 31; refine (hS.still (hD.out _)).mono ?_; rintro e w2 ⟨rfl, hS2⟩; clear hS; have hS := hS2; clear hS2)
    | (go_at_call 34; refine (hS.mem (fun O h hb => hC.out _ _ h hb)).mono ?_; rintro e w2 ⟨rfl, hS2⟩; clear hS; have hS := hS2; clear hS2))
  go_ret2
  exact hS.memQ _
set_option maxHeartbeats 1000000 in
theorem kRPop {w : World} {B mb : Nat} {M : List UInt8} {O : Nat → Prop} (h : MemP w B mb M O) (hB : B ≤ w.heap.size) :
    Calls Try.prog 12 #[.pointer (some ⟨mb, 0, none⟩)] w fun e w' => MemQ w w' B mb (popM M 40 512 768) O (.tuple #[.int .i64 (peekV M 40 512 768 0), .int .i64 (peekT M 40 512 768 (-6) 0)]) e := by
  have hS := One.start h hB
  have hD := Lib.hid (fun (w9 : World) => mback w9 (some ⟨mb, 0, none⟩))
  have hC := Lib.hid (fun (w9 : World) (O : Nat → Prop) (h : MemP w9 B mb M O) (hb : B ≤ w9.heap.size) => mPop h hb 40 512 768 (-5) (-6) (by unfold Sk; omega) (by decide))
  go_enter Try.func12, Try.ntmps12
  go_wp2_with (first
    | (go_at_call 33; refine (hS.still (hD.out _)).mono ?_; rintro e w2 ⟨rfl, hS2⟩; clear hS; have hS := hS2; clear hS2)
    | (go_at_call 34; refine (hS.mem (fun O h hb => hC.out _ _ h hb)).mono ?_; rintro e w2 ⟨rfl, hS2⟩; clear hS; have hS := hS2; clear hS2))
  go_ret2
  exact hS.memQ _
set_option maxHeartbeats 1000000 in
theorem kAt {w : World} {B mb : Nat} {M : List UInt8} {O : Nat → Prop} (h : MemP w B mb M O) (hB : B ≤ w.heap.size) (n : Int) (hn : isI n) :
    Calls Try.prog 20 #[.pointer (some ⟨mb, 0, none⟩), .int .i64 n] w fun e w' => MemQ w w' B mb (M) O (.tuple #[.int .i64 (peekV M 32 256 512 n), .int .i64 (peekT M 32 256 512 (-4) n)]) e := by
  have hS := One.start h hB
  have hD := Lib.hid (fun (w9 : World) => mdata w9 (some ⟨mb, 0, none⟩))
  have hC := Lib.hid (fun (w9 : World) (O : Nat → Prop) (h : MemP w9 B mb M O) (hb : B ≤ w9.heap.size) => mPeek h hb 32 256 512 (-3) (-4) (by unfold Sk; omega) n hn)
  go_enter Try.func20, Try.ntmps20
  go_wp2_with (first
    | (go_at_call 31; refine (hS.still (hD.out _)).mono ?_; rintro e w2 ⟨rfl, hS2⟩; clear hS; have hS := hS2; clear hS2)
    | (go_at_call 41; refine (hS.mem (fun O h hb => hC.out _ _ h hb)).mono ?_; rintro e w2 ⟨rfl, hS2⟩; clear hS; have hS := hS2; clear hS2))
  go_ret2
  exact hS.memQ _
set_option maxHeartbeats 1000000 in
theorem kRAt {w : World} {B mb : Nat} {M : List UInt8} {O : Nat → Prop} (h : MemP w B mb M O) (hB : B ≤ w.heap.size) (n : Int) (hn : isI n) :
    Calls Try.prog 50 #[.pointer (some ⟨mb, 0, none⟩), .int .i64 n] w fun e w' => MemQ w w' B mb (M) O (.tuple #[.int .i64 (peekV M 40 512 768 n), .int .i64 (peekT M 40 512 768 (-6) n)]) e := by
  have hS := One.start h hB
  have hD := Lib.hid (fun (w9 : World) => mback w9 (some ⟨mb, 0, none⟩))
  have hC := Lib.hid (fun (w9 : World) (O : Nat → Prop) (h : MemP w9 B mb M O) (hb : B ≤ w9.heap.size) => mPeek h hb 40 512 768 (-5) (-6) (by unfold Sk; omega) n hn)
  go_enter Try.func50, Try.ntmps50
  go_wp2_with (first
    | (go_at_call 33; refine (hS.still (hD.out _)).mono ?_; rintro e w2 ⟨rfl, hS2⟩; clear hS; have hS := hS2; clear hS2)
    | (go_at_call 41; refine (hS.mem (fun O h hb => hC.out _ _ h hb)).mono ?_; rintro e w2 ⟨rfl, hS2⟩; clear hS; have hS := hS2; clear hS2))
  go_ret2
  exact hS.memQ _
end Go.Proofs.Ytjeelccdbhhfjaa
