/- Texts merged: T4 N4 T5 T6 T7 T8 T9 T10. -/
import Derived.Test.YtkcmphjgflbchaaZ3
/- The two stacks. -/
namespace Go.Proofs.Ytkcmphjgflbchaa
open Go.RowKit
set_option linter.unusedVariables false
set_option linter.unusedSimpArgs false
attribute [local go_sem] cell_set set_set m_undef

theorem mdata (w : World) (p : Option Addr) : Calls Try.prog 79 #[.pointer p] w fun e w' => e = .returned (.agg #[.pointer p, .int .i64 32, .int .i64 256, .int .i64 512, .int .i64 (-3), .int .i64 (-4)]) ∧ Below w.heap.size w w' := by
  go_enter Try.func79, Try.ntmps79
  go_wp2
  refine ret_blk (v := .agg #[.pointer p, .int .i64 32, .int .i64 256, .int .i64 512, .int .i64 (-3), .int .i64 (-4)]) w.heap.size #[.pointer p, .int .i64 32, .int .i64 256, .int .i64 512, .int .i64 (-3), .int .i64 (-4)] 118 (Blk.new _ _ _) (fun w' h => by obtain ⟨e1, e2, e3, e4, e5, e6⟩ := h.c6; simp [results, Try.results79, go_sem, e1, e2, e3, e4, e5, e6]) rfl ⟨rfl, bel_alloc (Below.refl _ _) _⟩
set_option maxHeartbeats 1000000 in
theorem kDepth {w : World} {B mb : Nat} {M : List UInt8} {O : Nat → Prop} (h : MemP w B mb M O) (hB : B ≤ w.heap.size) :
    Calls Try.prog 62 #[.pointer (some ⟨mb, 0, none⟩)] w fun e w' => MemQ w w' B mb (M) O (.int .i64 (depL M 32 256 512)) e := by
  have hS := One.start h hB
  have hD := Lib.hid (fun (w9 : World) => mdata w9 (some ⟨mb, 0, none⟩))
  have hC := Lib.hid (fun (w9 : World) (O : Nat → Prop) (h : MemP w9 B mb M O) (hb : B ≤ w9.heap.size) => mDep h hb 32 256 512 (-3) (-4) (by unfold Sk; omega))
  go_enter Try.func62, Try.ntmps62
  go_wp2_with (first
    | (go_at_call 79; refine (hS.still (hD.out _)).mono ?_; rintro e w2 ⟨rfl, hS2⟩; clear hS; have hS := hS2; clear hS2)
    | (go_at_call 80; refine (hS.mem (fun O h hb => hC.out _ _ h hb)).mono ?_; rintro e w2 ⟨rfl, hS2⟩; clear hS; have hS := hS2; clear hS2))
  go_ret
  exact hS.memQ _
set_option maxHeartbeats 1000000 in
theorem kAt {w : World} {B mb : Nat} {M : List UInt8} {O : Nat → Prop} (h : MemP w B mb M O) (hB : B ≤ w.heap.size) (n : Int) (hn : isI n) :
    Calls Try.prog 98 #[.pointer (some ⟨mb, 0, none⟩), .int .i64 n] w fun e w' => MemQ w w' B mb (M) O (.tuple #[.int .i64 (peekV M 32 256 512 n), .int .i64 (peekT M 32 256 512 (-4) n)]) e := by
  have hS := One.start h hB
  have hD := Lib.hid (fun (w9 : World) => mdata w9 (some ⟨mb, 0, none⟩))
  have hC := Lib.hid (fun (w9 : World) (O : Nat → Prop) (h : MemP w9 B mb M O) (hb : B ≤ w9.heap.size) => mPeek h hb 32 256 512 (-3) (-4) (by unfold Sk; omega) n hn)
  go_enter Try.func98, Try.ntmps98
  go_wp2_with (first
    | (go_at_call 79; refine (hS.still (hD.out _)).mono ?_; rintro e w2 ⟨rfl, hS2⟩; clear hS; have hS := hS2; clear hS2)
    | (go_at_call 94; refine (hS.mem (fun O h hb => hC.out _ _ h hb)).mono ?_; rintro e w2 ⟨rfl, hS2⟩; clear hS; have hS := hS2; clear hS2))
  go_ret2
  exact hS.memQ _
end Go.Proofs.Ytkcmphjgflbchaa

/- The reference's memory: 'Set'. -/
namespace Go.Proofs.Ytkcmphjgflbchaa
open Go.RowKit
set_option linter.unusedVariables false
set_option linter.unusedSimpArgs false
attribute [local go_sem] cell_set set_set m_undef

theorem Blk.c3 {w : World} {b : Nat} {x y z : Value} {t : TypeId} (h : Blk w b #[x, y, z] t) : (w.cell? ⟨b, 0, none⟩ = some x ∧ w.cell? ⟨b, 1, none⟩ = some y ∧ w.cell? ⟨b, 2, none⟩ = some z) ∧ w.frozen? ⟨b, 0, none⟩ = false ∧ w.frozen? ⟨b, 1, none⟩ = false ∧ w.frozen? ⟨b, 2, none⟩ = false :=
  ⟨⟨h.cell 0, h.cell 1, h.cell 2⟩, h.frozen 0, h.frozen 1, h.frozen 2⟩
set_option maxHeartbeats 1000000 in
theorem rSet {w : World} {B rb : Nat} {M : List UInt8} {R : Nat → Prop} (h : RefP w B rb M R) (a n : Int) (ha : isI a) :
    Calls Try.prog 23 #[.pointer (some ⟨rb, 0, none⟩), .int .i64 a, .int .i64 n] w fun e w' => RefQ w w' B rb (setM M a n) R (.tuple #[]) e := by
  obtain ⟨vb, ob, ⟨h1, h2, h3, cap, ws, nn, hB, hM⟩, hR⟩ := h
  have hPC := Lib.hid (rPutCell w B _ M a n hM ha (by rw [h1]; omega))
  have hm := putCell_mem h1 a n
  rw [hm] at hPC
  have hlen : (setM M a n).length = 8192 := by rw [setM_len]; exact h1
  generalize setM M a n = M2 at *
  have hrl := Lib.hid hB.lt
  obtain ⟨⟨y1, y2, y3⟩, z1, z2, z3⟩ := hB.c3
  replace hB := Lib.hid hB
  replace hlen := Lib.hid hlen
  replace h2 := Lib.hid h2
  clear hm h1 hM
  go_enter Try.func23, Try.ntmps23
  go_wp2_with (go_at_call 48; refine hPC.out.mono ?_; rintro e w2 ⟨v, rfl, hv, hb⟩; obtain ⟨b, o, c, rfl⟩ := hv.some_of (by intro e; have := hlen.out; rw [e] at this; simp at this); rw [hlen.out] at hv ⊢; have hB2 := hB.out.below hb; clear y1 y2 y3 z1 z2 z3; obtain ⟨⟨y1, y2, y3⟩, z1, z2, z3⟩ := hB2.c3; replace hb := Lib.hid hb; replace hv := Lib.hid hv)
  (try go_end0)
  have hb2 : w.heap.size ≤ b := hv.out.lt2.1
  have hT : Turn w (w2.setCell ⟨rb, 0, none⟩ (.slice (some ⟨b, o, none⟩) 8192 c)) R (fun k => k = rb ∨ k = b) :=
    ⟨hb.out.os, hb.out.tape, hb.out.output, by rw [World.size_setCell]; exact hb.out.size, fun k hk hn => (Below.heap_setCell _ _ _ _ (fun e => hn ((hR k).2 (.inl e)))).trans (hb.out.block k hk), fun k hk => by
      rcases hk with rfl | rfl
      · exact .inl ((hR _).2 (.inl rfl))
      · exact .inr hb2⟩
  refine ⟨rfl, _, ⟨b, o, ⟨hlen.out, h2.out, by have := hrl.out; omega, c, ws, nn, ?_, ?_⟩, fun k => Iff.rfl⟩, hT⟩
  · exact hB2.set 0 _
  · exact ((hv.out.set_other (fun e => by have e2 := Option.some.inj e; have e3 : b = rb := e2; have := hrl.out; omega) _)).mono (by have := h2.out; have := hrl.out; omega)
end Go.Proofs.Ytkcmphjgflbchaa

/- The reference's stacks. -/
namespace Go.Proofs.Ytkcmphjgflbchaa
open Go.RowKit
set_option linter.unusedVariables false
set_option linter.unusedSimpArgs false
attribute [local go_sem] cell_set set_set m_undef

theorem isI_get (M : List UInt8) (a : Int) : isI (getM M a) := by
  unfold getM cellL isI
  have := IntKind.wrap_i64 (leN (loadL M a 8) 0 8 : Int)
  omega
theorem RefP.base_le {w : World} {B rb : Nat} {M : List UInt8} {R : Nat → Prop} (h : RefP w B rb M R) : B ≤ w.heap.size := by
  obtain ⟨vb, ob, h1, h6⟩ := id h
  have := h.lt ((h6 rb).2 (.inl rfl))
  omega
set_option maxHeartbeats 1000000 in
theorem rTop {w : World} {B rb : Nat} {M : List UInt8} {R : Nat → Prop} (h : RefP w B rb M R) (a lo hi : Int) (hk : Sk a lo hi) :
    Calls Try.prog 47 #[.pointer (some ⟨rb, 0, none⟩), .int .i64 a, .int .i64 lo, .int .i64 hi] w fun e w' => e = .returned (.int .i64 (topL M a lo hi)) ∧ Below w.heap.size w w' := by
  obtain ⟨b1, b2, b3, b4, b5, b6, b7, b8, b9⟩ := topL_bd (M := M) hk
  have hai : isI a := by unfold isI; omega
  have hG := Lib.hid (rGet h a hai)
  unfold topL
  obtain ⟨g, hg⟩ : ∃ g, g = getM M a := ⟨_, rfl⟩
  have hgi : isI g := by rw [hg]; exact isI_get M a
  rw [← hg] at hG ⊢
  have hrm : g.tmod 8 = 0 ↔ g % 8 = 0 := ⟨fun h => Int.emod_eq_zero_of_dvd (Int.dvd_of_tmod_eq_zero h), fun h => Int.tmod_eq_zero_of_dvd (Int.dvd_of_emod_eq_zero h)⟩
  have w1 : ∀ x : Int, isI x → IntKind.i64.wrap x = x := fun x hx => by unfold isI at hx; rw [IntKind.wrap_i64]; omega
  have wg := w1 g hgi
  have wl : IntKind.i64.wrap lo = lo := w1 lo (by unfold isI; omega)
  have wh : IntKind.i64.wrap hi = hi := w1 hi (by unfold isI; omega)
  clear w1 h hai
  unfold isI at hgi
  by_cases c2 : lo ≤ g
  · have t2 : (g < lo) = False := by simp; omega
    by_cases c3 : g ≤ hi
    · have t3 : (hi < g) = False := by simp; omega
      by_cases c1 : g % 8 = 0
      · have t1 : (g.tmod 8 != 0) = false := by rw [hrm.2 c1]; rfl
        rw [if_pos ⟨c1, c2, c3⟩]
        clear c1 c2 c3 hrm b1 b2 b3 b4 b5 b6 b7 b8 b9 hg hgi
        go_enter Try.func47, Try.ntmps47
        go_wp2_with (go_at_call 21; refine hG.out.mono ?_; rintro e w1 ⟨rfl, hb1⟩; replace hb1 := Lib.hid hb1)
        go_ret
        exact ⟨rfl, hb1.out⟩
      · have t1 : (g.tmod 8 != 0) = true := by rw [bne_iff_ne]; exact fun e => c1 (hrm.1 e)
        rw [if_neg (fun h => c1 h.1)]
        clear c1 c2 c3 hrm b1 b2 b3 b4 b5 b6 b7 b8 b9 hg hgi
        go_enter Try.func47, Try.ntmps47
        go_wp2_with (go_at_call 21; refine hG.out.mono ?_; rintro e w1 ⟨rfl, hb1⟩; replace hb1 := Lib.hid hb1)
        go_ret
        exact ⟨rfl, hb1.out⟩
    · have t3 : (hi < g) = True := by simp; omega
      rw [if_neg (fun h => c3 h.2.2)]
      clear c2 c3 hrm b1 b2 b3 b4 b5 b6 b7 b8 b9 hg hgi
      go_enter Try.func47, Try.ntmps47
      go_wp2_with (go_at_call 21; refine hG.out.mono ?_; rintro e w1 ⟨rfl, hb1⟩; replace hb1 := Lib.hid hb1)
      go_ret
      exact ⟨rfl, hb1.out⟩
  · have t2 : (g < lo) = True := by simp; omega
    rw [if_neg (fun h => c2 h.2.1)]
    clear c2 hrm b1 b2 b3 b4 b5 b6 b7 b8 b9 hg hgi
    go_enter Try.func47, Try.ntmps47
    go_wp2_with (go_at_call 21; refine hG.out.mono ?_; rintro e w1 ⟨rfl, hb1⟩; replace hb1 := Lib.hid hb1)
    go_ret
    exact ⟨rfl, hb1.out⟩
theorem rsp {w : World} {B rb : Nat} {M : List UInt8} {R : Nat → Prop} (h : RefP w B rb M R) : Calls Try.prog 22 #[.pointer (some ⟨rb, 0, none⟩)] w fun e w' => e = .returned (.int .i64 (topL M 32 256 512)) ∧ Below w.heap.size w w' := by
  have hTp := Lib.hid (rTop h 32 256 512 (by unfold Sk; omega))
  generalize topL M 32 256 512 = t at *
  clear h
  go_enter Try.func22, Try.ntmps22
  go_wp2_with (go_at_call 47; refine hTp.out.mono ?_; rintro e w1 ⟨rfl, hb1⟩; replace hb1 := Lib.hid hb1)
  go_ret
  exact ⟨rfl, hb1.out⟩
theorem rDepth {w : World} {B rb : Nat} {M : List UInt8} {R : Nat → Prop} (h : RefP w B rb M R) : Calls Try.prog 34 #[.pointer (some ⟨rb, 0, none⟩)] w fun e w' => e = .returned (.int .i64 (depL M 32 256 512)) ∧ Below w.heap.size w w' := by
  obtain ⟨b1, b2, b3, b4, b5, b6, b7, b8, b9⟩ := topL_bd (M := M) (show Sk 32 256 512 from by unfold Sk; omega)
  have hTp := Lib.hid (rsp h)
  unfold depL
  generalize topL M 32 256 512 = t at *
  have wd : IntKind.i64.wrap (512 - t) = 512 - t := by rw [IntKind.wrap_i64]; omega
  have c0 : 0 ≤ 512 - t := by omega
  clear h
  go_enter Try.func34, Try.ntmps34
  go_wp2_with (go_at_call 22; refine hTp.out.mono ?_; rintro e w1 ⟨rfl, hb1⟩; replace hb1 := Lib.hid hb1)
  go_ret
  exact ⟨rfl, hb1.out⟩
set_option maxHeartbeats 1000000 in
theorem rPush {w : World} {B rb : Nat} {M : List UInt8} {R : Nat → Prop} (h : RefP w B rb M R) (n : Int) : Calls Try.prog 9 #[.pointer (some ⟨rb, 0, none⟩), .int .i64 n] w fun e w' => RefQ w w' B rb (pushM M 32 256 512 n) R (.int .i64 (pushT M 32 256 512 (-3))) e := by
  obtain ⟨b1, b2, b3, b4, b5, b6, b7, b8, b9⟩ := topL_bd (M := M) (show Sk 32 256 512 from by unfold Sk; omega)
  have hS := Onr.start h h.base_le
  have hTp := Lib.hid (fun (w9 : World) (O : Nat → Prop) (h : RefP w9 B rb M O) => rsp h)
  unfold pushM pushT
  generalize topL M 32 256 512 = t at *
  obtain ⟨p, hp⟩ : ∃ p, p = t - 8 := ⟨_, rfl⟩
  have wd : IntKind.i64.wrap (t - 8) = p := by rw [hp, IntKind.wrap_i64]; omega
  rw [← hp]
  have hpi : isI p := by unfold isI; omega
  by_cases c1 : p < 256
  · have t1 : (t == 256) = true := by rw [beq_iff_eq]; omega
    rw [if_pos c1, if_pos c1]
    clear c1 b1 b2 b3 b4 b5 b6 b7 b8 b9 hp
    go_enter Try.func9, Try.ntmps9
    go_wp2_with (go_at_call 22; refine (hS.read (fun O h => hTp.out _ _ h)).mono ?_; rintro e w2 ⟨rfl, hS2⟩; clear hS; have hS := hS2; clear hS2)
    go_ret
    exact hS.refQ _
  · have t1 : (t == 256) = false := by rw [beq_eq_false_iff_ne]; omega
    rw [if_neg c1, if_neg c1]
    clear c1 b1 b2 b3 b4 b5 b6 b7 b8 b9 hp
    go_enter Try.func9, Try.ntmps9
    go_wp2_with (first
      | (go_at_call 22; refine (hS.read (fun O h => hTp.out _ _ h)).mono ?_; rintro e w2 ⟨rfl, hS2⟩; clear hS; have hS := hS2; clear hS2)
      | (go_at_call_of 23 n; refine (hS.ref (fun O h hb => rSet h p n hpi)).mono ?_; rintro e w2 ⟨rfl, hS2⟩; clear hS; have hS := hS2; clear hS2)
      | (go_at_call 23; refine (hS.ref (fun O h hb => rSet h 32 p (by unfold isI; omega))).mono ?_; rintro e w2 ⟨rfl, hS2⟩; clear hS; have hS := hS2; clear hS2))
    go_ret
    exact hS.refQ _
set_option maxHeartbeats 1000000 in
theorem rPop {w : World} {B rb : Nat} {M : List UInt8} {R : Nat → Prop} (h : RefP w B rb M R) : Calls Try.prog 68 #[.pointer (some ⟨rb, 0, none⟩)] w fun e w' => RefQ w w' B rb (popM M 32 256 512) R (.tuple #[.int .i64 (peekV M 32 256 512 0), .int .i64 (peekT M 32 256 512 (-4) 0)]) e := by
  obtain ⟨b1, b2, b3, b4, b5, b6, b7, b8, b9⟩ := topL_bd (M := M) (show Sk 32 256 512 from by unfold Sk; omega)
  obtain ⟨d1, d2, d3⟩ := depL_bd (M := M) (show Sk 32 256 512 from by unfold Sk; omega)
  have hS := Onr.start h h.base_le
  have hMl := h.len
  have hTp := Lib.hid (fun (w9 : World) (O : Nat → Prop) (h : RefP w9 B rb M O) => rsp h)
  unfold popM peekV peekT
  have hgo : ∀ x, getM (setM M 32 x) (topL M 32 256 512 + 8 * 0) = getM M (topL M 32 256 512 + 8 * 0) := fun x => getM_other hMl 32 _ x (by omega)
  generalize topL M 32 256 512 = t at *
  generalize depL M 32 256 512 = d at *
  obtain ⟨p, hp⟩ : ∃ p, p = t + 8 := ⟨_, rfl⟩
  have wd : IntKind.i64.wrap (t + 8) = p := by rw [hp, IntKind.wrap_i64]; omega
  rw [← hp]
  by_cases c1 : 0 < d
  · have t1 : (t == 512) = false := by rw [beq_eq_false_iff_ne]; omega
    rw [if_pos c1, if_pos ⟨by omega, c1⟩, if_pos ⟨by omega, c1⟩]
    have hg := hgo p
    rw [show t + 8 * 0 = t by omega] at hg ⊢
    have hti : isI t := by unfold isI; omega
    rw [← hg]
    clear c1 b1 b2 b3 b4 b5 b6 b7 b8 b9 hp d1 d2 d3 hgo hg h
    go_enter Try.func68, Try.ntmps68
    go_wp2_with (first
      | (go_at_call 22; refine (hS.read (fun O h => hTp.out _ _ h)).mono ?_; rintro e w2 ⟨rfl, hS2⟩; clear hS; have hS := hS2; clear hS2)
      | (go_at_call 23; refine (hS.ref (fun O h hb => rSet h 32 p (by unfold isI; omega))).mono ?_; rintro e w2 ⟨rfl, hS2⟩; clear hS; have hS := hS2; clear hS2)
      | (go_at_call 21; refine (hS.read (fun O h => rGet h t hti)).mono ?_; rintro e w2 ⟨rfl, hS2⟩; clear hS; have hS := hS2; clear hS2))
    go_ret2
    exact hS.refQ _
  · have t1 : (t == 512) = true := by rw [beq_iff_eq]; omega
    rw [if_neg c1, if_neg (fun h => c1 h.2), if_neg (fun h => c1 h.2)]
    clear c1 b1 b2 b3 b4 b5 b6 b7 b8 b9 hp d1 d2 d3 hgo h
    go_enter Try.func68, Try.ntmps68
    go_wp2_with (go_at_call 22; refine (hS.read (fun O h => hTp.out _ _ h)).mono ?_; rintro e w2 ⟨rfl, hS2⟩; clear hS; have hS := hS2; clear hS2)
    go_ret2
    exact hS.refQ _
set_option maxHeartbeats 1000000 in
theorem rAt {w : World} {B rb : Nat} {M : List UInt8} {R : Nat → Prop} (h : RefP w B rb M R) (n : Int) (hn : isI n) : Calls Try.prog 36 #[.pointer (some ⟨rb, 0, none⟩), .int .i64 n] w fun e w' => e = .returned (.tuple #[.int .i64 (peekV M 32 256 512 n), .int .i64 (peekT M 32 256 512 (-4) n)]) ∧ Below w.heap.size w w' := by
  obtain ⟨b1, b2, b3, b4, b5, b6, b7, b8, b9⟩ := topL_bd (M := M) (show Sk 32 256 512 from by unfold Sk; omega)
  obtain ⟨d1, d2, d3⟩ := depL_bd (M := M) (show Sk 32 256 512 from by unfold Sk; omega)
  have hTp := Lib.hid (fun (w9 : World) (h : RefP w9 B rb M R) => rsp h)
  have hDp := Lib.hid (fun (w9 : World) (h : RefP w9 B rb M R) => rDepth h)
  have hG := Lib.hid (fun (w9 : World) (h : RefP w9 B rb M R) => rGet h (topL M 32 256 512 + 8 * n))
  unfold peekV peekT
  generalize topL M 32 256 512 = t at *
  generalize depL M 32 256 512 = d at *
  unfold isI at hn
  replace h := Lib.hid h
  by_cases c1 : n < 0
  · have t1 : (n < 0) = True := by simp; exact c1
    rw [if_neg (by omega), if_neg (by omega)]
    clear c1 b1 b2 b3 b4 b5 b6 b7 b8 b9 d1 d2 d3 hn
    go_enter Try.func36, Try.ntmps36
    go_wp2
    go_ret2
    exact ⟨rfl, Below.refl _ _⟩
  by_cases c2 : d ≤ n
  · have t1 : (n < 0) = False := by simp; omega
    have t2 : (d ≤ n) = True := by simp; exact c2
    rw [if_neg (by omega), if_neg (by omega)]
    clear c1 c2 b1 b2 b3 b4 b5 b6 b7 b8 b9 d1 d2 d3 hn
    go_enter Try.func36, Try.ntmps36
    go_wp2_with (go_at_call 34; refine (hDp.out _ h.out).mono ?_; rintro e w2 ⟨rfl, hb⟩; replace hb := Lib.hid hb)
    go_ret2
    exact ⟨rfl, hb.out⟩
  have t1 : (n < 0) = False := by simp; omega
  have t2 : (d ≤ n) = False := by simp; omega
  rw [if_pos ⟨by omega, by omega⟩, if_pos ⟨by omega, by omega⟩]
  obtain ⟨n8, hn8⟩ : ∃ n8, n8 = 8 * n := ⟨_, rfl⟩
  obtain ⟨p, hp⟩ : ∃ p, p = t + n8 := ⟨_, rfl⟩
  have w1 : IntKind.i64.wrap (8 * n) = n8 := by rw [IntKind.wrap_i64]; omega
  have w2 : IntKind.i64.wrap (t + n8) = p := by rw [IntKind.wrap_i64]; omega
  have hpi : isI p := by unfold isI; omega
  rw [← hn8, ← hp] at hG ⊢
  clear c1 c2 b1 b2 b3 b4 b5 b6 b7 b8 b9 d1 d2 d3 hn hn8 hp
  go_enter Try.func36, Try.ntmps36
  go_wp2_with (first
    | (go_at_call 34; refine (hDp.out _ h.out).mono ?_; rintro e w2 ⟨rfl, hb⟩; replace hb := Lib.hid hb)
    | (go_at_call 22; refine (hTp.out _ (h.out.below hb.out)).mono ?_; rintro e w3 ⟨rfl, hb3⟩; replace hb := Lib.hid (bel_trans hb.out hb3); clear hb3)
    | (go_at_call 21; refine (hG.out _ (h.out.below hb.out) hpi).mono ?_; rintro e w4 ⟨rfl, hb4⟩; replace hb := Lib.hid (bel_trans hb.out hb4); clear hb4))
  go_ret2
  exact ⟨rfl, hb.out⟩
end Go.Proofs.Ytkcmphjgflbchaa

/- 'slices.Reverse' of integers; what is taken. -/
namespace Go.Proofs.Ytkcmphjgflbchaa
open Go.RowKit
set_option linter.unusedVariables false
set_option linter.unusedSimpArgs false
attribute [local go_sem] cell_set set_set m_undef

/-- The list when k cells of each end have been exchanged. -/
def revN (l : List Int) (k : Nat) : List Int := (List.range l.length).map fun p => if p < k ∨ l.length - 1 - p < k then l.getD (l.length - 1 - p) 0 else l.getD p 0
theorem revN_len (l : List Int) (k : Nat) : (revN l k).length = l.length := by simp [revN]
theorem revN_at (l : List Int) (k p : Nat) (h : p < (revN l k).length) : (revN l k)[p] = if p < k ∨ l.length - 1 - p < k then l.getD (l.length - 1 - p) 0 else l.getD p 0 := by simp [revN]
theorem revN_zero (l : List Int) : revN l 0 = l := by
  apply List.ext_getElem (revN_len l 0)
  intro i h1 h2
  rw [revN_at, if_neg (by omega), List.getD_eq_getElem?_getD, List.getElem?_eq_getElem h2]; rfl
theorem revN_end (l : List Int) (k : Nat) (hk : l.length ≤ 2 * k + 1) : revN l k = l.reverse := by
  apply List.ext_getElem (by rw [revN_len, List.length_reverse])
  intro i h1 h2
  rw [revN_len] at h1
  rw [revN_at, List.getElem_reverse]
  split
  · rw [List.getD_eq_getElem?_getD, List.getElem?_eq_getElem (by omega)]; rfl
  · have e : l.length - 1 - i = i := by omega
    rw [List.getD_eq_getElem?_getD, List.getElem?_eq_getElem (by omega)]
    simp only [e]; rfl
theorem revN_swap (l : List Int) (k q : Nat) (hq : q + k + 1 = l.length) (hkq : k < q) (x y : Int) (hx : (revN l k)[k]? = some x) (hy : (revN l k)[q]? = some y) : ((revN l k).set k y).set q x = revN l (k + 1) := by
  have hxv : x = l.getD k 0 := by
    rw [List.getElem?_eq_getElem (by rw [revN_len]; omega), revN_at, if_neg (by omega)] at hx
    exact (Option.some.inj hx).symm
  have hyv : y = l.getD q 0 := by
    rw [List.getElem?_eq_getElem (by rw [revN_len]; omega), revN_at, if_neg (by omega)] at hy
    exact (Option.some.inj hy).symm
  apply List.ext_getElem (by simp [revN_len])
  intro i h1 h2
  rw [revN_len] at h2
  rw [revN_at, List.getElem_set, List.getElem_set]
  by_cases e1 : q = i
  · rw [if_pos e1, if_pos (by omega), hxv]
    congr 1; omega
  · rw [if_neg e1]
    by_cases e2 : k = i
    · rw [if_pos e2, if_pos (by omega), hyv]
      congr 1; omega
    · rw [if_neg e2, revN_at]
      by_cases e3 : i < k ∨ l.length - 1 - i < k
      · rw [if_pos e3, if_pos (by omega)]
      · rw [if_neg e3, if_neg (by omega)]
set_option maxRecDepth 100000 in
set_option maxHeartbeats 1600000 in
theorem wReverse {w : World} {B : Nat} {v : Value} {n : Nat} {l : List Int} (h : Vs w B 1 v n (ic l)) (hn : n ≤ 1000000000) :
    Calls Try.prog 82 #[v] w fun e w' => e = .returned (.tuple #[]) ∧ Vs w' B 1 v n (ic l.reverse) ∧ w.grownBy w' v.ownBlock := by
  have hl : l.length = n := by have := h.1; rw [ic_len] at this; omega
  obtain ⟨a, cap, rfl, hcap⟩ := h.form
  have w0 : IntKind.i64.wrap ((n : Int) - 1) = (n : Int) - 1 := by rw [IntKind.wrap_i64]; omega
  replace hl := Lib.hid hl
  replace h := Lib.hid h
  clear hcap
  go_enter Try.func82, Try.ntmps82
  go_wp2
  go_loopw [2, 3] (fun i j wr => ∃ (k : Nat), i = .int .i64 (k : Int) ∧ j = .int .i64 ((n : Int) - 1 - (k : Int)) ∧ k ≤ n ∧ Vs wr B 1 (.slice a n cap) n (ic (revN l k)) ∧ w.grownBy wr (Value.slice a n cap).ownBlock) (fun i _ _ => (n - (intOf i).toNat))
  case atStart => exact ⟨0, rfl, by simp, by omega, by rw [revN_zero]; exact h.out, ⟨rfl, rfl, rfl, Nat.le_refl _, fun _ _ _ => rfl⟩⟩
  case round =>
    obtain ⟨k, rfl, rfl, hkn, hV, hg⟩ := hrel
    by_cases hlt : 2 * k + 1 < n
    · obtain ⟨q, hq⟩ : ∃ q : Nat, q + k + 1 = n := ⟨n - 1 - k, by omega⟩
      have t1 : ((k : Int) < (n : Int) - 1 - (k : Int)) = True := by simp; omega
      have eq : (n : Int) - 1 - (k : Int) = (q : Int) := by omega
      rw [eq] at t1 ⊢
      have wk : IntKind.i64.wrap ((k : Int) + 1) = ((k + 1 : Nat) : Int) := by rw [IntKind.wrap_i64]; omega
      have wq : IntKind.i64.wrap ((q : Int) - 1) = (q : Int) - 1 := by rw [IntKind.wrap_i64]; omega
      have hj2 := Lib.hid (show Value.int .i64 ((q : Int) - 1) = .int .i64 ((n : Int) - 1 - ((k + 1 : Nat) : Int)) by congr 1; omega)
      have b1 : (0 : Int) ≤ (k : Int) := by omega
      have b2 : (k : Int) < (n : Int) := by omega
      have b3 : (0 : Int) ≤ (q : Int) := by omega
      have b4 : (q : Int) < (n : Int) := by omega
      obtain ⟨b, o, c, he⟩ := hV.some_of (by omega)
      cases he
      have hrl : (revN l k).length = n := by rw [revN_len, hl.out]
      obtain ⟨x, hx⟩ : ∃ x, (revN l k)[k]? = some x := ⟨_, List.getElem?_eq_getElem (by omega)⟩
      obtain ⟨y, hy⟩ : ∃ y, (revN l k)[q]? = some y := ⟨_, List.getElem?_eq_getElem (by omega)⟩
      have s1 := hV.cell k (.int .i64 x) (by unfold ic; rw [List.getElem?_map, hx]; rfl)
      have s2 := hV.cell q (.int .i64 y) (by unfold ic; rw [List.getElem?_map, hy]; rfl)
      have s3 := hV.free k (by omega)
      have s4 := hV.free q (by omega)
      have hr2 := Lib.hid (show (wr.setCell ⟨b, o + k, none⟩ (.int .i64 y)).cell? ⟨b, o + q, none⟩ = some (.int .i64 y) from (World.cell?_setCell_other wr (a := ⟨b, o + k, none⟩) (b := ⟨b, o + q, none⟩) _ (by intro h; have h2 : o + k = o + q := congrArg Addr.off h; omega)).trans s2)
      have hV2 := Lib.hid ((hV.setAt k (.int .i64 y) (by omega) rfl).setAt q (.int .i64 x) (by omega) rfl)
      rw [ic_set, ic_set, revN_swap l k q (by rw [hl.out]; exact hq) (by omega) x y hx hy] at hV2
      have hg2 := Lib.hid (grown_trans (grown_trans hg (grownBy_setCell wr b (o + k) (.int .i64 y))) (grownBy_setCell _ b (o + q) (.int .i64 x)))
      replace hV2 := Lib.hid (show Vs ((wr.setCell ⟨b, o + k, none⟩ (.int .i64 y)).setCell ⟨b, o + q, none⟩ (.int .i64 x)).drew B 1 (.slice (some ⟨b, o, none⟩) n cap) n (ic (revN l (k + 1))) from hV2.out.kept (row := none) ⟨rfl, rfl, rfl, Nat.le_refl _, fun _ _ _ => rfl⟩ (.inr (by simp [Value.ownBlock])))
      replace hg2 := Lib.hid (show w.grownBy ((wr.setCell ⟨b, o + k, none⟩ (.int .i64 y)).setCell ⟨b, o + q, none⟩ (.int .i64 x)).drew _ from ⟨hg2.out.os, hg2.out.tape, hg2.out.output, hg2.out.size, hg2.out.block⟩)
      have hqe := Lib.hid hq
      replace hkn := Lib.hid hkn
      clear hx hy hrl hV hg eq hq hlt
      go_upto_region 3 with fail
      refine wp_region_noPanic ?_
      refine wp_region_held_drew (S := (fun _ => True)) (by kernel_rfl) ?_ (fun hHeld => ?_)
      · (try dsimp only); (try trivial)
      refine wpAnyH_take (i := 0) (oi := { dst := some 14, op := Go.Op.move (Go.Operand.tmp 0), type := 24, pos := "slices.go:485", after := #[], guard := none }) (v := ?v1) rfl (by kernel_rfl) (by kernel_rfl) (by kernel_rfl) (fun _ _ _ h => h) (Or.inl ⟨by rfl, ?hy1⟩) (by assumption) ?rest1
      case hy1 => (intro w hSw; (try dsimp only at hSw); go_simp <;> with_reducible rfl)
      try simp only [Act.put, List.setIfInBounds_toArray, List.set_cons_zero, List.set_cons_succ]
      refine wpAnyH_take (i := 1) (oi := { dst := some 15, op := Go.Op.move (Go.Operand.tmp 2), type := 3, pos := "slices.go:485", after := #[], guard := none }) (v := ?v2) rfl (by kernel_rfl) (by kernel_rfl) (by kernel_rfl) (fun _ _ _ h => h) (Or.inl ⟨by rfl, ?hy2⟩) (by assumption) ?rest2
      case hy2 => (intro w hSw; (try dsimp only at hSw); go_simp <;> with_reducible rfl)
      try simp only [Act.put, List.setIfInBounds_toArray, List.set_cons_zero, List.set_cons_succ]
      refine wpAnyH_take (i := 2) (oi := { dst := some 16, op := Go.Op.move (Go.Operand.tmp 0), type := 24, pos := "slices.go:485", after := #[{ on := 13, ground := Go.Ground.gcOnly Go.Departure.lateStores }], guard := none }) (v := ?v3) rfl (by kernel_rfl) (by kernel_rfl) (by kernel_rfl) (fun _ _ _ h => h) (Or.inl ⟨by rfl, ?hy3⟩) (by assumption) ?rest3
      case hy3 => (intro w hSw; (try dsimp only at hSw); go_simp <;> with_reducible rfl)
      try simp only [Act.put, List.setIfInBounds_toArray, List.set_cons_zero, List.set_cons_succ]
      refine wpAnyH_take (i := 3) (oi := { dst := some 17, op := Go.Op.move (Go.Operand.tmp 3), type := 3, pos := "slices.go:485", after := #[{ on := 13, ground := Go.Ground.gcOnly Go.Departure.lateStores }], guard := none }) (v := ?v4) rfl (by kernel_rfl) (by kernel_rfl) (by kernel_rfl) (fun _ _ _ h => h) (Or.inl ⟨by rfl, ?hy4⟩) (by assumption) ?rest4
      case hy4 => (intro w hSw; (try dsimp only at hSw); go_simp <;> with_reducible rfl)
      try simp only [Act.put, List.setIfInBounds_toArray, List.set_cons_zero, List.set_cons_succ]
      refine wpAnyH_take (i := 4) (oi := { dst := some 18, op := Go.Op.move (Go.Operand.tmp 0), type := 24, pos := "slices.go:485", after := #[], guard := none }) (v := ?v5) rfl (by kernel_rfl) (by kernel_rfl) (by kernel_rfl) (fun _ _ _ h => h) (Or.inl ⟨by rfl, ?hy5⟩) (by assumption) ?rest5
      case hy5 => (intro w hSw; (try dsimp only at hSw); go_simp <;> with_reducible rfl)
      try simp only [Act.put, List.setIfInBounds_toArray, List.set_cons_zero, List.set_cons_succ]
      refine wpAnyH_take (i := 5) (oi := { dst := some 19, op := Go.Op.move (Go.Operand.tmp 3), type := 3, pos := "slices.go:485", after := #[], guard := none }) (v := ?v6) rfl (by kernel_rfl) (by kernel_rfl) (by kernel_rfl) (fun _ _ _ h => h) (Or.inl ⟨by rfl, ?hy6⟩) (by assumption) ?rest6
      case hy6 => (intro w hSw; (try dsimp only at hSw); go_simp <;> with_reducible rfl)
      try simp only [Act.put, List.setIfInBounds_toArray, List.set_cons_zero, List.set_cons_succ]
      refine wpAnyH_take (i := 6) (oi := { dst := some 20, op := Go.Op.indexAddr 24 (Go.Operand.tmp 18) (Go.Operand.tmp 19), type := 0, pos := "slices.go:485", after := #[{ on := 4, ground := Go.Ground.data }, { on := 5, ground := Go.Ground.data }], guard := none }) (v := ?v7) rfl (by kernel_rfl) (by kernel_rfl) (by kernel_rfl) (fun _ _ _ h => h) (Or.inl ⟨by rfl, ?hy7⟩) (by assumption) ?rest7
      case hy7 => (intro w hSw; (try dsimp only at hSw); go_simp <;> with_reducible rfl)
      try simp only [Act.put, List.setIfInBounds_toArray, List.set_cons_zero, List.set_cons_succ]
      refine wpAnyH_take (i := 8) (oi := { dst := some 22, op := Go.Op.move (Go.Operand.tmp 0), type := 24, pos := "slices.go:485", after := #[], guard := none }) (v := ?v8) rfl (by kernel_rfl) (by kernel_rfl) (by kernel_rfl) (fun _ _ _ h => h) (Or.inl ⟨by rfl, ?hy8⟩) (by assumption) ?rest8
      case hy8 => (intro w hSw; (try dsimp only at hSw); go_simp <;> with_reducible rfl)
      try simp only [Act.put, List.setIfInBounds_toArray, List.set_cons_zero, List.set_cons_succ]
      refine wpAnyH_take (i := 9) (oi := { dst := some 23, op := Go.Op.move (Go.Operand.tmp 2), type := 3, pos := "slices.go:485", after := #[], guard := none }) (v := ?v9) rfl (by kernel_rfl) (by kernel_rfl) (by kernel_rfl) (fun _ _ _ h => h) (Or.inl ⟨by rfl, ?hy9⟩) (by assumption) ?rest9
      case hy9 => (intro w hSw; (try dsimp only at hSw); go_simp <;> with_reducible rfl)
      try simp only [Act.put, List.setIfInBounds_toArray, List.set_cons_zero, List.set_cons_succ]
      refine wpAnyH_take (i := 10) (oi := { dst := some 24, op := Go.Op.indexAddr 24 (Go.Operand.tmp 22) (Go.Operand.tmp 23), type := 0, pos := "slices.go:485", after := #[{ on := 8, ground := Go.Ground.data }, { on := 9, ground := Go.Ground.data }], guard := none }) (v := ?v10) rfl (by kernel_rfl) (by kernel_rfl) (by kernel_rfl) (fun _ _ _ h => h) (Or.inl ⟨by rfl, ?hy10⟩) (by assumption) ?rest10
      case hy10 => (intro w hSw; (try dsimp only at hSw); go_simp <;> with_reducible rfl)
      try simp only [Act.put, List.setIfInBounds_toArray, List.set_cons_zero, List.set_cons_succ]
      refine wpAnyH_ready (rs := [7, 11]) (by kernel_rfl) (by simp) ?_
      refine AllReadyH.cons (o := { dst := some 21, op := Go.Op.load 2 (Go.Operand.tmp 20), type := 2, pos := "slices.go:485", after := #[{ on := 6, ground := Go.Ground.data }], guard := none }) rfl (fun K hK => ?_) ?_
      ·
        go_simp
        refine hK.out _ _ ?_ (fun hHeld2 => ?_)
        · (try dsimp only); (try trivial)
        clear hK K hHeld
        have hHeld := hHeld2
        clear hHeld2
        try simp only [Act.put, List.setIfInBounds_toArray, List.set_cons_zero, List.set_cons_succ]
        refine wpAnyH_ready (rs := [11]) (by kernel_rfl) (by simp) ?_
        refine AllReadyH.cons (o := { dst := some 25, op := Go.Op.load 2 (Go.Operand.tmp 24), type := 2, pos := "slices.go:485", after := #[{ on := 10, ground := Go.Ground.data }], guard := none }) rfl (fun K hK => ?_) AllReadyH.nil
        go_simp
        refine hK.out _ _ ?_ (fun hHeld2 => ?_)
        · (try dsimp only); (try trivial)
        clear hK K hHeld
        have hHeld := hHeld2
        clear hHeld2
        try simp only [Act.put, List.setIfInBounds_toArray, List.set_cons_zero, List.set_cons_succ]
        refine wpAnyH_take (i := 12) (oi := { dst := some 26, op := Go.Op.indexAddr 24 (Go.Operand.tmp 14) (Go.Operand.tmp 15), type := 0, pos := "slices.go:485", after := #[{ on := 0, ground := Go.Ground.data }, { on := 1, ground := Go.Ground.data }, { on := 0, ground := Go.Ground.phase }, { on := 1, ground := Go.Ground.phase }, { on := 2, ground := Go.Ground.textOnly Go.Departure.lateStores }, { on := 3, ground := Go.Ground.textOnly Go.Departure.lateStores }, { on := 4, ground := Go.Ground.phase }, { on := 5, ground := Go.Ground.phase }, { on := 6, ground := Go.Ground.phase }, { on := 7, ground := Go.Ground.phase }, { on := 8, ground := Go.Ground.textOnly Go.Departure.lateStores }, { on := 9, ground := Go.Ground.textOnly Go.Departure.lateStores }, { on := 10, ground := Go.Ground.textOnly Go.Departure.lateStoresUnsure }, { on := 11, ground := Go.Ground.phase }], guard := none }) (v := ?v11) rfl (by kernel_rfl) (by kernel_rfl) (by kernel_rfl) (fun _ _ _ h => h) (Or.inl ⟨by rfl, ?hy11⟩) (by assumption) ?rest11
        case hy11 => (intro w hSw; (try dsimp only at hSw); go_simp <;> with_reducible rfl)
        try simp only [Act.put, List.setIfInBounds_toArray, List.set_cons_zero, List.set_cons_succ]
        refine wpAnyH_ready (rs := [13]) (by kernel_rfl) (by simp) ?_
        refine AllReadyH.cons (o := { dst := none, op := Go.Op.store 2 (Go.Operand.tmp 26) (Go.Operand.tmp 21), type := 0, pos := "slices.go:485", after := #[{ on := 12, ground := Go.Ground.data }, { on := 7, ground := Go.Ground.data }, { on := 0, ground := Go.Ground.phase }, { on := 1, ground := Go.Ground.phase }, { on := 2, ground := Go.Ground.textOnly Go.Departure.lateStores }, { on := 3, ground := Go.Ground.textOnly Go.Departure.lateStores }, { on := 4, ground := Go.Ground.phase }, { on := 5, ground := Go.Ground.phase }, { on := 6, ground := Go.Ground.phase }, { on := 7, ground := Go.Ground.phase }, { on := 8, ground := Go.Ground.textOnly Go.Departure.lateStores }, { on := 9, ground := Go.Ground.textOnly Go.Departure.lateStores }, { on := 10, ground := Go.Ground.textOnly Go.Departure.lateStoresUnsure }, { on := 11, ground := Go.Ground.phase }], guard := none }) rfl (fun K hK => ?_) AllReadyH.nil
        go_simp
        refine hK.out _ _ ?_ (fun hHeld2 => ?_)
        · (try dsimp only); (try trivial)
        clear hK K hHeld
        have hHeld := hHeld2
        clear hHeld2
        try simp only [Act.put, List.setIfInBounds_toArray, List.set_cons_zero, List.set_cons_succ]
        refine wpAnyH_take (i := 14) (oi := { dst := some 27, op := Go.Op.indexAddr 24 (Go.Operand.tmp 16) (Go.Operand.tmp 17), type := 0, pos := "slices.go:485", after := #[{ on := 2, ground := Go.Ground.data }, { on := 3, ground := Go.Ground.data }, { on := 0, ground := Go.Ground.phase }, { on := 1, ground := Go.Ground.phase }, { on := 2, ground := Go.Ground.phase }, { on := 3, ground := Go.Ground.phase }, { on := 4, ground := Go.Ground.phase }, { on := 5, ground := Go.Ground.phase }, { on := 6, ground := Go.Ground.phase }, { on := 7, ground := Go.Ground.phase }, { on := 8, ground := Go.Ground.phase }, { on := 9, ground := Go.Ground.phase }, { on := 10, ground := Go.Ground.phase }, { on := 11, ground := Go.Ground.phase }, { on := 12, ground := Go.Ground.phase }, { on := 13, ground := Go.Ground.phase }], guard := none }) (v := ?v12) rfl (by kernel_rfl) (by kernel_rfl) (by kernel_rfl) (fun _ _ _ h => h) (Or.inl ⟨by rfl, ?hy12⟩) (by assumption) ?rest12
        case hy12 => (intro w hSw; (try dsimp only at hSw); go_simp <;> with_reducible rfl)
        try simp only [Act.put, List.setIfInBounds_toArray, List.set_cons_zero, List.set_cons_succ]
        refine wpAnyH_ready (rs := [15]) (by kernel_rfl) (by simp) ?_
        refine AllReadyH.cons (o := { dst := none, op := Go.Op.store 2 (Go.Operand.tmp 27) (Go.Operand.tmp 25), type := 0, pos := "slices.go:485", after := #[{ on := 14, ground := Go.Ground.data }, { on := 11, ground := Go.Ground.data }, { on := 13, ground := Go.Ground.chain }, { on := 0, ground := Go.Ground.phase }, { on := 1, ground := Go.Ground.phase }, { on := 2, ground := Go.Ground.phase }, { on := 3, ground := Go.Ground.phase }, { on := 4, ground := Go.Ground.phase }, { on := 5, ground := Go.Ground.phase }, { on := 6, ground := Go.Ground.phase }, { on := 7, ground := Go.Ground.phase }, { on := 8, ground := Go.Ground.phase }, { on := 9, ground := Go.Ground.phase }, { on := 10, ground := Go.Ground.phase }, { on := 11, ground := Go.Ground.phase }, { on := 12, ground := Go.Ground.phase }, { on := 13, ground := Go.Ground.phase }], guard := none }) rfl (fun K hK => ?_) AllReadyH.nil
        have r2' := hr2.out
        go_simp
        refine hK.out _ _ ?_ (fun hHeld2 => ?_)
        · (try dsimp only); (try trivial)
        clear hK K hHeld
        have hHeld := hHeld2
        clear hHeld2
        try simp only [Act.put, List.setIfInBounds_toArray, List.set_cons_zero, List.set_cons_succ]
        refine wpAnyH_done (by kernel_rfl) ?_ _
        refine NoPanic.normal ?_
        go_wp2
        go_roundw
        case rel => exact ⟨k + 1, rfl, hj2.out, by have := hkn.out; omega, hV2.out, hg2.out⟩
        case measure => have := hqe.out; have := hkn.out; simp [intOf]; omega
      refine AllReadyH.cons (o := { dst := some 25, op := Go.Op.load 2 (Go.Operand.tmp 24), type := 2, pos := "slices.go:485", after := #[{ on := 10, ground := Go.Ground.data }], guard := none }) rfl (fun K hK => ?_) ?_
      ·
        go_simp
        refine hK.out _ _ ?_ (fun hHeld2 => ?_)
        · (try dsimp only); (try trivial)
        clear hK K hHeld
        have hHeld := hHeld2
        clear hHeld2
        try simp only [Act.put, List.setIfInBounds_toArray, List.set_cons_zero, List.set_cons_succ]
        refine wpAnyH_ready (rs := [7]) (by kernel_rfl) (by simp) ?_
        refine AllReadyH.cons (o := { dst := some 21, op := Go.Op.load 2 (Go.Operand.tmp 20), type := 2, pos := "slices.go:485", after := #[{ on := 6, ground := Go.Ground.data }], guard := none }) rfl (fun K hK => ?_) AllReadyH.nil
        go_simp
        refine hK.out _ _ ?_ (fun hHeld2 => ?_)
        · (try dsimp only); (try trivial)
        clear hK K hHeld
        have hHeld := hHeld2
        clear hHeld2
        try simp only [Act.put, List.setIfInBounds_toArray, List.set_cons_zero, List.set_cons_succ]
        refine wpAnyH_take (i := 12) (oi := { dst := some 26, op := Go.Op.indexAddr 24 (Go.Operand.tmp 14) (Go.Operand.tmp 15), type := 0, pos := "slices.go:485", after := #[{ on := 0, ground := Go.Ground.data }, { on := 1, ground := Go.Ground.data }, { on := 0, ground := Go.Ground.phase }, { on := 1, ground := Go.Ground.phase }, { on := 2, ground := Go.Ground.textOnly Go.Departure.lateStores }, { on := 3, ground := Go.Ground.textOnly Go.Departure.lateStores }, { on := 4, ground := Go.Ground.phase }, { on := 5, ground := Go.Ground.phase }, { on := 6, ground := Go.Ground.phase }, { on := 7, ground := Go.Ground.phase }, { on := 8, ground := Go.Ground.textOnly Go.Departure.lateStores }, { on := 9, ground := Go.Ground.textOnly Go.Departure.lateStores }, { on := 10, ground := Go.Ground.textOnly Go.Departure.lateStoresUnsure }, { on := 11, ground := Go.Ground.phase }], guard := none }) (v := ?v13) rfl (by kernel_rfl) (by kernel_rfl) (by kernel_rfl) (fun _ _ _ h => h) (Or.inl ⟨by rfl, ?hy13⟩) (by assumption) ?rest13
        case hy13 => (intro w hSw; (try dsimp only at hSw); go_simp <;> with_reducible rfl)
        try simp only [Act.put, List.setIfInBounds_toArray, List.set_cons_zero, List.set_cons_succ]
        refine wpAnyH_ready (rs := [13]) (by kernel_rfl) (by simp) ?_
        refine AllReadyH.cons (o := { dst := none, op := Go.Op.store 2 (Go.Operand.tmp 26) (Go.Operand.tmp 21), type := 0, pos := "slices.go:485", after := #[{ on := 12, ground := Go.Ground.data }, { on := 7, ground := Go.Ground.data }, { on := 0, ground := Go.Ground.phase }, { on := 1, ground := Go.Ground.phase }, { on := 2, ground := Go.Ground.textOnly Go.Departure.lateStores }, { on := 3, ground := Go.Ground.textOnly Go.Departure.lateStores }, { on := 4, ground := Go.Ground.phase }, { on := 5, ground := Go.Ground.phase }, { on := 6, ground := Go.Ground.phase }, { on := 7, ground := Go.Ground.phase }, { on := 8, ground := Go.Ground.textOnly Go.Departure.lateStores }, { on := 9, ground := Go.Ground.textOnly Go.Departure.lateStores }, { on := 10, ground := Go.Ground.textOnly Go.Departure.lateStoresUnsure }, { on := 11, ground := Go.Ground.phase }], guard := none }) rfl (fun K hK => ?_) AllReadyH.nil
        go_simp
        refine hK.out _ _ ?_ (fun hHeld2 => ?_)
        · (try dsimp only); (try trivial)
        clear hK K hHeld
        have hHeld := hHeld2
        clear hHeld2
        try simp only [Act.put, List.setIfInBounds_toArray, List.set_cons_zero, List.set_cons_succ]
        refine wpAnyH_take (i := 14) (oi := { dst := some 27, op := Go.Op.indexAddr 24 (Go.Operand.tmp 16) (Go.Operand.tmp 17), type := 0, pos := "slices.go:485", after := #[{ on := 2, ground := Go.Ground.data }, { on := 3, ground := Go.Ground.data }, { on := 0, ground := Go.Ground.phase }, { on := 1, ground := Go.Ground.phase }, { on := 2, ground := Go.Ground.phase }, { on := 3, ground := Go.Ground.phase }, { on := 4, ground := Go.Ground.phase }, { on := 5, ground := Go.Ground.phase }, { on := 6, ground := Go.Ground.phase }, { on := 7, ground := Go.Ground.phase }, { on := 8, ground := Go.Ground.phase }, { on := 9, ground := Go.Ground.phase }, { on := 10, ground := Go.Ground.phase }, { on := 11, ground := Go.Ground.phase }, { on := 12, ground := Go.Ground.phase }, { on := 13, ground := Go.Ground.phase }], guard := none }) (v := ?v14) rfl (by kernel_rfl) (by kernel_rfl) (by kernel_rfl) (fun _ _ _ h => h) (Or.inl ⟨by rfl, ?hy14⟩) (by assumption) ?rest14
        case hy14 => (intro w hSw; (try dsimp only at hSw); go_simp <;> with_reducible rfl)
        try simp only [Act.put, List.setIfInBounds_toArray, List.set_cons_zero, List.set_cons_succ]
        refine wpAnyH_ready (rs := [15]) (by kernel_rfl) (by simp) ?_
        refine AllReadyH.cons (o := { dst := none, op := Go.Op.store 2 (Go.Operand.tmp 27) (Go.Operand.tmp 25), type := 0, pos := "slices.go:485", after := #[{ on := 14, ground := Go.Ground.data }, { on := 11, ground := Go.Ground.data }, { on := 13, ground := Go.Ground.chain }, { on := 0, ground := Go.Ground.phase }, { on := 1, ground := Go.Ground.phase }, { on := 2, ground := Go.Ground.phase }, { on := 3, ground := Go.Ground.phase }, { on := 4, ground := Go.Ground.phase }, { on := 5, ground := Go.Ground.phase }, { on := 6, ground := Go.Ground.phase }, { on := 7, ground := Go.Ground.phase }, { on := 8, ground := Go.Ground.phase }, { on := 9, ground := Go.Ground.phase }, { on := 10, ground := Go.Ground.phase }, { on := 11, ground := Go.Ground.phase }, { on := 12, ground := Go.Ground.phase }, { on := 13, ground := Go.Ground.phase }], guard := none }) rfl (fun K hK => ?_) AllReadyH.nil
        have r2' := hr2.out
        go_simp
        refine hK.out _ _ ?_ (fun hHeld2 => ?_)
        · (try dsimp only); (try trivial)
        clear hK K hHeld
        have hHeld := hHeld2
        clear hHeld2
        try simp only [Act.put, List.setIfInBounds_toArray, List.set_cons_zero, List.set_cons_succ]
        refine wpAnyH_done (by kernel_rfl) ?_ _
        refine NoPanic.normal ?_
        go_wp2
        go_roundw
        case rel => exact ⟨k + 1, rfl, hj2.out, by have := hkn.out; omega, hV2.out, hg2.out⟩
        case measure => have := hqe.out; have := hkn.out; simp [intOf]; omega
      exact AllReadyH.nil
    · have t1 : ((k : Int) < (n : Int) - 1 - (k : Int)) = False := by simp; omega
      rw [revN_end l k (by rw [hl.out]; omega)] at hV
      replace hV := Lib.hid hV
      replace hg := Lib.hid hg
      go_wp2
      (try go_end0)
      exact ⟨rfl, hV.out, hg.out⟩
end Go.Proofs.Ytkcmphjgflbchaa

/- 'Takes'. -/
namespace Go.Proofs.Ytkcmphjgflbchaa
open Go.RowKit
set_option linter.unusedVariables false
set_option linter.unusedSimpArgs false
attribute [local go_sem] cell_set set_set m_undef

/-- The memory behind k takings. -/
def popN (M : List UInt8) : Nat → List UInt8
  | 0 => M
  | k + 1 => popM (popN M k) 32 256 512
/-- What they took, the first one first. -/
def popsL (M : List UInt8) (k : Nat) : List Int := (List.range k).map fun j => peekV (popN M j) 32 256 512 0
theorem popsL_succ (M : List UInt8) (k : Nat) : popsL M (k + 1) = popsL M k ++ [peekV (popN M k) 32 256 512 0] := by simp [popsL, List.range_succ]
theorem popsL_len (M : List UInt8) (k : Nat) : (popsL M k).length = k := by simp [popsL]
theorem popN_len (M : List UInt8) (h : M.length = 8192) (k : Nat) : (popN M k).length = 8192 := by
  induction k with
  | zero => exact h
  | succ k ih => exact popM_len _ _ _ _ ih
def takesN (n : Int) : Nat := (max n 0).toNat
def takesM (M : List UInt8) (n : Int) : List UInt8 := if depL M 32 256 512 < n then M else popN M (takesN n)
def takesT (M : List UInt8) (n : Int) : Int := if depL M 32 256 512 < n then -4 else 0
def takesL (M : List UInt8) (n : Int) : List Int := if depL M 32 256 512 < n then [] else (popsL M (takesN n)).reverse
/-- 'Takes': what it gives. -/
def TakesP (w w' : World) (B mb : Nat) (M : List UInt8) (O : Nat → Prop) (n : Int) (e : Ending) : Prop :=
  MemX w w' B mb O (fun v : Value => .tuple #[v, .int .i64 (takesT M n)]) (fun _ => takesM M n) (fun v => .vsN w.heap.size 1 v (takesL M n).length (ic (takesL M n))) e
set_option maxRecDepth 100000 in
set_option maxHeartbeats 1600000 in
theorem kTakes {w : World} {B mb : Nat} {M : List UInt8} {O : Nat → Prop} (h : MemP w B mb M O) (hB : B ≤ w.heap.size) (n : Int) (hn : isI n) :
    Calls Try.prog 63 #[.pointer (some ⟨mb, 0, none⟩), .int .i64 n] w fun e w' => TakesP w w' B mb M O n e := by
  have hS := One.start h hB
  have hdb := (depL_bd (M := M) (show Sk 32 256 512 from by unfold Sk; omega))
  have hD := Lib.hid (fun (w9 : World) (O : Nat → Prop) (h : MemP w9 B mb M O) (hb : B ≤ w9.heap.size) => kDepth h hb)
  have hMk := Lib.hid (fun (w9 : World) => mdata w9 (some ⟨mb, 0, none⟩))
  unfold TakesP takesT takesM takesL
  generalize depL M 32 256 512 = d at *
  by_cases c1 : d < n
  · have t1 : (d < n) = True := by simp; exact c1
    simp only [if_pos c1]
    clear c1 hdb hn
    go_enter Try.func63, Try.ntmps63
    go_wp2_with (go_at_call 62; refine (hS.mem (fun O h hb => hD.out _ _ h hb)).mono ?_; rintro e w2 ⟨rfl, hS2⟩; clear hS; have hS := hS2; clear hS2)
    go_ret2
    obtain ⟨O', q1, q2, q3, q4⟩ := hS
    exact ⟨_, O', rfl, q1, q2, (Keep.vs (Vs.nil _ 0 1) (fun b hb => by cases hb)).vsN (fun b hb => by cases hb)⟩
  · have t1 : (d < n) = False := by simp; omega
    simp only [if_neg c1]
    obtain ⟨N, hN⟩ : ∃ N, N = takesN n := ⟨_, rfl⟩
    have hNn : (N : Int) = max n 0 := by rw [hN]; unfold takesN; omega
    have hN32 : N ≤ 32 := by omega
    rw [← hN]
    have hmx : max n 0 = (N : Int) := hNn.symm
    have hmx2 : (if n < 0 then (0 : Int) else n) = (N : Int) := by split <;> omega
    replace hNn := Lib.hid hNn
    replace hN := Lib.hid hN
    clear c1 hdb hn
    go_enter Try.func63, Try.ntmps63
    go_wp2_with (first
      | (go_at_call 62; refine (hS.mem (fun O h hb => hD.out _ _ h hb)).mono ?_; rintro e w2 ⟨rfl, hS2⟩; clear hS; have hS := hS2; clear hS2)
      | (go_at_call 79; refine (hS.still (hMk.out _)).mono ?_; rintro e w2 ⟨rfl, hS2⟩; clear hS; have hS := hS2; clear hS2))
    go_loopw [6, 19] (fun l i wr => ∃ (k : Nat), i = .int .i64 (k : Int) ∧ k ≤ N ∧ One w wr B mb (popN M k) O (Kp.emp.and (.vs 1 l k (ic (popsL M k)))) ∧ (∀ b, l.ownBlock = some b → w.heap.size ≤ b ∧ ¬ Kp.emp.S b)) (fun _ i _ => (N - (intOf i).toNat))
    case atStart => exact ⟨0, rfl, by omega, hS.keep (fun O h => h.and (Keep.vs (Vs.nil _ 0 1) (fun b hb => by cases hb))), fun b hb => by cases hb⟩
    case round =>
      obtain ⟨k, rfl, hk, hS, hown⟩ := hrel
      obtain ⟨ad, cap, rfl, hcap⟩ := hS.fact.2.form
      clear hcap
      by_cases hlt : k < N
      · have t2 : ((k : Int) < (N : Int)) = True := by simp; omega
        have wk : IntKind.i64.wrap ((k : Int) + 1) = ((k + 1 : Nat) : Int) := by rw [IntKind.wrap_i64]; omega
        obtain ⟨x, hx⟩ : ∃ x, x = peekV (popN M k) 32 256 512 0 := ⟨_, rfl⟩
        obtain ⟨y, hy⟩ : ∃ y, y = peekT (popN M k) 32 256 512 (-4) 0 := ⟨_, rfl⟩
        have hP := Lib.hid (fun (w9 : World) (O : Nat → Prop) (h : MemP w9 B mb (popN M k) O) (hb : B ≤ w9.heap.size) => mPop h hb 32 256 512 (-3) (-4) (by unfold Sk; omega) (by decide))
        rw [← hx, ← hy] at hP
        have hxe := Lib.hid hx
        clear hx hy
        go_upto_region 8 with (go_at_call 81; refine (hS.mem (fun O h hb => hP.out _ _ h hb)).mono ?_; rintro e w2 ⟨rfl, hS2⟩; clear hS; have hS := hS2; clear hS2)
        have hSa := hS.alloc (.cells #[.int .i64 x] 2)
        obtain ⟨v', w3, hr, hS4, hown4, hsz⟩ := One.appendVs (P := Try.prog) (ty := 24) hSa hown ((Vs.lit1 _ (.int .i64 x) _ rfl).src (t := 24) Try.underlying24) Try.underlying24 infoI rfl (by omega) (by omega) (by omega)
        obtain ⟨a', c', rfl, hcap'⟩ := hS4.fact.2.form
        have hT4 := Lib.hid (show One w w3 B mb (popN M (k + 1)) O (Kp.emp.and (.vs 1 (.slice a' (k + 1) c') (k + 1) (ic (popsL M (k + 1))))) from by
          have e : ic (popsL M k) ++ [Value.int .i64 x] = ic (popsL M (k + 1)) := by rw [popsL_succ, hxe.out]; simp [ic]
          rw [← e]; exact hS4)
        have hT5 := Lib.hid hown4
        clear hS hSa hS4 hown hown4 hcap' hsz hP
        replace hk := Lib.hid hk
        replace hlt := Lib.hid hlt
        go_wp2_with (at_builtin; refine wpList_append_bs rfl _ _ 24 rfl hr rfl rfl ?_)
        go_roundw
        case rel => exact ⟨k + 1, rfl, by have := hlt.out; omega, hT4.out, hT5.out⟩
        case measure => have := hlt.out; simp [intOf]; omega
      · have t2 : ((k : Int) < (N : Int)) = False := by simp; omega
        have hkN : k = N := by omega
        subst hkN
        have hRv := Lib.hid (fun (w9 : World) (h9 : Vs w9 0 1 (.slice ad k cap) k (ic (popsL M k))) => wReverse h9 (by omega))
        replace hown := Lib.hid hown
        clear hlt hk hMk hD
        go_wp2_with (go_at_call 82; refine (hRv.out _ hS.fact.2).mono ?_; rintro e w2 ⟨rfl, hV2, hg2⟩; have hS2 := hS.turnVs hown.out hV2 hg2; clear hS hV2 hg2; have hS := hS2; clear hS2)
        go_ret2
        obtain ⟨O', q1, q2, q3, q4⟩ := hS
        refine ⟨_, O', rfl, q1, q2, ?_⟩
        rw [List.length_reverse, popsL_len]
        exact q3.right.vsN (fun b hb => (hown.out b hb).1)
end Go.Proofs.Ytkcmphjgflbchaa

/- The reference's 'Takes'. -/
namespace Go.Proofs.Ytkcmphjgflbchaa
open Go.RowKit
set_option linter.unusedVariables false
set_option linter.unusedSimpArgs false
attribute [local go_sem] cell_set set_set m_undef

/-- The slice while it is filled from behind. -/
def fillL (M : List UInt8) (N k : Nat) : List Int := List.replicate (N - k) 0 ++ (popsL M k).reverse
theorem fillL_len (M : List UInt8) (N k : Nat) (h : k ≤ N) : (fillL M N k).length = N := by simp [fillL, popsL_len]; omega
theorem fillL_set (M : List UInt8) (N k : Nat) (h : k < N) : (fillL M N k).set (N - 1 - k) (peekV (popN M k) 32 256 512 0) = fillL M N (k + 1) := by
  unfold fillL
  rw [popsL_succ, List.reverse_append, List.reverse_cons, List.reverse_nil, List.nil_append]
  have e : N - k = (N - 1 - k) + 1 := by omega
  have e2 : N - (k + 1) = N - 1 - k := by omega
  rw [e, e2, List.replicate_succ', List.append_assoc, List.set_append_right _ _ (by simp)]
  simp
/-- The reference's 'Takes': what it gives. -/
def RTakesP (w w' : World) (B rb : Nat) (M : List UInt8) (O : Nat → Prop) (n : Int) (e : Ending) : Prop :=
  RefX w w' B rb O (fun v : Value => .tuple #[v, .int .i64 (takesT M n)]) (fun _ => takesM M n) (fun v => .vsN w.heap.size 1 v (takesL M n).length (ic (takesL M n))) e
set_option maxRecDepth 100000 in
set_option maxHeartbeats 1600000 in
theorem rTakes {w : World} {B rb : Nat} {M : List UInt8} {R : Nat → Prop} (h : RefP w B rb M R) (n : Int) (hn : isI n) :
    Calls Try.prog 38 #[.pointer (some ⟨rb, 0, none⟩), .int .i64 n] w fun e w' => RTakesP w w' B rb M R n e := by
  have hS := Onr.start h h.base_le
  have hdb := (depL_bd (M := M) (show Sk 32 256 512 from by unfold Sk; omega))
  have hD := Lib.hid (fun (w9 : World) (O : Nat → Prop) (h : RefP w9 B rb M O) => rDepth h)
  unfold RTakesP takesT takesM takesL
  generalize depL M 32 256 512 = d at *
  obtain ⟨N, hN⟩ : ∃ N, N = takesN n := ⟨_, rfl⟩
  have hNn : (N : Int) = max n 0 := by rw [hN]; unfold takesN; omega
  have hmx : max n 0 = (N : Int) := hNn.symm
  have hmx2 : (if n < 0 then (0 : Int) else n) = (N : Int) := by split <;> omega
  rw [← hN]
  by_cases c1 : d < n
  · have t1 : (d < (N : Int)) = True := by simp; omega
    simp only [if_pos c1]
    clear c1 hdb hn hNn hN
    go_enter Try.func38, Try.ntmps38
    go_wp2_with (go_at_call 34; refine (hS.read (fun O h => hD.out _ _ h)).mono ?_; rintro e w2 ⟨rfl, hS2⟩; clear hS; have hS := hS2; clear hS2)
    go_ret2
    obtain ⟨O', q1, q2, q3, q4⟩ := hS
    exact ⟨_, O', rfl, q1, q2, (Keep.vs (Vs.nil _ 0 1) (fun b hb => by cases hb)).vsN (fun b hb => by cases hb)⟩
  · have t1 : (d < (N : Int)) = False := by simp; omega
    simp only [if_neg c1]
    have hN32 : N ≤ 32 := by omega
    have w1 : IntKind.i64.wrap ((N : Int) - 1) = (N : Int) - 1 := by rw [IntKind.wrap_i64]; omega
    have hmk := fun w9 => run_madeI w9 N (by omega)
    clear c1 hdb hn hNn hN
    go_enter Try.func38, Try.ntmps38
    go_upto_region 5 with (go_at_call 34; refine (hS.read (fun O h => hD.out _ _ h)).mono ?_; rintro e w2 ⟨rfl, hS2⟩; clear hS; have hS := hS2; clear hS2)
    have hS3 := hS.new (ic (List.replicate N 0)).toArray 2
    have hsz := Lib.hid hS.size
    obtain ⟨w3, hw3⟩ : ∃ w3, w3 = w2.alloc (.cells (ic (List.replicate N 0)).toArray 2) := ⟨_, rfl⟩
    rw [← hw3] at hS3 ⊢
    have hS4 : Onr w w3 B rb M R (Kp.emp.and (.vs 1 (.slice (some ⟨w2.heap.size, 0, none⟩) N N) N (ic (fillL M N 0)))) := hS3.keep fun O h => (Keep.emp _ _).and (Keep.vs (Vs.of_blk (B := 0) h.right.1 (by rw [ic_len, fillL_len _ _ _ (by omega)]; omega) (by simp [ic]) (Nat.le_refl _) (fun j u hj => by simpa [fillL, popsL] using hj) (fun u hu => by obtain ⟨x, _, rfl⟩ := List.mem_map.1 hu; rfl) (Nat.zero_le _)) (fun b hb => by cases hb; exact (h.right.2 _ rfl).2))
    clear hS hS3 hw3 hmk
    go_wp2
    go_loopw [7] (fun i wr => ∃ (k : Nat), i = .int .i64 ((N : Int) - 1 - (k : Int)) ∧ k ≤ N ∧ Onr w wr B rb (popN M k) R (Kp.emp.and (.vs 1 (.slice (some ⟨w2.heap.size, 0, none⟩) N N) N (ic (fillL M N k))))) (fun i _ => (intOf i + 1).toNat)
    case atStart => exact ⟨0, by simp, by omega, hS4⟩
    case round =>
      obtain ⟨k, rfl, hk, hS⟩ := hrel
      clear hS4
      by_cases hlt : k < N
      · obtain ⟨q, hq⟩ : ∃ q : Nat, q + k + 1 = N := ⟨N - 1 - k, by omega⟩
        have eq : (N : Int) - 1 - (k : Int) = (q : Int) := by omega
        rw [eq]
        have t2 : ((0 : Int) ≤ (q : Int)) = True := by simp
        have b1 : (0 : Int) ≤ (q : Int) := by omega
        have b2 : (q : Int) < (N : Int) := by omega
        have wq : IntKind.i64.wrap ((q : Int) - 1) = (q : Int) - 1 := by rw [IntKind.wrap_i64]; omega
        have hj2 := Lib.hid (show Value.int .i64 ((q : Int) - 1) = .int .i64 ((N : Int) - 1 - ((k + 1 : Nat) : Int)) by congr 1; omega)
        obtain ⟨x, hx⟩ : ∃ x, x = peekV (popN M k) 32 256 512 0 := ⟨_, rfl⟩
        obtain ⟨y, hy⟩ : ∃ y, y = peekT (popN M k) 32 256 512 (-4) 0 := ⟨_, rfl⟩
        have hP := Lib.hid (fun (w9 : World) (O : Nat → Prop) (h : RefP w9 B rb (popN M k) O) => rPop h)
        rw [← hx, ← hy] at hP
        have hfs := fillL_set M N k hlt
        rw [← hx, show N - 1 - k = q by omega] at hfs
        have hfl := fillL_len M N k hk
        generalize fillL M N k = L at *
        replace hfs := Lib.hid hfs
        have hqe := Lib.hid hq
        replace hk := Lib.hid hk
        replace hlt := Lib.hid hlt
        obtain ⟨z, hz⟩ : ∃ z, L[q]? = some z := ⟨_, List.getElem?_eq_getElem (by omega)⟩
        replace hz := Lib.hid hz
        clear hx hy hq eq hfl
        go_upto_region 7 with (go_at_call 68; refine (hS.ref (fun O h hb => hP.out _ _ h)).mono ?_; rintro e w4 ⟨rfl, hS2⟩; clear hS; have hS := hS2; clear hS2; have s1 := hS.fact.2.cell q (.int .i64 z) (by unfold ic; rw [List.getElem?_map, hz.out]; rfl); have s2 := hS.fact.2.free q (by have := hqe.out; omega); rw [Nat.zero_add] at s1 s2)
        have hV2 := hS.fact.2.setAt q (.int .i64 x) (by have := hqe.out; omega) rfl
        rw [ic_set, hfs.out, Nat.zero_add] at hV2
        have hS5 := Lib.hid (hS.turnVs (fun b hb => by cases hb; exact ⟨hsz.out, fun h => h.elim⟩) hV2 (grownBy_setCell w4 w2.heap.size q (.int .i64 x)))
        clear hS hV2 hP
        go_wp2
        go_roundw
        case rel => exact ⟨k + 1, hj2.out, by have := hlt.out; omega, hS5.out⟩
        case measure => simp [intOf]
      · have hkN : k = N := by omega
        subst hkN
        have t2 : ((0 : Int) ≤ (k : Int) - 1 - (k : Int)) = False := by simp; omega
        clear hlt hk hD
        go_wp2
        go_ret2
        obtain ⟨O', q1, q2, q3, q4⟩ := hS
        refine ⟨_, O', rfl, q1, q2, ?_⟩
        rw [List.length_reverse, popsL_len]
        have e : fillL M k k = (popsL M k).reverse := by simp [fillL]
        rw [← e]
        exact q3.right.vsN (fun b hb => by cases hb; exact hsz.out)
end Go.Proofs.Ytkcmphjgflbchaa

/- 'Lays'. -/
namespace Go.Proofs.Ytkcmphjgflbchaa
open Go.RowKit
set_option linter.unusedVariables false
set_option linter.unusedSimpArgs false
attribute [local go_sem] cell_set set_set m_undef

def pushAll (M : List UInt8) (l : List Int) : List UInt8 := l.foldl (fun M n => pushM M 32 256 512 n) M
theorem foldl_take {α β : Type} (f : β → α → β) (M : β) (l : List α) (k : Nat) (x : α) (h : l[k]? = some x) : (l.take (k + 1)).foldl f M = f ((l.take k).foldl f M) x := by
  rw [List.take_add_one, h, List.foldl_append]
  simp only [Option.toList, List.foldl]
theorem pushAll_take (M : List UInt8) (l : List Int) (k : Nat) (x : Int) (h : l[k]? = some x) : pushAll M (l.take (k + 1)) = pushM (pushAll M (l.take k)) 32 256 512 x :=
  foldl_take (fun M n => pushM M 32 256 512 n) M l k x h
theorem pushAll_zero (M : List UInt8) (l : List Int) : pushAll M (l.take 0) = M := rfl
attribute [local irreducible] pushM pushAll setM layL
def laysT (M : List UInt8) (l : List Int) : Int := if 32 - depL M 32 256 512 < (l.length : Int) then -3 else 0
def laysM (M : List UInt8) (l : List Int) : List UInt8 := if 32 - depL M 32 256 512 < (l.length : Int) then M else pushAll M l
set_option maxRecDepth 100000 in
set_option maxHeartbeats 1600000 in
theorem kLays {w : World} {B mb : Nat} {M : List UInt8} {O : Nat → Prop} (h : MemP w B mb M O) (hB : B ≤ w.heap.size) {v : Value} {l : List Int} (hK : Keep w O (.rv 1 v l.length (ic l))) :
    Calls Try.prog 66 #[.pointer (some ⟨mb, 0, none⟩), v] w fun e w' => MemQ w w' B mb (laysM M l) O (.int .i64 (laysT M l)) e := by
  obtain ⟨ad, cap, rfl⟩ := Rv.form hK.1
  have hS := One.startK h hB hK
  obtain ⟨b1, b2, b3, b4, b5, b6, b7, b8, b9⟩ := topL_bd (M := M) (show Sk 32 256 512 from by unfold Sk; omega)
  have hd := (depL_bd (M := M) (show Sk 32 256 512 from by unfold Sk; omega))
  have hMk := Lib.hid (fun (w9 : World) => mdata w9 (some ⟨mb, 0, none⟩))
  have hTp := Lib.hid (fun (w9 : World) (O : Nat → Prop) (h : MemP w9 B mb M O) (hb : B ≤ w9.heap.size) => mTop h hb 32 256 512 (-3) (-4) (by unfold Sk; omega))
  unfold laysT laysM
  generalize topL M 32 256 512 = t at *
  generalize depL M 32 256 512 = d at *
  have wd : IntKind.i64.wrap (t - 256) = t - 256 := by rw [IntKind.wrap_i64]; omega
  obtain ⟨fr, hfr⟩ : ∃ fr, fr = (t - 256) / 8 := ⟨_, rfl⟩
  have hq : (t - 256) / 8 = fr := hfr.symm
  have hfd : fr = 32 - d := by omega
  rw [← hfd]
  have hf0 : 0 ≤ fr := by omega
  have hl32 := Lib.hid (show 32 < (l.length : Int) → fr < (l.length : Int) by omega)
  replace hfr := Lib.hid hfr
  replace hfd := Lib.hid hfd
  clear b1 b2 b3 b4 b5 b6 b7 b8 b9 hd h hK
  by_cases c0 : l.length = 0
  · have t0 : (0 < l.length) = False := by simp; exact List.eq_nil_of_length_eq_zero c0
    rw [if_neg (by omega), if_neg (by omega)]
    have hl : l.length ≤ 1000000 := by omega
    clear c0
    go_enter Try.func66, Try.ntmps66
    go_upto_region 2 with (go_at_call 79; refine (hS.still (hMk.out _)).mono ?_; rintro e w1 ⟨rfl, hS2⟩; clear hS; have hS := hS2; clear hS2)
    have hS2 := hS.new #[.pointer (some ⟨mb, 0, none⟩), .int .i64 32, .int .i64 256, .int .i64 512, .int .i64 (-3), .int .i64 (-4)] 118
    obtain ⟨b0, hb0⟩ : ∃ b0, b0 = w1.heap.size := ⟨_, rfl⟩
    obtain ⟨w3, hw3⟩ : ∃ w3, w3 = w1.alloc (.cells #[.pointer (some ⟨mb, 0, none⟩), .int .i64 32, .int .i64 256, .int .i64 512, .int .i64 (-3), .int .i64 (-4)] 118) := ⟨_, rfl⟩
    rw [← hw3, ← hb0] at hS2 ⊢
    clear hS hw3 hb0
    have hS := hS2
    clear hS2
    obtain ⟨y1, y2, y3, y4, y5, y6⟩ := hS.fact.2.c6
    replace hS := hS.drew
    refine wp_region_noPanic ?_
    refine wp_region_held_drew (S := (fun w' => One w w' B mb M O ((Kp.rv 1 (.slice ad l.length cap) l.length (ic l)).and (.blk b0 #[.pointer (some ⟨mb, 0, none⟩), .int .i64 32, .int .i64 256, .int .i64 512, .int .i64 (-3), .int .i64 (-4)] 118)))) (by kernel_rfl) ?_ (fun hHeld => ?_)
    · (try dsimp only); exact hS
    refine wpAnyH_take (i := 0) (oi := { dst := some 11, op := Go.Op.move (Go.Operand.tmp 1), type := 24, pos := "stack.go:113", after := #[], guard := none }) (v := ?v1) rfl (by kernel_rfl) (by kernel_rfl) (by kernel_rfl) (fun _ _ _ h => h) (Or.inl ⟨by rfl, ?hy1⟩) (by assumption) ?rest1
    case hy1 => (intro w hSw; (try dsimp only at hSw); obtain ⟨y1, y2, y3, y4, y5, y6⟩ := (One.fact hSw).2.c6; go_simp <;> with_reducible rfl)
    try simp only [Act.put, List.setIfInBounds_toArray, List.set_cons_zero, List.set_cons_succ]
    refine wpAnyH_take (i := 1) (oi := { dst := some 12, op := Go.Op.call { callee := Go.Callee.builtin Go.Builtin.len, args := #[Go.Operand.tmp 11], argTypes := #[24] }, type := 3, pos := "stack.go:113", after := #[{ on := 0, ground := Go.Ground.data }], guard := none }) (v := ?v2) rfl (by kernel_rfl) (by kernel_rfl) (by kernel_rfl) (fun _ _ _ h => h) (Or.inl ⟨by rfl, ?hy2⟩) (by assumption) ?rest2
    case hy2 => (intro w hSw; (try dsimp only at hSw); obtain ⟨y1, y2, y3, y4, y5, y6⟩ := (One.fact hSw).2.c6; go_simp <;> with_reducible rfl)
    try simp only [Act.put, List.setIfInBounds_toArray, List.set_cons_zero, List.set_cons_succ]
    refine wpAnyH_take (i := 2) (oi := { dst := some 13, op := Go.Op.binOp Go.BinOp.gtr 3 (Go.Operand.tmp 12) (Go.Operand.const (Go.Value.int Go.IntKind.i64 0)) 3, type := 4, pos := "stack.go:113", after := #[{ on := 1, ground := Go.Ground.data }], guard := none }) (v := ?v3) rfl (by kernel_rfl) (by kernel_rfl) (by kernel_rfl) (fun _ _ _ h => h) (Or.inl ⟨by rfl, ?hy3⟩) (by assumption) ?rest3
    case hy3 => (intro w hSw; (try dsimp only at hSw); obtain ⟨y1, y2, y3, y4, y5, y6⟩ := (One.fact hSw).2.c6; go_simp <;> with_reducible rfl)
    try simp only [Act.put, List.setIfInBounds_toArray, List.set_cons_zero, List.set_cons_succ]
    refine wpAnyH_take (i := 3) (oi := { dst := some 14, op := Go.Op.move (Go.Operand.tmp 13), type := 4, pos := "stack.go:113", after := #[{ on := 2, ground := Go.Ground.data }], guard := none }) (v := ?v4) rfl (by kernel_rfl) (by kernel_rfl) (by kernel_rfl) (fun _ _ _ h => h) (Or.inl ⟨by rfl, ?hy4⟩) (by assumption) ?rest4
    case hy4 => (intro w hSw; (try dsimp only at hSw); obtain ⟨y1, y2, y3, y4, y5, y6⟩ := (One.fact hSw).2.c6; go_simp <;> with_reducible rfl)
    try simp only [Act.put, List.setIfInBounds_toArray, List.set_cons_zero, List.set_cons_succ]
    refine wpAnyH_take (i := 4) (oi := { dst := some 15, op := Go.Op.move (Go.Operand.tmp 0), type := 26, pos := "stack.go:113", after := #[{ on := 3, ground := Go.Ground.guard }], guard := some (3, true) }) (v := undef) rfl (by kernel_rfl) (by kernel_rfl) (by kernel_rfl) (fun _ _ _ h => h) (Or.inr ⟨by rfl, rfl⟩) (by assumption) ?_
    try simp only [Act.put, List.setIfInBounds_toArray, List.set_cons_zero, List.set_cons_succ]
    refine wpAnyH_take (i := 5) (oi := { dst := some 16, op := Go.Op.binOp Go.BinOp.eql 26 (Go.Operand.tmp 15) (Go.Operand.const (Go.Value.pointer none)) 26, type := 4, pos := "stack.go:113", after := #[{ on := 4, ground := Go.Ground.data }, { on := 3, ground := Go.Ground.guard }], guard := some (3, true) }) (v := undef) rfl (by kernel_rfl) (by kernel_rfl) (by kernel_rfl) (fun _ _ _ h => h) (Or.inr ⟨by rfl, rfl⟩) (by assumption) ?_
    try simp only [Act.put, List.setIfInBounds_toArray, List.set_cons_zero, List.set_cons_succ]
    refine wpAnyH_take (i := 6) (oi := { dst := some 17, op := Go.Op.move (Go.Operand.tmp 16), type := 4, pos := "stack.go:113", after := #[{ on := 5, ground := Go.Ground.data }, { on := 3, ground := Go.Ground.chain }, { on := 3, ground := Go.Ground.guard }], guard := some (3, true) }) (v := undef) rfl (by kernel_rfl) (by kernel_rfl) (by kernel_rfl) (fun _ _ _ h => h) (Or.inr ⟨by rfl, rfl⟩) (by assumption) ?_
    try simp only [Act.put, List.setIfInBounds_toArray, List.set_cons_zero, List.set_cons_succ]
    refine wpAnyH_take (i := 7) (oi := { dst := some 18, op := Go.Op.move (Go.Operand.tmp 1), type := 24, pos := "stack.go:113", after := #[{ on := 6, ground := Go.Ground.guard }], guard := some (6, false) }) (v := undef) rfl (by kernel_rfl) (by kernel_rfl) (by kernel_rfl) (fun _ _ _ h => h) (Or.inr ⟨by rfl, rfl⟩) (by assumption) ?_
    try simp only [Act.put, List.setIfInBounds_toArray, List.set_cons_zero, List.set_cons_succ]
    refine wpAnyH_take (i := 8) (oi := { dst := some 19, op := Go.Op.call { callee := Go.Callee.builtin Go.Builtin.len, args := #[Go.Operand.tmp 18], argTypes := #[24] }, type := 3, pos := "stack.go:113", after := #[{ on := 7, ground := Go.Ground.data }, { on := 6, ground := Go.Ground.guard }], guard := some (6, false) }) (v := undef) rfl (by kernel_rfl) (by kernel_rfl) (by kernel_rfl) (fun _ _ _ h => h) (Or.inr ⟨by rfl, rfl⟩) (by assumption) ?_
    try simp only [Act.put, List.setIfInBounds_toArray, List.set_cons_zero, List.set_cons_succ]
    refine wpAnyH_take (i := 9) (oi := { dst := some 20, op := Go.Op.load 118 (Go.Operand.tmp 5), type := 118, pos := "stack.go:113", after := #[{ on := 6, ground := Go.Ground.guard }], guard := some (6, false) }) (v := undef) rfl (by kernel_rfl) (by kernel_rfl) (by kernel_rfl) (fun _ _ _ h => h) (Or.inr ⟨by rfl, rfl⟩) (by assumption) ?_
    try simp only [Act.put, List.setIfInBounds_toArray, List.set_cons_zero, List.set_cons_succ]
    refine wpAnyH_take (i := 10) (oi := { dst := some 21, op := Go.Op.call { callee := Go.Callee.value (Go.Operand.func 86), args := #[Go.Operand.tmp 20], argTypes := #[118] }, type := 3, pos := "stack.go:113", after := #[{ on := 9, ground := Go.Ground.data }, { on := 6, ground := Go.Ground.chain }, { on := 6, ground := Go.Ground.guard }], guard := some (6, false) }) (v := undef) rfl (by kernel_rfl) (by kernel_rfl) (by kernel_rfl) (fun _ _ _ h => h) (Or.inr ⟨by rfl, rfl⟩) (by assumption) ?_
    try simp only [Act.put, List.setIfInBounds_toArray, List.set_cons_zero, List.set_cons_succ]
    refine wpAnyH_take (i := 11) (oi := { dst := some 22, op := Go.Op.fieldAddr 118 (Go.Operand.tmp 5) 2, type := 0, pos := "stack.go:113", after := #[{ on := 6, ground := Go.Ground.guard }], guard := some (6, false) }) (v := undef) rfl (by kernel_rfl) (by kernel_rfl) (by kernel_rfl) (fun _ _ _ h => h) (Or.inr ⟨by rfl, rfl⟩) (by assumption) ?_
    try simp only [Act.put, List.setIfInBounds_toArray, List.set_cons_zero, List.set_cons_succ]
    refine wpAnyH_take (i := 12) (oi := { dst := some 23, op := Go.Op.load 3 (Go.Operand.tmp 22), type := 3, pos := "stack.go:113", after := #[{ on := 11, ground := Go.Ground.data }, { on := 6, ground := Go.Ground.guard }], guard := some (6, false) }) (v := undef) rfl (by kernel_rfl) (by kernel_rfl) (by kernel_rfl) (fun _ _ _ h => h) (Or.inr ⟨by rfl, rfl⟩) (by assumption) ?_
    try simp only [Act.put, List.setIfInBounds_toArray, List.set_cons_zero, List.set_cons_succ]
    refine wpAnyH_take (i := 13) (oi := { dst := some 24, op := Go.Op.binOp Go.BinOp.sub 3 (Go.Operand.tmp 21) (Go.Operand.tmp 23) 3, type := 3, pos := "stack.go:113", after := #[{ on := 10, ground := Go.Ground.data }, { on := 12, ground := Go.Ground.data }, { on := 6, ground := Go.Ground.guard }], guard := some (6, false) }) (v := undef) rfl (by kernel_rfl) (by kernel_rfl) (by kernel_rfl) (fun _ _ _ h => h) (Or.inr ⟨by rfl, rfl⟩) (by assumption) ?_
    try simp only [Act.put, List.setIfInBounds_toArray, List.set_cons_zero, List.set_cons_succ]
    refine wpAnyH_take (i := 14) (oi := { dst := some 25, op := Go.Op.binOp Go.BinOp.shr 3 (Go.Operand.tmp 24) (Go.Operand.const (Go.Value.int Go.IntKind.u64 3)) 125, type := 3, pos := "stack.go:113", after := #[{ on := 13, ground := Go.Ground.data }, { on := 6, ground := Go.Ground.guard }], guard := some (6, false) }) (v := undef) rfl (by kernel_rfl) (by kernel_rfl) (by kernel_rfl) (fun _ _ _ h => h) (Or.inr ⟨by rfl, rfl⟩) (by assumption) ?_
    try simp only [Act.put, List.setIfInBounds_toArray, List.set_cons_zero, List.set_cons_succ]
    refine wpAnyH_take (i := 15) (oi := { dst := some 26, op := Go.Op.binOp Go.BinOp.gtr 3 (Go.Operand.tmp 19) (Go.Operand.tmp 25) 3, type := 4, pos := "stack.go:113", after := #[{ on := 8, ground := Go.Ground.data }, { on := 14, ground := Go.Ground.data }, { on := 6, ground := Go.Ground.guard }], guard := some (6, false) }) (v := undef) rfl (by kernel_rfl) (by kernel_rfl) (by kernel_rfl) (fun _ _ _ h => h) (Or.inr ⟨by rfl, rfl⟩) (by assumption) ?_
    try simp only [Act.put, List.setIfInBounds_toArray, List.set_cons_zero, List.set_cons_succ]
    refine wpAnyH_take (i := 16) (oi := { dst := some 27, op := Go.Op.pick (Go.Operand.tmp 17) (Go.Operand.const (Go.Value.bool true)) (Go.Operand.tmp 26), type := 4, pos := "stack.go:113", after := #[{ on := 6, ground := Go.Ground.data }, { on := 15, ground := Go.Ground.data }, { on := 3, ground := Go.Ground.guard }], guard := some (3, true) }) (v := undef) rfl (by kernel_rfl) (by kernel_rfl) (by kernel_rfl) (fun _ _ _ h => h) (Or.inr ⟨by rfl, rfl⟩) (by assumption) ?_
    try simp only [Act.put, List.setIfInBounds_toArray, List.set_cons_zero, List.set_cons_succ]
    refine wpAnyH_take (i := 17) (oi := { dst := some 28, op := Go.Op.pick (Go.Operand.tmp 14) (Go.Operand.tmp 27) (Go.Operand.const (Go.Value.bool false)), type := 4, pos := "stack.go:113", after := #[{ on := 3, ground := Go.Ground.data }, { on := 16, ground := Go.Ground.data }], guard := none }) (v := ?v5) rfl (by kernel_rfl) (by kernel_rfl) (by kernel_rfl) (fun _ _ _ h => h) (Or.inl ⟨by rfl, ?hy5⟩) (by assumption) ?rest5
    case hy5 => (intro w hSw; (try dsimp only at hSw); obtain ⟨y1, y2, y3, y4, y5, y6⟩ := (One.fact hSw).2.c6; go_simp <;> with_reducible rfl)
    try simp only [Act.put, List.setIfInBounds_toArray, List.set_cons_zero, List.set_cons_succ]
    refine wpAnyH_done (by kernel_rfl) ?_ _
    refine NoPanic.normal ?_
    go_wp2
    go_loopw [35] (fun i wr => ∃ (k : Nat), i = .int .i64 (k : Int) ∧ k ≤ l.length ∧ One w wr B mb (pushAll M (l.take k)) O (Kp.rv 1 (.slice ad l.length cap) l.length (ic l))) (fun i _ => (l.length - (intOf i).toNat))
    case atStart => exact ⟨0, rfl, by omega, by rw [pushAll_zero]; exact hS.keep (fun O h => h.left)⟩
    case round =>
      obtain ⟨k, rfl, hk, hS⟩ := hrel
      by_cases hlt : k < l.length
      · have t2 : ((k : Int) < (l.length : Int)) = True := by simp; omega
        have b1 : (0 : Int) ≤ (k : Int) := by omega
        have wk : IntKind.i64.wrap ((k : Int) + 1) = ((k + 1 : Nat) : Int) := by rw [IntKind.wrap_i64]; omega
        obtain ⟨x, hx⟩ : ∃ x, l[k]? = some x := ⟨_, List.getElem?_eq_getElem hlt⟩
        obtain ⟨a2, he, hc⟩ : ∃ a2, ad = some a2 ∧ wr.cell? (a2.add k) = some (.int .i64 x) := by
          rcases hS.fact.2.2 with ⟨e, e2⟩ | ⟨a2, c2, e, hc⟩
          · omega
          · cases e
            exact ⟨a2, rfl, hc k _ (by unfold ic; rw [List.getElem?_map, hx]; rfl)⟩
        subst he
        have hP := Lib.hid (fun (w9 : World) (O : Nat → Prop) (h : MemP w9 B mb (pushAll M (l.take k)) O) (hb : B ≤ w9.heap.size) => mPush h hb 32 256 512 (-3) (-4) (by unfold Sk; omega) x)
        have hst := Lib.hid (show pushM (pushAll M (l.take k)) 32 256 512 x = pushAll M (l.take (k + 1)) from (pushAll_take M l k x hx).symm)
        rw [hst.out] at hP
        replace hlt := Lib.hid hlt
        clear hk hx
        go_wp2_with (go_at_call 87; refine (hS.mem (fun O h hb => hP.out _ _ h hb)).mono ?_; rintro e w4 ⟨rfl, hS2⟩; clear hS; have hS := hS2; clear hS2)
        go_roundw
        case rel => exact ⟨k + 1, rfl, hlt.out, hS⟩
        case measure => have := hlt.out; simp [intOf]; omega
      · have hkN : k = l.length := by omega
        subst hkN
        have t2 : ((l.length : Int) < (l.length : Int)) = False := by simp
        rw [List.take_length] at hS
        clear hlt hk
        go_wp2
        go_ret
        obtain ⟨O', q1, q2, q3, q4⟩ := hS
        exact ⟨rfl, O', q1, q2⟩
  · have t0 : (0 < l.length) = True := by simp only [eq_iff_iff, iff_true]; omega
    by_cases c1 : fr < (l.length : Int)
    · have t1 : (fr < (l.length : Int)) = True := by simp; exact c1
      rw [if_pos c1, if_pos c1]
      clear c0 c1
      go_enter Try.func66, Try.ntmps66
      go_upto_region 2 with (go_at_call 79; refine (hS.still (hMk.out _)).mono ?_; rintro e w1 ⟨rfl, hS2⟩; clear hS; have hS := hS2; clear hS2)
      have hS2 := hS.new #[.pointer (some ⟨mb, 0, none⟩), .int .i64 32, .int .i64 256, .int .i64 512, .int .i64 (-3), .int .i64 (-4)] 118
      obtain ⟨b0, hb0⟩ : ∃ b0, b0 = w1.heap.size := ⟨_, rfl⟩
      obtain ⟨w3, hw3⟩ : ∃ w3, w3 = w1.alloc (.cells #[.pointer (some ⟨mb, 0, none⟩), .int .i64 32, .int .i64 256, .int .i64 512, .int .i64 (-3), .int .i64 (-4)] 118) := ⟨_, rfl⟩
      rw [← hw3, ← hb0] at hS2 ⊢
      clear hS hw3 hb0
      have hS := hS2
      clear hS2
      obtain ⟨y1, y2, y3, y4, y5, y6⟩ := hS.fact.2.c6
      replace hS := hS.drew
      refine wp_region_noPanic ?_
      refine wp_region_held_drew (S := (fun w' => One w w' B mb M O ((Kp.rv 1 (.slice ad l.length cap) l.length (ic l)).and (.blk b0 #[.pointer (some ⟨mb, 0, none⟩), .int .i64 32, .int .i64 256, .int .i64 512, .int .i64 (-3), .int .i64 (-4)] 118)))) (by kernel_rfl) ?_ (fun hHeld => ?_)
      · (try dsimp only); exact hS
      refine wpAnyH_take (i := 0) (oi := { dst := some 11, op := Go.Op.move (Go.Operand.tmp 1), type := 24, pos := "stack.go:113", after := #[], guard := none }) (v := ?v6) rfl (by kernel_rfl) (by kernel_rfl) (by kernel_rfl) (fun _ _ _ h => h) (Or.inl ⟨by rfl, ?hy6⟩) (by assumption) ?rest6
      case hy6 => (intro w hSw; (try dsimp only at hSw); obtain ⟨y1, y2, y3, y4, y5, y6⟩ := (One.fact hSw).2.c6; go_simp <;> with_reducible rfl)
      try simp only [Act.put, List.setIfInBounds_toArray, List.set_cons_zero, List.set_cons_succ]
      refine wpAnyH_take (i := 1) (oi := { dst := some 12, op := Go.Op.call { callee := Go.Callee.builtin Go.Builtin.len, args := #[Go.Operand.tmp 11], argTypes := #[24] }, type := 3, pos := "stack.go:113", after := #[{ on := 0, ground := Go.Ground.data }], guard := none }) (v := ?v7) rfl (by kernel_rfl) (by kernel_rfl) (by kernel_rfl) (fun _ _ _ h => h) (Or.inl ⟨by rfl, ?hy7⟩) (by assumption) ?rest7
      case hy7 => (intro w hSw; (try dsimp only at hSw); obtain ⟨y1, y2, y3, y4, y5, y6⟩ := (One.fact hSw).2.c6; go_simp <;> with_reducible rfl)
      try simp only [Act.put, List.setIfInBounds_toArray, List.set_cons_zero, List.set_cons_succ]
      refine wpAnyH_take (i := 2) (oi := { dst := some 13, op := Go.Op.binOp Go.BinOp.gtr 3 (Go.Operand.tmp 12) (Go.Operand.const (Go.Value.int Go.IntKind.i64 0)) 3, type := 4, pos := "stack.go:113", after := #[{ on := 1, ground := Go.Ground.data }], guard := none }) (v := ?v8) rfl (by kernel_rfl) (by kernel_rfl) (by kernel_rfl) (fun _ _ _ h => h) (Or.inl ⟨by rfl, ?hy8⟩) (by assumption) ?rest8
      case hy8 => (intro w hSw; (try dsimp only at hSw); obtain ⟨y1, y2, y3, y4, y5, y6⟩ := (One.fact hSw).2.c6; go_simp <;> with_reducible rfl)
      try simp only [Act.put, List.setIfInBounds_toArray, List.set_cons_zero, List.set_cons_succ]
      refine wpAnyH_take (i := 3) (oi := { dst := some 14, op := Go.Op.move (Go.Operand.tmp 13), type := 4, pos := "stack.go:113", after := #[{ on := 2, ground := Go.Ground.data }], guard := none }) (v := ?v9) rfl (by kernel_rfl) (by kernel_rfl) (by kernel_rfl) (fun _ _ _ h => h) (Or.inl ⟨by rfl, ?hy9⟩) (by assumption) ?rest9
      case hy9 => (intro w hSw; (try dsimp only at hSw); obtain ⟨y1, y2, y3, y4, y5, y6⟩ := (One.fact hSw).2.c6; go_simp <;> with_reducible rfl)
      try simp only [Act.put, List.setIfInBounds_toArray, List.set_cons_zero, List.set_cons_succ]
      refine wpAnyH_take (i := 4) (oi := { dst := some 15, op := Go.Op.move (Go.Operand.tmp 0), type := 26, pos := "stack.go:113", after := #[{ on := 3, ground := Go.Ground.guard }], guard := some (3, true) }) (v := ?v10) rfl (by kernel_rfl) (by kernel_rfl) (by kernel_rfl) (fun _ _ _ h => h) (Or.inl ⟨by rfl, ?hy10⟩) (by assumption) ?rest10
      case hy10 => (intro w hSw; (try dsimp only at hSw); obtain ⟨y1, y2, y3, y4, y5, y6⟩ := (One.fact hSw).2.c6; go_simp <;> with_reducible rfl)
      try simp only [Act.put, List.setIfInBounds_toArray, List.set_cons_zero, List.set_cons_succ]
      refine wpAnyH_take (i := 5) (oi := { dst := some 16, op := Go.Op.binOp Go.BinOp.eql 26 (Go.Operand.tmp 15) (Go.Operand.const (Go.Value.pointer none)) 26, type := 4, pos := "stack.go:113", after := #[{ on := 4, ground := Go.Ground.data }, { on := 3, ground := Go.Ground.guard }], guard := some (3, true) }) (v := ?v11) rfl (by kernel_rfl) (by kernel_rfl) (by kernel_rfl) (fun _ _ _ h => h) (Or.inl ⟨by rfl, ?hy11⟩) (by assumption) ?rest11
      case hy11 => (intro w hSw; (try dsimp only at hSw); obtain ⟨y1, y2, y3, y4, y5, y6⟩ := (One.fact hSw).2.c6; go_simp <;> with_reducible rfl)
      try simp only [Act.put, List.setIfInBounds_toArray, List.set_cons_zero, List.set_cons_succ]
      refine wpAnyH_take (i := 6) (oi := { dst := some 17, op := Go.Op.move (Go.Operand.tmp 16), type := 4, pos := "stack.go:113", after := #[{ on := 5, ground := Go.Ground.data }, { on := 3, ground := Go.Ground.chain }, { on := 3, ground := Go.Ground.guard }], guard := some (3, true) }) (v := ?v12) rfl (by kernel_rfl) (by kernel_rfl) (by kernel_rfl) (fun _ _ _ h => h) (Or.inl ⟨by rfl, ?hy12⟩) (by assumption) ?rest12
      case hy12 => (intro w hSw; (try dsimp only at hSw); obtain ⟨y1, y2, y3, y4, y5, y6⟩ := (One.fact hSw).2.c6; go_simp <;> with_reducible rfl)
      try simp only [Act.put, List.setIfInBounds_toArray, List.set_cons_zero, List.set_cons_succ]
      refine wpAnyH_take (i := 7) (oi := { dst := some 18, op := Go.Op.move (Go.Operand.tmp 1), type := 24, pos := "stack.go:113", after := #[{ on := 6, ground := Go.Ground.guard }], guard := some (6, false) }) (v := ?v13) rfl (by kernel_rfl) (by kernel_rfl) (by kernel_rfl) (fun _ _ _ h => h) (Or.inl ⟨by rfl, ?hy13⟩) (by assumption) ?rest13
      case hy13 => (intro w hSw; (try dsimp only at hSw); obtain ⟨y1, y2, y3, y4, y5, y6⟩ := (One.fact hSw).2.c6; go_simp <;> with_reducible rfl)
      try simp only [Act.put, List.setIfInBounds_toArray, List.set_cons_zero, List.set_cons_succ]
      refine wpAnyH_take (i := 8) (oi := { dst := some 19, op := Go.Op.call { callee := Go.Callee.builtin Go.Builtin.len, args := #[Go.Operand.tmp 18], argTypes := #[24] }, type := 3, pos := "stack.go:113", after := #[{ on := 7, ground := Go.Ground.data }, { on := 6, ground := Go.Ground.guard }], guard := some (6, false) }) (v := ?v14) rfl (by kernel_rfl) (by kernel_rfl) (by kernel_rfl) (fun _ _ _ h => h) (Or.inl ⟨by rfl, ?hy14⟩) (by assumption) ?rest14
      case hy14 => (intro w hSw; (try dsimp only at hSw); obtain ⟨y1, y2, y3, y4, y5, y6⟩ := (One.fact hSw).2.c6; go_simp <;> with_reducible rfl)
      try simp only [Act.put, List.setIfInBounds_toArray, List.set_cons_zero, List.set_cons_succ]
      refine wpAnyH_take (i := 9) (oi := { dst := some 20, op := Go.Op.load 118 (Go.Operand.tmp 5), type := 118, pos := "stack.go:113", after := #[{ on := 6, ground := Go.Ground.guard }], guard := some (6, false) }) (v := ?v15) rfl (by kernel_rfl) (by kernel_rfl) (by kernel_rfl) (fun _ _ _ h => h) (Or.inl ⟨by rfl, ?hy15⟩) (by assumption) ?rest15
      case hy15 => (intro w hSw; (try dsimp only at hSw); obtain ⟨y1, y2, y3, y4, y5, y6⟩ := (One.fact hSw).2.c6; go_simp <;> with_reducible rfl)
      try simp only [Act.put, List.setIfInBounds_toArray, List.set_cons_zero, List.set_cons_succ]
      refine wpAnyH_take (i := 11) (oi := { dst := some 22, op := Go.Op.fieldAddr 118 (Go.Operand.tmp 5) 2, type := 0, pos := "stack.go:113", after := #[{ on := 6, ground := Go.Ground.guard }], guard := some (6, false) }) (v := ?v16) rfl (by kernel_rfl) (by kernel_rfl) (by kernel_rfl) (fun _ _ _ h => h) (Or.inl ⟨by rfl, ?hy16⟩) (by assumption) ?rest16
      case hy16 => (intro w hSw; (try dsimp only at hSw); obtain ⟨y1, y2, y3, y4, y5, y6⟩ := (One.fact hSw).2.c6; go_simp <;> with_reducible rfl)
      try simp only [Act.put, List.setIfInBounds_toArray, List.set_cons_zero, List.set_cons_succ]
      refine wpAnyH_take (i := 12) (oi := { dst := some 23, op := Go.Op.load 3 (Go.Operand.tmp 22), type := 3, pos := "stack.go:113", after := #[{ on := 11, ground := Go.Ground.data }, { on := 6, ground := Go.Ground.guard }], guard := some (6, false) }) (v := ?v17) rfl (by kernel_rfl) (by kernel_rfl) (by kernel_rfl) (fun _ _ _ h => h) (Or.inl ⟨by rfl, ?hy17⟩) (by assumption) ?rest17
      case hy17 => (intro w hSw; (try dsimp only at hSw); obtain ⟨y1, y2, y3, y4, y5, y6⟩ := (One.fact hSw).2.c6; go_simp <;> with_reducible rfl)
      try simp only [Act.put, List.setIfInBounds_toArray, List.set_cons_zero, List.set_cons_succ]
      refine wpAnyH_ready (rs := [10]) (by kernel_rfl) (by simp) ?_
      refine AllReadyH.cons (o := { dst := some 21, op := Go.Op.call { callee := Go.Callee.value (Go.Operand.func 86), args := #[Go.Operand.tmp 20], argTypes := #[118] }, type := 3, pos := "stack.go:113", after := #[{ on := 9, ground := Go.Ground.data }, { on := 6, ground := Go.Ground.chain }, { on := 6, ground := Go.Ground.guard }], guard := some (6, false) }) rfl (fun K hK => ?_) AllReadyH.nil
      go_simp
      go_at_call 86; refine (hS.mem (fun O h hb => hTp.out _ _ h hb)).mono ?_; rintro e w2 ⟨rfl, hS2⟩; clear hS; have hS := hS2; clear hS2; clear y1 y2 y3 y4 y5 y6; obtain ⟨y1, y2, y3, y4, y5, y6⟩ := hS.fact.2.c6
      refine hK.out _ _ ?_ (fun hHeld2 => ?_)
      · (try dsimp only); exact hS
      clear hK K hHeld
      have hHeld := hHeld2
      clear hHeld2
      try simp only [Act.put, List.setIfInBounds_toArray, List.set_cons_zero, List.set_cons_succ]
      refine wpAnyH_take (i := 13) (oi := { dst := some 24, op := Go.Op.binOp Go.BinOp.sub 3 (Go.Operand.tmp 21) (Go.Operand.tmp 23) 3, type := 3, pos := "stack.go:113", after := #[{ on := 10, ground := Go.Ground.data }, { on := 12, ground := Go.Ground.data }, { on := 6, ground := Go.Ground.guard }], guard := some (6, false) }) (v := ?v18) rfl (by kernel_rfl) (by kernel_rfl) (by kernel_rfl) (fun _ _ _ h => h) (Or.inl ⟨by rfl, ?hy18⟩) (by assumption) ?rest18
      case hy18 => (intro w hSw; (try dsimp only at hSw); obtain ⟨y1, y2, y3, y4, y5, y6⟩ := (One.fact hSw).2.c6; go_simp <;> with_reducible rfl)
      try simp only [Act.put, List.setIfInBounds_toArray, List.set_cons_zero, List.set_cons_succ]
      refine wpAnyH_take (i := 14) (oi := { dst := some 25, op := Go.Op.binOp Go.BinOp.shr 3 (Go.Operand.tmp 24) (Go.Operand.const (Go.Value.int Go.IntKind.u64 3)) 125, type := 3, pos := "stack.go:113", after := #[{ on := 13, ground := Go.Ground.data }, { on := 6, ground := Go.Ground.guard }], guard := some (6, false) }) (v := ?v19) rfl (by kernel_rfl) (by kernel_rfl) (by kernel_rfl) (fun _ _ _ h => h) (Or.inl ⟨by rfl, ?hy19⟩) (by assumption) ?rest19
      case hy19 => (intro w hSw; (try dsimp only at hSw); obtain ⟨y1, y2, y3, y4, y5, y6⟩ := (One.fact hSw).2.c6; go_simp <;> with_reducible rfl)
      try simp only [Act.put, List.setIfInBounds_toArray, List.set_cons_zero, List.set_cons_succ]
      refine wpAnyH_take (i := 15) (oi := { dst := some 26, op := Go.Op.binOp Go.BinOp.gtr 3 (Go.Operand.tmp 19) (Go.Operand.tmp 25) 3, type := 4, pos := "stack.go:113", after := #[{ on := 8, ground := Go.Ground.data }, { on := 14, ground := Go.Ground.data }, { on := 6, ground := Go.Ground.guard }], guard := some (6, false) }) (v := ?v20) rfl (by kernel_rfl) (by kernel_rfl) (by kernel_rfl) (fun _ _ _ h => h) (Or.inl ⟨by rfl, ?hy20⟩) (by assumption) ?rest20
      case hy20 => (intro w hSw; (try dsimp only at hSw); obtain ⟨y1, y2, y3, y4, y5, y6⟩ := (One.fact hSw).2.c6; go_simp <;> with_reducible rfl)
      try simp only [Act.put, List.setIfInBounds_toArray, List.set_cons_zero, List.set_cons_succ]
      refine wpAnyH_take (i := 16) (oi := { dst := some 27, op := Go.Op.pick (Go.Operand.tmp 17) (Go.Operand.const (Go.Value.bool true)) (Go.Operand.tmp 26), type := 4, pos := "stack.go:113", after := #[{ on := 6, ground := Go.Ground.data }, { on := 15, ground := Go.Ground.data }, { on := 3, ground := Go.Ground.guard }], guard := some (3, true) }) (v := ?v21) rfl (by kernel_rfl) (by kernel_rfl) (by kernel_rfl) (fun _ _ _ h => h) (Or.inl ⟨by rfl, ?hy21⟩) (by assumption) ?rest21
      case hy21 => (intro w hSw; (try dsimp only at hSw); obtain ⟨y1, y2, y3, y4, y5, y6⟩ := (One.fact hSw).2.c6; go_simp <;> with_reducible rfl)
      try simp only [Act.put, List.setIfInBounds_toArray, List.set_cons_zero, List.set_cons_succ]
      refine wpAnyH_take (i := 17) (oi := { dst := some 28, op := Go.Op.pick (Go.Operand.tmp 14) (Go.Operand.tmp 27) (Go.Operand.const (Go.Value.bool false)), type := 4, pos := "stack.go:113", after := #[{ on := 3, ground := Go.Ground.data }, { on := 16, ground := Go.Ground.data }], guard := none }) (v := ?v22) rfl (by kernel_rfl) (by kernel_rfl) (by kernel_rfl) (fun _ _ _ h => h) (Or.inl ⟨by rfl, ?hy22⟩) (by assumption) ?rest22
      case hy22 => (intro w hSw; (try dsimp only at hSw); obtain ⟨y1, y2, y3, y4, y5, y6⟩ := (One.fact hSw).2.c6; go_simp <;> with_reducible rfl)
      try simp only [Act.put, List.setIfInBounds_toArray, List.set_cons_zero, List.set_cons_succ]
      refine wpAnyH_done (by kernel_rfl) ?_ _
      refine NoPanic.normal ?_
      go_wp2
      go_ret
      obtain ⟨O', q1, q2, q3, q4⟩ := hS
      exact ⟨rfl, O', q1, q2⟩
    · have t1 : (fr < (l.length : Int)) = False := by simp; omega
      rw [if_neg c1, if_neg c1]
      have hl : l.length ≤ 1000000 := by have := hl32.out; omega
      clear c0 c1
      go_enter Try.func66, Try.ntmps66
      go_upto_region 2 with (go_at_call 79; refine (hS.still (hMk.out _)).mono ?_; rintro e w1 ⟨rfl, hS2⟩; clear hS; have hS := hS2; clear hS2)
      have hS2 := hS.new #[.pointer (some ⟨mb, 0, none⟩), .int .i64 32, .int .i64 256, .int .i64 512, .int .i64 (-3), .int .i64 (-4)] 118
      obtain ⟨b0, hb0⟩ : ∃ b0, b0 = w1.heap.size := ⟨_, rfl⟩
      obtain ⟨w3, hw3⟩ : ∃ w3, w3 = w1.alloc (.cells #[.pointer (some ⟨mb, 0, none⟩), .int .i64 32, .int .i64 256, .int .i64 512, .int .i64 (-3), .int .i64 (-4)] 118) := ⟨_, rfl⟩
      rw [← hw3, ← hb0] at hS2 ⊢
      clear hS hw3 hb0
      have hS := hS2
      clear hS2
      obtain ⟨y1, y2, y3, y4, y5, y6⟩ := hS.fact.2.c6
      replace hS := hS.drew
      refine wp_region_noPanic ?_
      refine wp_region_held_drew (S := (fun w' => One w w' B mb M O ((Kp.rv 1 (.slice ad l.length cap) l.length (ic l)).and (.blk b0 #[.pointer (some ⟨mb, 0, none⟩), .int .i64 32, .int .i64 256, .int .i64 512, .int .i64 (-3), .int .i64 (-4)] 118)))) (by kernel_rfl) ?_ (fun hHeld => ?_)
      · (try dsimp only); exact hS
      refine wpAnyH_take (i := 0) (oi := { dst := some 11, op := Go.Op.move (Go.Operand.tmp 1), type := 24, pos := "stack.go:113", after := #[], guard := none }) (v := ?v23) rfl (by kernel_rfl) (by kernel_rfl) (by kernel_rfl) (fun _ _ _ h => h) (Or.inl ⟨by rfl, ?hy23⟩) (by assumption) ?rest23
      case hy23 => (intro w hSw; (try dsimp only at hSw); obtain ⟨y1, y2, y3, y4, y5, y6⟩ := (One.fact hSw).2.c6; go_simp <;> with_reducible rfl)
      try simp only [Act.put, List.setIfInBounds_toArray, List.set_cons_zero, List.set_cons_succ]
      refine wpAnyH_take (i := 1) (oi := { dst := some 12, op := Go.Op.call { callee := Go.Callee.builtin Go.Builtin.len, args := #[Go.Operand.tmp 11], argTypes := #[24] }, type := 3, pos := "stack.go:113", after := #[{ on := 0, ground := Go.Ground.data }], guard := none }) (v := ?v24) rfl (by kernel_rfl) (by kernel_rfl) (by kernel_rfl) (fun _ _ _ h => h) (Or.inl ⟨by rfl, ?hy24⟩) (by assumption) ?rest24
      case hy24 => (intro w hSw; (try dsimp only at hSw); obtain ⟨y1, y2, y3, y4, y5, y6⟩ := (One.fact hSw).2.c6; go_simp <;> with_reducible rfl)
      try simp only [Act.put, List.setIfInBounds_toArray, List.set_cons_zero, List.set_cons_succ]
      refine wpAnyH_take (i := 2) (oi := { dst := some 13, op := Go.Op.binOp Go.BinOp.gtr 3 (Go.Operand.tmp 12) (Go.Operand.const (Go.Value.int Go.IntKind.i64 0)) 3, type := 4, pos := "stack.go:113", after := #[{ on := 1, ground := Go.Ground.data }], guard := none }) (v := ?v25) rfl (by kernel_rfl) (by kernel_rfl) (by kernel_rfl) (fun _ _ _ h => h) (Or.inl ⟨by rfl, ?hy25⟩) (by assumption) ?rest25
      case hy25 => (intro w hSw; (try dsimp only at hSw); obtain ⟨y1, y2, y3, y4, y5, y6⟩ := (One.fact hSw).2.c6; go_simp <;> with_reducible rfl)
      try simp only [Act.put, List.setIfInBounds_toArray, List.set_cons_zero, List.set_cons_succ]
      refine wpAnyH_take (i := 3) (oi := { dst := some 14, op := Go.Op.move (Go.Operand.tmp 13), type := 4, pos := "stack.go:113", after := #[{ on := 2, ground := Go.Ground.data }], guard := none }) (v := ?v26) rfl (by kernel_rfl) (by kernel_rfl) (by kernel_rfl) (fun _ _ _ h => h) (Or.inl ⟨by rfl, ?hy26⟩) (by assumption) ?rest26
      case hy26 => (intro w hSw; (try dsimp only at hSw); obtain ⟨y1, y2, y3, y4, y5, y6⟩ := (One.fact hSw).2.c6; go_simp <;> with_reducible rfl)
      try simp only [Act.put, List.setIfInBounds_toArray, List.set_cons_zero, List.set_cons_succ]
      refine wpAnyH_take (i := 4) (oi := { dst := some 15, op := Go.Op.move (Go.Operand.tmp 0), type := 26, pos := "stack.go:113", after := #[{ on := 3, ground := Go.Ground.guard }], guard := some (3, true) }) (v := ?v27) rfl (by kernel_rfl) (by kernel_rfl) (by kernel_rfl) (fun _ _ _ h => h) (Or.inl ⟨by rfl, ?hy27⟩) (by assumption) ?rest27
      case hy27 => (intro w hSw; (try dsimp only at hSw); obtain ⟨y1, y2, y3, y4, y5, y6⟩ := (One.fact hSw).2.c6; go_simp <;> with_reducible rfl)
      try simp only [Act.put, List.setIfInBounds_toArray, List.set_cons_zero, List.set_cons_succ]
      refine wpAnyH_take (i := 5) (oi := { dst := some 16, op := Go.Op.binOp Go.BinOp.eql 26 (Go.Operand.tmp 15) (Go.Operand.const (Go.Value.pointer none)) 26, type := 4, pos := "stack.go:113", after := #[{ on := 4, ground := Go.Ground.data }, { on := 3, ground := Go.Ground.guard }], guard := some (3, true) }) (v := ?v28) rfl (by kernel_rfl) (by kernel_rfl) (by kernel_rfl) (fun _ _ _ h => h) (Or.inl ⟨by rfl, ?hy28⟩) (by assumption) ?rest28
      case hy28 => (intro w hSw; (try dsimp only at hSw); obtain ⟨y1, y2, y3, y4, y5, y6⟩ := (One.fact hSw).2.c6; go_simp <;> with_reducible rfl)
      try simp only [Act.put, List.setIfInBounds_toArray, List.set_cons_zero, List.set_cons_succ]
      refine wpAnyH_take (i := 6) (oi := { dst := some 17, op := Go.Op.move (Go.Operand.tmp 16), type := 4, pos := "stack.go:113", after := #[{ on := 5, ground := Go.Ground.data }, { on := 3, ground := Go.Ground.chain }, { on := 3, ground := Go.Ground.guard }], guard := some (3, true) }) (v := ?v29) rfl (by kernel_rfl) (by kernel_rfl) (by kernel_rfl) (fun _ _ _ h => h) (Or.inl ⟨by rfl, ?hy29⟩) (by assumption) ?rest29
      case hy29 => (intro w hSw; (try dsimp only at hSw); obtain ⟨y1, y2, y3, y4, y5, y6⟩ := (One.fact hSw).2.c6; go_simp <;> with_reducible rfl)
      try simp only [Act.put, List.setIfInBounds_toArray, List.set_cons_zero, List.set_cons_succ]
      refine wpAnyH_take (i := 7) (oi := { dst := some 18, op := Go.Op.move (Go.Operand.tmp 1), type := 24, pos := "stack.go:113", after := #[{ on := 6, ground := Go.Ground.guard }], guard := some (6, false) }) (v := ?v30) rfl (by kernel_rfl) (by kernel_rfl) (by kernel_rfl) (fun _ _ _ h => h) (Or.inl ⟨by rfl, ?hy30⟩) (by assumption) ?rest30
      case hy30 => (intro w hSw; (try dsimp only at hSw); obtain ⟨y1, y2, y3, y4, y5, y6⟩ := (One.fact hSw).2.c6; go_simp <;> with_reducible rfl)
      try simp only [Act.put, List.setIfInBounds_toArray, List.set_cons_zero, List.set_cons_succ]
      refine wpAnyH_take (i := 8) (oi := { dst := some 19, op := Go.Op.call { callee := Go.Callee.builtin Go.Builtin.len, args := #[Go.Operand.tmp 18], argTypes := #[24] }, type := 3, pos := "stack.go:113", after := #[{ on := 7, ground := Go.Ground.data }, { on := 6, ground := Go.Ground.guard }], guard := some (6, false) }) (v := ?v31) rfl (by kernel_rfl) (by kernel_rfl) (by kernel_rfl) (fun _ _ _ h => h) (Or.inl ⟨by rfl, ?hy31⟩) (by assumption) ?rest31
      case hy31 => (intro w hSw; (try dsimp only at hSw); obtain ⟨y1, y2, y3, y4, y5, y6⟩ := (One.fact hSw).2.c6; go_simp <;> with_reducible rfl)
      try simp only [Act.put, List.setIfInBounds_toArray, List.set_cons_zero, List.set_cons_succ]
      refine wpAnyH_take (i := 9) (oi := { dst := some 20, op := Go.Op.load 118 (Go.Operand.tmp 5), type := 118, pos := "stack.go:113", after := #[{ on := 6, ground := Go.Ground.guard }], guard := some (6, false) }) (v := ?v32) rfl (by kernel_rfl) (by kernel_rfl) (by kernel_rfl) (fun _ _ _ h => h) (Or.inl ⟨by rfl, ?hy32⟩) (by assumption) ?rest32
      case hy32 => (intro w hSw; (try dsimp only at hSw); obtain ⟨y1, y2, y3, y4, y5, y6⟩ := (One.fact hSw).2.c6; go_simp <;> with_reducible rfl)
      try simp only [Act.put, List.setIfInBounds_toArray, List.set_cons_zero, List.set_cons_succ]
      refine wpAnyH_take (i := 11) (oi := { dst := some 22, op := Go.Op.fieldAddr 118 (Go.Operand.tmp 5) 2, type := 0, pos := "stack.go:113", after := #[{ on := 6, ground := Go.Ground.guard }], guard := some (6, false) }) (v := ?v33) rfl (by kernel_rfl) (by kernel_rfl) (by kernel_rfl) (fun _ _ _ h => h) (Or.inl ⟨by rfl, ?hy33⟩) (by assumption) ?rest33
      case hy33 => (intro w hSw; (try dsimp only at hSw); obtain ⟨y1, y2, y3, y4, y5, y6⟩ := (One.fact hSw).2.c6; go_simp <;> with_reducible rfl)
      try simp only [Act.put, List.setIfInBounds_toArray, List.set_cons_zero, List.set_cons_succ]
      refine wpAnyH_take (i := 12) (oi := { dst := some 23, op := Go.Op.load 3 (Go.Operand.tmp 22), type := 3, pos := "stack.go:113", after := #[{ on := 11, ground := Go.Ground.data }, { on := 6, ground := Go.Ground.guard }], guard := some (6, false) }) (v := ?v34) rfl (by kernel_rfl) (by kernel_rfl) (by kernel_rfl) (fun _ _ _ h => h) (Or.inl ⟨by rfl, ?hy34⟩) (by assumption) ?rest34
      case hy34 => (intro w hSw; (try dsimp only at hSw); obtain ⟨y1, y2, y3, y4, y5, y6⟩ := (One.fact hSw).2.c6; go_simp <;> with_reducible rfl)
      try simp only [Act.put, List.setIfInBounds_toArray, List.set_cons_zero, List.set_cons_succ]
      refine wpAnyH_ready (rs := [10]) (by kernel_rfl) (by simp) ?_
      refine AllReadyH.cons (o := { dst := some 21, op := Go.Op.call { callee := Go.Callee.value (Go.Operand.func 86), args := #[Go.Operand.tmp 20], argTypes := #[118] }, type := 3, pos := "stack.go:113", after := #[{ on := 9, ground := Go.Ground.data }, { on := 6, ground := Go.Ground.chain }, { on := 6, ground := Go.Ground.guard }], guard := some (6, false) }) rfl (fun K hK => ?_) AllReadyH.nil
      go_simp
      go_at_call 86; refine (hS.mem (fun O h hb => hTp.out _ _ h hb)).mono ?_; rintro e w2 ⟨rfl, hS2⟩; clear hS; have hS := hS2; clear hS2; clear y1 y2 y3 y4 y5 y6; obtain ⟨y1, y2, y3, y4, y5, y6⟩ := hS.fact.2.c6
      refine hK.out _ _ ?_ (fun hHeld2 => ?_)
      · (try dsimp only); exact hS
      clear hK K hHeld
      have hHeld := hHeld2
      clear hHeld2
      try simp only [Act.put, List.setIfInBounds_toArray, List.set_cons_zero, List.set_cons_succ]
      refine wpAnyH_take (i := 13) (oi := { dst := some 24, op := Go.Op.binOp Go.BinOp.sub 3 (Go.Operand.tmp 21) (Go.Operand.tmp 23) 3, type := 3, pos := "stack.go:113", after := #[{ on := 10, ground := Go.Ground.data }, { on := 12, ground := Go.Ground.data }, { on := 6, ground := Go.Ground.guard }], guard := some (6, false) }) (v := ?v35) rfl (by kernel_rfl) (by kernel_rfl) (by kernel_rfl) (fun _ _ _ h => h) (Or.inl ⟨by rfl, ?hy35⟩) (by assumption) ?rest35
      case hy35 => (intro w hSw; (try dsimp only at hSw); obtain ⟨y1, y2, y3, y4, y5, y6⟩ := (One.fact hSw).2.c6; go_simp <;> with_reducible rfl)
      try simp only [Act.put, List.setIfInBounds_toArray, List.set_cons_zero, List.set_cons_succ]
      refine wpAnyH_take (i := 14) (oi := { dst := some 25, op := Go.Op.binOp Go.BinOp.shr 3 (Go.Operand.tmp 24) (Go.Operand.const (Go.Value.int Go.IntKind.u64 3)) 125, type := 3, pos := "stack.go:113", after := #[{ on := 13, ground := Go.Ground.data }, { on := 6, ground := Go.Ground.guard }], guard := some (6, false) }) (v := ?v36) rfl (by kernel_rfl) (by kernel_rfl) (by kernel_rfl) (fun _ _ _ h => h) (Or.inl ⟨by rfl, ?hy36⟩) (by assumption) ?rest36
      case hy36 => (intro w hSw; (try dsimp only at hSw); obtain ⟨y1, y2, y3, y4, y5, y6⟩ := (One.fact hSw).2.c6; go_simp <;> with_reducible rfl)
      try simp only [Act.put, List.setIfInBounds_toArray, List.set_cons_zero, List.set_cons_succ]
      refine wpAnyH_take (i := 15) (oi := { dst := some 26, op := Go.Op.binOp Go.BinOp.gtr 3 (Go.Operand.tmp 19) (Go.Operand.tmp 25) 3, type := 4, pos := "stack.go:113", after := #[{ on := 8, ground := Go.Ground.data }, { on := 14, ground := Go.Ground.data }, { on := 6, ground := Go.Ground.guard }], guard := some (6, false) }) (v := ?v37) rfl (by kernel_rfl) (by kernel_rfl) (by kernel_rfl) (fun _ _ _ h => h) (Or.inl ⟨by rfl, ?hy37⟩) (by assumption) ?rest37
      case hy37 => (intro w hSw; (try dsimp only at hSw); obtain ⟨y1, y2, y3, y4, y5, y6⟩ := (One.fact hSw).2.c6; go_simp <;> with_reducible rfl)
      try simp only [Act.put, List.setIfInBounds_toArray, List.set_cons_zero, List.set_cons_succ]
      refine wpAnyH_take (i := 16) (oi := { dst := some 27, op := Go.Op.pick (Go.Operand.tmp 17) (Go.Operand.const (Go.Value.bool true)) (Go.Operand.tmp 26), type := 4, pos := "stack.go:113", after := #[{ on := 6, ground := Go.Ground.data }, { on := 15, ground := Go.Ground.data }, { on := 3, ground := Go.Ground.guard }], guard := some (3, true) }) (v := ?v38) rfl (by kernel_rfl) (by kernel_rfl) (by kernel_rfl) (fun _ _ _ h => h) (Or.inl ⟨by rfl, ?hy38⟩) (by assumption) ?rest38
      case hy38 => (intro w hSw; (try dsimp only at hSw); obtain ⟨y1, y2, y3, y4, y5, y6⟩ := (One.fact hSw).2.c6; go_simp <;> with_reducible rfl)
      try simp only [Act.put, List.setIfInBounds_toArray, List.set_cons_zero, List.set_cons_succ]
      refine wpAnyH_take (i := 17) (oi := { dst := some 28, op := Go.Op.pick (Go.Operand.tmp 14) (Go.Operand.tmp 27) (Go.Operand.const (Go.Value.bool false)), type := 4, pos := "stack.go:113", after := #[{ on := 3, ground := Go.Ground.data }, { on := 16, ground := Go.Ground.data }], guard := none }) (v := ?v39) rfl (by kernel_rfl) (by kernel_rfl) (by kernel_rfl) (fun _ _ _ h => h) (Or.inl ⟨by rfl, ?hy39⟩) (by assumption) ?rest39
      case hy39 => (intro w hSw; (try dsimp only at hSw); obtain ⟨y1, y2, y3, y4, y5, y6⟩ := (One.fact hSw).2.c6; go_simp <;> with_reducible rfl)
      try simp only [Act.put, List.setIfInBounds_toArray, List.set_cons_zero, List.set_cons_succ]
      refine wpAnyH_done (by kernel_rfl) ?_ _
      refine NoPanic.normal ?_
      go_wp2
      go_loopw [35] (fun i wr => ∃ (k : Nat), i = .int .i64 (k : Int) ∧ k ≤ l.length ∧ One w wr B mb (pushAll M (l.take k)) O (Kp.rv 1 (.slice ad l.length cap) l.length (ic l))) (fun i _ => (l.length - (intOf i).toNat))
      case atStart => exact ⟨0, rfl, by omega, by rw [pushAll_zero]; exact hS.keep (fun O h => h.left)⟩
      case round =>
        obtain ⟨k, rfl, hk, hS⟩ := hrel
        by_cases hlt : k < l.length
        · have t2 : ((k : Int) < (l.length : Int)) = True := by simp; omega
          have b1 : (0 : Int) ≤ (k : Int) := by omega
          have wk : IntKind.i64.wrap ((k : Int) + 1) = ((k + 1 : Nat) : Int) := by rw [IntKind.wrap_i64]; omega
          obtain ⟨x, hx⟩ : ∃ x, l[k]? = some x := ⟨_, List.getElem?_eq_getElem hlt⟩
          obtain ⟨a2, he, hc⟩ : ∃ a2, ad = some a2 ∧ wr.cell? (a2.add k) = some (.int .i64 x) := by
            rcases hS.fact.2.2 with ⟨e, e2⟩ | ⟨a2, c2, e, hc⟩
            · omega
            · cases e
              exact ⟨a2, rfl, hc k _ (by unfold ic; rw [List.getElem?_map, hx]; rfl)⟩
          subst he
          have hP := Lib.hid (fun (w9 : World) (O : Nat → Prop) (h : MemP w9 B mb (pushAll M (l.take k)) O) (hb : B ≤ w9.heap.size) => mPush h hb 32 256 512 (-3) (-4) (by unfold Sk; omega) x)
          have hst := Lib.hid (show pushM (pushAll M (l.take k)) 32 256 512 x = pushAll M (l.take (k + 1)) from (pushAll_take M l k x hx).symm)
          rw [hst.out] at hP
          replace hlt := Lib.hid hlt
          clear hk hx
          go_wp2_with (go_at_call 87; refine (hS.mem (fun O h hb => hP.out _ _ h hb)).mono ?_; rintro e w4 ⟨rfl, hS2⟩; clear hS; have hS := hS2; clear hS2)
          go_roundw
          case rel => exact ⟨k + 1, rfl, hlt.out, hS⟩
          case measure => have := hlt.out; simp [intOf]; omega
        · have hkN : k = l.length := by omega
          subst hkN
          have t2 : ((l.length : Int) < (l.length : Int)) = False := by simp
          rw [List.take_length] at hS
          clear hlt hk
          go_wp2
          go_ret
          obtain ⟨O', q1, q2, q3, q4⟩ := hS
          exact ⟨rfl, O', q1, q2⟩
set_option maxHeartbeats 1000000 in
theorem rLays {w : World} {B rb : Nat} {M : List UInt8} {R : Nat → Prop} (h : RefP w B rb M R) {v : Value} {l : List Int} (hK : Keep w R (.rv 1 v l.length (ic l))) :
    Calls Try.prog 40 #[.pointer (some ⟨rb, 0, none⟩), v] w fun e w' => RefQ w w' B rb (laysM M l) R (.int .i64 (laysT M l)) e := by
  obtain ⟨ad, cap, rfl⟩ := Rv.form hK.1
  have hS := Onr.startK h h.base_le hK
  have hd := (depL_bd (M := M) (show Sk 32 256 512 from by unfold Sk; omega))
  have hD := Lib.hid (fun (w9 : World) (O : Nat → Prop) (h : RefP w9 B rb M O) => rDepth h)
  unfold laysT laysM
  generalize depL M 32 256 512 = d at *
  have wd : IntKind.i64.wrap (32 - d) = 32 - d := by rw [IntKind.wrap_i64]; omega
  have hl32 := Lib.hid (show 32 < (l.length : Int) → 32 - d < (l.length : Int) by omega)
  clear hd h hK
  by_cases c1 : 32 - d < (l.length : Int)
  · have t1 : (32 - d < (l.length : Int)) = True := by simp; exact c1
    rw [if_pos c1, if_pos c1]
    clear c1
    go_enter Try.func40, Try.ntmps40
    go_wp2_with (go_at_call 34; refine (hS.read (fun O h => hD.out _ _ h)).mono ?_; rintro e w2 ⟨rfl, hS2⟩; clear hS; have hS := hS2; clear hS2)
    go_ret
    exact hS.refQ _
  · have t1 : (32 - d < (l.length : Int)) = False := by simp; omega
    rw [if_neg c1, if_neg c1]
    have hl : l.length ≤ 1000000 := by have := hl32.out; omega
    clear c1
    go_enter Try.func40, Try.ntmps40
    go_wp2_with (go_at_call 34; refine (hS.read (fun O h => hD.out _ _ h)).mono ?_; rintro e w2 ⟨rfl, hS2⟩; clear hS; have hS := hS2; clear hS2)
    go_loopw [15] (fun i wr => ∃ (k : Nat), i = .int .i64 (k : Int) ∧ k ≤ l.length ∧ Onr w wr B rb (pushAll M (l.take k)) R (Kp.rv 1 (.slice ad l.length cap) l.length (ic l))) (fun i _ => (l.length - (intOf i).toNat))
    case atStart => exact ⟨0, rfl, by omega, by rw [pushAll_zero]; exact hS⟩
    case round =>
      obtain ⟨k, rfl, hk, hS⟩ := hrel
      by_cases hlt : k < l.length
      · have t2 : ((k : Int) < (l.length : Int)) = True := by simp; omega
        have b1 : (0 : Int) ≤ (k : Int) := by omega
        have wk : IntKind.i64.wrap ((k : Int) + 1) = ((k + 1 : Nat) : Int) := by rw [IntKind.wrap_i64]; omega
        obtain ⟨x, hx⟩ : ∃ x, l[k]? = some x := ⟨_, List.getElem?_eq_getElem hlt⟩
        obtain ⟨a2, he, hc⟩ : ∃ a2, ad = some a2 ∧ wr.cell? (a2.add k) = some (.int .i64 x) := by
          rcases hS.fact.2.2 with ⟨e, e2⟩ | ⟨a2, c2, e, hc⟩
          · omega
          · cases e
            exact ⟨a2, rfl, hc k _ (by unfold ic; rw [List.getElem?_map, hx]; rfl)⟩
        subst he
        have hP := Lib.hid (fun (w9 : World) (O : Nat → Prop) (h : RefP w9 B rb (pushAll M (l.take k)) O) (hb : B ≤ w9.heap.size) => rPush h x)
        have hst := Lib.hid (show pushM (pushAll M (l.take k)) 32 256 512 x = pushAll M (l.take (k + 1)) from (pushAll_take M l k x hx).symm)
        rw [hst.out] at hP
        replace hlt := Lib.hid hlt
        clear hk hx
        go_wp2_with (go_at_call 9; refine (hS.ref (fun O h hb => hP.out _ _ h hb)).mono ?_; rintro e w4 ⟨rfl, hS2⟩; clear hS; have hS := hS2; clear hS2)
        go_roundw
        case rel => exact ⟨k + 1, rfl, hlt.out, hS⟩
        case measure => have := hlt.out; simp [intOf]; omega
      · have hkN : k = l.length := by omega
        subst hkN
        have t2 : ((l.length : Int) < (l.length : Int)) = False := by simp
        rw [List.take_length] at hS
        clear hlt hk
        go_wp2
        go_ret
        obtain ⟨O', q1, q2, q3, q4⟩ := hS
        exact ⟨rfl, O', q1, q2⟩
end Go.Proofs.Ytkcmphjgflbchaa

/- 'Clear', 'Cells'. -/
namespace Go.Proofs.Ytkcmphjgflbchaa
open Go.RowKit
set_option linter.unusedVariables false
set_option linter.unusedSimpArgs false
attribute [local go_sem] cell_set set_set m_undef

def clearM (M : List UInt8) : List UInt8 := setM (setM M 32 512) 40 768
def clr (M : List UInt8) : Nat → List UInt8
  | 0 => M
  | 1 => setM M 32 512
  | _ => setM (setM M 32 512) 40 768
theorem Blk.c12 {w : World} {b : Nat} {c0 c1 c2 c3 c4 c5 c6 c7 c8 c9 c10 c11 : Value} {t : TypeId} (h : Blk w b #[c0, c1, c2, c3, c4, c5, c6, c7, c8, c9, c10, c11] t) :
    (w.cell? ⟨b, 0, none⟩ = some c0 ∧ w.cell? ⟨b, 1, none⟩ = some c1 ∧ w.cell? ⟨b, 2, none⟩ = some c2 ∧ w.cell? ⟨b, 3, none⟩ = some c3 ∧ w.cell? ⟨b, 4, none⟩ = some c4 ∧ w.cell? ⟨b, 5, none⟩ = some c5) ∧
    w.cell? ⟨b, 6, none⟩ = some c6 ∧ w.cell? ⟨b, 7, none⟩ = some c7 ∧ w.cell? ⟨b, 8, none⟩ = some c8 ∧ w.cell? ⟨b, 9, none⟩ = some c9 ∧ w.cell? ⟨b, 10, none⟩ = some c10 ∧ w.cell? ⟨b, 11, none⟩ = some c11 :=
  ⟨⟨h.cell 0, h.cell 1, h.cell 2, h.cell 3, h.cell 4, h.cell 5⟩, h.cell 6, h.cell 7, h.cell 8, h.cell 9, h.cell 10, h.cell 11⟩
/-- The cells as they are collected. -/
def cellsN (M : List UInt8) (N k : Nat) : List Int := (List.range k).map fun j => peekV M 32 256 512 ((N - 1 - j : Nat) : Int)
theorem cellsN_succ (M : List UInt8) (N k : Nat) : cellsN M N (k + 1) = cellsN M N k ++ [peekV M 32 256 512 ((N - 1 - k : Nat) : Int)] := by simp [cellsN, List.range_succ]
theorem cellsN_len (M : List UInt8) (N k : Nat) : (cellsN M N k).length = k := by simp [cellsN]
def depN (M : List UInt8) : Nat := (depL M 32 256 512).toNat
def cellsL (M : List UInt8) : List Int := cellsN M (depN M) (depN M)
end Go.Proofs.Ytkcmphjgflbchaa
