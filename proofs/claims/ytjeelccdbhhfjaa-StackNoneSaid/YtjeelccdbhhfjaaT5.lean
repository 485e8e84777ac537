/- The reference's stacks. -/
import Derived.Test.YtjeelccdbhhfjaaN4
import Derived.Test.YtjeelccdbhhfjaaSP
namespace Go.Proofs.Ytjeelccdbhhfjaa
open Go.RowKit
set_option linter.unusedVariables false
set_option linter.unusedSimpArgs false
attribute [local go_sem] cell_set set_set m_undef

theorem isI_get (M : List UInt8) (a : Int) : isI (getM M a) := by
  unfold getM cellL isI
  have := IntKind.wrap_i64 (leN (loadL M a 8) 0 8 : Int)
  omega
theorem RefP.base_le {w : World} {B rb : Nat} {M : List UInt8} {R : Nat → Prop} (h : RefP w B rb M R) : B ≤ w.heap.size := by
  obtain ⟨vb, ob, h1, h6⟩ := id h
  have := h.lt ((h6 rb).2 (.inl rfl))
  omega
set_option maxHeartbeats 1000000 in
theorem rTop {w : World} {B rb : Nat} {M : List UInt8} {R : Nat → Prop} (h : RefP w B rb M R) (a lo hi : Int) (hk : Sk a lo hi) :
    Calls Try.prog 65 #[.pointer (some ⟨rb, 0, none⟩), .int .i64 a, .int .i64 lo, .int .i64 hi] w fun e w' => e = .returned (.int .i64 (topL M a lo hi)) ∧ Below w.heap.size w w' := by
  obtain ⟨b1, b2, b3, b4, b5, b6, b7, b8, b9⟩ := topL_bd (M := M) hk
  have hai : isI a := by unfold isI; omega
  have hG := Lib.hid (rGet h a hai)
  unfold topL
  obtain ⟨g, hg⟩ : ∃ g, g = getM M a := ⟨_, rfl⟩
  have hgi : isI g := by rw [hg]; exact isI_get M a
  rw [← hg] at hG ⊢
  have hrm : g.tmod 8 = 0 ↔ g % 8 = 0 := ⟨fun h => Int.emod_eq_zero_of_dvd (Int.dvd_of_tmod_eq_zero h), fun h => Int.tmod_eq_zero_of_dvd (Int.dvd_of_emod_eq_zero h)⟩
  have w1 : ∀ x : Int, isI x → IntKind.i64.wrap x = x := fun x hx => by unfold isI at hx; rw [IntKind.wrap_i64]; omega
  have wg := w1 g hgi
  have wl : IntKind.i64.wrap lo = lo := w1 lo (by unfold isI; omega)
  have wh : IntKind.i64.wrap hi = hi := w1 hi (by unfold isI; omega)
  clear w1 h hai
  unfold isI at hgi
  by_cases c2 : lo ≤ g
  · have t2 : (g < lo) = False := by simp; omega
    by_cases c3 : g ≤ hi
    · have t3 : (hi < g) = False := by simp; omega
      by_cases c1 : g % 8 = 0
      · have t1 : (g.tmod 8 != 0) = false := by rw [hrm.2 c1]; rfl
        rw [if_pos ⟨c1, c2, c3⟩]
        clear c1 c2 c3 hrm b1 b2 b3 b4 b5 b6 b7 b8 b9 hg hgi
        go_enter Try.func65, Try.ntmps65
        go_wp2_with (go_at_call 15; refine hG.out.mono ?_; rintro e w1 ⟨rfl, hb1⟩; replace hb1 := Lib.hid hb1)
        go_ret
        exact ⟨rfl, hb1.out⟩
      · have t1 : (g.tmod 8 != 0) = true := by rw [bne_iff_ne]; exact fun e => c1 (hrm.1 e)
        rw [if_neg (fun h => c1 h.1)]
        clear c1 c2 c3 hrm b1 b2 b3 b4 b5 b6 b7 b8 b9 hg hgi
        go_enter Try.func65, Try.ntmps65
        go_wp2_with (go_at_call 15; refine hG.out.mono ?_; rintro e w1 ⟨rfl, hb1⟩; replace hb1 := Lib.hid hb1)
        go_ret
        exact ⟨rfl, hb1.out⟩
    · have t3 : (hi < g) = True := by simp; omega
      rw [if_neg (fun h => c3 h.2.2)]
      clear c2 c3 hrm b1 b2 b3 b4 b5 b6 b7 b8 b9 hg hgi
      go_enter Try.func65, Try.ntmps65
      go_wp2_with (go_at_call 15; refine hG.out.mono ?_; rintro e w1 ⟨rfl, hb1⟩; replace hb1 := Lib.hid hb1)
      go_ret
      exact ⟨rfl, hb1.out⟩
  · have t2 : (g < lo) = True := by simp; omega
    rw [if_neg (fun h => c2 h.2.1)]
    clear c2 hrm b1 b2 b3 b4 b5 b6 b7 b8 b9 hg hgi
    go_enter Try.func65, Try.ntmps65
    go_wp2_with (go_at_call 15; refine hG.out.mono ?_; rintro e w1 ⟨rfl, hb1⟩; replace hb1 := Lib.hid hb1)
    go_ret
    exact ⟨rfl, hb1.out⟩
theorem rsp {w : World} {B rb : Nat} {M : List UInt8} {R : Nat → Prop} (h : RefP w B rb M R) : Calls Try.prog 57 #[.pointer (some ⟨rb, 0, none⟩)] w fun e w' => e = .returned (.int .i64 (topL M 32 256 512)) ∧ Below w.heap.size w w' := by
  have hTp := Lib.hid (rTop h 32 256 512 (by unfold Sk; omega))
  generalize topL M 32 256 512 = t at *
  clear h
  go_enter Try.func57, Try.ntmps57
  go_wp2_with (go_at_call 65; refine hTp.out.mono ?_; rintro e w1 ⟨rfl, hb1⟩; replace hb1 := Lib.hid hb1)
  go_ret
  exact ⟨rfl, hb1.out⟩
theorem rDepth {w : World} {B rb : Nat} {M : List UInt8} {R : Nat → Prop} (h : RefP w B rb M R) : Calls Try.prog 26 #[.pointer (some ⟨rb, 0, none⟩)] w fun e w' => e = .returned (.int .i64 (depL M 32 256 512)) ∧ Below w.heap.size w w' := by
  obtain ⟨b1, b2, b3, b4, b5, b6, b7, b8, b9⟩ := topL_bd (M := M) (show Sk 32 256 512 from by unfold Sk; omega)
  have hTp := Lib.hid (rsp h)
  unfold depL
  generalize topL M 32 256 512 = t at *
  have wd : IntKind.i64.wrap (512 - t) = 512 - t := by rw [IntKind.wrap_i64]; omega
  have c0 : 0 ≤ 512 - t := by omega
  clear h
  go_enter Try.func26, Try.ntmps26
  go_wp2_with (go_at_call 57; refine hTp.out.mono ?_; rintro e w1 ⟨rfl, hb1⟩; replace hb1 := Lib.hid hb1)
  go_ret
  exact ⟨rfl, hb1.out⟩
set_option maxHeartbeats 1000000 in
theorem rPush {w : World} {B rb : Nat} {M : List UInt8} {R : Nat → Prop} (h : RefP w B rb M R) (n : Int) : Calls Try.prog 44 #[.pointer (some ⟨rb, 0, none⟩), .int .i64 n] w fun e w' => RefQ w w' B rb (pushM M 32 256 512 n) R (.int .i64 (pushT M 32 256 512 (-3))) e := by
  obtain ⟨b1, b2, b3, b4, b5, b6, b7, b8, b9⟩ := topL_bd (M := M) (show Sk 32 256 512 from by unfold Sk; omega)
  have hS := Onr.start h h.base_le
  have hTp := Lib.hid (fun (w9 : World) (O : Nat → Prop) (h : RefP w9 B rb M O) => rsp h)
  unfold pushM pushT
  generalize topL M 32 256 512 = t at *
  obtain ⟨p, hp⟩ : ∃ p, p = t - 8 := ⟨_, rfl⟩
  have wd : IntKind.i64.wrap (t - 8) = p := by rw [hp, IntKind.wrap_i64]; omega
  rw [← hp]
  have hpi : isI p := by unfold isI; omega
  by_cases c1 : p < 256
  · have t1 : (t == 256) = true := by rw [beq_iff_eq]; omega
    rw [if_pos c1, if_pos c1]
    clear c1 b1 b2 b3 b4 b5 b6 b7 b8 b9 hp
    go_enter Try.func44, Try.ntmps44
    go_wp2_with (go_at_call 57; refine (hS.read (fun O h => hTp.out _ _ h)).mono ?_; rintro e w2 ⟨rfl, hS2⟩; clear hS; have hS := hS2; clear hS2)
    go_ret
    exact hS.refQ _
  · have t1 : (t == 256) = false := by rw [beq_eq_false_iff_ne]; omega
    rw [if_neg c1, if_neg c1]
    clear c1 b1 b2 b3 b4 b5 b6 b7 b8 b9 hp
    go_enter Try.func44, Try.ntmps44
    go_wp2_with (first
      | (go_at_call 57; refine (hS.read (fun O h => hTp.out _ _ h)).mono ?_; rintro e w2 ⟨rfl, hS2⟩; clear hS; have hS := hS2; clear hS2)
      | (go_at_call_of 56 n; refine (hS.ref (fun O h hb => rSet h p n hpi)).mono ?_; rintro e w2 ⟨rfl, hS2⟩; clear hS; have hS := hS2; clear hS2)
      | (go_at_call 56; refine (hS.ref (fun O h hb => rSet h 32 p (by unfold isI; omega))).mono ?_; rintro e w2 ⟨rfl, hS2⟩; clear hS; have hS := hS2; clear hS2))
    go_ret
    exact hS.refQ _
set_option maxHeartbeats 1000000 in
theorem rPop {w : World} {B rb : Nat} {M : List UInt8} {R : Nat → Prop} (h : RefP w B rb M R) : Calls Try.prog 45 #[.pointer (some ⟨rb, 0, none⟩)] w fun e w' => RefQ w w' B rb (popM M 32 256 512) R (.tuple #[.int .i64 (peekV M 32 256 512 0), .int .i64 (peekT M 32 256 512 (-4) 0)]) e := by
  obtain ⟨b1, b2, b3, b4, b5, b6, b7, b8, b9⟩ := topL_bd (M := M) (show Sk 32 256 512 from by unfold Sk; omega)
  obtain ⟨d1, d2, d3⟩ := depL_bd (M := M) (show Sk 32 256 512 from by unfold Sk; omega)
  have hS := Onr.start h h.base_le
  have hMl := h.len
  have hTp := Lib.hid (fun (w9 : World) (O : Nat → Prop) (h : RefP w9 B rb M O) => rsp h)
  unfold popM peekV peekT
  have hgo : ∀ x, getM (setM M 32 x) (topL M 32 256 512 + 8 * 0) = getM M (topL M 32 256 512 + 8 * 0) := fun x => getM_other hMl 32 _ x (by omega)
  generalize topL M 32 256 512 = t at *
  generalize depL M 32 256 512 = d at *
  obtain ⟨p, hp⟩ : ∃ p, p = t + 8 := ⟨_, rfl⟩
  have wd : IntKind.i64.wrap (t + 8) = p := by rw [hp, IntKind.wrap_i64]; omega
  rw [← hp]
  by_cases c1 : 0 < d
  · have t1 : (t == 512) = false := by rw [beq_eq_false_iff_ne]; omega
    rw [if_pos c1, if_pos ⟨by omega, c1⟩, if_pos ⟨by omega, c1⟩]
    have hg := hgo p
    rw [show t + 8 * 0 = t by omega] at hg ⊢
    have hti : isI t := by unfold isI; omega
    rw [← hg]
    clear c1 b1 b2 b3 b4 b5 b6 b7 b8 b9 hp d1 d2 d3 hgo hg h
    go_enter Try.func45, Try.ntmps45
    go_wp2_with (first
      | (go_at_call 57; refine (hS.read (fun O h => hTp.out _ _ h)).mono ?_; rintro e w2 ⟨rfl, hS2⟩; clear hS; have hS := hS2; clear hS2)
      | (go_at_call 56; refine (hS.ref (fun O h hb => rSet h 32 p (by unfold isI; omega))).mono ?_; rintro e w2 ⟨rfl, hS2⟩; clear hS; have hS := hS2; clear hS2)
      | (go_at_call 15; refine (hS.read (fun O h => rGet h t hti)).mono ?_; rintro e w2 ⟨rfl, hS2⟩; clear hS; have hS := hS2; clear hS2))
    go_ret2
    exact hS.refQ _
  · have t1 : (t == 512) = true := by rw [beq_iff_eq]; omega
    rw [if_neg c1, if_neg (fun h => c1 h.2), if_neg (fun h => c1 h.2)]
    clear c1 b1 b2 b3 b4 b5 b6 b7 b8 b9 hp d1 d2 d3 hgo h
    go_enter Try.func45, Try.ntmps45
    go_wp2_with (go_at_call 57; refine (hS.read (fun O h => hTp.out _ _ h)).mono ?_; rintro e w2 ⟨rfl, hS2⟩; clear hS; have hS := hS2; clear hS2)
    go_ret2
    exact hS.refQ _
set_option maxHeartbeats 1000000 in
theorem rAt {w : World} {B rb : Nat} {M : List UInt8} {R : Nat → Prop} (h : RefP w B rb M R) (n : Int) (hn : isI n) : Calls Try.prog 49 #[.pointer (some ⟨rb, 0, none⟩), .int .i64 n] w fun e w' => e = .returned (.tuple #[.int .i64 (peekV M 32 256 512 n), .int .i64 (peekT M 32 256 512 (-4) n)]) ∧ Below w.heap.size w w' := by
  obtain ⟨b1, b2, b3, b4, b5, b6, b7, b8, b9⟩ := topL_bd (M := M) (show Sk 32 256 512 from by unfold Sk; omega)
  obtain ⟨d1, d2, d3⟩ := depL_bd (M := M) (show Sk 32 256 512 from by unfold Sk; omega)
  have hTp := Lib.hid (fun (w9 : World) (h : RefP w9 B rb M R) => rsp h)
  have hDp := Lib.hid (fun (w9 : World) (h : RefP w9 B rb M R) => rDepth h)
  have hG := Lib.hid (fun (w9 : World) (h : RefP w9 B rb M R) => rGet h (topL M 32 256 512 + 8 * n))
  unfold peekV peekT
  generalize topL M 32 256 512 = t at *
  generalize depL M 32 256 512 = d at *
  unfold isI at hn
  replace h := Lib.hid h
  by_cases c1 : n < 0
  · have t1 : (n < 0) = True := by simp; exact c1
    rw [if_neg (by omega), if_neg (by omega)]
    clear c1 b1 b2 b3 b4 b5 b6 b7 b8 b9 d1 d2 d3 hn
    go_enter Try.func49, Try.ntmps49
    go_wp2
    go_ret2
    exact ⟨rfl, Below.refl _ _⟩
  by_cases c2 : d ≤ n
  · have t1 : (n < 0) = False := by simp; omega
    have t2 : (d ≤ n) = True := by simp; exact c2
    rw [if_neg (by omega), if_neg (by omega)]
    clear c1 c2 b1 b2 b3 b4 b5 b6 b7 b8 b9 d1 d2 d3 hn
    go_enter Try.func49, Try.ntmps49
    go_wp2_with (go_at_call 26; refine (hDp.out _ h.out).mono ?_; rintro e w2 ⟨rfl, hb⟩; replace hb := Lib.hid hb)
    go_ret2
    exact ⟨rfl, hb.out⟩
  have t1 : (n < 0) = False := by simp; omega
  have t2 : (d ≤ n) = False := by simp; omega
  rw [if_pos ⟨by omega, by omega⟩, if_pos ⟨by omega, by omega⟩]
  obtain ⟨n8, hn8⟩ : ∃ n8, n8 = 8 * n := ⟨_, rfl⟩
  obtain ⟨p, hp⟩ : ∃ p, p = t + n8 := ⟨_, rfl⟩
  have w1 : IntKind.i64.wrap (8 * n) = n8 := by rw [IntKind.wrap_i64]; omega
  have w2 : IntKind.i64.wrap (t + n8) = p := by rw [IntKind.wrap_i64]; omega
  have hpi : isI p := by unfold isI; omega
  rw [← hn8, ← hp] at hG ⊢
  clear c1 c2 b1 b2 b3 b4 b5 b6 b7 b8 b9 d1 d2 d3 hn hn8 hp
  go_enter Try.func49, Try.ntmps49
  go_wp2_with (first
    | (go_at_call 26; refine (hDp.out _ h.out).mono ?_; rintro e w2 ⟨rfl, hb⟩; replace hb := Lib.hid hb)
    | (go_at_call 57; refine (hTp.out _ (h.out.below hb.out)).mono ?_; rintro e w3 ⟨rfl, hb3⟩; replace hb := Lib.hid (bel_trans hb.out hb3); clear hb3)
    | (go_at_call 15; refine (hG.out _ (h.out.below hb.out) hpi).mono ?_; rintro e w4 ⟨rfl, hb4⟩; replace hb := Lib.hid (bel_trans hb.out hb4); clear hb4))
  go_ret2
  exact ⟨rfl, hb.out⟩
theorem rrp {w : World} {B rb : Nat} {M : List UInt8} {R : Nat → Prop} (h : RefP w B rb M R) : Calls Try.prog 58 #[.pointer (some ⟨rb, 0, none⟩)] w fun e w' => e = .returned (.int .i64 (topL M 40 512 768)) ∧ Below w.heap.size w w' := by
  have hTp := Lib.hid (rTop h 40 512 768 (by unfold Sk; omega))
  generalize topL M 40 512 768 = t at *
  clear h
  go_enter Try.func58, Try.ntmps58
  go_wp2_with (go_at_call 65; refine hTp.out.mono ?_; rintro e w1 ⟨rfl, hb1⟩; replace hb1 := Lib.hid hb1)
  go_ret
  exact ⟨rfl, hb1.out⟩
theorem rDeep {w : World} {B rb : Nat} {M : List UInt8} {R : Nat → Prop} (h : RefP w B rb M R) : Calls Try.prog 27 #[.pointer (some ⟨rb, 0, none⟩)] w fun e w' => e = .returned (.int .i64 (depL M 40 512 768)) ∧ Below w.heap.size w w' := by
  obtain ⟨b1, b2, b3, b4, b5, b6, b7, b8, b9⟩ := topL_bd (M := M) (show Sk 40 512 768 from by unfold Sk; omega)
  have hTp := Lib.hid (rrp h)
  unfold depL
  generalize topL M 40 512 768 = t at *
  have wd : IntKind.i64.wrap (768 - t) = 768 - t := by rw [IntKind.wrap_i64]; omega
  have c0 : 0 ≤ 768 - t := by omega
  clear h
  go_enter Try.func27, Try.ntmps27
  go_wp2_with (go_at_call 58; refine hTp.out.mono ?_; rintro e w1 ⟨rfl, hb1⟩; replace hb1 := Lib.hid hb1)
  go_ret
  exact ⟨rfl, hb1.out⟩
set_option maxHeartbeats 1000000 in
theorem rRPush {w : World} {B rb : Nat} {M : List UInt8} {R : Nat → Prop} (h : RefP w B rb M R) (n : Int) : Calls Try.prog 46 #[.pointer (some ⟨rb, 0, none⟩), .int .i64 n] w fun e w' => RefQ w w' B rb (pushM M 40 512 768 n) R (.int .i64 (pushT M 40 512 768 (-5))) e := by
  obtain ⟨b1, b2, b3, b4, b5, b6, b7, b8, b9⟩ := topL_bd (M := M) (show Sk 40 512 768 from by unfold Sk; omega)
  have hS := Onr.start h h.base_le
  have hTp := Lib.hid (fun (w9 : World) (O : Nat → Prop) (h : RefP w9 B rb M O) => rrp h)
  unfold pushM pushT
  generalize topL M 40 512 768 = t at *
  obtain ⟨p, hp⟩ : ∃ p, p = t - 8 := ⟨_, rfl⟩
  have wd : IntKind.i64.wrap (t - 8) = p := by rw [hp, IntKind.wrap_i64]; omega
  rw [← hp]
  have hpi : isI p := by unfold isI; omega
  by_cases c1 : p < 512
  · have t1 : (t == 512) = true := by rw [beq_iff_eq]; omega
    rw [if_pos c1, if_pos c1]
    clear c1 b1 b2 b3 b4 b5 b6 b7 b8 b9 hp
    go_enter Try.func46, Try.ntmps46
    go_wp2_with (go_at_call 58; refine (hS.read (fun O h => hTp.out _ _ h)).mono ?_; rintro e w2 ⟨rfl, hS2⟩; clear hS; have hS := hS2; clear hS2)
    go_ret
    exact hS.refQ _
  · have t1 : (t == 512) = false := by rw [beq_eq_false_iff_ne]; omega
    rw [if_neg c1, if_neg c1]
    clear c1 b1 b2 b3 b4 b5 b6 b7 b8 b9 hp
    go_enter Try.func46, Try.ntmps46
    go_wp2_with (first
      | (go_at_call 58; refine (hS.read (fun O h => hTp.out _ _ h)).mono ?_; rintro e w2 ⟨rfl, hS2⟩; clear hS; have hS := hS2; clear hS2)
      | (go_at_call_of 56 n; refine (hS.ref (fun O h hb => rSet h p n hpi)).mono ?_; rintro e w2 ⟨rfl, hS2⟩; clear hS; have hS := hS2; clear hS2)
      | (go_at_call 56; refine (hS.ref (fun O h hb => rSet h 40 p (by unfold isI; omega))).mono ?_; rintro e w2 ⟨rfl, hS2⟩; clear hS; have hS := hS2; clear hS2))
    go_ret
    exact hS.refQ _
set_option maxHeartbeats 1000000 in
theorem rRPop {w : World} {B rb : Nat} {M : List UInt8} {R : Nat → Prop} (h : RefP w B rb M R) : Calls Try.prog 47 #[.pointer (some ⟨rb, 0, none⟩)] w fun e w' => RefQ w w' B rb (popM M 40 512 768) R (.tuple #[.int .i64 (peekV M 40 512 768 0), .int .i64 (peekT M 40 512 768 (-6) 0)]) e := by
  obtain ⟨b1, b2, b3, b4, b5, b6, b7, b8, b9⟩ := topL_bd (M := M) (show Sk 40 512 768 from by unfold Sk; omega)
  obtain ⟨d1, d2, d3⟩ := depL_bd (M := M) (show Sk 40 512 768 from by unfold Sk; omega)
  have hS := Onr.start h h.base_le
  have hMl := h.len
  have hTp := Lib.hid (fun (w9 : World) (O : Nat → Prop) (h : RefP w9 B rb M O) => rrp h)
  unfold popM peekV peekT
  have hgo : ∀ x, getM (setM M 40 x) (topL M 40 512 768 + 8 * 0) = getM M (topL M 40 512 768 + 8 * 0) := fun x => getM_other hMl 40 _ x (by omega)
  generalize topL M 40 512 768 = t at *
  generalize depL M 40 512 768 = d at *
  obtain ⟨p, hp⟩ : ∃ p, p = t + 8 := ⟨_, rfl⟩
  have wd : IntKind.i64.wrap (t + 8) = p := by rw [hp, IntKind.wrap_i64]; omega
  rw [← hp]
  by_cases c1 : 0 < d
  · have t1 : (t == 768) = false := by rw [beq_eq_false_iff_ne]; omega
    rw [if_pos c1, if_pos ⟨by omega, c1⟩, if_pos ⟨by omega, c1⟩]
    have hg := hgo p
    rw [show t + 8 * 0 = t by omega] at hg ⊢
    have hti : isI t := by unfold isI; omega
    rw [← hg]
    clear c1 b1 b2 b3 b4 b5 b6 b7 b8 b9 hp d1 d2 d3 hgo hg h
    go_enter Try.func47, Try.ntmps47
    go_wp2_with (first
      | (go_at_call 58; refine (hS.read (fun O h => hTp.out _ _ h)).mono ?_; rintro e w2 ⟨rfl, hS2⟩; clear hS; have hS := hS2; clear hS2)
      | (go_at_call 56; refine (hS.ref (fun O h hb => rSet h 40 p (by unfold isI; omega))).mono ?_; rintro e w2 ⟨rfl, hS2⟩; clear hS; have hS := hS2; clear hS2)
      | (go_at_call 15; refine (hS.read (fun O h => rGet h t hti)).mono ?_; rintro e w2 ⟨rfl, hS2⟩; clear hS; have hS := hS2; clear hS2))
    go_ret2
    exact hS.refQ _
  · have t1 : (t == 768) = true := by rw [beq_iff_eq]; omega
    rw [if_neg c1, if_neg (fun h => c1 h.2), if_neg (fun h => c1 h.2)]
    clear c1 b1 b2 b3 b4 b5 b6 b7 b8 b9 hp d1 d2 d3 hgo h
    go_enter Try.func47, Try.ntmps47
    go_wp2_with (go_at_call 58; refine (hS.read (fun O h => hTp.out _ _ h)).mono ?_; rintro e w2 ⟨rfl, hS2⟩; clear hS; have hS := hS2; clear hS2)
    go_ret2
    exact hS.refQ _
set_option maxHeartbeats 1000000 in
theorem rRAt {w : World} {B rb : Nat} {M : List UInt8} {R : Nat → Prop} (h : RefP w B rb M R) (n : Int) (hn : isI n) : Calls Try.prog 51 #[.pointer (some ⟨rb, 0, none⟩), .int .i64 n] w fun e w' => e = .returned (.tuple #[.int .i64 (peekV M 40 512 768 n), .int .i64 (peekT M 40 512 768 (-6) n)]) ∧ Below w.heap.size w w' := by
  obtain ⟨b1, b2, b3, b4, b5, b6, b7, b8, b9⟩ := topL_bd (M := M) (show Sk 40 512 768 from by unfold Sk; omega)
  obtain ⟨d1, d2, d3⟩ := depL_bd (M := M) (show Sk 40 512 768 from by unfold Sk; omega)
  have hTp := Lib.hid (fun (w9 : World) (h : RefP w9 B rb M R) => rrp h)
  have hDp := Lib.hid (fun (w9 : World) (h : RefP w9 B rb M R) => rDeep h)
  have hG := Lib.hid (fun (w9 : World) (h : RefP w9 B rb M R) => rGet h (topL M 40 512 768 + 8 * n))
  unfold peekV peekT
  generalize topL M 40 512 768 = t at *
  generalize depL M 40 512 768 = d at *
  unfold isI at hn
  replace h := Lib.hid h
  by_cases c1 : n < 0
  · have t1 : (n < 0) = True := by simp; exact c1
    rw [if_neg (by omega), if_neg (by omega)]
    clear c1 b1 b2 b3 b4 b5 b6 b7 b8 b9 d1 d2 d3 hn
    go_enter Try.func51, Try.ntmps51
    go_wp2
    go_ret2
    exact ⟨rfl, Below.refl _ _⟩
  by_cases c2 : d ≤ n
  · have t1 : (n < 0) = False := by simp; omega
    have t2 : (d ≤ n) = True := by simp; exact c2
    rw [if_neg (by omega), if_neg (by omega)]
    clear c1 c2 b1 b2 b3 b4 b5 b6 b7 b8 b9 d1 d2 d3 hn
    go_enter Try.func51, Try.ntmps51
    go_wp2_with (go_at_call 27; refine (hDp.out _ h.out).mono ?_; rintro e w2 ⟨rfl, hb⟩; replace hb := Lib.hid hb)
    go_ret2
    exact ⟨rfl, hb.out⟩
  have t1 : (n < 0) = False := by simp; omega
  have t2 : (d ≤ n) = False := by simp; omega
  rw [if_pos ⟨by omega, by omega⟩, if_pos ⟨by omega, by omega⟩]
  obtain ⟨n8, hn8⟩ : ∃ n8, n8 = 8 * n := ⟨_, rfl⟩
  obtain ⟨p, hp⟩ : ∃ p, p = t + n8 := ⟨_, rfl⟩
  have w1 : IntKind.i64.wrap (8 * n) = n8 := by rw [IntKind.wrap_i64]; omega
  have w2 : IntKind.i64.wrap (t + n8) = p := by rw [IntKind.wrap_i64]; omega
  have hpi : isI p := by unfold isI; omega
  rw [← hn8, ← hp] at hG ⊢
  clear c1 c2 b1 b2 b3 b4 b5 b6 b7 b8 b9 d1 d2 d3 hn hn8 hp
  go_enter Try.func51, Try.ntmps51
  go_wp2_with (first
    | (go_at_call 27; refine (hDp.out _ h.out).mono ?_; rintro e w2 ⟨rfl, hb⟩; replace hb := Lib.hid hb)
    | (go_at_call 58; refine (hTp.out _ (h.out.below hb.out)).mono ?_; rintro e w3 ⟨rfl, hb3⟩; replace hb := Lib.hid (bel_trans hb.out hb3); clear hb3)
    | (go_at_call 15; refine (hG.out _ (h.out.below hb.out) hpi).mono ?_; rintro e w4 ⟨rfl, hb4⟩; replace hb := Lib.hid (bel_trans hb.out hb4); clear hb4))
  go_ret2
  exact ⟨rfl, hb.out⟩
end Go.Proofs.Ytjeelccdbhhfjaa
