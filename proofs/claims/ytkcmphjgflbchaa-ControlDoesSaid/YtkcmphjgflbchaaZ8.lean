/- Texts merged: W3 W4. -/
import Derived.Test.YtkcmphjgflbchaaZ7
/- The words: what each one plans. -/
namespace Go.Proofs.Ytkcmphjgflbchaa
open Go.RowKit
set_option linter.unusedVariables false
set_option linter.unusedSimpArgs false
attribute [local go_sem] cell_set set_set m_undef

theorem PlS.alloc {W w : World} {B mb : Nat} {M : List UInt8} {O0 : Nat → Prop} {pb : Nat} {here tk hole tgt : Int} {cl ll : List Int} (h : PlS W w B mb M O0 pb here tk cl ll hole tgt) (o : Obj) : PlS W (w.alloc o) B mb M O0 pb here tk cl ll hole tgt := by
  obtain ⟨cv, lv, hS, h2⟩ := h
  exact ⟨cv, lv, hS.alloc o, h2⟩
theorem PlS.laysNew {W w : World} {B mb : Nat} {M : List UInt8} {O0 : Nat → Prop} {pb : Nat} {here tk hole tgt : Int} {cl ll : List Int} (h : PlS W w B mb M O0 pb here tk cl ll hole tgt) (l : List Int) :
    PlS W ((w.alloc (.cells (ic l).toArray 2)).setCell ⟨pb, 4, none⟩ (.slice (some ⟨w.heap.size, 0, none⟩) l.length l.length)) B mb M O0 pb here tk cl l hole tgt := by
  obtain ⟨cv, lv, hS, hpb, hcv, hlv⟩ := h
  have hV : Vs (w.alloc (.cells (ic l).toArray 2)) w.heap.size 1 (.slice (some ⟨w.heap.size, 0, none⟩) l.length l.length) l.length (ic l) :=
    Vs.of_blk (Blk.new w (ic l).toArray 2) (by rw [ic_len, Nat.mul_one]) (by rw [List.size_toArray, ic_len]; omega) (Nat.le_refl _) (fun j u hj => by rw [List.getElem?_toArray]; exact hj) (fun u hu => by unfold ic at hu; obtain ⟨x, _, rfl⟩ := List.mem_map.1 hu; rfl) (Nat.le_refl _)
  have hS2 := hS.newVs (bel_alloc (Below.refl _ _) (.cells (ic l).toArray 2)) hV
  have hws := hS.size
  have hp := hS.slt PlK.pb
  exact PlS.setLays hS2 hpb hcv (fun b hb => by
    have e : w.heap.size = b := by simpa [Value.ownBlock] using hb
    subst e
    exact ⟨hws, by omega⟩)
theorem pHole {W w : World} {B mb : Nat} {M : List UInt8} {O0 : Nat → Prop} {pb : Nat} {here tk hole tgt : Int} {cl ll : List Int} (h : PlS W w B mb M O0 pb here tk cl ll hole tgt) (hh : 1536 ≤ here ∧ here ≤ 5632) (htk : 0 ≤ tk ∧ tk ≤ 2) :
    Calls Try.prog 75 #[.pointer (some ⟨pb, 0, none⟩)] w fun e w' =>
      if takeT M here tk 8 = 0 then e = .returned (.int .i64 (peekV M 32 256 512 tk)) ∧ PlS W w' B mb M O0 pb here (tk + 1) cl ll hole tgt else e = Thr (takeT M here tk 8) ∧ One W w' B mb M O0 .emp := by
  have hC := pTake h 8 (by omega) hh htk
  by_cases hT : takeT M here tk 8 = 0
  · simp only [if_pos hT] at hC ⊢
    replace hC := Lib.hid hC
    clear h hT
    go_enter Try.func75, Try.ntmps75
    go_wp2_with (go_at_call 92; refine hC.out.mono ?_; rintro e w1 ⟨rfl, hP⟩)
    go_ret
    exact ⟨rfl, hP⟩
  · simp only [if_neg hT] at hC ⊢
    replace hC := Lib.hid hC
    clear h hT
    go_enter Try.func75, Try.ntmps75
    go_wp2_with (go_at_call 92; refine hC.out.mono ?_; rintro e w1 ⟨rfl, hP⟩)
    (try go_end0)
    exact ⟨rfl, rfl, hP⟩
theorem pGoal {W w : World} {B mb : Nat} {M : List UInt8} {O0 : Nat → Prop} {pb : Nat} {here tk hole tgt : Int} {cl ll : List Int} (h : PlS W w B mb M O0 pb here tk cl ll hole tgt) (hh : 1536 ≤ here ∧ here ≤ 5632) (htk : 0 ≤ tk ∧ tk ≤ 2) :
    Calls Try.prog 78 #[.pointer (some ⟨pb, 0, none⟩)] w fun e w' =>
      if takeT M here tk 0 = 0 then e = .returned (.int .i64 (peekV M 32 256 512 tk)) ∧ PlS W w' B mb M O0 pb here (tk + 1) cl ll hole tgt else e = Thr (takeT M here tk 0) ∧ One W w' B mb M O0 .emp := by
  have hC := pTake h 0 (by omega) hh htk
  by_cases hT : takeT M here tk 0 = 0
  · simp only [if_pos hT] at hC ⊢
    replace hC := Lib.hid hC
    clear h hT
    go_enter Try.func78, Try.ntmps78
    go_wp2_with (go_at_call 92; refine hC.out.mono ?_; rintro e w1 ⟨rfl, hP⟩)
    go_ret
    exact ⟨rfl, hP⟩
  · simp only [if_neg hT] at hC ⊢
    replace hC := Lib.hid hC
    clear h hT
    go_enter Try.func78, Try.ntmps78
    go_wp2_with (go_at_call 92; refine hC.out.mono ?_; rintro e w1 ⟨rfl, hP⟩)
    (try go_end0)
    exact ⟨rfl, rfl, hP⟩
set_option maxRecDepth 100000 in
set_option maxHeartbeats 1000000 in
theorem pD0 {W w : World} {B mb : Nat} {M : List UInt8} {O0 : Nat → Prop} {pb : Nat} {here : Int} (h : PlS W w B mb M O0 pb here 0 [] [] 0 0) (hh : 1536 ≤ here ∧ here ≤ 5632) : Calls Try.prog 51 #[.pointer (some ⟨pb, 0, none⟩)] w fun e w' => e = .returned (.tuple #[]) ∧ PlS W w' B mb M O0 pb here 0 [32, 0] [here + 8] 0 0 := by
  have hO := pOpen h 4 (by omega) hh
  obtain ⟨h8, hh8⟩ : ∃ h8, h8 = here + 8 := ⟨_, rfl⟩
  rw [← hh8] at hO ⊢
  replace hO := Lib.hid hO
  clear h hh8
  go_enter Try.func51, Try.ntmps51
  go_wp2_with (go_at_call 74; refine (hO.out).mono ?_; rintro e w1 ⟨rfl, hP⟩; have hfin := Lib.hid (PlS.laysNew hP [h8]); obtain ⟨cv, lv, hS, -⟩ := hP; obtain ⟨y0, y1, y2, y3, y4, y5, y6⟩ := (show Blk _ pb _ _ from hS.fact.2).c7; obtain ⟨z0, z1, z2, z3, z4, z5, z6⟩ := ((show Blk _ pb _ _ from hS.fact.2).alloc (.cells #[.int .i64 (h8)] 2)).c7; clear hS)
  (try go_end0)
  exact ⟨rfl, hfin.out⟩
set_option maxRecDepth 100000 in
set_option maxHeartbeats 1000000 in
theorem pD3 {W w : World} {B mb : Nat} {M : List UInt8} {O0 : Nat → Prop} {pb : Nat} {here : Int} (h : PlS W w B mb M O0 pb here 0 [] [] 0 0) (hh : 1536 ≤ here ∧ here ≤ 5632) : Calls Try.prog 54 #[.pointer (some ⟨pb, 0, none⟩)] w fun e w' => e = .returned (.tuple #[]) ∧ PlS W w' B mb M O0 pb here 0 [] [here] 0 0 := by
  have hP := h
  clear h hh
  have hfin := Lib.hid (PlS.laysNew hP [here]); obtain ⟨cv, lv, hS, -⟩ := hP; obtain ⟨y0, y1, y2, y3, y4, y5, y6⟩ := (show Blk _ pb _ _ from hS.fact.2).c7; obtain ⟨z0, z1, z2, z3, z4, z5, z6⟩ := ((show Blk _ pb _ _ from hS.fact.2).alloc (.cells #[.int .i64 (here)] 2)).c7; clear hS
  go_enter Try.func54, Try.ntmps54
  go_wp2
  (try go_end0)
  exact ⟨rfl, hfin.out⟩
set_option maxRecDepth 100000 in
set_option maxHeartbeats 1000000 in
theorem pD8 {W w : World} {B mb : Nat} {M : List UInt8} {O0 : Nat → Prop} {pb : Nat} {here : Int} (h : PlS W w B mb M O0 pb here 0 [] [] 0 0) (hh : 1536 ≤ here ∧ here ≤ 5632) : Calls Try.prog 59 #[.pointer (some ⟨pb, 0, none⟩)] w fun e w' => e = .returned (.tuple #[]) ∧ PlS W w' B mb M O0 pb here 0 [40] [here + 8] 0 0 := by
  obtain ⟨h8, hh8⟩ : ∃ h8, h8 = here + 8 := ⟨_, rfl⟩
  have w8 : IntKind.i64.wrap (here + 8) = h8 := by rw [hh8, IntKind.wrap_i64]; omega
  obtain ⟨h16, hh16⟩ : ∃ h16, h16 = here + 16 := ⟨_, rfl⟩
  have hL := Lib.hid (pLay h 5 (by omega) (u := .slice none 0 0) (l := []) ⟨rfl, (fun u hu => by cases hu), .inl ⟨rfl, rfl⟩⟩ (by simp))
  rw [← hh8]
  clear h hh hh8 hh16
  go_enter Try.func59, Try.ntmps59
  go_wp2_with (go_at_call 77; refine (hL.out).mono ?_; rintro e w1 ⟨rfl, hP⟩; have hfin := Lib.hid (PlS.laysNew hP [h8]); obtain ⟨cv, lv, hS, -⟩ := hP; obtain ⟨y0, y1, y2, y3, y4, y5, y6⟩ := (show Blk _ pb _ _ from hS.fact.2).c7; obtain ⟨z0, z1, z2, z3, z4, z5, z6⟩ := ((show Blk _ pb _ _ from hS.fact.2).alloc (.cells #[.int .i64 (h8)] 2)).c7; clear hS)
  (try go_end0)
  exact ⟨rfl, hfin.out⟩
set_option maxRecDepth 100000 in
set_option maxHeartbeats 1000000 in
theorem pD1 {W w : World} {B mb : Nat} {M : List UInt8} {O0 : Nat → Prop} {pb : Nat} {here : Int} (h : PlS W w B mb M O0 pb here 0 [] [] 0 0) (hh : 1536 ≤ here ∧ here ≤ 5632) : Calls Try.prog 52 #[.pointer (some ⟨pb, 0, none⟩)] w fun e w' =>
      if takeT M here 0 8 = 0 then e = .returned (.tuple #[]) ∧ PlS W w' B mb M O0 pb here 1 [24, 0] [here + 8] (peekV M 32 256 512 0) (here + 16) else e = Thr (takeT M here 0 8) ∧ One W w' B mb M O0 .emp := by
  have hT := pHole h hh (by omega)
  have hai := peekV_isI M 0
  by_cases hz : takeT M here 0 8 = 0
  · simp only [if_pos hz, Int.zero_add] at hT ⊢
    replace hT := Lib.hid hT
    generalize peekV M 32 256 512 0 = a at *
    obtain ⟨h8, hh8⟩ : ∃ h8, h8 = here + 8 := ⟨_, rfl⟩
    have w8 : IntKind.i64.wrap (here + 8) = h8 := by rw [hh8, IntKind.wrap_i64]; omega
    obtain ⟨h16, hh16⟩ : ∃ h16, h16 = here + 16 := ⟨_, rfl⟩
    rw [← hh8]
    rw [← hh16]
    have hO := Lib.hid (fun (w9 : World) (h9 : PlS W w9 B mb M O0 pb here 1 [] [] 0 0) => pOpen h9 3 (by omega) hh)
    rw [← hh8] at hO
    have hF := Lib.hid (fun (w9 : World) (h9 : PlS W w9 B mb M O0 pb here 1 [24, 0] [h8] 0 0) => pFill h9 a hai hh (by simp))
    rw [show here + 8 * (([24, 0] : List Int).length : Int) = h16 by simp; omega] at hF
    clear h hz hh hh8 hh16
    go_enter Try.func52, Try.ntmps52
    go_wp2_with (first
      | (go_at_call 75; refine hT.out.mono ?_; rintro e w1 ⟨rfl, hP⟩)
      | (go_at_call 74; refine (hO.out _ hP).mono ?_; rintro e w1 ⟨rfl, hP⟩; have hfin := Lib.hid (PlS.laysNew hP [h8]); obtain ⟨cv, lv, hS, -⟩ := hP; obtain ⟨y0, y1, y2, y3, y4, y5, y6⟩ := (show Blk _ pb _ _ from hS.fact.2).c7; obtain ⟨z0, z1, z2, z3, z4, z5, z6⟩ := ((show Blk _ pb _ _ from hS.fact.2).alloc (.cells #[.int .i64 (h8)] 2)).c7; clear hS)
      | (go_at_call 76; refine (hF.out _ hfin.out).mono ?_; rintro e w1 ⟨rfl, hP⟩))
    (try go_end0)
    exact ⟨rfl, hP⟩
  · simp only [if_neg hz] at hT ⊢
    replace hT := Lib.hid hT
    clear h hz hai
    go_enter Try.func52, Try.ntmps52
    go_wp2_with (go_at_call 75; refine hT.out.mono ?_; rintro e w1 ⟨rfl, hP⟩)
    (try go_end0)
    exact ⟨rfl, rfl, hP⟩
set_option maxRecDepth 100000 in
set_option maxHeartbeats 1000000 in
theorem pD2 {W w : World} {B mb : Nat} {M : List UInt8} {O0 : Nat → Prop} {pb : Nat} {here : Int} (h : PlS W w B mb M O0 pb here 0 [] [] 0 0) (hh : 1536 ≤ here ∧ here ≤ 5632) : Calls Try.prog 53 #[.pointer (some ⟨pb, 0, none⟩)] w fun e w' =>
      if takeT M here 0 8 = 0 then e = .returned (.tuple #[]) ∧ PlS W w' B mb M O0 pb here 1 [] [] (peekV M 32 256 512 0) here else e = Thr (takeT M here 0 8) ∧ One W w' B mb M O0 .emp := by
  have hT := pHole h hh (by omega)
  have hai := peekV_isI M 0
  by_cases hz : takeT M here 0 8 = 0
  · simp only [if_pos hz, Int.zero_add] at hT ⊢
    replace hT := Lib.hid hT
    generalize peekV M 32 256 512 0 = a at *
    obtain ⟨h8, hh8⟩ : ∃ h8, h8 = here + 8 := ⟨_, rfl⟩
    have w8 : IntKind.i64.wrap (here + 8) = h8 := by rw [hh8, IntKind.wrap_i64]; omega
    obtain ⟨h16, hh16⟩ : ∃ h16, h16 = here + 16 := ⟨_, rfl⟩
    have hF := Lib.hid (fun (w9 : World) (h9 : PlS W w9 B mb M O0 pb here 1 [] [] 0 0) => pFill h9 a hai hh (by simp))
    rw [show here + 8 * (([] : List Int).length : Int) = here by simp] at hF
    clear h hz hh hh8 hh16
    go_enter Try.func53, Try.ntmps53
    go_wp2_with (first
      | (go_at_call 75; refine hT.out.mono ?_; rintro e w1 ⟨rfl, hP⟩)
      | (go_at_call 76; refine (hF.out _ hP).mono ?_; rintro e w1 ⟨rfl, hP⟩))
    (try go_end0)
    exact ⟨rfl, hP⟩
  · simp only [if_neg hz] at hT ⊢
    replace hT := Lib.hid hT
    clear h hz hai
    go_enter Try.func53, Try.ntmps53
    go_wp2_with (go_at_call 75; refine hT.out.mono ?_; rintro e w1 ⟨rfl, hP⟩)
    (try go_end0)
    exact ⟨rfl, rfl, hP⟩
set_option maxRecDepth 100000 in
set_option maxHeartbeats 1000000 in
theorem pD4 {W w : World} {B mb : Nat} {M : List UInt8} {O0 : Nat → Prop} {pb : Nat} {here : Int} (h : PlS W w B mb M O0 pb here 0 [] [] 0 0) (hh : 1536 ≤ here ∧ here ≤ 5632) : Calls Try.prog 55 #[.pointer (some ⟨pb, 0, none⟩)] w fun e w' =>
      if takeT M here 0 0 = 0 then e = .returned (.tuple #[]) ∧ PlS W w' B mb M O0 pb here 1 [32, (peekV M 32 256 512 0)] [] 0 0 else e = Thr (takeT M here 0 0) ∧ One W w' B mb M O0 .emp := by
  have hT := pGoal h hh (by omega)
  have hai := peekV_isI M 0
  by_cases hz : takeT M here 0 0 = 0
  · simp only [if_pos hz, Int.zero_add] at hT ⊢
    replace hT := Lib.hid hT
    generalize peekV M 32 256 512 0 = a at *
    obtain ⟨h8, hh8⟩ : ∃ h8, h8 = here + 8 := ⟨_, rfl⟩
    have w8 : IntKind.i64.wrap (here + 8) = h8 := by rw [hh8, IntKind.wrap_i64]; omega
    obtain ⟨h16, hh16⟩ : ∃ h16, h16 = here + 16 := ⟨_, rfl⟩
    clear h hz hh hh8 hh16
    go_enter Try.func55, Try.ntmps55
    go_wp2_with (first
      | (go_at_call 78; refine hT.out.mono ?_; rintro e w1 ⟨rfl, hP⟩)
      | (go_at_call 77; refine (pLay (hP.alloc _) 4 (by omega) (Rv.litC _ [a]) (by simp)).mono ?_; rintro e w1 ⟨rfl, hP⟩))
    (try go_end0)
    exact ⟨rfl, hP⟩
  · simp only [if_neg hz] at hT ⊢
    replace hT := Lib.hid hT
    clear h hz hai
    go_enter Try.func55, Try.ntmps55
    go_wp2_with (go_at_call 78; refine hT.out.mono ?_; rintro e w1 ⟨rfl, hP⟩)
    (try go_end0)
    exact ⟨rfl, rfl, hP⟩
set_option maxRecDepth 100000 in
set_option maxHeartbeats 1000000 in
theorem pD7 {W w : World} {B mb : Nat} {M : List UInt8} {O0 : Nat → Prop} {pb : Nat} {here : Int} (h : PlS W w B mb M O0 pb here 0 [] [] 0 0) (hh : 1536 ≤ here ∧ here ≤ 5632) : Calls Try.prog 56 #[.pointer (some ⟨pb, 0, none⟩)] w fun e w' =>
      if takeT M here 0 0 = 0 then e = .returned (.tuple #[]) ∧ PlS W w' B mb M O0 pb here 1 [24, (peekV M 32 256 512 0)] [] 0 0 else e = Thr (takeT M here 0 0) ∧ One W w' B mb M O0 .emp := by
  have hT := pGoal h hh (by omega)
  have hai := peekV_isI M 0
  by_cases hz : takeT M here 0 0 = 0
  · simp only [if_pos hz, Int.zero_add] at hT ⊢
    replace hT := Lib.hid hT
    generalize peekV M 32 256 512 0 = a at *
    obtain ⟨h8, hh8⟩ : ∃ h8, h8 = here + 8 := ⟨_, rfl⟩
    have w8 : IntKind.i64.wrap (here + 8) = h8 := by rw [hh8, IntKind.wrap_i64]; omega
    obtain ⟨h16, hh16⟩ : ∃ h16, h16 = here + 16 := ⟨_, rfl⟩
    clear h hz hh hh8 hh16
    go_enter Try.func56, Try.ntmps56
    go_wp2_with (first
      | (go_at_call 78; refine hT.out.mono ?_; rintro e w1 ⟨rfl, hP⟩)
      | (go_at_call 77; refine (pLay (hP.alloc _) 3 (by omega) (Rv.litC _ [a]) (by simp)).mono ?_; rintro e w1 ⟨rfl, hP⟩))
    (try go_end0)
    exact ⟨rfl, hP⟩
  · simp only [if_neg hz] at hT ⊢
    replace hT := Lib.hid hT
    clear h hz hai
    go_enter Try.func56, Try.ntmps56
    go_wp2_with (go_at_call 78; refine hT.out.mono ?_; rintro e w1 ⟨rfl, hP⟩)
    (try go_end0)
    exact ⟨rfl, rfl, hP⟩
set_option maxRecDepth 100000 in
set_option maxHeartbeats 1000000 in
theorem pD9 {W w : World} {B mb : Nat} {M : List UInt8} {O0 : Nat → Prop} {pb : Nat} {here : Int} (h : PlS W w B mb M O0 pb here 0 [] [] 0 0) (hh : 1536 ≤ here ∧ here ≤ 5632) : Calls Try.prog 60 #[.pointer (some ⟨pb, 0, none⟩)] w fun e w' =>
      if takeT M here 0 0 = 0 then e = .returned (.tuple #[]) ∧ PlS W w' B mb M O0 pb here 1 [48, (peekV M 32 256 512 0)] [] 0 0 else e = Thr (takeT M here 0 0) ∧ One W w' B mb M O0 .emp := by
  have hT := pGoal h hh (by omega)
  have hai := peekV_isI M 0
  by_cases hz : takeT M here 0 0 = 0
  · simp only [if_pos hz, Int.zero_add] at hT ⊢
    replace hT := Lib.hid hT
    generalize peekV M 32 256 512 0 = a at *
    obtain ⟨h8, hh8⟩ : ∃ h8, h8 = here + 8 := ⟨_, rfl⟩
    have w8 : IntKind.i64.wrap (here + 8) = h8 := by rw [hh8, IntKind.wrap_i64]; omega
    obtain ⟨h16, hh16⟩ : ∃ h16, h16 = here + 16 := ⟨_, rfl⟩
    clear h hz hh hh8 hh16
    go_enter Try.func60, Try.ntmps60
    go_wp2_with (first
      | (go_at_call 78; refine hT.out.mono ?_; rintro e w1 ⟨rfl, hP⟩)
      | (go_at_call 77; refine (pLay (hP.alloc _) 6 (by omega) (Rv.litC _ [a]) (by simp)).mono ?_; rintro e w1 ⟨rfl, hP⟩))
    (try go_end0)
    exact ⟨rfl, hP⟩
  · simp only [if_neg hz] at hT ⊢
    replace hT := Lib.hid hT
    clear h hz hai
    go_enter Try.func60, Try.ntmps60
    go_wp2_with (go_at_call 78; refine hT.out.mono ?_; rintro e w1 ⟨rfl, hP⟩)
    (try go_end0)
    exact ⟨rfl, rfl, hP⟩
set_option maxRecDepth 100000 in
set_option maxHeartbeats 1000000 in
theorem pD10 {W w : World} {B mb : Nat} {M : List UInt8} {O0 : Nat → Prop} {pb : Nat} {here : Int} (h : PlS W w B mb M O0 pb here 0 [] [] 0 0) (hh : 1536 ≤ here ∧ here ≤ 5632) : Calls Try.prog 61 #[.pointer (some ⟨pb, 0, none⟩)] w fun e w' =>
      if takeT M here 0 0 = 0 then e = .returned (.tuple #[]) ∧ PlS W w' B mb M O0 pb here 1 [56, (peekV M 32 256 512 0)] [] 0 0 else e = Thr (takeT M here 0 0) ∧ One W w' B mb M O0 .emp := by
  have hT := pGoal h hh (by omega)
  have hai := peekV_isI M 0
  by_cases hz : takeT M here 0 0 = 0
  · simp only [if_pos hz, Int.zero_add] at hT ⊢
    replace hT := Lib.hid hT
    generalize peekV M 32 256 512 0 = a at *
    obtain ⟨h8, hh8⟩ : ∃ h8, h8 = here + 8 := ⟨_, rfl⟩
    have w8 : IntKind.i64.wrap (here + 8) = h8 := by rw [hh8, IntKind.wrap_i64]; omega
    obtain ⟨h16, hh16⟩ : ∃ h16, h16 = here + 16 := ⟨_, rfl⟩
    clear h hz hh hh8 hh16
    go_enter Try.func61, Try.ntmps61
    go_wp2_with (first
      | (go_at_call 78; refine hT.out.mono ?_; rintro e w1 ⟨rfl, hP⟩)
      | (go_at_call 77; refine (pLay (hP.alloc _) 7 (by omega) (Rv.litC _ [a]) (by simp)).mono ?_; rintro e w1 ⟨rfl, hP⟩))
    (try go_end0)
    exact ⟨rfl, hP⟩
  · simp only [if_neg hz] at hT ⊢
    replace hT := Lib.hid hT
    clear h hz hai
    go_enter Try.func61, Try.ntmps61
    go_wp2_with (go_at_call 78; refine hT.out.mono ?_; rintro e w1 ⟨rfl, hP⟩)
    (try go_end0)
    exact ⟨rfl, rfl, hP⟩
set_option maxRecDepth 100000 in
set_option maxHeartbeats 1000000 in
theorem pD5 {W w : World} {B mb : Nat} {M : List UInt8} {O0 : Nat → Prop} {pb : Nat} {here : Int} (h : PlS W w B mb M O0 pb here 0 [] [] 0 0) (hh : 1536 ≤ here ∧ here ≤ 5632) : Calls Try.prog 57 #[.pointer (some ⟨pb, 0, none⟩)] w fun e w' =>
      if takeT M here 0 0 = 0 then e = .returned (.tuple #[]) ∧ PlS W w' B mb M O0 pb here 1 [32, 0] [here + 8, (peekV M 32 256 512 0)] 0 0 else e = Thr (takeT M here 0 0) ∧ One W w' B mb M O0 .emp := by
  have hT := pGoal h hh (by omega)
  have hai := peekV_isI M 0
  by_cases hz : takeT M here 0 0 = 0
  · simp only [if_pos hz, Int.zero_add] at hT ⊢
    replace hT := Lib.hid hT
    generalize peekV M 32 256 512 0 = a at *
    obtain ⟨h8, hh8⟩ : ∃ h8, h8 = here + 8 := ⟨_, rfl⟩
    have w8 : IntKind.i64.wrap (here + 8) = h8 := by rw [hh8, IntKind.wrap_i64]; omega
    obtain ⟨h16, hh16⟩ : ∃ h16, h16 = here + 16 := ⟨_, rfl⟩
    rw [← hh8]
    have hO := Lib.hid (fun (w9 : World) (h9 : PlS W w9 B mb M O0 pb here 1 [] [] 0 0) => pOpen h9 4 (by omega) hh)
    rw [← hh8] at hO
    clear h hz hh hh8 hh16
    go_enter Try.func57, Try.ntmps57
    go_wp2_with (first
      | (go_at_call 78; refine hT.out.mono ?_; rintro e w1 ⟨rfl, hP⟩)
      | (go_at_call 74; refine (hO.out _ hP).mono ?_; rintro e w1 ⟨rfl, hP⟩; have hfin := Lib.hid (PlS.laysNew hP [h8, a]); obtain ⟨cv, lv, hS, -⟩ := hP; obtain ⟨y0, y1, y2, y3, y4, y5, y6⟩ := (show Blk _ pb _ _ from hS.fact.2).c7; obtain ⟨z0, z1, z2, z3, z4, z5, z6⟩ := ((show Blk _ pb _ _ from hS.fact.2).alloc (.cells #[.int .i64 (h8), .int .i64 (a)] 2)).c7; clear hS))
    (try go_end0)
    exact ⟨rfl, hfin.out⟩
  · simp only [if_neg hz] at hT ⊢
    replace hT := Lib.hid hT
    clear h hz hai
    go_enter Try.func57, Try.ntmps57
    go_wp2_with (go_at_call 78; refine hT.out.mono ?_; rintro e w1 ⟨rfl, hP⟩)
    (try go_end0)
    exact ⟨rfl, rfl, hP⟩
set_option maxRecDepth 100000 in
set_option maxHeartbeats 1000000 in
theorem pD6 {W w : World} {B mb : Nat} {M : List UInt8} {O0 : Nat → Prop} {pb : Nat} {here : Int} (h : PlS W w B mb M O0 pb here 0 [] [] 0 0) (hh : 1536 ≤ here ∧ here ≤ 5632) : Calls Try.prog 58 #[.pointer (some ⟨pb, 0, none⟩)] w fun e w' =>
      if depL M 32 256 512 < 2 then e = Thr (-4) ∧ One W w' B mb M O0 .emp else if takeT M here 0 0 = 0 then (if takeT M here 1 8 = 0 then e = .returned (.tuple #[]) ∧ PlS W w' B mb M O0 pb here 2 [24, (peekV M 32 256 512 0)] [] (peekV M 32 256 512 1) (here + 16) else e = Thr (takeT M here 1 8) ∧ One W w' B mb M O0 .emp) else e = Thr (takeT M here 0 0) ∧ One W w' B mb M O0 .emp := by
  have hDp := Lib.hid (fun (w9 : World) (O : Nat → Prop) (h : MemP w9 B mb M O) (hb : B ≤ w9.heap.size) => kDepth h hb)
  have hG := Lib.hid (fun (w9 : World) (h9 : PlS W w9 B mb M O0 pb here 0 [] [] 0 0) => pGoal h9 hh (by omega))
  have hH := Lib.hid (fun (w9 : World) (h9 : PlS W w9 B mb M O0 pb here 1 [] [] 0 0) => pHole h9 hh (by omega))
  have hai := peekV_isI M 0
  have hbi := peekV_isI M 1
  generalize peekV M 32 256 512 0 = a at *
  generalize peekV M 32 256 512 1 = b at *
  generalize depL M 32 256 512 = d at *
  obtain ⟨h8, hh8⟩ : ∃ h8, h8 = here + 8 := ⟨_, rfl⟩
  have w8 : IntKind.i64.wrap (here + 8) = h8 := by rw [hh8, IntKind.wrap_i64]; omega
  obtain ⟨h16, hh16⟩ : ∃ h16, h16 = here + 16 := ⟨_, rfl⟩
  rw [← hh16]
  have hF := Lib.hid (fun (w9 : World) (h9 : PlS W w9 B mb M O0 pb here 2 [24, a] [] 0 0) => pFill h9 b hbi hh (by simp))
  rw [show here + 8 * (([24, a] : List Int).length : Int) = h16 by simp; omega] at hF
  have hP := h
  clear h
  obtain ⟨cv, lv, hS, hx1, hx2, hx3⟩ := hP; obtain ⟨y0, y1, y2, y3, y4, y5, y6⟩ := (show Blk _ pb _ _ from hS.fact.2).c7
  by_cases c1 : d < 2
  · have t1 : ((2 : Int) ≤ d) = False := eq_false (by omega)
    simp only [if_pos c1]
    clear c1 hh hh8 hh16
    go_enter Try.func58, Try.ntmps58
    go_wp2_with (first
      | (go_at_call 62; refine (hS.mem (fun O h hb => hDp.out _ O h hb)).mono ?_; rintro e w1 ⟨rfl, hS2⟩; have hP0 : PlS W w1 B mb M O0 pb here 0 [] [] 0 0 := ⟨cv, lv, hS2, hx1, hx2, hx3⟩; clear hS hS2)
      | (go_at_call 27; refine (must_no _ _).mono ?_; rintro e _ ⟨rfl, rfl⟩))
    (try go_end0)
    exact ⟨rfl, rfl, hP0.one⟩
  have t1 : ((2 : Int) ≤ d) = True := eq_true (by omega)
  simp only [if_neg c1]
  by_cases c2 : takeT M here 0 0 = 0
  · simp only [if_pos c2, Int.zero_add] at hG ⊢
    by_cases c3 : takeT M here 1 8 = 0
    · simp only [if_pos c3, show (1 : Int) + 1 = 2 from rfl] at hH ⊢
      clear c1 c2 c3 hh hh8 hh16
      go_enter Try.func58, Try.ntmps58
      go_wp2_with (first
        | (go_at_call 62; refine (hS.mem (fun O h hb => hDp.out _ O h hb)).mono ?_; rintro e w1 ⟨rfl, hS2⟩; have hP0 : PlS W w1 B mb M O0 pb here 0 [] [] 0 0 := ⟨cv, lv, hS2, hx1, hx2, hx3⟩; clear hS hS2)
        | (go_at_call 27; refine (must_ok _ _).mono ?_; rintro e _ ⟨rfl, rfl⟩)
        | (go_at_call 78; refine (hG.out _ hP0).mono ?_; rintro e w2 ⟨rfl, hP⟩)
        | (go_at_call 75; refine (hH.out _ hP).mono ?_; rintro e w2 ⟨rfl, hP⟩)
        | (go_at_call 77; refine (pLay (hP.alloc _) 3 (by omega) (Rv.litC _ [a]) (by simp)).mono ?_; rintro e w2 ⟨rfl, hP⟩)
        | (go_at_call 76; refine (hF.out _ hP).mono ?_; rintro e w2 ⟨rfl, hP⟩))
      (try go_end0)
      exact ⟨rfl, hP⟩
    · simp only [if_neg c3] at hH ⊢
      clear c1 c2 c3 hh hh8 hh16
      go_enter Try.func58, Try.ntmps58
      go_wp2_with (first
        | (go_at_call 62; refine (hS.mem (fun O h hb => hDp.out _ O h hb)).mono ?_; rintro e w1 ⟨rfl, hS2⟩; have hP0 : PlS W w1 B mb M O0 pb here 0 [] [] 0 0 := ⟨cv, lv, hS2, hx1, hx2, hx3⟩; clear hS hS2)
        | (go_at_call 27; refine (must_ok _ _).mono ?_; rintro e _ ⟨rfl, rfl⟩)
        | (go_at_call 78; refine (hG.out _ hP0).mono ?_; rintro e w2 ⟨rfl, hP⟩)
        | (go_at_call 75; refine (hH.out _ hP).mono ?_; rintro e w2 ⟨rfl, hP⟩))
      (try go_end0)
      exact ⟨rfl, rfl, hP⟩
  · simp only [if_neg c2] at hG ⊢
    clear c1 c2 hh hh8 hh16
    go_enter Try.func58, Try.ntmps58
    go_wp2_with (first
      | (go_at_call 62; refine (hS.mem (fun O h hb => hDp.out _ O h hb)).mono ?_; rintro e w1 ⟨rfl, hS2⟩; have hP0 : PlS W w1 B mb M O0 pb here 0 [] [] 0 0 := ⟨cv, lv, hS2, hx1, hx2, hx3⟩; clear hS hS2)
      | (go_at_call 27; refine (must_ok _ _).mono ?_; rintro e _ ⟨rfl, rfl⟩)
      | (go_at_call 78; refine (hG.out _ hP0).mono ?_; rintro e w2 ⟨rfl, hP⟩))
    (try go_end0)
    exact ⟨rfl, rfl, hP⟩
end Go.Proofs.Ytkcmphjgflbchaa

/- 'do', 'done'. -/
namespace Go.Proofs.Ytkcmphjgflbchaa
open Go.RowKit
set_option linter.unusedVariables false
set_option linter.unusedSimpArgs false
attribute [local go_sem] cell_set set_set m_undef

/-- The words' names. -/
def nmC : Nat → ByteArray
  | 0 => ⟨#[73, 70]⟩
  | 1 => ⟨#[69, 76, 83, 69]⟩
  | 2 => ⟨#[84, 72, 69, 78]⟩
  | 3 => ⟨#[66, 69, 71, 73, 78]⟩
  | 4 => ⟨#[85, 78, 84, 73, 76]⟩
  | 5 => ⟨#[87, 72, 73, 76, 69]⟩
  | 6 => ⟨#[82, 69, 80, 69, 65, 84]⟩
  | 7 => ⟨#[65, 71, 65, 73, 78]⟩
  | 8 => ⟨#[68, 79]⟩
  | 9 => ⟨#[76, 79, 79, 80]⟩
  | _ => ⟨#[43, 76, 79, 79, 80]⟩
/-- How many addresses a word takes. -/
def tkN : Nat → Int
  | 1 => 1
  | 2 => 1
  | 4 => 1
  | 5 => 1
  | 6 => 2
  | 7 => 1
  | 9 => 1
  | 10 => 1
  | _ => 0
def rmK (k : Nat) : Int := if k = 1 ∨ k = 2 then 8 else 0
def noT (k : Nat) : Bool := k == 0 || k == 3 || k == 8
/-- What is thrown for what a word takes. -/
def ctE (M : List UInt8) (here : Int) (k : Nat) : Int := if noT k then 0 else if k = 6 then (if depL M 32 256 512 < 2 then -4 else if takeT M here 0 0 = 0 then takeT M here 1 8 else takeT M here 0 0) else takeT M here 0 (rmK k)
structure Pln where
  cells : List Int
  lays : List Int
  hole : Int
  tgt : Int
/-- What a word plans. -/
def ctP (here a b : Int) : Nat → Pln
  | 0 => ⟨[32, 0], [here + 8], 0, 0⟩
  | 1 => ⟨[24, 0], [here + 8], a, here + 16⟩
  | 2 => ⟨[], [], a, here⟩
  | 3 => ⟨[], [here], 0, 0⟩
  | 4 => ⟨[32, a], [], 0, 0⟩
  | 5 => ⟨[32, 0], [here + 8, a], 0, 0⟩
  | 6 => ⟨[24, a], [], b, here + 16⟩
  | 7 => ⟨[24, a], [], 0, 0⟩
  | 8 => ⟨[40], [here + 8], 0, 0⟩
  | 9 => ⟨[48, a], [], 0, 0⟩
  | _ => ⟨[56, a], [], 0, 0⟩
def PlP (W w : World) (B mb : Nat) (M : List UInt8) (O0 : Nat → Prop) (pb : Nat) (here tk : Int) (p : Pln) : Prop := PlS W w B mb M O0 pb here tk p.cells p.lays p.hole p.tgt
abbrev plnM (M : List UInt8) (here : Int) (k : Nat) : Pln := ctP here (peekV M 32 256 512 0) (peekV M 32 256 512 1) k
theorem ctE_0 (M : List UInt8) (here : Int) : ctE M here 0 = 0 := by unfold ctE; exact if_pos (by decide)
theorem ctE_1 (M : List UInt8) (here : Int) : ctE M here 1 = takeT M here 0 8 := by unfold ctE; rw [if_neg (by decide), if_neg (by decide)]; rfl
theorem ctE_2 (M : List UInt8) (here : Int) : ctE M here 2 = takeT M here 0 8 := by unfold ctE; rw [if_neg (by decide), if_neg (by decide)]; rfl
theorem ctE_3 (M : List UInt8) (here : Int) : ctE M here 3 = 0 := by unfold ctE; exact if_pos (by decide)
theorem ctE_4 (M : List UInt8) (here : Int) : ctE M here 4 = takeT M here 0 0 := by unfold ctE; rw [if_neg (by decide), if_neg (by decide)]; rfl
theorem ctE_5 (M : List UInt8) (here : Int) : ctE M here 5 = takeT M here 0 0 := by unfold ctE; rw [if_neg (by decide), if_neg (by decide)]; rfl
theorem ctE_6 (M : List UInt8) (here : Int) : ctE M here 6 = (if depL M 32 256 512 < 2 then -4 else if takeT M here 0 0 = 0 then takeT M here 1 8 else takeT M here 0 0) := by unfold ctE; rw [if_neg (by decide), if_pos rfl]
theorem ctE_7 (M : List UInt8) (here : Int) : ctE M here 7 = takeT M here 0 0 := by unfold ctE; rw [if_neg (by decide), if_neg (by decide)]; rfl
theorem ctE_8 (M : List UInt8) (here : Int) : ctE M here 8 = 0 := by unfold ctE; exact if_pos (by decide)
theorem ctE_9 (M : List UInt8) (here : Int) : ctE M here 9 = takeT M here 0 0 := by unfold ctE; rw [if_neg (by decide), if_neg (by decide)]; rfl
theorem ctE_10 (M : List UInt8) (here : Int) : ctE M here 10 = takeT M here 0 0 := by unfold ctE; rw [if_neg (by decide), if_neg (by decide)]; rfl
attribute [local irreducible] takeT peekV depL ctE
theorem pW0 {W w : World} {B mb : Nat} {M : List UInt8} {O0 : Nat → Prop} {pb : Nat} {here : Int} (h : PlS W w B mb M O0 pb here 0 [] [] 0 0) (hh : 1536 ≤ here ∧ here ≤ 5632) : Calls Try.prog 51 #[.pointer (some ⟨pb, 0, none⟩)] w fun e w' =>
      if ctE M here 0 = 0 then e = .returned (.tuple #[]) ∧ PlP W w' B mb M O0 pb here (tkN 0) (plnM M here 0) else e = Thr (ctE M here 0) ∧ One W w' B mb M O0 .emp := by
  refine (pD0 h hh).mono fun e w' hq => ?_
  rw [if_pos (ctE_0 M here)]
  exact hq
set_option maxRecDepth 100000 in
set_option maxHeartbeats 1000000 in
theorem pDo0 {W w : World} {B mb : Nat} {M : List UInt8} {O0 : Nat → Prop} {pb : Nat} {here : Int} (h : PlS W w B mb M O0 pb here 0 [] [] 0 0) (hh : 1536 ≤ here ∧ here ≤ 5632) : Calls Try.prog 30 #[.pointer (some ⟨pb, 0, none⟩), .string (nmC 0)] w fun e w' =>
      if ctE M here 0 = 0 then e = .returned (.tuple #[]) ∧ PlP W w' B mb M O0 pb here (tkN 0) (plnM M here 0) else e = Thr (ctE M here 0) ∧ One W w' B mb M O0 .emp := by
  have hC := pW0 h hh
  show Calls Try.prog 30 #[.pointer (some ⟨pb, 0, none⟩), .string ⟨#[73, 70]⟩] w _
  clear h hh
  by_cases hz : ctE M here 0 = 0
  · simp only [if_pos hz] at hC ⊢
    replace hC := Lib.hid hC
    clear hz
    go_enter Try.func30, Try.ntmps30
    go_wp2_with (go_at_call 51; refine hC.out.mono ?_; rintro e w1 ⟨rfl, hP⟩)
    (try go_end0)
    exact ⟨rfl, hP⟩
  · exact absurd (ctE_0 M here) hz
theorem pW1 {W w : World} {B mb : Nat} {M : List UInt8} {O0 : Nat → Prop} {pb : Nat} {here : Int} (h : PlS W w B mb M O0 pb here 0 [] [] 0 0) (hh : 1536 ≤ here ∧ here ≤ 5632) : Calls Try.prog 52 #[.pointer (some ⟨pb, 0, none⟩)] w fun e w' =>
      if ctE M here 1 = 0 then e = .returned (.tuple #[]) ∧ PlP W w' B mb M O0 pb here (tkN 1) (plnM M here 1) else e = Thr (ctE M here 1) ∧ One W w' B mb M O0 .emp := by
  refine (pD1 h hh).mono fun e w' hq => ?_
  have hz : ctE M here 1 = takeT M here 0 8 := ctE_1 M here
  simp only [hz]
  by_cases c : takeT M here 0 8 = 0
  · simp only [if_pos c] at hq ⊢
    exact hq
  · simp only [if_neg c] at hq ⊢
    exact hq
set_option maxRecDepth 100000 in
set_option maxHeartbeats 1000000 in
theorem pDo1 {W w : World} {B mb : Nat} {M : List UInt8} {O0 : Nat → Prop} {pb : Nat} {here : Int} (h : PlS W w B mb M O0 pb here 0 [] [] 0 0) (hh : 1536 ≤ here ∧ here ≤ 5632) : Calls Try.prog 30 #[.pointer (some ⟨pb, 0, none⟩), .string (nmC 1)] w fun e w' =>
      if ctE M here 1 = 0 then e = .returned (.tuple #[]) ∧ PlP W w' B mb M O0 pb here (tkN 1) (plnM M here 1) else e = Thr (ctE M here 1) ∧ One W w' B mb M O0 .emp := by
  have hC := pW1 h hh
  show Calls Try.prog 30 #[.pointer (some ⟨pb, 0, none⟩), .string ⟨#[69, 76, 83, 69]⟩] w _
  clear h hh
  by_cases hz : ctE M here 1 = 0
  · simp only [if_pos hz] at hC ⊢
    replace hC := Lib.hid hC
    clear hz
    go_enter Try.func30, Try.ntmps30
    go_wp2_with (go_at_call 52; refine hC.out.mono ?_; rintro e w1 ⟨rfl, hP⟩)
    (try go_end0)
    exact ⟨rfl, hP⟩
  · simp only [if_neg hz] at hC ⊢
    replace hC := Lib.hid hC
    clear hz
    go_enter Try.func30, Try.ntmps30
    go_wp2_with (go_at_call 52; refine hC.out.mono ?_; rintro e w1 ⟨rfl, hP⟩)
    (try go_end0)
    exact ⟨rfl, rfl, hP⟩
theorem pW2 {W w : World} {B mb : Nat} {M : List UInt8} {O0 : Nat → Prop} {pb : Nat} {here : Int} (h : PlS W w B mb M O0 pb here 0 [] [] 0 0) (hh : 1536 ≤ here ∧ here ≤ 5632) : Calls Try.prog 53 #[.pointer (some ⟨pb, 0, none⟩)] w fun e w' =>
      if ctE M here 2 = 0 then e = .returned (.tuple #[]) ∧ PlP W w' B mb M O0 pb here (tkN 2) (plnM M here 2) else e = Thr (ctE M here 2) ∧ One W w' B mb M O0 .emp := by
  refine (pD2 h hh).mono fun e w' hq => ?_
  have hz : ctE M here 2 = takeT M here 0 8 := ctE_2 M here
  simp only [hz]
  by_cases c : takeT M here 0 8 = 0
  · simp only [if_pos c] at hq ⊢
    exact hq
  · simp only [if_neg c] at hq ⊢
    exact hq
set_option maxRecDepth 100000 in
set_option maxHeartbeats 1000000 in
theorem pDo2 {W w : World} {B mb : Nat} {M : List UInt8} {O0 : Nat → Prop} {pb : Nat} {here : Int} (h : PlS W w B mb M O0 pb here 0 [] [] 0 0) (hh : 1536 ≤ here ∧ here ≤ 5632) : Calls Try.prog 30 #[.pointer (some ⟨pb, 0, none⟩), .string (nmC 2)] w fun e w' =>
      if ctE M here 2 = 0 then e = .returned (.tuple #[]) ∧ PlP W w' B mb M O0 pb here (tkN 2) (plnM M here 2) else e = Thr (ctE M here 2) ∧ One W w' B mb M O0 .emp := by
  have hC := pW2 h hh
  show Calls Try.prog 30 #[.pointer (some ⟨pb, 0, none⟩), .string ⟨#[84, 72, 69, 78]⟩] w _
  clear h hh
  by_cases hz : ctE M here 2 = 0
  · simp only [if_pos hz] at hC ⊢
    replace hC := Lib.hid hC
    clear hz
    go_enter Try.func30, Try.ntmps30
    go_wp2_with (go_at_call 53; refine hC.out.mono ?_; rintro e w1 ⟨rfl, hP⟩)
    (try go_end0)
    exact ⟨rfl, hP⟩
  · simp only [if_neg hz] at hC ⊢
    replace hC := Lib.hid hC
    clear hz
    go_enter Try.func30, Try.ntmps30
    go_wp2_with (go_at_call 53; refine hC.out.mono ?_; rintro e w1 ⟨rfl, hP⟩)
    (try go_end0)
    exact ⟨rfl, rfl, hP⟩
theorem pW3 {W w : World} {B mb : Nat} {M : List UInt8} {O0 : Nat → Prop} {pb : Nat} {here : Int} (h : PlS W w B mb M O0 pb here 0 [] [] 0 0) (hh : 1536 ≤ here ∧ here ≤ 5632) : Calls Try.prog 54 #[.pointer (some ⟨pb, 0, none⟩)] w fun e w' =>
      if ctE M here 3 = 0 then e = .returned (.tuple #[]) ∧ PlP W w' B mb M O0 pb here (tkN 3) (plnM M here 3) else e = Thr (ctE M here 3) ∧ One W w' B mb M O0 .emp := by
  refine (pD3 h hh).mono fun e w' hq => ?_
  rw [if_pos (ctE_3 M here)]
  exact hq
set_option maxRecDepth 100000 in
set_option maxHeartbeats 1000000 in
theorem pDo3 {W w : World} {B mb : Nat} {M : List UInt8} {O0 : Nat → Prop} {pb : Nat} {here : Int} (h : PlS W w B mb M O0 pb here 0 [] [] 0 0) (hh : 1536 ≤ here ∧ here ≤ 5632) : Calls Try.prog 30 #[.pointer (some ⟨pb, 0, none⟩), .string (nmC 3)] w fun e w' =>
      if ctE M here 3 = 0 then e = .returned (.tuple #[]) ∧ PlP W w' B mb M O0 pb here (tkN 3) (plnM M here 3) else e = Thr (ctE M here 3) ∧ One W w' B mb M O0 .emp := by
  have hC := pW3 h hh
  show Calls Try.prog 30 #[.pointer (some ⟨pb, 0, none⟩), .string ⟨#[66, 69, 71, 73, 78]⟩] w _
  clear h hh
  by_cases hz : ctE M here 3 = 0
  · simp only [if_pos hz] at hC ⊢
    replace hC := Lib.hid hC
    clear hz
    go_enter Try.func30, Try.ntmps30
    go_wp2_with (go_at_call 54; refine hC.out.mono ?_; rintro e w1 ⟨rfl, hP⟩)
    (try go_end0)
    exact ⟨rfl, hP⟩
  · exact absurd (ctE_3 M here) hz
theorem pW4 {W w : World} {B mb : Nat} {M : List UInt8} {O0 : Nat → Prop} {pb : Nat} {here : Int} (h : PlS W w B mb M O0 pb here 0 [] [] 0 0) (hh : 1536 ≤ here ∧ here ≤ 5632) : Calls Try.prog 55 #[.pointer (some ⟨pb, 0, none⟩)] w fun e w' =>
      if ctE M here 4 = 0 then e = .returned (.tuple #[]) ∧ PlP W w' B mb M O0 pb here (tkN 4) (plnM M here 4) else e = Thr (ctE M here 4) ∧ One W w' B mb M O0 .emp := by
  refine (pD4 h hh).mono fun e w' hq => ?_
  have hz : ctE M here 4 = takeT M here 0 0 := ctE_4 M here
  simp only [hz]
  by_cases c : takeT M here 0 0 = 0
  · simp only [if_pos c] at hq ⊢
    exact hq
  · simp only [if_neg c] at hq ⊢
    exact hq
set_option maxRecDepth 100000 in
set_option maxHeartbeats 1000000 in
theorem pDo4 {W w : World} {B mb : Nat} {M : List UInt8} {O0 : Nat → Prop} {pb : Nat} {here : Int} (h : PlS W w B mb M O0 pb here 0 [] [] 0 0) (hh : 1536 ≤ here ∧ here ≤ 5632) : Calls Try.prog 30 #[.pointer (some ⟨pb, 0, none⟩), .string (nmC 4)] w fun e w' =>
      if ctE M here 4 = 0 then e = .returned (.tuple #[]) ∧ PlP W w' B mb M O0 pb here (tkN 4) (plnM M here 4) else e = Thr (ctE M here 4) ∧ One W w' B mb M O0 .emp := by
  have hC := pW4 h hh
  show Calls Try.prog 30 #[.pointer (some ⟨pb, 0, none⟩), .string ⟨#[85, 78, 84, 73, 76]⟩] w _
  clear h hh
  by_cases hz : ctE M here 4 = 0
  · simp only [if_pos hz] at hC ⊢
    replace hC := Lib.hid hC
    clear hz
    go_enter Try.func30, Try.ntmps30
    go_wp2_with (go_at_call 55; refine hC.out.mono ?_; rintro e w1 ⟨rfl, hP⟩)
    (try go_end0)
    exact ⟨rfl, hP⟩
  · simp only [if_neg hz] at hC ⊢
    replace hC := Lib.hid hC
    clear hz
    go_enter Try.func30, Try.ntmps30
    go_wp2_with (go_at_call 55; refine hC.out.mono ?_; rintro e w1 ⟨rfl, hP⟩)
    (try go_end0)
    exact ⟨rfl, rfl, hP⟩
theorem pW5 {W w : World} {B mb : Nat} {M : List UInt8} {O0 : Nat → Prop} {pb : Nat} {here : Int} (h : PlS W w B mb M O0 pb here 0 [] [] 0 0) (hh : 1536 ≤ here ∧ here ≤ 5632) : Calls Try.prog 57 #[.pointer (some ⟨pb, 0, none⟩)] w fun e w' =>
      if ctE M here 5 = 0 then e = .returned (.tuple #[]) ∧ PlP W w' B mb M O0 pb here (tkN 5) (plnM M here 5) else e = Thr (ctE M here 5) ∧ One W w' B mb M O0 .emp := by
  refine (pD5 h hh).mono fun e w' hq => ?_
  have hz : ctE M here 5 = takeT M here 0 0 := ctE_5 M here
  simp only [hz]
  by_cases c : takeT M here 0 0 = 0
  · simp only [if_pos c] at hq ⊢
    exact hq
  · simp only [if_neg c] at hq ⊢
    exact hq
set_option maxRecDepth 100000 in
set_option maxHeartbeats 1000000 in
theorem pDo5 {W w : World} {B mb : Nat} {M : List UInt8} {O0 : Nat → Prop} {pb : Nat} {here : Int} (h : PlS W w B mb M O0 pb here 0 [] [] 0 0) (hh : 1536 ≤ here ∧ here ≤ 5632) : Calls Try.prog 30 #[.pointer (some ⟨pb, 0, none⟩), .string (nmC 5)] w fun e w' =>
      if ctE M here 5 = 0 then e = .returned (.tuple #[]) ∧ PlP W w' B mb M O0 pb here (tkN 5) (plnM M here 5) else e = Thr (ctE M here 5) ∧ One W w' B mb M O0 .emp := by
  have hC := pW5 h hh
  show Calls Try.prog 30 #[.pointer (some ⟨pb, 0, none⟩), .string ⟨#[87, 72, 73, 76, 69]⟩] w _
  clear h hh
  by_cases hz : ctE M here 5 = 0
  · simp only [if_pos hz] at hC ⊢
    replace hC := Lib.hid hC
    clear hz
    go_enter Try.func30, Try.ntmps30
    go_wp2_with (go_at_call 57; refine hC.out.mono ?_; rintro e w1 ⟨rfl, hP⟩)
    (try go_end0)
    exact ⟨rfl, hP⟩
  · simp only [if_neg hz] at hC ⊢
    replace hC := Lib.hid hC
    clear hz
    go_enter Try.func30, Try.ntmps30
    go_wp2_with (go_at_call 57; refine hC.out.mono ?_; rintro e w1 ⟨rfl, hP⟩)
    (try go_end0)
    exact ⟨rfl, rfl, hP⟩
theorem pW6 {W w : World} {B mb : Nat} {M : List UInt8} {O0 : Nat → Prop} {pb : Nat} {here : Int} (h : PlS W w B mb M O0 pb here 0 [] [] 0 0) (hh : 1536 ≤ here ∧ here ≤ 5632) : Calls Try.prog 58 #[.pointer (some ⟨pb, 0, none⟩)] w fun e w' =>
      if ctE M here 6 = 0 then e = .returned (.tuple #[]) ∧ PlP W w' B mb M O0 pb here (tkN 6) (plnM M here 6) else e = Thr (ctE M here 6) ∧ One W w' B mb M O0 .emp := by
  refine (pD6 h hh).mono fun e w' hq => ?_
  simp only [ctE_6]
  by_cases c1 : depL M 32 256 512 < 2
  · simp only [if_pos c1] at hq ⊢
    rw [if_neg (by decide)]
    exact hq
  · simp only [if_neg c1] at hq ⊢
    by_cases c2 : takeT M here 0 0 = 0
    · simp only [if_pos c2] at hq ⊢
      exact hq
    · simp only [if_neg c2] at hq ⊢
      exact hq
set_option maxRecDepth 100000 in
set_option maxHeartbeats 1000000 in
theorem pDo6 {W w : World} {B mb : Nat} {M : List UInt8} {O0 : Nat → Prop} {pb : Nat} {here : Int} (h : PlS W w B mb M O0 pb here 0 [] [] 0 0) (hh : 1536 ≤ here ∧ here ≤ 5632) : Calls Try.prog 30 #[.pointer (some ⟨pb, 0, none⟩), .string (nmC 6)] w fun e w' =>
      if ctE M here 6 = 0 then e = .returned (.tuple #[]) ∧ PlP W w' B mb M O0 pb here (tkN 6) (plnM M here 6) else e = Thr (ctE M here 6) ∧ One W w' B mb M O0 .emp := by
  have hC := pW6 h hh
  show Calls Try.prog 30 #[.pointer (some ⟨pb, 0, none⟩), .string ⟨#[82, 69, 80, 69, 65, 84]⟩] w _
  clear h hh
  by_cases hz : ctE M here 6 = 0
  · simp only [if_pos hz] at hC ⊢
    replace hC := Lib.hid hC
    clear hz
    go_enter Try.func30, Try.ntmps30
    go_wp2_with (go_at_call 58; refine hC.out.mono ?_; rintro e w1 ⟨rfl, hP⟩)
    (try go_end0)
    exact ⟨rfl, hP⟩
  · simp only [if_neg hz] at hC ⊢
    replace hC := Lib.hid hC
    clear hz
    go_enter Try.func30, Try.ntmps30
    go_wp2_with (go_at_call 58; refine hC.out.mono ?_; rintro e w1 ⟨rfl, hP⟩)
    (try go_end0)
    exact ⟨rfl, rfl, hP⟩
theorem pW7 {W w : World} {B mb : Nat} {M : List UInt8} {O0 : Nat → Prop} {pb : Nat} {here : Int} (h : PlS W w B mb M O0 pb here 0 [] [] 0 0) (hh : 1536 ≤ here ∧ here ≤ 5632) : Calls Try.prog 56 #[.pointer (some ⟨pb, 0, none⟩)] w fun e w' =>
      if ctE M here 7 = 0 then e = .returned (.tuple #[]) ∧ PlP W w' B mb M O0 pb here (tkN 7) (plnM M here 7) else e = Thr (ctE M here 7) ∧ One W w' B mb M O0 .emp := by
  refine (pD7 h hh).mono fun e w' hq => ?_
  have hz : ctE M here 7 = takeT M here 0 0 := ctE_7 M here
  simp only [hz]
  by_cases c : takeT M here 0 0 = 0
  · simp only [if_pos c] at hq ⊢
    exact hq
  · simp only [if_neg c] at hq ⊢
    exact hq
set_option maxRecDepth 100000 in
set_option maxHeartbeats 1000000 in
theorem pDo7 {W w : World} {B mb : Nat} {M : List UInt8} {O0 : Nat → Prop} {pb : Nat} {here : Int} (h : PlS W w B mb M O0 pb here 0 [] [] 0 0) (hh : 1536 ≤ here ∧ here ≤ 5632) : Calls Try.prog 30 #[.pointer (some ⟨pb, 0, none⟩), .string (nmC 7)] w fun e w' =>
      if ctE M here 7 = 0 then e = .returned (.tuple #[]) ∧ PlP W w' B mb M O0 pb here (tkN 7) (plnM M here 7) else e = Thr (ctE M here 7) ∧ One W w' B mb M O0 .emp := by
  have hC := pW7 h hh
  show Calls Try.prog 30 #[.pointer (some ⟨pb, 0, none⟩), .string ⟨#[65, 71, 65, 73, 78]⟩] w _
  clear h hh
  by_cases hz : ctE M here 7 = 0
  · simp only [if_pos hz] at hC ⊢
    replace hC := Lib.hid hC
    clear hz
    go_enter Try.func30, Try.ntmps30
    go_wp2_with (go_at_call 56; refine hC.out.mono ?_; rintro e w1 ⟨rfl, hP⟩)
    (try go_end0)
    exact ⟨rfl, hP⟩
  · simp only [if_neg hz] at hC ⊢
    replace hC := Lib.hid hC
    clear hz
    go_enter Try.func30, Try.ntmps30
    go_wp2_with (go_at_call 56; refine hC.out.mono ?_; rintro e w1 ⟨rfl, hP⟩)
    (try go_end0)
    exact ⟨rfl, rfl, hP⟩
theorem pW8 {W w : World} {B mb : Nat} {M : List UInt8} {O0 : Nat → Prop} {pb : Nat} {here : Int} (h : PlS W w B mb M O0 pb here 0 [] [] 0 0) (hh : 1536 ≤ here ∧ here ≤ 5632) : Calls Try.prog 59 #[.pointer (some ⟨pb, 0, none⟩)] w fun e w' =>
      if ctE M here 8 = 0 then e = .returned (.tuple #[]) ∧ PlP W w' B mb M O0 pb here (tkN 8) (plnM M here 8) else e = Thr (ctE M here 8) ∧ One W w' B mb M O0 .emp := by
  refine (pD8 h hh).mono fun e w' hq => ?_
  rw [if_pos (ctE_8 M here)]
  exact hq
set_option maxRecDepth 100000 in
set_option maxHeartbeats 1000000 in
theorem pDo8 {W w : World} {B mb : Nat} {M : List UInt8} {O0 : Nat → Prop} {pb : Nat} {here : Int} (h : PlS W w B mb M O0 pb here 0 [] [] 0 0) (hh : 1536 ≤ here ∧ here ≤ 5632) : Calls Try.prog 30 #[.pointer (some ⟨pb, 0, none⟩), .string (nmC 8)] w fun e w' =>
      if ctE M here 8 = 0 then e = .returned (.tuple #[]) ∧ PlP W w' B mb M O0 pb here (tkN 8) (plnM M here 8) else e = Thr (ctE M here 8) ∧ One W w' B mb M O0 .emp := by
  have hC := pW8 h hh
  show Calls Try.prog 30 #[.pointer (some ⟨pb, 0, none⟩), .string ⟨#[68, 79]⟩] w _
  clear h hh
  by_cases hz : ctE M here 8 = 0
  · simp only [if_pos hz] at hC ⊢
    replace hC := Lib.hid hC
    clear hz
    go_enter Try.func30, Try.ntmps30
    go_wp2_with (go_at_call 59; refine hC.out.mono ?_; rintro e w1 ⟨rfl, hP⟩)
    (try go_end0)
    exact ⟨rfl, hP⟩
  · exact absurd (ctE_8 M here) hz
theorem pW9 {W w : World} {B mb : Nat} {M : List UInt8} {O0 : Nat → Prop} {pb : Nat} {here : Int} (h : PlS W w B mb M O0 pb here 0 [] [] 0 0) (hh : 1536 ≤ here ∧ here ≤ 5632) : Calls Try.prog 60 #[.pointer (some ⟨pb, 0, none⟩)] w fun e w' =>
      if ctE M here 9 = 0 then e = .returned (.tuple #[]) ∧ PlP W w' B mb M O0 pb here (tkN 9) (plnM M here 9) else e = Thr (ctE M here 9) ∧ One W w' B mb M O0 .emp := by
  refine (pD9 h hh).mono fun e w' hq => ?_
  have hz : ctE M here 9 = takeT M here 0 0 := ctE_9 M here
  simp only [hz]
  by_cases c : takeT M here 0 0 = 0
  · simp only [if_pos c] at hq ⊢
    exact hq
  · simp only [if_neg c] at hq ⊢
    exact hq
set_option maxRecDepth 100000 in
set_option maxHeartbeats 1000000 in
theorem pDo9 {W w : World} {B mb : Nat} {M : List UInt8} {O0 : Nat → Prop} {pb : Nat} {here : Int} (h : PlS W w B mb M O0 pb here 0 [] [] 0 0) (hh : 1536 ≤ here ∧ here ≤ 5632) : Calls Try.prog 30 #[.pointer (some ⟨pb, 0, none⟩), .string (nmC 9)] w fun e w' =>
      if ctE M here 9 = 0 then e = .returned (.tuple #[]) ∧ PlP W w' B mb M O0 pb here (tkN 9) (plnM M here 9) else e = Thr (ctE M here 9) ∧ One W w' B mb M O0 .emp := by
  have hC := pW9 h hh
  show Calls Try.prog 30 #[.pointer (some ⟨pb, 0, none⟩), .string ⟨#[76, 79, 79, 80]⟩] w _
  clear h hh
  by_cases hz : ctE M here 9 = 0
  · simp only [if_pos hz] at hC ⊢
    replace hC := Lib.hid hC
    clear hz
    go_enter Try.func30, Try.ntmps30
    go_wp2_with (go_at_call 60; refine hC.out.mono ?_; rintro e w1 ⟨rfl, hP⟩)
    (try go_end0)
    exact ⟨rfl, hP⟩
  · simp only [if_neg hz] at hC ⊢
    replace hC := Lib.hid hC
    clear hz
    go_enter Try.func30, Try.ntmps30
    go_wp2_with (go_at_call 60; refine hC.out.mono ?_; rintro e w1 ⟨rfl, hP⟩)
    (try go_end0)
    exact ⟨rfl, rfl, hP⟩
theorem pW10 {W w : World} {B mb : Nat} {M : List UInt8} {O0 : Nat → Prop} {pb : Nat} {here : Int} (h : PlS W w B mb M O0 pb here 0 [] [] 0 0) (hh : 1536 ≤ here ∧ here ≤ 5632) : Calls Try.prog 61 #[.pointer (some ⟨pb, 0, none⟩)] w fun e w' =>
      if ctE M here 10 = 0 then e = .returned (.tuple #[]) ∧ PlP W w' B mb M O0 pb here (tkN 10) (plnM M here 10) else e = Thr (ctE M here 10) ∧ One W w' B mb M O0 .emp := by
  refine (pD10 h hh).mono fun e w' hq => ?_
  have hz : ctE M here 10 = takeT M here 0 0 := ctE_10 M here
  simp only [hz]
  by_cases c : takeT M here 0 0 = 0
  · simp only [if_pos c] at hq ⊢
    exact hq
  · simp only [if_neg c] at hq ⊢
    exact hq
set_option maxRecDepth 100000 in
set_option maxHeartbeats 1000000 in
theorem pDo10 {W w : World} {B mb : Nat} {M : List UInt8} {O0 : Nat → Prop} {pb : Nat} {here : Int} (h : PlS W w B mb M O0 pb here 0 [] [] 0 0) (hh : 1536 ≤ here ∧ here ≤ 5632) : Calls Try.prog 30 #[.pointer (some ⟨pb, 0, none⟩), .string (nmC 10)] w fun e w' =>
      if ctE M here 10 = 0 then e = .returned (.tuple #[]) ∧ PlP W w' B mb M O0 pb here (tkN 10) (plnM M here 10) else e = Thr (ctE M here 10) ∧ One W w' B mb M O0 .emp := by
  have hC := pW10 h hh
  show Calls Try.prog 30 #[.pointer (some ⟨pb, 0, none⟩), .string ⟨#[43, 76, 79, 79, 80]⟩] w _
  clear h hh
  by_cases hz : ctE M here 10 = 0
  · simp only [if_pos hz] at hC ⊢
    replace hC := Lib.hid hC
    clear hz
    go_enter Try.func30, Try.ntmps30
    go_wp2_with (go_at_call 61; refine hC.out.mono ?_; rintro e w1 ⟨rfl, hP⟩)
    (try go_end0)
    exact ⟨rfl, hP⟩
  · simp only [if_neg hz] at hC ⊢
    replace hC := Lib.hid hC
    clear hz
    go_enter Try.func30, Try.ntmps30
    go_wp2_with (go_at_call 61; refine hC.out.mono ?_; rintro e w1 ⟨rfl, hP⟩)
    (try go_end0)
    exact ⟨rfl, rfl, hP⟩
theorem pDo {W w : World} {B mb : Nat} {M : List UInt8} {O0 : Nat → Prop} {pb : Nat} {here : Int} (h : PlS W w B mb M O0 pb here 0 [] [] 0 0) (hh : 1536 ≤ here ∧ here ≤ 5632) (k : Nat) (hk : k ≤ 10) : Calls Try.prog 30 #[.pointer (some ⟨pb, 0, none⟩), .string (nmC k)] w fun e w' =>
      if ctE M here k = 0 then e = .returned (.tuple #[]) ∧ PlP W w' B mb M O0 pb here (tkN k) (plnM M here k) else e = Thr (ctE M here k) ∧ One W w' B mb M O0 .emp := by
  have hc : k = 0 ∨ k = 1 ∨ k = 2 ∨ k = 3 ∨ k = 4 ∨ k = 5 ∨ k = 6 ∨ k = 7 ∨ k = 8 ∨ k = 9 ∨ k = 10 := by omega
  rcases hc with rfl | rfl | rfl | rfl | rfl | rfl | rfl | rfl | rfl | rfl | rfl
  · exact pDo0 h hh
  · exact pDo1 h hh
  · exact pDo2 h hh
  · exact pDo3 h hh
  · exact pDo4 h hh
  · exact pDo5 h hh
  · exact pDo6 h hh
  · exact pDo7 h hh
  · exact pDo8 h hh
  · exact pDo9 h hh
  · exact pDo10 h hh
end Go.Proofs.Ytkcmphjgflbchaa
