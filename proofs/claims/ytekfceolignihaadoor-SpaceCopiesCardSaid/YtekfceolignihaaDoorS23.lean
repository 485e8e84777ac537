/- 'Copy'. -/
import Derived.Test.YtekfceolignihaaDoorS20
import Derived.Lib.SliceRun
namespace Go.Proofs.YtekfceolignihaaDoor
open Go.RowKit
set_option linter.unusedVariables false
set_option linter.unusedSimpArgs false
attribute [local go_sem] cell_set set_set m_undef
attribute [local irreducible] freeW cnt freeL

theorem Pls.cloned {P : Program} {W w : World} {K : Kp} (h : Pls W w K) {t tx e ty : TypeId} {z : Value} {by_ b0 m : Nat} {cs : List Value} {u : Value} (hu : Src P 1 tx u m cs w) (ht : P.underlying t = some (.slice e))
    (hi : (P.info? e).map (fun i => (i.zero, i.size, i.bytes)) = some (some z, 1, by_)) (hz : z.cells.size = 1) (hlen : m * by_ ≤ 1000000000 ∧ m ≤ 1000000000) (hB : Blk w b0 #[] e) (hb0 : W.heap.size ≤ b0) (hbn : ¬ K.S b0) :
    ∃ nb c2 T2 w', (Builtin.append_ #[t, tx] ty #[.slice (some ⟨b0, 0, none⟩) 0 0, u]).run P w = .ok (.slice (some ⟨nb, 0, none⟩) m c2) w' ∧ ¬ K.S nb ∧ Pls W w' (K.and (.blk nb (cs ++ T2).toArray e)) := by
  obtain ⟨i, hi1, hi2⟩ := Option.map_eq_some_iff.1 hi
  simp only [Prod.mk.injEq] at hi2
  obtain ⟨hz0, hs1, hb1⟩ := hi2
  have hdl := hu.newsLen
  have hws := h.bel.size
  by_cases hm : m = 0
  · subst hm
    have hcs : cs = [] := List.eq_nil_of_length_eq_zero (by simpa using hdl)
    subst hcs
    have hrun := run_append_room_src (P := P) w t tx ty e i ht hi1 b0 0 0 0 u 0 [] (by rw [hs1]; exact hu) (by omega) (fun j hj => by cases hj) (fun j hj => by cases hj)
    refine ⟨b0, 0, [], w, hrun, hbn, h.bel, ⟨h.fact, hB⟩, fun k hk => ?_⟩
    rcases hk with hk | hk
    · exact h.2.2 k hk
    · cases hk; exact ⟨hb0, hB.lt⟩
  · have hfit : Builtin.nextslicecap (0 + m) 0 * i.bytes ≤ 281474976710656 := growslice_fits (by omega) (by rw [hb1, Nat.zero_add]; omega)
    have hrun := run_append_grow_src (P := P) w t tx ty e i z ht hi1 hz0 (some ⟨b0, 0, none⟩) 0 0 [] (run_firstCells_some w.drew i.size 0 ⟨b0, 0, none⟩ 0 0 [] (by simp) (fun j u hj => by cases hj)) u m cs (by rw [hs1]; exact hu) (by omega) (by omega) hfit
    refine ⟨w.heap.size, grownCap w (0 + m) 0 e, (Builtin.zeroCells z.cells (grownCap w (0 + m) 0 e - (0 + m))).toList, w.drew.alloc (.cells (cs.toArray ++ Builtin.zeroCells z.cells (grownCap w (0 + m) 0 e - (0 + m))) e), ?_, fun hk => by have := h.slt hk; omega, ?_⟩
    · rw [hrun, Nat.zero_add]; rfl
    · have h2 := h.drew.new (cs.toArray ++ Builtin.zeroCells z.cells (grownCap w (0 + m) 0 e - (0 + m))) e
      refine h2.keep (fun h => ⟨h.1, ?_⟩) (fun k hk => hk)
      have h3 := h.2
      have he : (cs ++ (Builtin.zeroCells z.cells (grownCap w (0 + m) 0 e - (0 + m))).toList).toArray = cs.toArray ++ Builtin.zeroCells z.cells (grownCap w (0 + m) 0 e - (0 + m)) := by
        apply Array.ext'
        simp
      rw [he]
      exact h3
set_option maxHeartbeats 1000000 in
theorem cloneI {W w : World} {K : Kp} (h : Pls W w K) (cb cc : Nat) (C : List Int) {T : List Value} (hc : ∀ w9 : World, K.P w9 → Blk w9 cb (ints C ++ T).toArray 3) (hn : C.length ≤ 1000000) :
    Calls Tryd.prog 29 #[.slice (some ⟨cb, 0, none⟩) C.length cc] w fun e w' => ∃ nb c2 T2, e = .returned (.slice (some ⟨nb, 0, none⟩) C.length c2) ∧ ¬ K.S nb ∧ Pls W w' (K.and (.blk nb (ints C ++ T2).toArray 3)) := by
  have hS := h.alloc (.cells #[] 3)
  have hB := Blk.new w #[] 3
  have hu : Src Tryd.prog 1 32 (.slice (some ⟨cb, 0, none⟩) C.length cc) C.length (ints C) (w.alloc (.cells #[] 3)) :=
    Src.ofSlice _ Tryd.underlying32 ⟨cb, 0, none⟩ C.length cc (ints C) (by simp [ints]) (fun j u hj => by
      rw [Addr.add_lit, Nat.zero_add]
      refine (Blk.cell (hc _ hS.fact) j).trans ?_
      have := (List.getElem?_eq_some_iff.1 hj).1
      rw [List.getElem?_toArray, List.getElem?_append_left this]
      exact hj) (fun u hu => by
      simp only [ints, List.mem_map] at hu
      obtain ⟨x, _, rfl⟩ := hu
      rfl)
  have hbn : ¬ K.S w.heap.size := fun e => by have := h.slt e; omega
  obtain ⟨nb, c2, T2, w5, hr, hnb, hS5⟩ := hS.cloned (P := Tryd.prog) (t := 32) (ty := 32) hu Tryd.underlying32 infoI rfl (by omega) hB h.bel.size hbn
  replace h := Lib.hid h
  have hq : ∀ (w9 : World) (a : Option Addr) (n c : Nat), (binOp .eql 32 (.slice a n c) (.slice none 0 0)).run Tryd.prog w9 = .ok (.bool a.isNone) w9 := fun w9 a n c => Lib.run_eql_slice_nil w9 _ _ a n c 0 0 Tryd.underlying32
  clear hu hS hc
  go_enter Tryd.func29, Tryd.ntmps29
  go_wp2_with (at_builtin; refine wpList_append_bs rfl _ _ 32 rfl hr rfl rfl ?_)
  go_ret
  exact ⟨_, _, _, rfl, hnb, hS5⟩
set_option maxHeartbeats 1000000 in
theorem cloneW {W w : World} {K : Kp} (h : Pls W w K) (cb cc : Nat) (C : List Int) {T : List Value} (hc : ∀ w9 : World, K.P w9 → Blk w9 cb (words C ++ T).toArray 48) (hn : C.length ≤ 1000000) :
    Calls Tryd.prog 30 #[.slice (some ⟨cb, 0, none⟩) C.length cc] w fun e w' => ∃ nb c2 T2, e = .returned (.slice (some ⟨nb, 0, none⟩) C.length c2) ∧ ¬ K.S nb ∧ Pls W w' (K.and (.blk nb (words C ++ T2).toArray 48)) := by
  have hS := h.alloc (.cells #[] 48)
  have hB := Blk.new w #[] 48
  have hu : Src Tryd.prog 1 42 (.slice (some ⟨cb, 0, none⟩) C.length cc) C.length (words C) (w.alloc (.cells #[] 48)) :=
    Src.ofSlice _ Tryd.underlying42 ⟨cb, 0, none⟩ C.length cc (words C) (by simp [words]) (fun j u hj => by
      rw [Addr.add_lit, Nat.zero_add]
      refine (Blk.cell (hc _ hS.fact) j).trans ?_
      have := (List.getElem?_eq_some_iff.1 hj).1
      rw [List.getElem?_toArray, List.getElem?_append_left this]
      exact hj) (fun u hu => by
      simp only [words, List.mem_map] at hu
      obtain ⟨x, _, rfl⟩ := hu
      rfl)
  have hbn : ¬ K.S w.heap.size := fun e => by have := h.slt e; omega
  obtain ⟨nb, c2, T2, w5, hr, hnb, hS5⟩ := hS.cloned (P := Tryd.prog) (t := 42) (ty := 42) hu Tryd.underlying42 infoW rfl (by omega) hB h.bel.size hbn
  replace h := Lib.hid h
  have hq : ∀ (w9 : World) (a : Option Addr) (n c : Nat), (binOp .eql 42 (.slice a n c) (.slice none 0 0)).run Tryd.prog w9 = .ok (.bool a.isNone) w9 := fun w9 a n c => Lib.run_eql_slice_nil w9 _ _ a n c 0 0 Tryd.underlying42
  clear hu hS hc
  go_enter Tryd.func30, Tryd.ntmps30
  go_wp2_with (at_builtin; refine wpList_append_bs rfl _ _ 42 rfl hr rfl rfl ?_)
  go_ret
  exact ⟨_, _, _, rfl, hnb, hS5⟩
set_option maxHeartbeats 2000000 in
theorem kCopy {W w : World} {K : Kp} {mb cb fb cc fc : Nat} {C F : List Int} {T U : List Value} (h : Pls W w (K.and (MapB mb cb fb C F cc fc T U true))) (hn : C.length ≤ 1000000) (hF : F.length ≤ 1000000) :
    Calls Tryd.prog 17 #[.pointer (some ⟨mb, 0, none⟩)] w fun e w' => ∃ m2 c2 f2 cc2 fc2 T2 U2, e = .returned (.pointer (some ⟨m2, 0, none⟩)) ∧ Apart (K.and (MapB mb cb fb C F cc fc T U true)) m2 c2 f2 ∧ Pls W w' ((K.and (MapB mb cb fb C F cc fc T U true)).and (MapB m2 c2 f2 C F cc2 fc2 T2 U2 true)) := by
  obtain ⟨y1, y2, y3⟩ := MapB.cells h.fact.2
  have hfin : ∀ (w4 : World) (nc nf c1 c2 : Nat) (T1 T2 : List Value), ¬ (K.and (MapB mb cb fb C F cc fc T U true)).S nc → ¬ ((K.and (MapB mb cb fb C F cc fc T U true)).and (.blk nc (ints C ++ T1).toArray 3)).S nf →
      Pls W w4 (((K.and (MapB mb cb fb C F cc fc T U true)).and (.blk nc (ints C ++ T1).toArray 3)).and (.blk nf (words F ++ T2).toArray 48)) →
      Pls W (w4.alloc (.cells #[.slice (some ⟨nc, 0, none⟩) C.length c1, .slice (some ⟨nf, 0, none⟩) F.length c2, .bool true] 44)) ((((K.and (MapB mb cb fb C F cc fc T U true)).and (.blk nc (ints C ++ T1).toArray 3)).and (.blk nf (words F ++ T2).toArray 48)).and (.blk w4.heap.size #[.slice (some ⟨nc, 0, none⟩) C.length c1, .slice (some ⟨nf, 0, none⟩) F.length c2, .bool true] 44)) →
      ∃ m2 c2' f2 cc2 fc2 T2 U2, Ending.returned (.pointer (some ⟨w4.heap.size, 0, none⟩)) = .returned (.pointer (some ⟨m2, 0, none⟩)) ∧ Apart (K.and (MapB mb cb fb C F cc fc T U true)) m2 c2' f2 ∧ Pls W (w4.alloc (.cells #[.slice (some ⟨nc, 0, none⟩) C.length c1, .slice (some ⟨nf, 0, none⟩) F.length c2, .bool true] 44)) ((K.and (MapB mb cb fb C F cc fc T U true)).and (MapB m2 c2' f2 C F cc2 fc2 T2 U2 true)) := by
    intro w4 nc nf c1 c2 T1 T2 h1 h2 h3 h4
    have s1 := h3.slt (k := nc) (.inl (.inr rfl))
    have s2 := h3.slt (k := nf) (.inr rfl)
    refine ⟨w4.heap.size, nc, nf, c1, c2, T1, T2, rfl, ⟨fun e => h2 (.inr (Eq.symm e)), by omega, by omega, fun e => ?_, h1, fun e => h2 (.inl e)⟩, h4.keep (fun h => ⟨h.1.1.1, ⟨h.1.1.2, h.1.2⟩, h.2⟩) (fun k hk => ?_)⟩
    · have := h3.slt (k := w4.heap.size) (.inl (.inl e)); omega
    · rcases hk with hk | ((hk | hk) | hk)
      · exact .inl (.inl (.inl hk))
      · exact .inl (.inl (.inr hk))
      · exact .inl (.inr hk)
      · exact .inr hk
  go_enter Tryd.func17, Tryd.ntmps17
  go_upto_region 3 with fail
  refine wp_region_noPanic ?_
  refine wp_region_held_drew (S := (fun w' => w'.cell? ⟨mb, 0, none⟩ = some (.slice (some ⟨cb, 0, none⟩) C.length cc) ∧ w'.cell? ⟨mb, 1, none⟩ = some (.slice (some ⟨fb, 0, none⟩) F.length fc))) (by kernel_rfl) ?_ (fun hHeld => ?_)
  · (try dsimp only); exact ⟨y1, y2⟩
  refine wpAnyH_take (i := 0) (oi := { dst := some 12, op := Go.Op.move (Go.Operand.tmp 0), type := 24, pos := "space.go:124", after := #[], guard := none }) (v := ?v1) rfl (by kernel_rfl) (by kernel_rfl) (by kernel_rfl) (fun _ _ _ h => h) (Or.inl ⟨by rfl, ?hy1⟩) (by assumption) ?rest1
  case hy1 => (intro w hSw; (try dsimp only at hSw); obtain ⟨y1, y2⟩ := hSw; go_simp <;> with_reducible rfl)
  try simp only [Act.put, List.setIfInBounds_toArray, List.set_cons_zero, List.set_cons_succ]
  refine wpAnyH_take (i := 1) (oi := { dst := some 13, op := Go.Op.nilCheck (Go.Operand.tmp 12), type := 0, pos := "space.go:124", after := #[{ on := 0, ground := Go.Ground.data }], guard := none }) (v := ?v2) rfl (by kernel_rfl) (by kernel_rfl) (by kernel_rfl) (fun _ _ _ h => h) (Or.inl ⟨by rfl, ?hy2⟩) (by assumption) ?rest2
  case hy2 => (intro w hSw; (try dsimp only at hSw); obtain ⟨y1, y2⟩ := hSw; go_simp <;> with_reducible rfl)
  try simp only [Act.put, List.setIfInBounds_toArray, List.set_cons_zero, List.set_cons_succ]
  refine wpAnyH_take (i := 2) (oi := { dst := some 14, op := Go.Op.fieldAddr 44 (Go.Operand.tmp 13) 0, type := 0, pos := "space.go:124", after := #[{ on := 1, ground := Go.Ground.data }], guard := none }) (v := ?v3) rfl (by kernel_rfl) (by kernel_rfl) (by kernel_rfl) (fun _ _ _ h => h) (Or.inl ⟨by rfl, ?hy3⟩) (by assumption) ?rest3
  case hy3 => (intro w hSw; (try dsimp only at hSw); obtain ⟨y1, y2⟩ := hSw; go_simp <;> with_reducible rfl)
  try simp only [Act.put, List.setIfInBounds_toArray, List.set_cons_zero, List.set_cons_succ]
  refine wpAnyH_take (i := 3) (oi := { dst := some 15, op := Go.Op.load 32 (Go.Operand.tmp 14), type := 32, pos := "space.go:124", after := #[{ on := 2, ground := Go.Ground.data }], guard := none }) (v := ?v4) rfl (by kernel_rfl) (by kernel_rfl) (by kernel_rfl) (fun _ _ _ h => h) (Or.inl ⟨by rfl, ?hy4⟩) (by assumption) ?rest4
  case hy4 => (intro w hSw; (try dsimp only at hSw); obtain ⟨y1, y2⟩ := hSw; go_simp <;> with_reducible rfl)
  try simp only [Act.put, List.setIfInBounds_toArray, List.set_cons_zero, List.set_cons_succ]
  refine wpAnyH_take (i := 5) (oi := { dst := some 17, op := Go.Op.move (Go.Operand.tmp 0), type := 24, pos := "space.go:124", after := #[], guard := none }) (v := ?v5) rfl (by kernel_rfl) (by kernel_rfl) (by kernel_rfl) (fun _ _ _ h => h) (Or.inl ⟨by rfl, ?hy5⟩) (by assumption) ?rest5
  case hy5 => (intro w hSw; (try dsimp only at hSw); obtain ⟨y1, y2⟩ := hSw; go_simp <;> with_reducible rfl)
  try simp only [Act.put, List.setIfInBounds_toArray, List.set_cons_zero, List.set_cons_succ]
  refine wpAnyH_take (i := 6) (oi := { dst := some 18, op := Go.Op.nilCheck (Go.Operand.tmp 17), type := 0, pos := "space.go:124", after := #[{ on := 5, ground := Go.Ground.data }], guard := none }) (v := ?v6) rfl (by kernel_rfl) (by kernel_rfl) (by kernel_rfl) (fun _ _ _ h => h) (Or.inl ⟨by rfl, ?hy6⟩) (by assumption) ?rest6
  case hy6 => (intro w hSw; (try dsimp only at hSw); obtain ⟨y1, y2⟩ := hSw; go_simp <;> with_reducible rfl)
  try simp only [Act.put, List.setIfInBounds_toArray, List.set_cons_zero, List.set_cons_succ]
  refine wpAnyH_take (i := 7) (oi := { dst := some 19, op := Go.Op.fieldAddr 44 (Go.Operand.tmp 18) 1, type := 0, pos := "space.go:124", after := #[{ on := 6, ground := Go.Ground.data }], guard := none }) (v := ?v7) rfl (by kernel_rfl) (by kernel_rfl) (by kernel_rfl) (fun _ _ _ h => h) (Or.inl ⟨by rfl, ?hy7⟩) (by assumption) ?rest7
  case hy7 => (intro w hSw; (try dsimp only at hSw); obtain ⟨y1, y2⟩ := hSw; go_simp <;> with_reducible rfl)
  try simp only [Act.put, List.setIfInBounds_toArray, List.set_cons_zero, List.set_cons_succ]
  refine wpAnyH_take (i := 8) (oi := { dst := some 20, op := Go.Op.load 42 (Go.Operand.tmp 19), type := 42, pos := "space.go:124", after := #[{ on := 7, ground := Go.Ground.data }], guard := none }) (v := ?v8) rfl (by kernel_rfl) (by kernel_rfl) (by kernel_rfl) (fun _ _ _ h => h) (Or.inl ⟨by rfl, ?hy8⟩) (by assumption) ?rest8
  case hy8 => (intro w hSw; (try dsimp only at hSw); obtain ⟨y1, y2⟩ := hSw; go_simp <;> with_reducible rfl)
  try simp only [Act.put, List.setIfInBounds_toArray, List.set_cons_zero, List.set_cons_succ]
  refine wpAnyH_ready (rs := [4]) (by kernel_rfl) (by simp) ?_
  refine AllReadyH.cons (o := { dst := some 16, op := Go.Op.call { callee := Go.Callee.value (Go.Operand.func 29), args := #[Go.Operand.tmp 15], argTypes := #[32] }, type := 32, pos := "space.go:124", after := #[{ on := 3, ground := Go.Ground.data }], guard := none }) rfl (fun K hK => ?_) AllReadyH.nil
  go_simp
  go_at_call 29; refine (cloneI h.drew cb cc C (fun w9 h9 => h9.2.1.1) hn).mono ?_; rintro e w2 ⟨nc, c1, T1, rfl, hn1, hS2⟩; obtain ⟨y1, y2, y3⟩ := MapB.cells hS2.fact.1.2
  refine hK.out _ _ ?_ (fun hHeld2 => ?_)
  · (try dsimp only); exact ⟨y1, y2⟩
  clear hK K hHeld
  have hHeld := hHeld2
  clear hHeld2
  try simp only [Act.put, List.setIfInBounds_toArray, List.set_cons_zero, List.set_cons_succ]
  refine wpAnyH_ready (rs := [9]) (by kernel_rfl) (by simp) ?_
  refine AllReadyH.cons (o := { dst := some 21, op := Go.Op.call { callee := Go.Callee.value (Go.Operand.func 30), args := #[Go.Operand.tmp 20], argTypes := #[42] }, type := 42, pos := "space.go:124", after := #[{ on := 8, ground := Go.Ground.data }, { on := 4, ground := Go.Ground.chain }], guard := none }) rfl (fun K hK => ?_) AllReadyH.nil
  go_simp
  go_at_call 30; refine (cloneW hS2 fb fc F (fun w9 h9 => h9.1.2.1.2) hF).mono ?_; rintro e w3 ⟨nf, c2, T2, rfl, hn2, hS3⟩; obtain ⟨y1, y2, y3⟩ := MapB.cells hS3.fact.1.1.2
  refine hK.out _ _ ?_ (fun hHeld2 => ?_)
  · (try dsimp only); exact ⟨y1, y2⟩
  clear hK K hHeld
  have hHeld := hHeld2
  clear hHeld2
  try simp only [Act.put, List.setIfInBounds_toArray, List.set_cons_zero, List.set_cons_succ]
  refine wpAnyH_take (i := 10) (oi := { dst := some 22, op := Go.Op.build 44 #[(0, Go.Operand.tmp 16), (1, Go.Operand.tmp 21), (2, Go.Operand.const (Go.Value.bool true))], type := 44, pos := "space.go:124", after := #[{ on := 4, ground := Go.Ground.data }, { on := 9, ground := Go.Ground.data }], guard := none }) (v := ?v9) rfl (by kernel_rfl) (by kernel_rfl) (by kernel_rfl) (fun _ _ _ h => h) (Or.inl ⟨by rfl, ?hy9⟩) (by assumption) ?rest9
  case hy9 => (intro w hSw; (try dsimp only at hSw); obtain ⟨y1, y2⟩ := hSw; go_simp <;> with_reducible rfl)
  try simp only [Act.put, List.setIfInBounds_toArray, List.set_cons_zero, List.set_cons_succ]
  refine wpAnyH_ready (rs := [11]) (by kernel_rfl) (by simp) ?_
  refine AllReadyH.cons (o := { dst := some 23, op := Go.Op.box 44 (Go.Operand.tmp 22), type := 24, pos := "space.go:124", after := #[{ on := 10, ground := Go.Ground.data }], guard := none }) rfl (fun K hK => ?_) AllReadyH.nil
  go_simp
  have hS4 := hS3.new #[.slice (some ⟨nc, 0, none⟩) C.length c1, .slice (some ⟨nf, 0, none⟩) F.length c2, .bool true] 44; obtain ⟨y1, y2, y3⟩ := MapB.cells hS4.fact.1.1.1.2
  refine hK.out _ _ ?_ (fun hHeld2 => ?_)
  · (try dsimp only); exact ⟨y1, y2⟩
  clear hK K hHeld
  have hHeld := hHeld2
  clear hHeld2
  try simp only [Act.put, List.setIfInBounds_toArray, List.set_cons_zero, List.set_cons_succ]
  refine wpAnyH_take (i := 12) (oi := { dst := some 2, op := Go.Op.assign (Go.Operand.tmp 23), type := 24, pos := "space.go:124", after := #[{ on := 11, ground := Go.Ground.data }, { on := 9, ground := Go.Ground.chain }, { on := 0, ground := Go.Ground.phase }, { on := 1, ground := Go.Ground.phase }, { on := 2, ground := Go.Ground.phase }, { on := 3, ground := Go.Ground.phase }, { on := 4, ground := Go.Ground.phase }, { on := 5, ground := Go.Ground.phase }, { on := 6, ground := Go.Ground.phase }, { on := 7, ground := Go.Ground.phase }, { on := 8, ground := Go.Ground.phase }, { on := 9, ground := Go.Ground.phase }, { on := 10, ground := Go.Ground.phase }, { on := 11, ground := Go.Ground.phase }], guard := none }) (v := ?v10) rfl (by kernel_rfl) (by kernel_rfl) (by kernel_rfl) (fun _ _ _ h => h) (Or.inl ⟨by rfl, ?hy10⟩) (by assumption) ?rest10
  case hy10 => (intro w hSw; (try dsimp only at hSw); obtain ⟨y1, y2⟩ := hSw; go_simp <;> with_reducible rfl)
  try simp only [Act.put, List.setIfInBounds_toArray, List.set_cons_zero, List.set_cons_succ]
  refine wpAnyH_done (by kernel_rfl) ?_ _
  refine NoPanic.normal ?_
  go_wp2
  go_ret
  exact hfin _ _ _ _ _ _ _ hn1 hn2 hS3 hS4
end Go.Proofs.YtekfceolignihaaDoor
