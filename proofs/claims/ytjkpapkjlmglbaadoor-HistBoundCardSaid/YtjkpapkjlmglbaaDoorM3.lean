/- 'at': a page that is laid. -/
import Derived.Test.YtjkpapkjlmglbaaDoorM2
import Derived.Deep.MidRow
namespace Go.Proofs.YtjkpapkjlmglbaaDoor
open Go.RowKit
set_option linter.unusedVariables false
set_option linter.unusedSimpArgs false
attribute [local go_sem] cell_set set_set m_undef

theorem cb_append (l1 l2 : List UInt8) : cb (l1 ++ l2) = cb l1 ++ cb l2 := by simp [cb]
theorem Blk.kept {w w' : World} {row : Option Nat} {b : Nat} {c : Array Value} {t : TypeId} (h : Blk w b c t) (hg : w.grownBy w' row) (hne : some b ≠ row) : Blk w' b c t := (hg.block b h.lt hne).trans h
/-- A block of bytes, as a slice. -/
theorem Bs.of_blk {w : World} {b n : Nat} {l : List UInt8} {t : TypeId} (h : Blk w b (cb l).toArray t) (hn : l.length = n) : Bs w 0 (.slice (some ⟨b, 0, none⟩) n n) l := by
  subst hn
  refine .inr ⟨b, 0, l.length, rfl, Nat.zero_le _, h.lt, Nat.le_refl _, fun j hj => ?_, fun j hj => ?_⟩
  · rw [Nat.zero_add, h.cell, List.getElem?_toArray]
    unfold cb
    rw [List.getElem?_map, List.getElem?_eq_getElem hj]
    rfl
  · rw [Nat.zero_add, h.cell, h.frozen]
    refine ⟨?_, rfl⟩
    rw [List.getElem?_toArray]
    unfold cb
    rw [List.getElem?_map, List.getElem?_eq_getElem hj]
    rfl
/-- 'copy' to the head of a block of bytes. -/
theorem Bs.copy {P : Program} {w : World} {g : Nat} {cur l : List UInt8} {t dT sT ty e : TypeId} {B : Nat} {v : Value} (hg : Blk w g (cb cur).toArray t) (dLen dCap : Nat) (hd : dLen ≤ cur.length) (hv : Bs w B v l)
    (hu : P.underlying dT = some (.slice e)) (hs : (P.info? e).map (·.size) = some 1) :
    ∃ w', (Builtin.copy_ #[dT, sT] ty #[.slice (some ⟨g, 0, none⟩) dLen dCap, v]).run P w = .ok (.int .i64 ((min l.length dLen : Nat) : Int)) w' ∧ Blk w' g (cb (l.take dLen ++ cur.drop (min l.length dLen))).toArray t ∧ w.grownBy w' (some g) := by
  rcases hv with ⟨rfl, rfl⟩ | ⟨b, o, cap, rfl, h2, h3, h4, h5, h6⟩
  · refine ⟨w, ?_, by simpa using hg, ⟨rfl, rfl, rfl, Nat.le_refl _, fun _ _ _ => rfl⟩⟩
    have := run_copy_nil (P := P) w dT sT ty e ⟨g, 0, none⟩ dLen dCap hu (by
      cases h : P.info? e with
      | none => simp [h] at hs
      | some i => rfl)
    simpa [goInt] using this
  · have hlen : (cb (l.take dLen)).length = Nat.min l.length dLen := by rw [cb_len, List.length_take, Nat.min_comm]
    have hrun := run_copy_row (P := P) w dT sT ty e g 0 dLen dCap ⟨b, o, none⟩ l.length cap (cb cur).toArray t (cb (l.take dLen)) hu hs hg hlen (fun j u hu => by
      unfold cb at hu
      rw [List.getElem?_map, Option.map_eq_some_iff] at hu
      obtain ⟨c, hc, rfl⟩ := hu
      obtain ⟨hj, hc⟩ := List.getElem?_eq_some_iff.1 hc
      rw [List.length_take] at hj
      rw [List.getElem_take] at hc
      rw [Addr.add_lit, h5 j (by omega), hc]) (by rw [hlen, Nat.zero_add]; simp only [List.size_toArray, cb_len]; exact Nat.le_trans (Nat.min_le_right _ _) hd) (cb_one _)
    have e0 : goInt (cb (l.take dLen)).length = .int .i64 ((min l.length dLen : Nat) : Int) := by rw [hlen]; rfl
    refine ⟨_, by rw [hrun, e0], ?_, ?_⟩
    · have := setRow_heap w g (cb cur).toArray ((cb cur).toArray.toList.take 0 ++ cb (l.take dLen) ++ (cb cur).toArray.toList.drop (0 + (cb (l.take dLen)).length)).toArray t _ hg
      refine Eq.trans this ?_
      have e2 : (cb cur).toArray.toList.take 0 ++ cb (l.take dLen) ++ (cb cur).toArray.toList.drop (0 + (cb (l.take dLen)).length) = cb (l.take dLen ++ cur.drop (min l.length dLen)) := by
        rw [hlen, Nat.zero_add]
        show [] ++ cb (l.take dLen) ++ (cb cur).drop (min l.length dLen) = _
        simp [cb, List.map_drop]
      rw [e2]
    · exact ⟨rfl, rfl, rfl, by simp [World.setRow], fun k hk hne => setRow_other w g k _ (fun e => hne (by rw [e]))⟩
theorem Blk.setCells {b : Nat} {t : TypeId} : ∀ (vs : List Value) (o : Nat) (w : World) (L : List Value), Blk w b L.toArray t → o + vs.length ≤ L.length → Blk (w.setCells b o vs) b (L.take o ++ vs ++ L.drop (o + vs.length)).toArray t
  | [], o, w, L, h, _ => by simpa [World.setCells] using h
  | v :: r, o, w, L, h, hl => by
    simp only [List.length_cons] at hl
    have h1 : Blk (w.setCell ⟨b, o, none⟩ v) b (L.set o v).toArray t := by simpa using h.set o v
    have h2 := Blk.setCells r (o + 1) _ _ h1 (by rw [List.length_set]; omega)
    rw [list_seg_step L o v r hl] at h2
    exact h2
theorem grown_setCells (b o : Nat) (vs : List Value) (w : World) : w.grownBy (w.setCells b o vs) (some b) := by
  obtain ⟨h1, h2, h3, h4⟩ := setCells_size b vs o w
  exact ⟨h2, h3, h4, by omega, fun k _ hne => setCells_heap b vs o w k (fun e => hne (by rw [e]))⟩
theorem Turn.of_grown {w w' : World} {row : Option Nat} {O O' : Nat → Prop} (h : w.grownBy w' row) (hrow : ∀ k, row = some k → O k ∨ w.heap.size ≤ k) (hO : ∀ k, O' k → O k ∨ w.heap.size ≤ k) : Turn w w' O O' :=
  ⟨h.os, h.tape, h.output, h.size, fun k hk hn => h.block k hk (fun e => by
    rcases hrow k e.symm with h2 | h2
    · exact hn h2
    · omega), hO⟩
/-- What 'at' gives. -/
def AtP (w w' : World) (base mb pb fb : Nat) (F M : List UInt8) (g : Nat → Option Nat) (a : Nat) (e : Ending) : Prop :=
  ∃ g' h, e = .returned (.pointer (some ⟨h, 0, none⟩)) ∧ MemI w' base mb pb fb F M g' ∧ g' (a / 64) = some h ∧ (∀ j, g' j = some h → j = a / 64 ∨ g j = some h) ∧ w.grownBy w' (some pb) ∧ (∀ j k, g' j = some k → g j = some k ∨ w.heap.size ≤ k)
/-- A new page's cells. -/
def zH : Array Value := (cb (List.replicate 128 0)).toArray
set_option maxRecDepth 100000 in
theorem zeroH (w : World) : (zeroValue 60).run Tryd.prog w = .ok (.agg Tryd.zeroCells60) w := by kernel_rfl
theorem zH_is : Tryd.zeroCells60 = (cb (List.replicate 128 0)).toArray := by first | rfl | kernel_rfl
attribute [irreducible] zH
attribute [local go_sem] zeroH
set_option maxRecDepth 100000 in
set_option maxHeartbeats 1000000 in
theorem at_new (w : World) (base mb pb fb : Nat) (F M : List UInt8) (g : Nat → Option Nat) (hI : MemI w base mb pb fb F M g) (hbase : base ≤ w.heap.size) (a : Nat) (ha : a < 8192) (hg : g (a / 64) = none) :
    Calls Tryd.prog 27 #[.pointer (some ⟨mb, 0, none⟩), .int .i64 (a : Int)] w fun e w' => AtP w w' base mb pb fb F M g a e := by
  obtain ⟨c1, c2, c3, f1, f2, f3, l1⟩ := hI.own.three
  obtain ⟨D, hD, hPG⟩ := hI.map
  have hk : a / 64 < 128 := by omega
  have hhas := (hPG (a / 64) hk).1 hg
  have hkey : keyOf Tryd.prog 3 (.int .i64 ((a : Int) / 64)) = some (.int .i64 ((a / 64 : Nat) : Int)) := by
    have := keyP (a / 64) hk
    rw [show ((a / 64 : Nat) : Int) = (a : Int) / 64 by omega] at this ⊢
    exact this
  have w1 : IntKind.i64.wrap ((a : Int) / 64) = (a : Int) / 64 := by rw [IntKind.wrap_i64]; omega
  have hcn : cnt g < maxLen := by have := cnt_le g; unfold maxLen; omega
  have hg' := Lib.hid hg
  clear hk hg
  replace hI := Lib.hid hI
  replace hPG := Lib.hid hPG
  go_enter Tryd.func27, Tryd.ntmps27
  go_upto_region 6 with (at_lookup; refine lookup_new _ rfl _ _ rfl pb _ D rfl hD _ _ rfl hkey hhas ?_)
  go_upto_region 7 with fail
  have hnew : Blk (w.alloc (.cells Tryd.zeroCells60 60)) w.heap.size (cb (List.replicate 128 0)).toArray 60 := by rw [← zH_is]; exact Blk.new _ _ _
  have hF : Bs (w.alloc (.cells Tryd.zeroCells60 60)).drew 0 (.slice (some ⟨fb, 0, none⟩) 8192 8192) F := Bs.of_blk ((hI.out.first.alloc _).drew) hI.out.lenF
  obtain ⟨off, hoff⟩ : ∃ off, off = 64 * (a / 64) := ⟨_, rfl⟩
  have hF2 := hF.drop off (by rw [hI.out.lenF]; omega)
  rw [Nat.zero_add] at hF2
  obtain ⟨w2, hr, hB2, hg2⟩ := Bs.copy (P := Tryd.prog) (dT := 22) (sT := 22) (ty := 3) (e := 5) hnew.drew 64 64 (by simp) hF2 Tryd.underlying22 (by kernel_rfl)
  have s1 : (w.alloc (.cells Tryd.zeroCells60 60)).drew.cell? ⟨mb, 2, none⟩ = some (.slice (some ⟨fb, 0, none⟩) 8192 8192) := by
    have := ((hI.out.own.alloc (.cells Tryd.zeroCells60 60)).drew).three
    exact this.2.2.1
  have hmlt := hI.out.own.lt
  have own2 := ((hI.out.own.alloc (.cells Tryd.zeroCells60 60)).drew).kept hg2 (by simp; omega)
  have s2 : w2.cell? ⟨mb, 2, none⟩ = some (.slice (some ⟨fb, 0, none⟩) 8192 8192) := own2.three.2.2.1
  obtain ⟨c1', c2', c3', f1', f2', f3', l1'⟩ := own2.three
  have hpe : (F.drop off).take 64 = page F (a / 64) := by rw [hoff]; rfl
  have hpl := page_len hI.out.lenF (k := a / 64) (by omega)
  have hdl : (F.drop off).length = 8192 - off := by rw [List.length_drop, hI.out.lenF]
  have hmin : min (F.drop off).length 64 = 64 := by rw [hdl]; omega
  rw [hmin, hpe] at hB2
  rw [hmin] at hr
  have hz : (List.replicate 128 (0 : UInt8)).drop 64 = List.replicate 64 0 := by simp
  rw [hz] at hB2
  have hrange : w2.rangeAt w.heap.size 0 (cb (page F (a / 64))) := fun j u hu => by
    rw [Nat.zero_add, hB2.cell, List.getElem?_toArray, cb_append, List.getElem?_append_left (by rw [cb_len]; have := (List.getElem?_eq_some_iff.1 hu).1; rw [cb_len] at this; exact this)]
    exact hu
  have hpi : (Tryd.prog.info? 58).map (·.size) = some (cb (page F (a / 64))).length := by rw [cb_len, hpl]; kernel_rfl
  have hpi2 : (Tryd.prog.info? 58).map (·.size) = some (cb (page F (a / 64))).toArray.size := by rw [List.size_toArray, cb_len, hpl]; kernel_rfl
  have hthere : w2.there w.heap.size 64 (cb (page F (a / 64))).toArray.size := fun j hj => by
    rw [List.size_toArray, cb_len, hpl] at hj
    refine ⟨?_, hB2.frozen _⟩
    rw [hB2.cell, List.getElem?_toArray, List.getElem?_eq_getElem (by rw [cb_len, List.length_append, hpl, List.length_replicate]; omega)]
    rfl
  have hone : (cb (page F (a / 64))).toArray.all (·.oneCell') = true := by
    rw [Array.all_eq_true_iff_forall_mem]
    intro x hx
    exact cb_one _ x (by simpa using hx)
  replace hoff := Lib.hid hoff
  have hoz : IntKind.i64.wrap ((a : Int) / 64 * 64) = (off : Int) := by have := hoff.out; rw [IntKind.wrap_i64]; omega
  have ho1 : ((off : Int) ≤ 8192) = True := by have := hoff.out; simp; omega
  have ho2 : (off = 8192) = False := by have := hoff.out; simp; omega
  have ho3 : (8192 = off) = False := by have := hoff.out; simp; omega
  refine wp_region_noPanic ?_
  refine wp_region_held_drew (S := (fun w' => w'.cell? ⟨mb, 2, none⟩ = some (.slice (some ⟨fb, 0, none⟩) 8192 8192))) (by kernel_rfl) ?_ (fun hHeld => ?_)
  · (try dsimp only); (first | exact s1 | exact s2)
  refine wpAnyH_take (i := 0) (oi := { dst := some 31, op := Go.Op.move (Go.Operand.tmp 8), type := 61, pos := "mem.go:54", after := #[], guard := none }) (v := ?v1) rfl (by kernel_rfl) (by kernel_rfl) (by kernel_rfl) (fun _ _ _ h => h) (Or.inl ⟨by rfl, ?hy1⟩) (by assumption) ?rest1
  case hy1 => (intro w hSw; (try dsimp only at hSw); go_simp <;> with_reducible rfl)
  try simp only [Act.put, List.setIfInBounds_toArray, List.set_cons_zero, List.set_cons_succ]
  refine wpAnyH_take (i := 1) (oi := { dst := some 32, op := Go.Op.nilCheck (Go.Operand.tmp 31), type := 0, pos := "mem.go:54", after := #[{ on := 0, ground := Go.Ground.data }], guard := none }) (v := ?v2) rfl (by kernel_rfl) (by kernel_rfl) (by kernel_rfl) (fun _ _ _ h => h) (Or.inl ⟨by rfl, ?hy2⟩) (by assumption) ?rest2
  case hy2 => (intro w hSw; (try dsimp only at hSw); go_simp <;> with_reducible rfl)
  try simp only [Act.put, List.setIfInBounds_toArray, List.set_cons_zero, List.set_cons_succ]
  refine wpAnyH_take (i := 2) (oi := { dst := some 33, op := Go.Op.fieldAddr 60 (Go.Operand.tmp 32) 0, type := 0, pos := "mem.go:54", after := #[{ on := 1, ground := Go.Ground.data }], guard := none }) (v := ?v3) rfl (by kernel_rfl) (by kernel_rfl) (by kernel_rfl) (fun _ _ _ h => h) (Or.inl ⟨by rfl, ?hy3⟩) (by assumption) ?rest3
  case hy3 => (intro w hSw; (try dsimp only at hSw); go_simp <;> with_reducible rfl)
  try simp only [Act.put, List.setIfInBounds_toArray, List.set_cons_zero, List.set_cons_succ]
  refine wpAnyH_take (i := 3) (oi := { dst := some 34, op := Go.Op.slice 58 (Go.Operand.tmp 33) none none none, type := 22, pos := "mem.go:54", after := #[{ on := 2, ground := Go.Ground.data }], guard := none }) (v := ?v4) rfl (by kernel_rfl) (by kernel_rfl) (by kernel_rfl) (fun _ _ _ h => h) (Or.inl ⟨by rfl, ?hy4⟩) (by assumption) ?rest4
  case hy4 => (intro w hSw; (try dsimp only at hSw); go_simp <;> with_reducible rfl)
  try simp only [Act.put, List.setIfInBounds_toArray, List.set_cons_zero, List.set_cons_succ]
  refine wpAnyH_take (i := 4) (oi := { dst := some 35, op := Go.Op.move (Go.Operand.tmp 0), type := 24, pos := "mem.go:54", after := #[], guard := none }) (v := ?v5) rfl (by kernel_rfl) (by kernel_rfl) (by kernel_rfl) (fun _ _ _ h => h) (Or.inl ⟨by rfl, ?hy5⟩) (by assumption) ?rest5
  case hy5 => (intro w hSw; (try dsimp only at hSw); go_simp <;> with_reducible rfl)
  try simp only [Act.put, List.setIfInBounds_toArray, List.set_cons_zero, List.set_cons_succ]
  refine wpAnyH_take (i := 5) (oi := { dst := some 36, op := Go.Op.nilCheck (Go.Operand.tmp 35), type := 0, pos := "mem.go:54", after := #[{ on := 4, ground := Go.Ground.data }], guard := none }) (v := ?v6) rfl (by kernel_rfl) (by kernel_rfl) (by kernel_rfl) (fun _ _ _ h => h) (Or.inl ⟨by rfl, ?hy6⟩) (by assumption) ?rest6
  case hy6 => (intro w hSw; (try dsimp only at hSw); go_simp <;> with_reducible rfl)
  try simp only [Act.put, List.setIfInBounds_toArray, List.set_cons_zero, List.set_cons_succ]
  refine wpAnyH_take (i := 6) (oi := { dst := some 37, op := Go.Op.fieldAddr 46 (Go.Operand.tmp 36) 2, type := 0, pos := "mem.go:54", after := #[{ on := 5, ground := Go.Ground.data }], guard := none }) (v := ?v7) rfl (by kernel_rfl) (by kernel_rfl) (by kernel_rfl) (fun _ _ _ h => h) (Or.inl ⟨by rfl, ?hy7⟩) (by assumption) ?rest7
  case hy7 => (intro w hSw; (try dsimp only at hSw); go_simp <;> with_reducible rfl)
  try simp only [Act.put, List.setIfInBounds_toArray, List.set_cons_zero, List.set_cons_succ]
  refine wpAnyH_take (i := 7) (oi := { dst := some 38, op := Go.Op.load 22 (Go.Operand.tmp 37), type := 22, pos := "mem.go:54", after := #[{ on := 6, ground := Go.Ground.data }], guard := none }) (v := ?v8) rfl (by kernel_rfl) (by kernel_rfl) (by kernel_rfl) (fun _ _ _ h => h) (Or.inl ⟨by rfl, ?hy8⟩) (by assumption) ?rest8
  case hy8 => (intro w hSw; (try dsimp only at hSw); go_simp <;> with_reducible rfl)
  try simp only [Act.put, List.setIfInBounds_toArray, List.set_cons_zero, List.set_cons_succ]
  refine wpAnyH_take (i := 8) (oi := { dst := some 39, op := Go.Op.move (Go.Operand.tmp 5), type := 3, pos := "mem.go:54", after := #[], guard := none }) (v := ?v9) rfl (by kernel_rfl) (by kernel_rfl) (by kernel_rfl) (fun _ _ _ h => h) (Or.inl ⟨by rfl, ?hy9⟩) (by assumption) ?rest9
  case hy9 => (intro w hSw; (try dsimp only at hSw); go_simp <;> with_reducible rfl)
  try simp only [Act.put, List.setIfInBounds_toArray, List.set_cons_zero, List.set_cons_succ]
  refine wpAnyH_take (i := 9) (oi := { dst := some 40, op := Go.Op.binOp Go.BinOp.mul 3 (Go.Operand.tmp 39) (Go.Operand.const (Go.Value.int Go.IntKind.i64 64)) 3, type := 3, pos := "mem.go:54", after := #[{ on := 8, ground := Go.Ground.data }], guard := none }) (v := ?v10) rfl (by kernel_rfl) (by kernel_rfl) (by kernel_rfl) (fun _ _ _ h => h) (Or.inl ⟨by rfl, ?hy10⟩) (by assumption) ?rest10
  case hy10 => (intro w hSw; (try dsimp only at hSw); go_simp <;> with_reducible rfl)
  try simp only [Act.put, List.setIfInBounds_toArray, List.set_cons_zero, List.set_cons_succ]
  refine wpAnyH_take (i := 10) (oi := { dst := some 41, op := Go.Op.slice 22 (Go.Operand.tmp 38) (some (Go.Operand.tmp 40)) none none, type := 22, pos := "mem.go:54", after := #[{ on := 7, ground := Go.Ground.data }, { on := 9, ground := Go.Ground.data }], guard := none }) (v := ?v11) rfl (by kernel_rfl) (by kernel_rfl) (by kernel_rfl) (fun _ _ _ h => h) (Or.inl ⟨by rfl, ?hy11⟩) (by assumption) ?rest11
  case hy11 => (intro w hSw; (try dsimp only at hSw); go_simp <;> with_reducible rfl)
  try simp only [Act.put, List.setIfInBounds_toArray, List.set_cons_zero, List.set_cons_succ]
  refine wpAnyH_ready (rs := [11]) (by kernel_rfl) (by simp) ?_
  refine AllReadyH.cons (o := { dst := some 42, op := Go.Op.call { callee := Go.Callee.builtin Go.Builtin.copy, args := #[Go.Operand.tmp 34, Go.Operand.tmp 41], argTypes := #[22, 22] }, type := 3, pos := "mem.go:54", after := #[{ on := 3, ground := Go.Ground.data }, { on := 10, ground := Go.Ground.data }], guard := none }) rfl (fun K hK => ?_) AllReadyH.nil
  go_simp
  refine hK.out _ _ ?_ (fun hHeld2 => ?_)
  · (try dsimp only); (first | exact s1 | exact s2)
  clear hK K hHeld
  have hHeld := hHeld2
  clear hHeld2
  try simp only [Act.put, List.setIfInBounds_toArray, List.set_cons_zero, List.set_cons_succ]
  refine wpAnyH_done (by kernel_rfl) ?_ _
  refine NoPanic.normal ?_
  replace hB2 := Lib.hid hB2
  go_upto_region 12 with (first | (refine wpList_load_mid rfl 58 _ rfl w.heap.size 0 rfl (cb (page F (a / 64))) _ hrange Tryd.underlying58 rfl hpi ?_) | (refine wpList_store_mid rfl 58 _ _ rfl w.heap.size 64 (cb (page F (a / 64))).toArray rfl rfl hthere hpi2 hone ?_))
  clear hrange hthere hpi hpi2 hone
  have hg3 := grown_setCells w.heap.size 64 (cb (page F (a / 64))) w2
  have hB3 := Blk.setCells (cb (page F (a / 64))) 64 w2 _ hB2.out (by rw [cb_len, cb_len, List.length_append, hpl, List.length_replicate]; omega)
  rw [cb_append, cb_len, hpl, List.take_append_of_le_length (by rw [cb_len, hpl]; omega), List.take_of_length_le (by rw [cb_len, hpl]; omega), List.drop_append, List.drop_eq_nil_of_le (by rw [cb_len, hpl]; omega), List.drop_eq_nil_of_le (by rw [cb_len, cb_len, hpl, List.length_replicate]; omega), List.append_nil, List.append_nil, ← cb_append] at hB3
  have hD3 := (((hD.alloc (.cells Tryd.zeroCells60 60)).drew).kept hg2 (by have := hD.lt; simp; omega)).kept hg3 (by have := hD.lt; simp; omega)
  have own3 := own2.kept hg3 (by simp; omega)
  obtain ⟨k1, k2, k3, j1, j2, j3, l3⟩ := own3.three
  generalize w2.setCells w.heap.size 64 (cb (page F (a / 64))) = w3 at *
  go_upto_region 13 with (at_mapUpdate; refine wpList_mapUpdate_own _ rfl _ _ _ 43 rfl 3 61 pagesK Tryd.underlying43 ptrR pb _ D rfl hD3 hcn _ (.pointer (some ⟨w.heap.size, 0, none⟩)) _ rfl rfl hkey (.lit (.int .i64 (w.heap.size : Int))) [] rfl ?_; intro w5 hD5 hg5)
  go_wp2
  go_ret
  have hI := hI.out
  have hg := hg'.out
  have hpb := hD.lt
  have hT : w.grownBy w5 (some pb) := by
    refine ⟨hg5.os.trans (hg3.os.trans hg2.os), hg5.tape.trans (hg3.tape.trans hg2.tape), hg5.output.trans (hg3.output.trans hg2.output), ?_, fun k hk hne => ?_⟩
    · have e1 := hg2.size
      have e2 := hg3.size
      have e3 := hg5.size
      simp at e1
      omega
    · have e1 := hg2.size
      have e2 := hg3.size
      simp at e1
      refine (hg5.block k (by omega) hne).trans ((hg3.block k (by omega) (by simp; omega)).trans ((hg2.block k (by simp; omega) (by simp; omega)).trans ?_))
      exact Below.heap_alloc w _ k hk
  have hB5 := hB3.kept hg5 (by simp; omega)
  have hrest := hI.rest (a / 64) (by omega) hg
  refine ⟨upd g (a / 64) w.heap.size, w.heap.size, rfl, ⟨hI.lenM, hI.lenF, hI.own.kept hT (by have := hI.ne.2.1; simpa using this), hI.first.kept hT (by have := hI.ne.2.2; simpa using this), ⟨_, by rw [cnt_upd g (a / 64) _ hg (by omega)]; exact hD5, hPG.out.put hD.isMap (a / 64) w.heap.size⟩, hI.low, hI.ne, ?_, ?_⟩, by simp [upd], ?_, hT, ?_⟩
  · intro k hk h hkh
    by_cases e : k = a / 64
    · subst e
      have e2 : h = w.heap.size := by simpa [upd] using hkh.symm
      subst e2
      have l1 := hI.own.lt
      have l2 := hI.first.lt
      have l4 := hI.low
      refine ⟨by omega, by omega, by omega, by omega, by rw [hrest]; exact hB5, fun j hj hjh => ?_⟩
      by_cases e3 : j = a / 64
      · exact e3
      · have e4 : g j = some w.heap.size := by simpa [upd, e3] using hjh
        have := (hI.pages j hj _ e4).2.2.2.2.1.lt
        omega
    · have e4 : g k = some h := by simpa [upd, e] using hkh
      obtain ⟨p1, p2, p3, p4, p5, p6⟩ := hI.pages k hk h e4
      refine ⟨p1, p2, p3, p4, p5.kept hT (by simpa using p4), fun j hj hjh => ?_⟩
      by_cases e3 : j = a / 64
      · have e5 : w.heap.size = h := by simpa [upd, e3] using hjh
        have := p5.lt
        omega
      · exact p6 j hj (by simpa [upd, e3] using hjh)
  · intro k hk hkn
    by_cases e : k = a / 64
    · simp [upd, e] at hkn
    · exact hI.rest k hk (by simpa [upd, e] using hkn)
  · intro j hj
    by_cases e : j = a / 64
    · exact .inl e
    · exact .inr (by simpa [upd, e] using hj)
  · intro j k hjk
    by_cases e : j = a / 64
    · have : w.heap.size = k := by simpa [upd, e] using hjk
      exact .inr (by omega)
    · exact .inl (by simpa [upd, e] using hjk)
/-- 'at' -/
theorem wAt (w : World) (base mb pb fb : Nat) (F M : List UInt8) (g : Nat → Option Nat) (hI : MemI w base mb pb fb F M g) (hb : base ≤ w.heap.size) (a : Nat) (ha : a < 8192) :
    Calls Tryd.prog 27 #[.pointer (some ⟨mb, 0, none⟩), .int .i64 (a : Int)] w fun e w' => AtP w w' base mb pb fb F M g a e := by
  cases hg : g (a / 64) with
  | none => exact at_new w base mb pb fb F M g hI hb a ha hg
  | some b =>
    refine (at_old w base mb pb fb F M g hI a ha b hg).mono ?_
    rintro e w' ⟨rfl, rfl⟩
    exact ⟨g, b, rfl, hI, hg, fun j hj => .inr hj, ⟨rfl, rfl, rfl, Nat.le_refl _, fun _ _ _ => rfl⟩, fun j k h => .inl h⟩
end Go.Proofs.YtjkpapkjlmglbaaDoor
