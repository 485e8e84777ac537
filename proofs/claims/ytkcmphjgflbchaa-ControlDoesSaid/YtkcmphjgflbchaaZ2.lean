/- Texts merged: M3 M4 M5 M6 M7 P1 M8 N1 N2. -/
import Derived.Test.YtkcmphjgflbchaaZ1
import Derived.Deep.MidRow
/- 'at': a page that is laid. -/
namespace Go.Proofs.Ytkcmphjgflbchaa
open Go.RowKit
set_option linter.unusedVariables false
set_option linter.unusedSimpArgs false
attribute [local go_sem] cell_set set_set m_undef

theorem cb_append (l1 l2 : List UInt8) : cb (l1 ++ l2) = cb l1 ++ cb l2 := by simp [cb]
theorem Blk.kept {w w' : World} {row : Option Nat} {b : Nat} {c : Array Value} {t : TypeId} (h : Blk w b c t) (hg : w.grownBy w' row) (hne : some b ≠ row) : Blk w' b c t := (hg.block b h.lt hne).trans h
/-- A block of bytes, as a slice. -/
theorem Bs.of_blk {w : World} {b n : Nat} {l : List UInt8} {t : TypeId} (h : Blk w b (cb l).toArray t) (hn : l.length = n) : Bs w 0 (.slice (some ⟨b, 0, none⟩) n n) l := by
  subst hn
  refine .inr ⟨b, 0, l.length, rfl, Nat.zero_le _, h.lt, Nat.le_refl _, fun j hj => ?_, fun j hj => ?_⟩
  · rw [Nat.zero_add, h.cell, List.getElem?_toArray]
    unfold cb
    rw [List.getElem?_map, List.getElem?_eq_getElem hj]
    rfl
  · rw [Nat.zero_add, h.cell, h.frozen]
    refine ⟨?_, rfl⟩
    rw [List.getElem?_toArray]
    unfold cb
    rw [List.getElem?_map, List.getElem?_eq_getElem hj]
    rfl
/-- 'copy' to the head of a block of bytes. -/
theorem Bs.copy {P : Program} {w : World} {g : Nat} {cur l : List UInt8} {t dT sT ty e : TypeId} {B : Nat} {v : Value} (hg : Blk w g (cb cur).toArray t) (dLen dCap : Nat) (hd : dLen ≤ cur.length) (hv : Bs w B v l)
    (hu : P.underlying dT = some (.slice e)) (hs : (P.info? e).map (·.size) = some 1) :
    ∃ w', (Builtin.copy_ #[dT, sT] ty #[.slice (some ⟨g, 0, none⟩) dLen dCap, v]).run P w = .ok (.int .i64 ((min l.length dLen : Nat) : Int)) w' ∧ Blk w' g (cb (l.take dLen ++ cur.drop (min l.length dLen))).toArray t ∧ w.grownBy w' (some g) := by
  rcases hv with ⟨rfl, rfl⟩ | ⟨b, o, cap, rfl, h2, h3, h4, h5, h6⟩
  · refine ⟨w, ?_, by simpa using hg, ⟨rfl, rfl, rfl, Nat.le_refl _, fun _ _ _ => rfl⟩⟩
    have := run_copy_nil (P := P) w dT sT ty e ⟨g, 0, none⟩ dLen dCap hu (by
      cases h : P.info? e with
      | none => simp [h] at hs
      | some i => rfl)
    simpa [goInt] using this
  · have hlen : (cb (l.take dLen)).length = Nat.min l.length dLen := by rw [cb_len, List.length_take, Nat.min_comm]
    have hrun := run_copy_row (P := P) w dT sT ty e g 0 dLen dCap ⟨b, o, none⟩ l.length cap (cb cur).toArray t (cb (l.take dLen)) hu hs hg hlen (fun j u hu => by
      unfold cb at hu
      rw [List.getElem?_map, Option.map_eq_some_iff] at hu
      obtain ⟨c, hc, rfl⟩ := hu
      obtain ⟨hj, hc⟩ := List.getElem?_eq_some_iff.1 hc
      rw [List.length_take] at hj
      rw [List.getElem_take] at hc
      rw [Addr.add_lit, h5 j (by omega), hc]) (by rw [hlen, Nat.zero_add]; simp only [List.size_toArray, cb_len]; exact Nat.le_trans (Nat.min_le_right _ _) hd) (cb_one _)
    have e0 : goInt (cb (l.take dLen)).length = .int .i64 ((min l.length dLen : Nat) : Int) := by rw [hlen]; rfl
    refine ⟨_, by rw [hrun, e0], ?_, ?_⟩
    · have := setRow_heap w g (cb cur).toArray ((cb cur).toArray.toList.take 0 ++ cb (l.take dLen) ++ (cb cur).toArray.toList.drop (0 + (cb (l.take dLen)).length)).toArray t _ hg
      refine Eq.trans this ?_
      have e2 : (cb cur).toArray.toList.take 0 ++ cb (l.take dLen) ++ (cb cur).toArray.toList.drop (0 + (cb (l.take dLen)).length) = cb (l.take dLen ++ cur.drop (min l.length dLen)) := by
        rw [hlen, Nat.zero_add]
        show [] ++ cb (l.take dLen) ++ (cb cur).drop (min l.length dLen) = _
        simp [cb, List.map_drop]
      rw [e2]
    · exact ⟨rfl, rfl, rfl, by simp [World.setRow], fun k hk hne => setRow_other w g k _ (fun e => hne (by rw [e]))⟩
theorem Blk.setCells {b : Nat} {t : TypeId} : ∀ (vs : List Value) (o : Nat) (w : World) (L : List Value), Blk w b L.toArray t → o + vs.length ≤ L.length → Blk (w.setCells b o vs) b (L.take o ++ vs ++ L.drop (o + vs.length)).toArray t
  | [], o, w, L, h, _ => by simpa [World.setCells] using h
  | v :: r, o, w, L, h, hl => by
    simp only [List.length_cons] at hl
    have h1 : Blk (w.setCell ⟨b, o, none⟩ v) b (L.set o v).toArray t := by simpa using h.set o v
    have h2 := Blk.setCells r (o + 1) _ _ h1 (by rw [List.length_set]; omega)
    rw [list_seg_step L o v r hl] at h2
    exact h2
theorem grown_setCells (b o : Nat) (vs : List Value) (w : World) : w.grownBy (w.setCells b o vs) (some b) := by
  obtain ⟨h1, h2, h3, h4⟩ := setCells_size b vs o w
  exact ⟨h2, h3, h4, by omega, fun k _ hne => setCells_heap b vs o w k (fun e => hne (by rw [e]))⟩
theorem Turn.of_grown {w w' : World} {row : Option Nat} {O O' : Nat → Prop} (h : w.grownBy w' row) (hrow : ∀ k, row = some k → O k ∨ w.heap.size ≤ k) (hO : ∀ k, O' k → O k ∨ w.heap.size ≤ k) : Turn w w' O O' :=
  ⟨h.os, h.tape, h.output, h.size, fun k hk hn => h.block k hk (fun e => by
    rcases hrow k e.symm with h2 | h2
    · exact hn h2
    · omega), hO⟩
/-- What 'at' gives. -/
def AtP (w w' : World) (base mb pb fb : Nat) (F M : List UInt8) (g : Nat → Option Nat) (a : Nat) (e : Ending) : Prop :=
  ∃ g' h, e = .returned (.pointer (some ⟨h, 0, none⟩)) ∧ MemI w' base mb pb fb F M g' ∧ g' (a / 64) = some h ∧ (∀ j, g' j = some h → j = a / 64 ∨ g j = some h) ∧ w.grownBy w' (some pb) ∧ (∀ j k, g' j = some k → g j = some k ∨ w.heap.size ≤ k)
/-- A new page's cells. -/
def zH : Array Value := (cb (List.replicate 128 0)).toArray
set_option maxRecDepth 100000 in
theorem zeroH (w : World) : (zeroValue 56).run Try.prog w = .ok (.agg Try.zeroCells56) w := by kernel_rfl
theorem zH_is : Try.zeroCells56 = (cb (List.replicate 128 0)).toArray := by first | rfl | kernel_rfl
attribute [irreducible] zH
attribute [local go_sem] zeroH
set_option maxRecDepth 100000 in
set_option maxHeartbeats 1000000 in
theorem at_new (w : World) (base mb pb fb : Nat) (F M : List UInt8) (g : Nat → Option Nat) (hI : MemI w base mb pb fb F M g) (hbase : base ≤ w.heap.size) (a : Nat) (ha : a < 8192) (hg : g (a / 64) = none) :
    Calls Try.prog 25 #[.pointer (some ⟨mb, 0, none⟩), .int .i64 (a : Int)] w fun e w' => AtP w w' base mb pb fb F M g a e := by
  obtain ⟨c1, c2, c3, f1, f2, f3, l1⟩ := hI.own.three
  obtain ⟨D, hD, hPG⟩ := hI.map
  have hk : a / 64 < 128 := by omega
  have hhas := (hPG (a / 64) hk).1 hg
  have hkey : keyOf Try.prog 3 (.int .i64 ((a : Int) / 64)) = some (.int .i64 ((a / 64 : Nat) : Int)) := by
    have := keyP (a / 64) hk
    rw [show ((a / 64 : Nat) : Int) = (a : Int) / 64 by omega] at this ⊢
    exact this
  have w1 : IntKind.i64.wrap ((a : Int) / 64) = (a : Int) / 64 := by rw [IntKind.wrap_i64]; omega
  have hcn : cnt g < maxLen := by have := cnt_le g; unfold maxLen; omega
  have hg' := Lib.hid hg
  clear hk hg
  replace hI := Lib.hid hI
  replace hPG := Lib.hid hPG
  go_enter Try.func25, Try.ntmps25
  go_upto_region 6 with (at_lookup; refine lookup_new _ rfl _ _ rfl pb _ D rfl hD _ _ rfl hkey hhas ?_)
  go_upto_region 7 with fail
  have hnew : Blk (w.alloc (.cells Try.zeroCells56 56)) w.heap.size (cb (List.replicate 128 0)).toArray 56 := by rw [← zH_is]; exact Blk.new _ _ _
  have hF : Bs (w.alloc (.cells Try.zeroCells56 56)).drew 0 (.slice (some ⟨fb, 0, none⟩) 8192 8192) F := Bs.of_blk ((hI.out.first.alloc _).drew) hI.out.lenF
  obtain ⟨off, hoff⟩ : ∃ off, off = 64 * (a / 64) := ⟨_, rfl⟩
  have hF2 := hF.drop off (by rw [hI.out.lenF]; omega)
  rw [Nat.zero_add] at hF2
  obtain ⟨w2, hr, hB2, hg2⟩ := Bs.copy (P := Try.prog) (dT := 22) (sT := 22) (ty := 3) (e := 5) hnew.drew 64 64 (by simp) hF2 Try.underlying22 (by kernel_rfl)
  have s1 : (w.alloc (.cells Try.zeroCells56 56)).drew.cell? ⟨mb, 2, none⟩ = some (.slice (some ⟨fb, 0, none⟩) 8192 8192) := by
    have := ((hI.out.own.alloc (.cells Try.zeroCells56 56)).drew).three
    exact this.2.2.1
  have hmlt := hI.out.own.lt
  have own2 := ((hI.out.own.alloc (.cells Try.zeroCells56 56)).drew).kept hg2 (by simp; omega)
  have s2 : w2.cell? ⟨mb, 2, none⟩ = some (.slice (some ⟨fb, 0, none⟩) 8192 8192) := own2.three.2.2.1
  obtain ⟨c1', c2', c3', f1', f2', f3', l1'⟩ := own2.three
  have hpe : (F.drop off).take 64 = page F (a / 64) := by rw [hoff]; rfl
  have hpl := page_len hI.out.lenF (k := a / 64) (by omega)
  have hdl : (F.drop off).length = 8192 - off := by rw [List.length_drop, hI.out.lenF]
  have hmin : min (F.drop off).length 64 = 64 := by rw [hdl]; omega
  rw [hmin, hpe] at hB2
  rw [hmin] at hr
  have hz : (List.replicate 128 (0 : UInt8)).drop 64 = List.replicate 64 0 := by simp
  rw [hz] at hB2
  have hrange : w2.rangeAt w.heap.size 0 (cb (page F (a / 64))) := fun j u hu => by
    rw [Nat.zero_add, hB2.cell, List.getElem?_toArray, cb_append, List.getElem?_append_left (by rw [cb_len]; have := (List.getElem?_eq_some_iff.1 hu).1; rw [cb_len] at this; exact this)]
    exact hu
  have hpi : (Try.prog.info? 54).map (·.size) = some (cb (page F (a / 64))).length := by rw [cb_len, hpl]; kernel_rfl
  have hpi2 : (Try.prog.info? 54).map (·.size) = some (cb (page F (a / 64))).toArray.size := by rw [List.size_toArray, cb_len, hpl]; kernel_rfl
  have hthere : w2.there w.heap.size 64 (cb (page F (a / 64))).toArray.size := fun j hj => by
    rw [List.size_toArray, cb_len, hpl] at hj
    refine ⟨?_, hB2.frozen _⟩
    rw [hB2.cell, List.getElem?_toArray, List.getElem?_eq_getElem (by rw [cb_len, List.length_append, hpl, List.length_replicate]; omega)]
    rfl
  have hone : (cb (page F (a / 64))).toArray.all (·.oneCell') = true := by
    rw [Array.all_eq_true_iff_forall_mem]
    intro x hx
    exact cb_one _ x (by simpa using hx)
  replace hoff := Lib.hid hoff
  have hoz : IntKind.i64.wrap ((a : Int) / 64 * 64) = (off : Int) := by have := hoff.out; rw [IntKind.wrap_i64]; omega
  have ho1 : ((off : Int) ≤ 8192) = True := by have := hoff.out; simp; omega
  have ho2 : (off = 8192) = False := by have := hoff.out; simp; omega
  have ho3 : (8192 = off) = False := by have := hoff.out; simp; omega
  refine wp_region_noPanic ?_
  refine wp_region_held_drew (S := (fun w' => w'.cell? ⟨mb, 2, none⟩ = some (.slice (some ⟨fb, 0, none⟩) 8192 8192))) (by kernel_rfl) ?_ (fun hHeld => ?_)
  · (try dsimp only); (first | exact s1 | exact s2)
  refine wpAnyH_take (i := 0) (oi := { dst := some 31, op := Go.Op.move (Go.Operand.tmp 8), type := 57, pos := "mem.go:54", after := #[], guard := none }) (v := ?v1) rfl (by kernel_rfl) (by kernel_rfl) (by kernel_rfl) (fun _ _ _ h => h) (Or.inl ⟨by rfl, ?hy1⟩) (by assumption) ?rest1
  case hy1 => (intro w hSw; (try dsimp only at hSw); go_simp <;> with_reducible rfl)
  try simp only [Act.put, List.setIfInBounds_toArray, List.set_cons_zero, List.set_cons_succ]
  refine wpAnyH_take (i := 1) (oi := { dst := some 32, op := Go.Op.nilCheck (Go.Operand.tmp 31), type := 0, pos := "mem.go:54", after := #[{ on := 0, ground := Go.Ground.data }], guard := none }) (v := ?v2) rfl (by kernel_rfl) (by kernel_rfl) (by kernel_rfl) (fun _ _ _ h => h) (Or.inl ⟨by rfl, ?hy2⟩) (by assumption) ?rest2
  case hy2 => (intro w hSw; (try dsimp only at hSw); go_simp <;> with_reducible rfl)
  try simp only [Act.put, List.setIfInBounds_toArray, List.set_cons_zero, List.set_cons_succ]
  refine wpAnyH_take (i := 2) (oi := { dst := some 33, op := Go.Op.fieldAddr 56 (Go.Operand.tmp 32) 0, type := 0, pos := "mem.go:54", after := #[{ on := 1, ground := Go.Ground.data }], guard := none }) (v := ?v3) rfl (by kernel_rfl) (by kernel_rfl) (by kernel_rfl) (fun _ _ _ h => h) (Or.inl ⟨by rfl, ?hy3⟩) (by assumption) ?rest3
  case hy3 => (intro w hSw; (try dsimp only at hSw); go_simp <;> with_reducible rfl)
  try simp only [Act.put, List.setIfInBounds_toArray, List.set_cons_zero, List.set_cons_succ]
  refine wpAnyH_take (i := 3) (oi := { dst := some 34, op := Go.Op.slice 54 (Go.Operand.tmp 33) none none none, type := 22, pos := "mem.go:54", after := #[{ on := 2, ground := Go.Ground.data }], guard := none }) (v := ?v4) rfl (by kernel_rfl) (by kernel_rfl) (by kernel_rfl) (fun _ _ _ h => h) (Or.inl ⟨by rfl, ?hy4⟩) (by assumption) ?rest4
  case hy4 => (intro w hSw; (try dsimp only at hSw); go_simp <;> with_reducible rfl)
  try simp only [Act.put, List.setIfInBounds_toArray, List.set_cons_zero, List.set_cons_succ]
  refine wpAnyH_take (i := 4) (oi := { dst := some 35, op := Go.Op.move (Go.Operand.tmp 0), type := 26, pos := "mem.go:54", after := #[], guard := none }) (v := ?v5) rfl (by kernel_rfl) (by kernel_rfl) (by kernel_rfl) (fun _ _ _ h => h) (Or.inl ⟨by rfl, ?hy5⟩) (by assumption) ?rest5
  case hy5 => (intro w hSw; (try dsimp only at hSw); go_simp <;> with_reducible rfl)
  try simp only [Act.put, List.setIfInBounds_toArray, List.set_cons_zero, List.set_cons_succ]
  refine wpAnyH_take (i := 5) (oi := { dst := some 36, op := Go.Op.nilCheck (Go.Operand.tmp 35), type := 0, pos := "mem.go:54", after := #[{ on := 4, ground := Go.Ground.data }], guard := none }) (v := ?v6) rfl (by kernel_rfl) (by kernel_rfl) (by kernel_rfl) (fun _ _ _ h => h) (Or.inl ⟨by rfl, ?hy6⟩) (by assumption) ?rest6
  case hy6 => (intro w hSw; (try dsimp only at hSw); go_simp <;> with_reducible rfl)
  try simp only [Act.put, List.setIfInBounds_toArray, List.set_cons_zero, List.set_cons_succ]
  refine wpAnyH_take (i := 6) (oi := { dst := some 37, op := Go.Op.fieldAddr 50 (Go.Operand.tmp 36) 2, type := 0, pos := "mem.go:54", after := #[{ on := 5, ground := Go.Ground.data }], guard := none }) (v := ?v7) rfl (by kernel_rfl) (by kernel_rfl) (by kernel_rfl) (fun _ _ _ h => h) (Or.inl ⟨by rfl, ?hy7⟩) (by assumption) ?rest7
  case hy7 => (intro w hSw; (try dsimp only at hSw); go_simp <;> with_reducible rfl)
  try simp only [Act.put, List.setIfInBounds_toArray, List.set_cons_zero, List.set_cons_succ]
  refine wpAnyH_take (i := 7) (oi := { dst := some 38, op := Go.Op.load 22 (Go.Operand.tmp 37), type := 22, pos := "mem.go:54", after := #[{ on := 6, ground := Go.Ground.data }], guard := none }) (v := ?v8) rfl (by kernel_rfl) (by kernel_rfl) (by kernel_rfl) (fun _ _ _ h => h) (Or.inl ⟨by rfl, ?hy8⟩) (by assumption) ?rest8
  case hy8 => (intro w hSw; (try dsimp only at hSw); go_simp <;> with_reducible rfl)
  try simp only [Act.put, List.setIfInBounds_toArray, List.set_cons_zero, List.set_cons_succ]
  refine wpAnyH_take (i := 8) (oi := { dst := some 39, op := Go.Op.move (Go.Operand.tmp 5), type := 3, pos := "mem.go:54", after := #[], guard := none }) (v := ?v9) rfl (by kernel_rfl) (by kernel_rfl) (by kernel_rfl) (fun _ _ _ h => h) (Or.inl ⟨by rfl, ?hy9⟩) (by assumption) ?rest9
  case hy9 => (intro w hSw; (try dsimp only at hSw); go_simp <;> with_reducible rfl)
  try simp only [Act.put, List.setIfInBounds_toArray, List.set_cons_zero, List.set_cons_succ]
  refine wpAnyH_take (i := 9) (oi := { dst := some 40, op := Go.Op.binOp Go.BinOp.mul 3 (Go.Operand.tmp 39) (Go.Operand.const (Go.Value.int Go.IntKind.i64 64)) 3, type := 3, pos := "mem.go:54", after := #[{ on := 8, ground := Go.Ground.data }], guard := none }) (v := ?v10) rfl (by kernel_rfl) (by kernel_rfl) (by kernel_rfl) (fun _ _ _ h => h) (Or.inl ⟨by rfl, ?hy10⟩) (by assumption) ?rest10
  case hy10 => (intro w hSw; (try dsimp only at hSw); go_simp <;> with_reducible rfl)
  try simp only [Act.put, List.setIfInBounds_toArray, List.set_cons_zero, List.set_cons_succ]
  refine wpAnyH_take (i := 10) (oi := { dst := some 41, op := Go.Op.slice 22 (Go.Operand.tmp 38) (some (Go.Operand.tmp 40)) none none, type := 22, pos := "mem.go:54", after := #[{ on := 7, ground := Go.Ground.data }, { on := 9, ground := Go.Ground.data }], guard := none }) (v := ?v11) rfl (by kernel_rfl) (by kernel_rfl) (by kernel_rfl) (fun _ _ _ h => h) (Or.inl ⟨by rfl, ?hy11⟩) (by assumption) ?rest11
  case hy11 => (intro w hSw; (try dsimp only at hSw); go_simp <;> with_reducible rfl)
  try simp only [Act.put, List.setIfInBounds_toArray, List.set_cons_zero, List.set_cons_succ]
  refine wpAnyH_ready (rs := [11]) (by kernel_rfl) (by simp) ?_
  refine AllReadyH.cons (o := { dst := some 42, op := Go.Op.call { callee := Go.Callee.builtin Go.Builtin.copy, args := #[Go.Operand.tmp 34, Go.Operand.tmp 41], argTypes := #[22, 22] }, type := 3, pos := "mem.go:54", after := #[{ on := 3, ground := Go.Ground.data }, { on := 10, ground := Go.Ground.data }], guard := none }) rfl (fun K hK => ?_) AllReadyH.nil
  go_simp
  refine hK.out _ _ ?_ (fun hHeld2 => ?_)
  · (try dsimp only); (first | exact s1 | exact s2)
  clear hK K hHeld
  have hHeld := hHeld2
  clear hHeld2
  try simp only [Act.put, List.setIfInBounds_toArray, List.set_cons_zero, List.set_cons_succ]
  refine wpAnyH_done (by kernel_rfl) ?_ _
  refine NoPanic.normal ?_
  replace hB2 := Lib.hid hB2
  go_upto_region 12 with (first | (refine wpList_load_mid rfl 54 _ rfl w.heap.size 0 rfl (cb (page F (a / 64))) _ hrange Try.underlying54 rfl hpi ?_) | (refine wpList_store_mid rfl 54 _ _ rfl w.heap.size 64 (cb (page F (a / 64))).toArray rfl rfl hthere hpi2 hone ?_))
  clear hrange hthere hpi hpi2 hone
  have hg3 := grown_setCells w.heap.size 64 (cb (page F (a / 64))) w2
  have hB3 := Blk.setCells (cb (page F (a / 64))) 64 w2 _ hB2.out (by rw [cb_len, cb_len, List.length_append, hpl, List.length_replicate]; omega)
  rw [cb_append, cb_len, hpl, List.take_append_of_le_length (by rw [cb_len, hpl]; omega), List.take_of_length_le (by rw [cb_len, hpl]; omega), List.drop_append, List.drop_eq_nil_of_le (by rw [cb_len, hpl]; omega), List.drop_eq_nil_of_le (by rw [cb_len, cb_len, hpl, List.length_replicate]; omega), List.append_nil, List.append_nil, ← cb_append] at hB3
  have hD3 := (((hD.alloc (.cells Try.zeroCells56 56)).drew).kept hg2 (by have := hD.lt; simp; omega)).kept hg3 (by have := hD.lt; simp; omega)
  have own3 := own2.kept hg3 (by simp; omega)
  obtain ⟨k1, k2, k3, j1, j2, j3, l3⟩ := own3.three
  generalize w2.setCells w.heap.size 64 (cb (page F (a / 64))) = w3 at *
  go_upto_region 13 with (at_mapUpdate; refine wpList_mapUpdate_own _ rfl _ _ _ 47 rfl 3 57 pagesK Try.underlying47 ptrR pb _ D rfl hD3 hcn _ (.pointer (some ⟨w.heap.size, 0, none⟩)) _ rfl rfl hkey (.lit (.int .i64 (w.heap.size : Int))) [] rfl ?_; intro w5 hD5 hg5)
  go_wp2
  go_ret
  have hI := hI.out
  have hg := hg'.out
  have hpb := hD.lt
  have hT : w.grownBy w5 (some pb) := by
    refine ⟨hg5.os.trans (hg3.os.trans hg2.os), hg5.tape.trans (hg3.tape.trans hg2.tape), hg5.output.trans (hg3.output.trans hg2.output), ?_, fun k hk hne => ?_⟩
    · have e1 := hg2.size
      have e2 := hg3.size
      have e3 := hg5.size
      simp at e1
      omega
    · have e1 := hg2.size
      have e2 := hg3.size
      simp at e1
      refine (hg5.block k (by omega) hne).trans ((hg3.block k (by omega) (by simp; omega)).trans ((hg2.block k (by simp; omega) (by simp; omega)).trans ?_))
      exact Below.heap_alloc w _ k hk
  have hB5 := hB3.kept hg5 (by simp; omega)
  have hrest := hI.rest (a / 64) (by omega) hg
  refine ⟨upd g (a / 64) w.heap.size, w.heap.size, rfl, ⟨hI.lenM, hI.lenF, hI.own.kept hT (by have := hI.ne.2.1; simpa using this), hI.first.kept hT (by have := hI.ne.2.2; simpa using this), ⟨_, by rw [cnt_upd g (a / 64) _ hg (by omega)]; exact hD5, hPG.out.put hD.isMap (a / 64) w.heap.size⟩, hI.low, hI.ne, ?_, ?_⟩, by simp [upd], ?_, hT, ?_⟩
  · intro k hk h hkh
    by_cases e : k = a / 64
    · subst e
      have e2 : h = w.heap.size := by simpa [upd] using hkh.symm
      subst e2
      have l1 := hI.own.lt
      have l2 := hI.first.lt
      have l4 := hI.low
      refine ⟨by omega, by omega, by omega, by omega, by rw [hrest]; exact hB5, fun j hj hjh => ?_⟩
      by_cases e3 : j = a / 64
      · exact e3
      · have e4 : g j = some w.heap.size := by simpa [upd, e3] using hjh
        have := (hI.pages j hj _ e4).2.2.2.2.1.lt
        omega
    · have e4 : g k = some h := by simpa [upd, e] using hkh
      obtain ⟨p1, p2, p3, p4, p5, p6⟩ := hI.pages k hk h e4
      refine ⟨p1, p2, p3, p4, p5.kept hT (by simpa using p4), fun j hj hjh => ?_⟩
      by_cases e3 : j = a / 64
      · have e5 : w.heap.size = h := by simpa [upd, e3] using hjh
        have := p5.lt
        omega
      · exact p6 j hj (by simpa [upd, e3] using hjh)
  · intro k hk hkn
    by_cases e : k = a / 64
    · simp [upd, e] at hkn
    · exact hI.rest k hk (by simpa [upd, e] using hkn)
  · intro j hj
    by_cases e : j = a / 64
    · exact .inl e
    · exact .inr (by simpa [upd, e] using hj)
  · intro j k hjk
    by_cases e : j = a / 64
    · have : w.heap.size = k := by simpa [upd, e] using hjk
      exact .inr (by omega)
    · exact .inl (by simpa [upd, e] using hjk)
/-- 'at' -/
theorem wAt (w : World) (base mb pb fb : Nat) (F M : List UInt8) (g : Nat → Option Nat) (hI : MemI w base mb pb fb F M g) (hb : base ≤ w.heap.size) (a : Nat) (ha : a < 8192) :
    Calls Try.prog 25 #[.pointer (some ⟨mb, 0, none⟩), .int .i64 (a : Int)] w fun e w' => AtP w w' base mb pb fb F M g a e := by
  cases hg : g (a / 64) with
  | none => exact at_new w base mb pb fb F M g hI hb a ha hg
  | some b =>
    refine (at_old w base mb pb fb F M g hI a ha b hg).mono ?_
    rintro e w' ⟨rfl, rfl⟩
    exact ⟨g, b, rfl, hI, hg, fun j hj => .inr hj, ⟨rfl, rfl, rfl, Nat.le_refl _, fun _ _ _ => rfl⟩, fun j k h => .inl h⟩
end Go.Proofs.Ytkcmphjgflbchaa

/- 'Load'. -/
namespace Go.Proofs.Ytkcmphjgflbchaa
open Go.RowKit
set_option linter.unusedVariables false
set_option linter.unusedSimpArgs false
attribute [local go_sem] cell_set set_set m_undef

/-- 'make([]byte, n)' -/
theorem run_made (w : World) (N : Nat) (hN : N ≤ 1000000) : (Instr.makeSlice 22 (.int .i64 (N : Int)) (.int .i64 (N : Int))).run Try.prog w = .ok (.slice (some ⟨w.heap.size, 0, none⟩) N N) (w.alloc (.cells (cb (List.replicate N 0)).toArray 5)) := by
  obtain ⟨i, hi1, hi2⟩ := Option.map_eq_some_iff.1 info5
  simp only [Prod.mk.injEq] at hi2
  obtain ⟨hz, hs1, hb1⟩ := hi2
  have h := run_make (P := Try.prog) w 22 5 i (.int .u8 0) Try.underlying22 hi1 hz .i64 .i64 (N : Int) (N : Int) (by omega) (Int.le_refl _) (by rw [hb1]; omega) (by omega)
  rw [h]
  have e : madeCells (Value.int IntKind.u8 0).cells ((N : Int).toNat * i.size) = (cb (List.replicate N 0)).toArray := by
    rw [hs1, Int.toNat_natCast, Nat.mul_one]
    apply Array.ext
    · simp [madeCells, cb, Value.cells]
    · intro j h1 h2
      simp [madeCells, cb, Value.cells, Nat.mod_one]
  rw [e]
  simp
theorem MemI.kept {w w' : World} {base mb pb fb : Nat} {F M : List UInt8} {g : Nat → Option Nat} {row : Option Nat} (h : MemI w base mb pb fb F M g) (hg : w.grownBy w' row) (hrow : ∀ k, row = some k → ¬ MemO mb pb fb g k) : MemI w' base mb pb fb F M g := by
  have nm : some mb ≠ row := fun e => hrow mb e.symm (.inl rfl)
  have np : some pb ≠ row := fun e => hrow pb e.symm (.inr (.inl rfl))
  have nf : some fb ≠ row := fun e => hrow fb e.symm (.inr (.inr (.inl rfl)))
  obtain ⟨D, hD, hPG⟩ := h.map
  refine ⟨h.lenM, h.lenF, h.own.kept hg nm, h.first.kept hg nf, ⟨D, hD.kept hg np, hPG⟩, h.low, h.ne, fun k hk b hb => ?_, h.rest⟩
  obtain ⟨p1, p2, p3, p4, p5, p6⟩ := h.pages k hk b hb
  exact ⟨p1, p2, p3, p4, p5.kept hg (fun e => hrow b e.symm (.inr (.inr (.inr ⟨k, hk, hb⟩)))), p6⟩
/-- A memory's blocks stand. -/
theorem MemI.lt {w : World} {base mb pb fb : Nat} {F M : List UInt8} {g : Nat → Option Nat} (h : MemI w base mb pb fb F M g) {k : Nat} (hk : MemO mb pb fb g k) : k < w.heap.size ∧ base ≤ k := by
  obtain ⟨D, hD, hPG⟩ := h.map
  rcases hk with rfl | rfl | rfl | ⟨j, hj, hjk⟩
  · exact ⟨h.own.lt, h.low.1⟩
  · exact ⟨hD.lt, h.low.2.1⟩
  · exact ⟨h.first.lt, h.low.2.2⟩
  · obtain ⟨p1, p2, p3, p4, p5, p6⟩ := h.pages j hj k hjk
    exact ⟨p5.lt, p1⟩
theorem wIs' (w : World) (base mb pb fb : Nat) (F M : List UInt8) (g : Nat → Option Nat) (hI : MemI w base mb pb fb F M g) : Calls Try.prog 24 #[.pointer (some ⟨mb, 0, none⟩)] w fun e w' => e = .returned (.bool true) ∧ w = w' :=
  wIs w base mb M (MemO mb pb fb g) ⟨pb, fb, F, g, hI, fun k => Iff.rfl⟩
/-- The byte at a place of the memory. -/
def memAt (M : List UInt8) (z : Int) : UInt8 := if 0 ≤ z ∧ z < 8192 then M.getD z.toNat 0 else 0
/-- What 'Load' gives. -/
def loadL (M : List UInt8) (a n : Int) : List UInt8 := (List.range (min (max n 0) 8192).toNat).map fun i : Nat => memAt M (a + (i : Int))
def partL (M : List UInt8) (a : Int) (N j : Nat) : List UInt8 := (List.range N).map fun i : Nat => if i < j then memAt M (a + (i : Int)) else 0
theorem partL_len (M : List UInt8) (a : Int) (N j : Nat) : (partL M a N j).length = N := by simp [partL]
theorem partL_zero (M : List UInt8) (a : Int) (N : Nat) : partL M a N 0 = List.replicate N 0 := by
  apply List.ext_getElem
  · simp [partL]
  · intro i h1 h2; simp [partL]
theorem partL_step (M : List UInt8) (a : Int) (N j : Nat) (hj : j < N) : partL M a N (j + 1) = (partL M a N j).set j (memAt M (a + j)) := by
  apply List.ext_getElem
  · simp [partL]
  · intro i h1 h2
    rw [List.getElem_set]
    simp only [partL, List.getElem_map, List.getElem_range]
    by_cases e : j = i
    · subst e; simp
    · rw [if_neg e]
      by_cases h : i < j
      · rw [if_pos h, if_pos (by omega)]
      · rw [if_neg h, if_neg (by omega)]
theorem partL_out (M : List UInt8) (a : Int) (N j : Nat) (hj : j < N) (h : ¬ (0 ≤ a + j ∧ a + j < 8192)) : partL M a N (j + 1) = partL M a N j := by
  apply List.ext_getElem
  · simp [partL]
  · intro i h1 h2
    simp only [partL, List.getElem_map, List.getElem_range]
    by_cases e : i = j
    · subst e
      rw [if_pos (by omega), if_neg (by omega), memAt, if_neg h]
    · by_cases h3 : i < j
      · rw [if_pos h3, if_pos (by omega)]
      · rw [if_neg h3, if_neg (by omega)]
/-- What 'Load' does. -/
def LoadP (w w' : World) (base mb pb fb : Nat) (F M : List UInt8) (g : Nat → Option Nat) (L : List UInt8) (e : Ending) : Prop :=
  ∃ v' g', e = .returned v' ∧ Bs w' w.heap.size v' L ∧ MemI w' base mb pb fb F M g' ∧ w.grownBy w' (some pb) ∧ (∀ j k, g' j = some k → g j = some k ∨ w.heap.size ≤ k) ∧ ∀ k, v'.ownBlock = some k → ¬ MemO mb pb fb g' k
theorem held_cell {w : World} {h kN : Nat} {F M : List UInt8} {t : TypeId} (hB : Blk w h (cb (page F (kN / 64) ++ page M (kN / 64))).toArray t) (hF : F.length = 8192) (hM : M.length = 8192) (hk : kN < 8192) :
    w.cell? ⟨h, 64 + kN % 64, none⟩ = some (.int .u8 ((M[kN]'(by rw [hM]; exact hk)).toNat : Int)) ∧ w.frozen? ⟨h, 64 + kN % 64, none⟩ = false := by
  have hq : kN / 64 < 128 := by omega
  have hr : kN % 64 < 64 := Nat.mod_lt _ (by omega)
  have h1 := page_len hF hq
  have h2 := page_len hM hq
  have h3 := page_at hM hq hr
  refine ⟨?_, hB.frozen _⟩
  rw [hB.cell, List.getElem?_toArray]
  unfold cb
  rw [List.getElem?_map, List.getElem?_append_right (by omega), h1, Nat.add_sub_cancel_left, List.getElem?_eq_getElem (by omega), h3]
  have e : 64 * (kN / 64) + kN % 64 = kN := by omega
  simp only [e]
  rfl
theorem grown_trans {w w1 w2 : World} {r : Option Nat} (h : w.grownBy w1 r) (h2 : w1.grownBy w2 r) : w.grownBy w2 r :=
  ⟨h2.os.trans h.os, h2.tape.trans h.tape, h2.output.trans h.output, Nat.le_trans h.size h2.size, fun k hk hne => (h2.block k (Nat.lt_of_lt_of_le hk h.size) hne).trans (h.block k hk hne)⟩
theorem grown_set {w w1 : World} {r : Option Nat} (h : w.grownBy w1 r) {b o : Nat} (hb : w.heap.size ≤ b) (v : Value) : w.grownBy (w1.setCell ⟨b, o, none⟩ v) r :=
  ⟨h.os, h.tape, h.output, by simpa using h.size, fun k hk hne => (Below.heap_setCell _ _ _ _ (by intro e; simp at e; omega)).trans (h.block k hk hne)⟩
set_option maxRecDepth 100000 in
set_option maxHeartbeats 1600000 in
theorem wLoad (w : World) (base mb pb fb : Nat) (F M : List UInt8) (g : Nat → Option Nat) (hI : MemI w base mb pb fb F M g) (hbase : base ≤ w.heap.size) (a n : Int) (ha : isI a) :
    Calls Try.prog 41 #[.pointer (some ⟨mb, 0, none⟩), .int .i64 a, .int .i64 n] w fun e w' => LoadP w w' base mb pb fb F M g (loadL M a n) e := by
  unfold isI at ha
  obtain ⟨N, hN⟩ : ∃ N : Nat, N = (min (max n 0) 8192).toNat := ⟨_, rfl⟩
  have hloadL : loadL M a n = partL M a N N := by
    unfold loadL partL
    rw [← hN]
    apply List.map_congr_left
    intro i hi
    rw [if_pos (List.mem_range.1 hi)]
  rw [hloadL]
  have hmin : (if (8192 : Int) < (if n < 0 then 0 else n) then 8192 else (if n < 0 then 0 else n)) = (N : Int) := by split <;> split <;> omega
  obtain ⟨m0, hm0⟩ : ∃ m0, (if n < 0 then (0 : Int) else n) = m0 := ⟨_, rfl⟩
  rw [hm0] at hmin
  have hN8 : N ≤ 8192 := by omega
  have hmk := run_made w N (by omega)
  clear hN hloadL
  have hg1 : w.grownBy (w.alloc (.cells (cb (List.replicate N 0)).toArray 5)) none := World.grownBy_alloc w _ none
  have hI1 := hI.kept hg1 (fun k e => by cases e)
  have hB1 : Bs (w.alloc (.cells (cb (List.replicate N 0)).toArray 5)) w.heap.size (.slice (some ⟨w.heap.size, 0, none⟩) N N) (List.replicate N 0) := by
    have h := Bs.of_blk (n := N) (Blk.new w (cb (List.replicate N 0)).toArray 5) (by simp)
    rcases h with ⟨h, _⟩ | ⟨b, o, cap, he, h2, h3⟩
    · cases h
    · have := he
      simp only [Value.slice.injEq, Option.some.injEq, Addr.mk.injEq] at this
      exact .inr ⟨b, o, cap, he, by omega, h3⟩
  have his := Lib.hid (wIs' _ base mb pb fb F M g hI1)
  replace hI := Lib.hid hI
  go_enter Try.func41, Try.ntmps41
  go_upto_region 2 with fail
  generalize hw1 : w.alloc (.cells (cb (List.replicate N 0)).toArray 5) = w1 at *
  by_cases h8 : 8192 < a
  · have t1 : ((8192 : Int) < a) = True := by simp; exact h8
    have e1 : ∀ j, j ≤ N → partL M a N j = List.replicate N 0 := by
      intro j
      induction j with
      | zero => intro _; exact partL_zero M a N
      | succ j ih => intro hj; rw [partL_out M a N j (by omega) (by omega), ih (by omega)]
    go_wp2_with (go_at_call 24; refine his.out.mono ?_; rintro e w2 ⟨rfl, rfl⟩)
    go_ret
    refine ⟨_, g, rfl, by rw [e1 N (Nat.le_refl _)]; exact hB1, hI1, ⟨hg1.os, hg1.tape, hg1.output, hg1.size, fun k hk _ => hg1.block k hk (by simp)⟩, fun j k h => .inl h, fun k hk hO => ?_⟩
    have hk2 : w.heap.size = k := Option.some.inj hk
    have := (hI.out.lt hO).1
    omega
  have t1 : ((8192 : Int) < a) = False := by simp; omega
  go_upto_region 4 with (go_at_call 24; refine his.out.mono ?_; rintro e w2 ⟨rfl, rfl⟩)
  have hob : w.heap.size < w1.heap.size := by rw [← hw1]; simp
  have hg1' := Lib.hid hg1
  have hbl : ∀ k, w.heap.size = k → ¬ MemO mb pb fb g k := fun k hk hO => by
    have := (hI.out.lt hO).1
    omega
  have ha8 : a ≤ 8192 := by omega
  clear hm0 hmin hmk hw1 hg1 h8 t1 his
  go_wp2
  go_loopw [24] (fun i wr => ∃ (j : Nat) (g' : Nat → Option Nat), j ≤ N ∧ i = .int .i64 (j : Int) ∧ MemI wr base mb pb fb F M g' ∧ Bs wr w.heap.size (.slice (some ⟨w.heap.size, 0, none⟩) N N) (partL M a N j) ∧ w.grownBy wr (some pb) ∧ (∀ j k, g' j = some k → g j = some k ∨ w.heap.size < k)) (fun i _ => (N - (intOf i).toNat))
  case atStart =>
    exact ⟨0, g, by omega, rfl, hI1, by rw [partL_zero]; exact hB1, ⟨hg1'.out.os, hg1'.out.tape, hg1'.out.output, hg1'.out.size, fun k hk _ => hg1'.out.block k hk (by simp)⟩, fun j k h => .inl h⟩
  case round =>
    clear hI1 hB1
    obtain ⟨j, g', hj, rfl, hI2, hB2, hT, hnew⟩ := hrel
    have hnotO : ¬ MemO mb pb fb g' w.heap.size := by
      rintro (h | h | h | ⟨q, hq, h⟩)
      · exact hbl _ rfl (.inl h)
      · exact hbl _ rfl (.inr (.inl h))
      · exact hbl _ rfl (.inr (.inr (.inl h)))
      · rcases hnew q _ h with h2 | h2
        · exact hbl _ rfl (.inr (.inr (.inr ⟨q, hq, h2⟩)))
        · omega
    have hwr : w.heap.size < wr.heap.size := by
      rcases hB2.lt with e | ⟨x, e, _, hx⟩
      · cases e
      · cases e; exact hx
    by_cases hjN : j < N
    · have w1' : IntKind.i64.wrap ((j : Int) + 1) = ((j + 1 : Nat) : Int) := by rw [IntKind.wrap_i64]; omega
      have t2 : ((j : Int) < (N : Int)) = True := by simp; omega
      obtain ⟨jz, hjz⟩ : ∃ jz : Int, jz = (j : Int) := ⟨_, rfl⟩
      by_cases hin : 0 ≤ a + j ∧ a + j < 8192
      · obtain ⟨kN, hkN⟩ : ∃ kN : Nat, (kN : Int) = a + j := ⟨(a + j).toNat, by omega⟩
        have w2 : IntKind.i64.wrap (a + (j : Int)) = (kN : Int) := by rw [IntKind.wrap_i64]; omega
        have t3 : ((kN : Int) < 8192) = True := by simp; omega
        have hk8 : kN < 8192 := by omega
        have hat := Lib.hid (wAt _ base mb pb fb F M g' hI2 (by have := hT.size; omega) kN hk8)
        have hstep := partL_step M a N j hjN
        have hmem : memAt M (a + j) = M[kN]'(by rw [hI2.lenM]; exact hk8) := by
          rw [memAt, if_pos hin, ← hkN, Int.toNat_natCast, List.getD_eq_getElem?_getD, List.getElem?_eq_getElem (by rw [hI2.lenM]; exact hk8)]
          rfl
        rw [hmem] at hstep
        replace hstep := Lib.hid hstep
        replace hmem := Lib.hid hmem
        clear hin hkN hjz
        have hpb : pb ≠ w.heap.size := fun e => hnotO (.inr (.inl e.symm))
        replace hI2 := Lib.hid hI2
        have hB2' := Lib.hid hB2
        have hsz := hT.size
        replace hT := Lib.hid hT
        clear hB2
        go_upto_region 9 with fail
        have w1w : True := trivial
        go_upto_region 10 with (go_at_call 25; refine hat.out.mono ?_; rintro e w5 ⟨g2, h, rfl, hI3, hgh, hgu, hT3, hn3⟩; obtain ⟨p1, p2, p3, p4, p5, p6⟩ := hI3.pages (kN / 64) (by omega) h hgh; obtain ⟨q1, q2⟩ := held_cell p5 hI3.lenF hI3.lenM hk8; replace p5 := Lib.hid p5; have hB3 := hB2'.out.kept hT3 (.inr (by intro e; exact hpb (Option.some.inj e).symm)); obtain ⟨r1, r2⟩ := hB3.at j (by rw [partL_len]; exact hjN); rw [Nat.zero_add] at r1 r2; have hb5 := hT3.size; replace hT3 := Lib.hid hT3; replace hI3 := Lib.hid hI3; replace hB3 := Lib.hid hB3; clear p1 p2 p3 p4 p6 hgh hgu)
        have hB6 := hB3.out.setAt j (M[kN]'(by rw [hI2.out.lenM]; exact hk8)) (by rw [partL_len]; exact hjN)
        rw [Nat.zero_add, ← hstep.out] at hB6
        have hI6 := hI3.out.kept (grownBy_setCell w5 w.heap.size j (.int .u8 ((M[kN]'(by rw [hI2.out.lenM]; exact hk8)).toNat : Int))) (fun k hk => by
          have e := Option.some.inj hk
          subst e
          rintro (h9 | h9 | h9 | ⟨q, hq, h9⟩)
          · exact hnotO (.inl h9)
          · exact hnotO (.inr (.inl h9))
          · exact hnotO (.inr (.inr (.inl h9)))
          · rcases hn3 q _ h9 with h10 | h10
            · exact hnotO (.inr (.inr (.inr ⟨q, hq, h10⟩)))
            · omega)
        have hT6 := grown_set (grown_trans hT.out hT3.out) (Nat.le_refl _) (o := j) (.int .u8 ((M[kN]'(by rw [hI2.out.lenM]; exact hk8)).toNat : Int))
        replace hB6 := Lib.hid hB6
        replace hI6 := Lib.hid hI6
        replace hT6 := Lib.hid hT6
        clear q1 q2 r1 r2 hB3 hT3 p5
        go_wp2
        go_roundw
        case rel => exact ⟨j + 1, g2, by omega, rfl, hI6.out, hB6.out, hT6.out, fun q k hq => by
          rcases hn3 q k hq with h1 | h1
          · exact hnew q k h1
          · exact .inr (by omega)⟩
        case measure => simp [intOf]; omega
      · obtain ⟨i, hi⟩ : ∃ i : Int, i = a + j := ⟨_, rfl⟩
        have w2 : IntKind.i64.wrap (a + (j : Int)) = i := by rw [IntKind.wrap_i64]; omega
        have hout := Lib.hid (partL_out M a N j hjN hin)
        replace hI2 := Lib.hid hI2
        replace hB2 := Lib.hid hB2
        replace hT := Lib.hid hT
        by_cases h0 : 0 ≤ i
        · have t3 : ((0 : Int) ≤ i) = True := by simp; exact h0
          have t4 : (i < 8192) = False := by simp; omega
          clear hi hin h0 hjz
          go_wp2
          go_roundw
          case rel => exact ⟨j + 1, g', by omega, rfl, hI2.out, by rw [hout.out]; exact hB2.out, hT.out, hnew⟩
          case measure => simp [intOf]; omega
        · have t3 : ((0 : Int) ≤ i) = False := by simp; omega
          clear hi hin h0 hjz
          go_wp2
          go_roundw
          case rel => exact ⟨j + 1, g', by omega, rfl, hI2.out, by rw [hout.out]; exact hB2.out, hT.out, hnew⟩
          case measure => simp [intOf]; omega
    · have hjs : j = N := by omega
      subst hjs
      have t2 : ((j : Int) < (j : Int)) = False := by simp
      replace hI2 := Lib.hid hI2
      replace hB2 := Lib.hid hB2
      replace hT := Lib.hid hT
      clear hj
      go_wp2
      go_ret
      exact ⟨_, g', rfl, hB2.out, hI2.out, hT.out, fun q k hq => by
        rcases hnew q k hq with h1 | h1
        · exact .inl h1
        · exact .inr (by omega), fun k hk => by
        have e : w.heap.size = k := Option.some.inj hk
        rw [← e]
        exact hnotO⟩
end Go.Proofs.Ytkcmphjgflbchaa

/- 'Lay'. -/
namespace Go.Proofs.Ytkcmphjgflbchaa
open Go.RowKit
set_option linter.unusedVariables false
set_option linter.unusedSimpArgs false
attribute [local go_sem] cell_set set_set m_undef

theorem page_set {M : List UInt8} (hM : M.length = 8192) {k q : Nat} (hk : k < 8192) (hq : q < 128) (x : UInt8) : page (M.set k x) q = if q = k / 64 then (page M q).set (k % 64) x else page M q := by
  have hl : (M.set k x).length = 8192 := by rw [List.length_set]; exact hM
  have h1 := page_len hl hq
  have h2 := page_len hM hq
  by_cases e : q = k / 64
  · rw [if_pos e]
    apply List.ext_getElem
    · simp [h1, h2]
    · intro i hi1 hi2
      rw [h1] at hi1
      rw [page_at hl hq hi1, List.getElem_set, List.getElem_set]
      by_cases h : k = 64 * q + i
      · rw [if_pos h, if_pos (by omega)]
      · rw [if_neg h, if_neg (by omega), page_at hM hq hi1]
  · rw [if_neg e]
    apply List.ext_getElem
    · simp [h1, h2]
    · intro i hi1 hi2
      rw [h1] at hi1
      rw [page_at hl hq hi1, List.getElem_set, if_neg (by omega), page_at hM hq hi1]
/-- A byte of a page is stored. -/
theorem MemI.setByte {w : World} {base mb pb fb : Nat} {F M : List UInt8} {g : Nat → Option Nat} (hI : MemI w base mb pb fb F M g) {k h : Nat} (hk : k < 8192) (hg : g (k / 64) = some h) (x : UInt8) :
    MemI (w.setCell ⟨h, 64 + k % 64, none⟩ (.int .u8 (x.toNat : Int))) base mb pb fb F (M.set k x) g := by
  have hq : k / 64 < 128 := by omega
  obtain ⟨p1, p2, p3, p4, p5, p6⟩ := hI.pages (k / 64) hq h hg
  have hgr := grownBy_setCell w h (64 + k % 64) (.int .u8 (x.toNat : Int))
  obtain ⟨D, hD, hPG⟩ := hI.map
  refine ⟨by rw [List.length_set]; exact hI.lenM, hI.lenF, hI.own.kept hgr (fun e => p2 (Option.some.inj e).symm), hI.first.kept hgr (fun e => p3 (Option.some.inj e).symm), ⟨D, hD.kept hgr (fun e => p4 (Option.some.inj e).symm), hPG⟩, hI.low, hI.ne, fun q hq2 b hb => ?_, fun q hq2 hn => ?_⟩
  · obtain ⟨r1, r2, r3, r4, r5, r6⟩ := hI.pages q hq2 b hb
    refine ⟨r1, r2, r3, r4, ?_, r6⟩
    rw [page_set hI.lenM hk hq2 x]
    by_cases e : q = k / 64
    · subst e
      rw [if_pos rfl]
      have e2 : b = h := by rw [hg] at hb; exact (Option.some.inj hb).symm
      subst e2
      have h3 := r5.set (64 + k % 64) (.int .u8 (x.toNat : Int))
      have e3 : (cb (page F (k / 64) ++ page M (k / 64))).toArray.setIfInBounds (64 + k % 64) (.int .u8 (x.toNat : Int)) = (cb (page F (k / 64) ++ (page M (k / 64)).set (k % 64) x)).toArray := by
        rw [List.setIfInBounds_toArray]
        unfold cb
        rw [List.map_append, List.map_append, List.set_append_right _ _ (by rw [List.length_map, page_len hI.lenF hq]; omega), List.length_map, page_len hI.lenF hq, Nat.add_sub_cancel_left, List.map_set]
      rw [e3] at h3
      exact h3
    · rw [if_neg e]
      exact r5.kept hgr (fun e2 => e (p6 q hq2 (by rw [hb]; exact e2)))
  · rw [page_set hI.lenM hk hq2 x, if_neg (fun e => by rw [e, hg] at hn; cases hn)]
    exact hI.rest q hq2 hn
/-- What 'Lay' makes of the memory, the first j bytes laid. -/
def layN (M : List UInt8) (a : Int) (bs : List UInt8) : Nat → List UInt8
  | 0 => M
  | j + 1 => if 0 ≤ a + j ∧ a + j < 8192 then (layN M a bs j).set (a + j).toNat (bs.getD j 0) else layN M a bs j
def layL (M : List UInt8) (a : Int) (bs : List UInt8) : List UInt8 := layN M a bs bs.length
theorem layN_len (M : List UInt8) (a : Int) (bs : List UInt8) (j : Nat) : (layN M a bs j).length = M.length := by
  induction j with
  | zero => rfl
  | succ j ih => rw [layN]; split <;> simp [ih]
theorem layN_high (M : List UInt8) (a : Int) (bs : List UInt8) (h : 8192 < a) (j : Nat) : layN M a bs j = M := by
  induction j with
  | zero => rfl
  | succ j ih => rw [layN, if_neg (by omega)]; exact ih
/-- What 'Lay' does. -/
def LayP (w w' : World) (base mb pb fb : Nat) (F M' : List UInt8) (g : Nat → Option Nat) (e : Ending) : Prop :=
  ∃ g', e = .returned (.tuple #[]) ∧ MemI w' base mb pb fb F M' g' ∧ Turn w w' (MemO mb pb fb g) (MemO mb pb fb g')
theorem MemO.mono {mb pb fb : Nat} {g g' : Nat → Option Nat} {N k : Nat} (h : ∀ j k, g' j = some k → g j = some k ∨ N ≤ k) (hk : MemO mb pb fb g' k) : MemO mb pb fb g k ∨ N ≤ k := by
  rcases hk with h1 | h1 | h1 | ⟨q, hq, h1⟩
  · exact .inl (.inl h1)
  · exact .inl (.inr (.inl h1))
  · exact .inl (.inr (.inr (.inl h1)))
  · rcases h q k h1 with h2 | h2
    · exact .inl (.inr (.inr (.inr ⟨q, hq, h2⟩)))
    · exact .inr h2
theorem Turn.set {w w' : World} {O O' : Nat → Prop} (h : Turn w w' O O') {b o : Nat} (hb : O' b) (v : Value) : Turn w (w'.setCell ⟨b, o, none⟩ v) O O' :=
  h.trans (Turn.of_grown (grownBy_setCell w' b o v) (fun k e => .inl (by rw [← Option.some.inj e]; exact hb)) (fun k hk => .inl hk))
set_option maxRecDepth 100000 in
set_option maxHeartbeats 1600000 in
theorem wLay (w : World) (base mb pb fb : Nat) (F M : List UInt8) (g : Nat → Option Nat) (hI : MemI w base mb pb fb F M g) (hbase : base ≤ w.heap.size) (a : Int) (ha : isI a) (B : Nat) (v : Value) (bs : List UInt8) (hv : Bs w B v bs) (hbs : bs.length ≤ 1000000) (hvO : ∀ k, v.ownBlock = some k → ¬ MemO mb pb fb g k) :
    Calls Try.prog 10 #[.pointer (some ⟨mb, 0, none⟩), .int .i64 a, v] w fun e w' => LayP w w' base mb pb fb F (layL M a bs) g e := by
  unfold isI at ha
  unfold layL
  obtain ⟨N, hN⟩ : ∃ N, bs.length = N := ⟨_, rfl⟩
  obtain ⟨ad, cap, rfl, hcap⟩ := hv.len
  rw [hN]
  have hvt := Lib.hid hv.lt
  have hv' := Lib.hid hv
  rw [hN] at hbs
  have his := Lib.hid (wIs' _ base mb pb fb F M g hI)
  clear hv
  go_enter Try.func10, Try.ntmps10
  go_upto_region 0 with fail
  by_cases h8 : 8192 < a
  · have t1 : ((8192 : Int) < a) = True := by simp; exact h8
    replace h8 := Lib.hid h8
    replace hI := Lib.hid hI
    go_wp2_with (go_at_call 24; refine his.out.mono ?_; rintro e w2 ⟨rfl, rfl⟩)
    refine ⟨rfl, .tuple #[], by simp [results, Try.results10, go_sem], ?_⟩
    exact ⟨g, rfl, by rw [layN_high M a bs h8.out]; exact hI.out, Turn.refl _ _⟩
  have t1 : ((8192 : Int) < a) = False := by simp; omega
  have ha8 : a ≤ 8192 := by omega
  replace hI := Lib.hid hI
  go_upto_region 1 with (go_at_call 24; refine his.out.mono ?_; rintro e w2 ⟨rfl, rfl⟩)
  clear t1 his h8
  go_wp2
  go_loopw [18] (fun i wr => ∃ (j : Nat) (g' : Nat → Option Nat), j ≤ N ∧ i = .int .i64 (j : Int) ∧ MemI wr base mb pb fb F (layN M a bs j) g' ∧ Turn w wr (MemO mb pb fb g) (MemO mb pb fb g')) (fun i _ => (N - (intOf i).toNat))
  case atStart => exact ⟨0, g, by omega, rfl, hI.out, Turn.refl _ _⟩
  case round =>
    obtain ⟨j, g', hj, rfl, hI2, hT⟩ := hrel
    have hvO2 : ∀ k, (Value.slice ad bs.length cap).ownBlock = some k → ¬ MemO mb pb fb g' k := fun k hk hO => by
      rcases hT.new k hO with h | h
      · exact hvO k hk h
      · rcases hvt.out with e | ⟨x, e, _, hx⟩
        · rw [hk] at e; cases e
        · rw [hk] at e; cases e; omega
    have hvr : Bs wr B (.slice ad bs.length cap) bs := by
      rcases hv'.out with h | ⟨b, o, c, he, h2, h3, h4, h5, h6⟩
      · exact .inl h
      · have hne : ¬ MemO mb pb fb g b := hvO b (by rw [he]; rfl)
        have hb := hT.block b h3 hne
        refine .inr ⟨b, o, c, he, h2, Nat.lt_of_lt_of_le h3 hT.size, h4, fun i hi => ?_, fun i hi => ?_⟩
        · rw [← h5 i hi]; unfold World.cell?; simp only [hb]
        · rw [← (h6 i hi).2]; have := (h6 i hi).1
          refine ⟨?_, ?_⟩
          · rw [← this]; unfold World.cell?; simp only [hb]
          · unfold World.frozen?; simp only [hb]
    by_cases hjN : j < N
    · have w1' : IntKind.i64.wrap ((j : Int) + 1) = ((j + 1 : Nat) : Int) := by rw [IntKind.wrap_i64]; omega
      have t2 : ((j : Int) < (N : Int)) = True := by simp; omega
      obtain ⟨b, o, c, he⟩ := hvr.some_of (by intro e; rw [e] at hN; simp at hN; omega)
      have hjb : j < bs.length := by omega
      cases he
      obtain ⟨r1, r2⟩ := hvr.at j hjb
      obtain ⟨x, hx⟩ : ∃ x, bs[j] = x := ⟨_, rfl⟩
      rw [hx] at r1
      have hxD : bs.getD j 0 = x := by rw [List.getD_eq_getElem?_getD, List.getElem?_eq_getElem hjb, ← hx]; rfl
      clear hx
      by_cases hin : 0 ≤ a + j ∧ a + j < 8192
      · obtain ⟨kN, hkN⟩ : ∃ kN : Nat, (kN : Int) = a + j := ⟨(a + j).toNat, by omega⟩
        have w2 : IntKind.i64.wrap (a + (j : Int)) = (kN : Int) := by rw [IntKind.wrap_i64]; omega
        have t3 : ((kN : Int) < 8192) = True := by simp; omega
        have hk8 : kN < 8192 := by omega
        have hat := Lib.hid (wAt _ base mb pb fb F (layN M a bs j) g' hI2 (by have := hT.size; omega) kN hk8)
        have hstep : layN M a bs (j + 1) = (layN M a bs j).set kN x := by rw [layN, if_pos hin, ← hkN, Int.toNat_natCast, hxD]
        replace hstep := Lib.hid hstep
        have hI2' := Lib.hid hI2
        replace hT := Lib.hid hT
        have hjN' := Lib.hid hjN
        clear hI2 hin hkN hxD hvr hvO2
        go_upto_region 6 with fail
        go_upto_region 7 with (go_at_call 25; refine hat.out.mono ?_; rintro e w5 ⟨g2, h, rfl, hI3, hgh, hgu, hT3, hn3⟩; obtain ⟨p1, p2, p3, p4, p5, p6⟩ := hI3.pages (kN / 64) (by omega) h hgh; obtain ⟨q1, q2⟩ := held_cell p5 hI3.lenF hI3.lenM hk8; replace p5 := Lib.hid p5; have hI6 := Lib.hid (hI3.setByte hk8 hgh x); have hO6 : MemO mb pb fb g2 h := .inr (.inr (.inr ⟨kN / 64, by omega, hgh⟩)); have hT5 := Turn.of_grown (O := MemO mb pb fb g') (O' := MemO mb pb fb g2) hT3 (fun k e => .inl (.inr (.inl (Option.some.inj e).symm))) (fun k hk => MemO.mono hn3 hk); have hT6 := Lib.hid ((hT.out.trans hT5).set hO6 (o := 64 + kN % 64) (.int .u8 (x.toNat : Int))); replace hT3 := Lib.hid hT3; replace hI3 := Lib.hid hI3; replace hO6 := Lib.hid hO6; replace hT5 := Lib.hid hT5; clear p1 p2 p3 p4 p6 hgh hgu hn3)
        clear q1 q2 r1 r2
        go_wp2
        go_roundw
        case rel => exact ⟨j + 1, g2, by have := hjN'.out; omega, rfl, by rw [hstep.out]; exact hI6.out, hT6.out⟩
        case measure => have := hjN'.out; simp [intOf]; omega
      · obtain ⟨i, hi⟩ : ∃ i : Int, i = a + j := ⟨_, rfl⟩
        have w2 : IntKind.i64.wrap (a + (j : Int)) = i := by rw [IntKind.wrap_i64]; omega
        have hstep : layN M a bs (j + 1) = layN M a bs j := by rw [layN, if_neg hin]
        replace hstep := Lib.hid hstep
        replace hI2 := Lib.hid hI2
        replace hT := Lib.hid hT
        have hjN' := Lib.hid hjN
        by_cases h0 : 0 ≤ i
        · have t3 : ((0 : Int) ≤ i) = True := by simp; exact h0
          have t4 : (i < 8192) = False := by simp; omega
          clear hi hin h0 hxD hvr hvO2
          go_wp2
          go_roundw
          case rel => exact ⟨j + 1, g', by have := hjN'.out; omega, rfl, by rw [hstep.out]; exact hI2.out, hT.out⟩
          case measure => have := hjN'.out; simp [intOf]; omega
        · have t3 : ((0 : Int) ≤ i) = False := by simp; omega
          clear hi hin h0 hxD hvr hvO2
          go_wp2
          go_roundw
          case rel => exact ⟨j + 1, g', by have := hjN'.out; omega, rfl, by rw [hstep.out]; exact hI2.out, hT.out⟩
          case measure => have := hjN'.out; simp [intOf]; omega
    · have hjs : j = N := by omega
      subst hjs
      have t2 : ((j : Int) < (j : Int)) = False := by simp
      replace hI2 := Lib.hid hI2
      replace hT := Lib.hid hT
      clear hj hvr hvO2
      go_wp2
      (try go_end0)
      exact ⟨g', rfl, hI2.out, hT.out⟩
end Go.Proofs.Ytkcmphjgflbchaa

/- 'Flat', 'Get', 'Set', 'Bytes'; the memory as others see it. -/
namespace Go.Proofs.Ytkcmphjgflbchaa
open Go.RowKit
set_option linter.unusedVariables false
set_option linter.unusedSimpArgs false
attribute [local go_sem] cell_set set_set m_undef

theorem MemP.of {w : World} {base mb pb fb : Nat} {F M : List UInt8} {g : Nat → Option Nat} (h : MemI w base mb pb fb F M g) : MemP w base mb M (MemO mb pb fb g) := ⟨pb, fb, F, g, h, fun k => Iff.rfl⟩
theorem MemP.lt {w : World} {base mb : Nat} {M : List UInt8} {O : Nat → Prop} (h : MemP w base mb M O) {k : Nat} (hk : O k) : k < w.heap.size ∧ base ≤ k := by
  obtain ⟨pb, fb, F, g, hI, hO⟩ := h
  exact hI.lt ((hO k).1 hk)
theorem MemP.len {w : World} {base mb : Nat} {M : List UInt8} {O : Nat → Prop} (h : MemP w base mb M O) : M.length = 8192 := by
  obtain ⟨pb, fb, F, g, hI, hO⟩ := h
  exact hI.lenM
theorem MemP.kept {w w' : World} {base mb : Nat} {M : List UInt8} {O : Nat → Prop} {row : Option Nat} (h : MemP w base mb M O) (hg : w.grownBy w' row) (hrow : ∀ k, row = some k → ¬ O k) : MemP w' base mb M O := by
  obtain ⟨pb, fb, F, g, hI, hO⟩ := h
  exact ⟨pb, fb, F, g, hI.kept hg (fun k hk h => hrow k hk ((hO k).2 h)), hO⟩
theorem MemP.below {w w' : World} {base mb : Nat} {M : List UInt8} {O : Nat → Prop} (h : MemP w base mb M O) (hb : Below w.heap.size w w') : MemP w' base mb M O :=
  h.kept (row := none) ⟨hb.os, hb.tape, hb.output, hb.size, fun k hk _ => hb.block k hk⟩ (fun k e => by cases e)
theorem Turn.iff {w w' : World} {O1 O O' : Nat → Prop} (h : Turn w w' O1 O') (hO : ∀ k, O k ↔ O1 k) : Turn w w' O O' :=
  ⟨h.os, h.tape, h.output, h.size, fun k hk hn => h.block k hk (fun h2 => hn ((hO k).2 h2)), fun k hk => by
    rcases h.new k hk with h2 | h2
    · exact .inl ((hO k).2 h2)
    · exact .inr h2⟩
/-- Bytes elsewhere stand. -/
theorem Bs.turn {w w' : World} {B : Nat} {v : Value} {l : List UInt8} {O O' : Nat → Prop} (h : Bs w B v l) (hT : Turn w w' O O') (hO : ∀ k, v.ownBlock = some k → ¬ O k) : Bs w' B v l := by
  rcases h with h | ⟨b, o, c, he, h2, h3, h4, h5, h6⟩
  · exact .inl h
  · have hb := hT.block b h3 (hO b (by rw [he]; rfl))
    refine .inr ⟨b, o, c, he, h2, Nat.lt_of_lt_of_le h3 hT.size, h4, fun i hi => ?_, fun i hi => ?_⟩
    · rw [← h5 i hi]; unfold World.cell?; simp only [hb]
    · rw [← (h6 i hi).2]
      have := (h6 i hi).1
      refine ⟨?_, ?_⟩
      · rw [← this]; unfold World.cell?; simp only [hb]
      · unfold World.frozen?; simp only [hb]
theorem Blk.turn {w w' : World} {b : Nat} {c : Array Value} {t : TypeId} {O O' : Nat → Prop} (h : Blk w b c t) (hT : Turn w w' O O') (hO : ¬ O b) : Blk w' b c t := (hT.block b h.lt hO).trans h
theorem MemP.apart {w w2 : World} {base mb : Nat} {M L : List UInt8} {O : Nat → Prop} {v : Value} (h : MemP w base mb M O) (hv : Bs w2 w.heap.size v L) : ∀ k, v.ownBlock = some k → ¬ O k := fun k hk hO => by
  have h1 := (h.lt hO).1
  rcases hv.lt with e | ⟨x, e, hx1, hx2⟩
  · rw [hk] at e; cases e
  · rw [hk] at e; cases e; omega
/-- 'Load' -/
def LoadQ (w w' : World) (base mb : Nat) (M : List UInt8) (O : Nat → Prop) (L : List UInt8) (e : Ending) : Prop :=
  ∃ v' O', e = .returned v' ∧ Bs w' w.heap.size v' L ∧ MemP w' base mb M O' ∧ Turn w w' O O' ∧ ∀ k, v'.ownBlock = some k → ¬ O' k
theorem mLoad {w : World} {base mb : Nat} {M : List UInt8} {O : Nat → Prop} (h : MemP w base mb M O) (hbase : base ≤ w.heap.size) (a n : Int) (ha : isI a) :
    Calls Try.prog 41 #[.pointer (some ⟨mb, 0, none⟩), .int .i64 a, .int .i64 n] w fun e w' => LoadQ w w' base mb M O (loadL M a n) e := by
  obtain ⟨pb, fb, F, g, hI, hO⟩ := h
  refine (wLoad w base mb pb fb F M g hI hbase a n ha).mono ?_
  rintro e w' ⟨v', g', rfl, h1, h2, h3, h4, h5⟩
  exact ⟨v', _, rfl, h1, MemP.of h2, (Turn.of_grown h3 (fun k e => .inl (.inr (.inl (Option.some.inj e).symm))) (fun k hk => MemO.mono h4 hk)).iff hO, h5⟩
/-- What leaves a memory behind. -/
def MemQ (w w' : World) (base mb : Nat) (M' : List UInt8) (O : Nat → Prop) (v : Value) (e : Ending) : Prop := e = .returned v ∧ ∃ O', MemP w' base mb M' O' ∧ Turn w w' O O'
theorem mLay {w : World} {base mb : Nat} {M : List UInt8} {O : Nat → Prop} (h : MemP w base mb M O) (hbase : base ≤ w.heap.size) (a : Int) (ha : isI a) {B : Nat} {v : Value} {bs : List UInt8} (hv : Bs w B v bs) (hbs : bs.length ≤ 1000000) (hvO : ∀ k, v.ownBlock = some k → ¬ O k) :
    Calls Try.prog 10 #[.pointer (some ⟨mb, 0, none⟩), .int .i64 a, v] w fun e w' => MemQ w w' base mb (layL M a bs) O (.tuple #[]) e := by
  obtain ⟨pb, fb, F, g, hI, hO⟩ := h
  refine (wLay w base mb pb fb F M g hI hbase a ha B v bs hv hbs (fun k hk hn => hvO k hk ((hO k).2 hn))).mono ?_
  rintro e w' ⟨g', rfl, h2, h3⟩
  exact ⟨rfl, _, MemP.of h2, h3.iff hO⟩
/-- The cell at a place. -/
def getM (M : List UInt8) (a : Int) : Int := cellL (loadL M a 8) 0
def setM (M : List UInt8) (a n : Int) : List UInt8 := layL M a (putCellL (List.replicate 8 0) 0 n)
theorem loadL_len (M : List UInt8) (a n : Int) : (loadL M a n).length = (min (max n 0) 8192).toNat := by simp [loadL]
theorem loadL_get (M : List UInt8) (a n : Int) (i : Nat) (h : i < (loadL M a n).length) : (loadL M a n)[i] = memAt M (a + (i : Int)) := by
  simp [loadL]
set_option maxHeartbeats 1000000 in
theorem mGet {w : World} {base mb : Nat} {M : List UInt8} {O : Nat → Prop} (h : MemP w base mb M O) (hbase : base ≤ w.heap.size) (a : Int) (ha : isI a) :
    Calls Try.prog 19 #[.pointer (some ⟨mb, 0, none⟩), .int .i64 a] w fun e w' => MemQ w w' base mb M O (.int .i64 (getM M a)) e := by
  have hL := Lib.hid (mLoad h hbase a 8 ha)
  have hlen : (loadL M a 8).length = 8 := by rw [loadL_len]; rfl
  unfold getM
  generalize loadL M a 8 = L at *
  replace hlen := Lib.hid hlen
  go_enter Try.func19, Try.ntmps19
  go_wp2_with (first
    | (go_at_call 41; refine hL.out.mono ?_; rintro e w1 ⟨v1, O1, rfl, hv1, hM1, hT1, hn1⟩; have hC := Lib.hid (wCell w1 w.heap.size v1 L 0 hv1 (by unfold isI; omega) (by have := hlen.out; omega)); obtain ⟨ad, cap, rfl, hcap⟩ := hv1.len; replace hv1 := Lib.hid hv1; replace hM1 := Lib.hid hM1; replace hT1 := Lib.hid hT1; replace hn1 := Lib.hid hn1)
    | (go_at_call 45; refine hC.out.mono ?_; rintro e w2 ⟨rfl, hb2⟩))
  go_ret
  exact ⟨rfl, O1, hM1.out.below hb2, hT1.out.trans (Turn.of_below hb2 O1)⟩
set_option maxHeartbeats 1000000 in
theorem mSet {w : World} {base mb : Nat} {M : List UInt8} {O : Nat → Prop} (h : MemP w base mb M O) (hbase : base ≤ w.heap.size) (a n : Int) (ha : isI a) :
    Calls Try.prog 65 #[.pointer (some ⟨mb, 0, none⟩), .int .i64 a, .int .i64 n] w fun e w' => MemQ w w' base mb (setM M a n) O (.tuple #[]) e := by
  have hmk : (Instr.makeSlice 22 (.int .i64 8) (.int .i64 8)).run Try.prog w = .ok (.slice (some ⟨w.heap.size, 0, none⟩) 8 8) (w.alloc (.cells (cb (List.replicate 8 0)).toArray 5)) := run_made w 8 (by omega)
  have hB1 : Bs (w.alloc (.cells (cb (List.replicate 8 0)).toArray 5)) 0 (.slice (some ⟨w.heap.size, 0, none⟩) 8 8) (List.replicate 8 0) := Bs.of_blk (Blk.new w (cb (List.replicate 8 0)).toArray 5) (by simp)
  have hM0 := h.below (bel_alloc (Below.refl _ w) (.cells (cb (List.replicate 8 0)).toArray 5))
  have hT0 := Turn.of_below (bel_alloc (Below.refl _ w) (.cells (cb (List.replicate 8 0)).toArray 5)) O
  have hbase0 : base ≤ (w.alloc (.cells (cb (List.replicate 8 0)).toArray 5)).heap.size := by simp; omega
  have hPC := Lib.hid (wPutCell _ 0 _ _ 0 n hB1 (by unfold isI; omega) (by simp))
  unfold setM
  have hlen : (putCellL (List.replicate 8 0) 0 n).length = 8 := by unfold putCellL; rw [putL_len]; simp
  generalize putCellL (List.replicate 8 0) 0 n = L at *
  generalize w.alloc (.cells (cb (List.replicate 8 0)).toArray 5) = w1 at *
  clear hB1
  replace hlen := Lib.hid hlen
  replace hM0 := Lib.hid hM0
  replace hT0 := Lib.hid hT0
  go_enter Try.func65, Try.ntmps65
  go_wp2_with (first
    | (go_at_call 85; refine hPC.out.mono ?_; rintro e w2 ⟨v2, rfl, hv2, hb2⟩; have hLay := Lib.hid (mLay (hM0.out.below hb2) (Nat.le_trans hbase0 hb2.size) a ha hv2 (by have := hlen.out; omega) (hM0.out.apart hv2)); obtain ⟨ad, cap, rfl, hcap⟩ := hv2.len; have hT2 := Lib.hid (Turn.of_below hb2 O); replace hv2 := Lib.hid hv2; replace hb2 := Lib.hid hb2)
    | (go_at_call 10; refine hLay.out.mono ?_; rintro e w3 ⟨rfl, O3, hM3, hT3⟩; replace hM3 := Lib.hid hM3; replace hT3 := Lib.hid hT3))
  (try go_end0)
  exact ⟨rfl, O3, hM3.out, (hT0.out.trans hT2.out).trans hT3.out⟩
theorem mBytes {w : World} {base mb : Nat} {M : List UInt8} {O : Nat → Prop} (h : MemP w base mb M O) (hbase : base ≤ w.heap.size) :
    Calls Try.prog 16 #[.pointer (some ⟨mb, 0, none⟩)] w fun e w' => LoadQ w w' base mb M O M e := by
  have hL := Lib.hid (mLoad h hbase 0 8192 (by unfold isI; omega))
  have hlen := h.len
  have he : loadL M 0 8192 = M := by
    apply List.ext_getElem
    · rw [loadL_len, hlen]; rfl
    · intro i h1 h2
      rw [loadL_get]
      unfold memAt
      rw [Int.zero_add, if_pos (by omega), Int.toNat_natCast, List.getD_eq_getElem?_getD, List.getElem?_eq_getElem h2]
      rfl
  rw [he] at hL
  clear he hlen
  go_enter Try.func16, Try.ntmps16
  go_wp2_with (go_at_call 41; refine hL.out.mono ?_; rintro e w1 ⟨v1, O1, rfl, hv1, hM1, hT1, hn1⟩; obtain ⟨ad, cap, rfl, hcap⟩ := hv1.len; replace hv1 := Lib.hid hv1; replace hM1 := Lib.hid hM1; replace hT1 := Lib.hid hT1; replace hn1 := Lib.hid hn1)
  go_ret
  exact ⟨_, O1, rfl, hv1.out, hM1.out, hT1.out, hn1.out⟩
end Go.Proofs.Ytkcmphjgflbchaa

/- 'Flat'. -/
namespace Go.Proofs.Ytkcmphjgflbchaa
open Go.RowKit
set_option linter.unusedVariables false
set_option linter.unusedSimpArgs false
attribute [local go_sem] cell_set set_set m_undef

/-- The memory that 'Flat' makes of these bytes. -/
def flatL (l : List UInt8) : List UInt8 := l.take 8192 ++ (List.replicate 8192 0).drop (min l.length 8192)
theorem flatL_len (l : List UInt8) : (flatL l).length = 8192 := by
  unfold flatL
  rw [List.length_append, List.length_take, List.length_drop, List.length_replicate]; omega
theorem Bs.rebase {w : World} {B B' : Nat} {v : Value} {l : List UInt8} (h : Bs w B v l) (hb : ∀ k, v.ownBlock = some k → B' ≤ k) : Bs w B' v l := by
  rcases h with h | ⟨b, o, cap, he, h2, h3⟩
  · exact .inl h
  · exact .inr ⟨b, o, cap, he, hb b (by rw [he]; rfl), h3⟩
/-- What 'Flat' gives. -/
def FlatQ (w w' : World) (l : List UInt8) (e : Ending) : Prop := ∃ mb O, e = .returned (.pointer (some ⟨mb, 0, none⟩)) ∧ MemP w' w.heap.size mb (flatL l) O ∧ Below w.heap.size w w'
set_option maxHeartbeats 1000000 in
theorem wFlat (w : World) (B : Nat) (v : Value) (l : List UInt8) (h : Bs w B v l) : Calls Try.prog 7 #[v] w fun e w' => FlatQ w w' l e := by
  obtain ⟨ad, cap, rfl, hcap⟩ := h.len
  have hmk : (Instr.makeSlice 22 (.int .i64 8192) (.int .i64 8192)).run Try.prog w = .ok (.slice (some ⟨w.heap.size, 0, none⟩) 8192 8192) (w.alloc (.cells (cb (List.replicate 8192 0)).toArray 5)) := run_made w 8192 (by omega)
  have hF0 : Blk (w.alloc (.cells (cb (List.replicate 8192 0)).toArray 5)) w.heap.size (cb (List.replicate 8192 0)).toArray 5 := Blk.new _ _ _
  have hv1 := h.alloc (.cells (cb (List.replicate 8192 0)).toArray 5)
  have hb1 : Below w.heap.size w (w.alloc (.cells (cb (List.replicate 8192 0)).toArray 5)) := bel_alloc (Below.refl _ w) _
  have hs1 : (w.alloc (.cells (cb (List.replicate 8192 0)).toArray 5)).heap.size = w.heap.size + 1 := World.size_alloc _ _
  generalize w.alloc (.cells (cb (List.replicate 8192 0)).toArray 5) = w1 at *
  obtain ⟨w2, hr, hF2, hg2⟩ := Bs.copy (P := Try.prog) (dT := 22) (sT := 22) (ty := 3) (e := 5) hF0 8192 8192 (by rw [List.length_replicate]; exact Nat.le_refl _) hv1 Try.underlying22 (by kernel_rfl)
  obtain ⟨m, hm⟩ : ∃ m : Int, ((min l.length 8192 : Nat) : Int) = m := ⟨_, rfl⟩
  rw [hm] at hr
  have hFl : flatL l = l.take 8192 ++ (List.replicate 8192 0).drop (min l.length 8192) := rfl
  rw [← hFl] at hF2
  have hlen := flatL_len l
  have hb2 : Below w.heap.size w w2 := hb1.grown hg2 (by omega) (fun k e => by have := Option.some.inj e; omega)
  have hs2 := hg2.size
  unfold FlatQ
  generalize flatL l = L at *
  clear hm hFl hF0 hv1 hb1
  replace hF2 := Lib.hid hF2
  replace hlen := Lib.hid hlen
  replace hb2 := Lib.hid hb2
  replace h := Lib.hid h
  clear hg2
  have hmm : (Instr.makeMap 47 none).run Try.prog w2 = .ok (.map (some w2.heap.size)) (w2.alloc (.map #[] 0)) := by kernel_rfl
  go_enter Try.func7, Try.ntmps7
  go_wp2
  go_ret
  refine ⟨w2.heap.size + 1, _, rfl, MemP.of (pb := w2.heap.size) (fb := w.heap.size) (F := L) (g := fun _ => none) ⟨hlen.out, hlen.out, Blk.new' (by simp), (hF2.out.alloc _).alloc _, ⟨_, by
    have e : cnt (fun _ => none) = 0 := by simp [cnt]
    rw [e]
    exact (World.ownsMap_made w2 Try.prog 3 ptrR).alloc _, PG.empty⟩, ⟨by omega, by omega, Nat.le_refl _⟩, ⟨by omega, by omega, by omega⟩, fun k hk b hb => (by cases hb), fun k hk _ => rfl⟩, bel_alloc (bel_alloc hb2.out _) _⟩
end Go.Proofs.Ytkcmphjgflbchaa

/- The memory's bytes, in plain terms. -/
namespace Go.Proofs.Ytkcmphjgflbchaa
open Go.RowKit
set_option linter.unusedVariables false
set_option linter.unusedSimpArgs false

theorem memAt_set {M : List UInt8} (hM : M.length = 8192) (k : Nat) (hk : k < 8192) (x : UInt8) (z : Int) : memAt (M.set k x) z = if z = (k : Int) then x else memAt M z := by
  unfold memAt
  by_cases hz : 0 ≤ z ∧ z < 8192
  · rw [if_pos hz, if_pos hz, List.getD_eq_getElem?_getD, List.getD_eq_getElem?_getD, List.getElem?_set]
    by_cases e : z = (k : Int)
    · rw [if_pos e, if_pos (by omega), if_pos (by omega)]; rfl
    · rw [if_neg e, if_neg (by omega)]
  · rw [if_neg hz, if_neg hz, if_neg (by omega)]
theorem memAt_out (M : List UInt8) (z : Int) (h : ¬ (0 ≤ z ∧ z < 8192)) : memAt M z = 0 := if_neg h
theorem memAt_layN {M : List UInt8} (hM : M.length = 8192) (a : Int) (bs : List UInt8) (z : Int) : ∀ j : Nat, memAt (layN M a bs j) z = if a ≤ z ∧ z < a + j ∧ 0 ≤ z ∧ z < 8192 then bs.getD (z - a).toNat 0 else memAt M z := by
  intro j
  induction j with
  | zero => rw [if_neg (by omega)]; rfl
  | succ j ih =>
    rw [layN]
    by_cases h : 0 ≤ a + j ∧ a + j < 8192
    · rw [if_pos h, memAt_set (by rw [layN_len]; exact hM) _ (by omega), ih]
      by_cases e : z = a + j
      · rw [if_pos (by omega), if_pos (by omega), e]
        congr 1
        omega
      · rw [if_neg (by omega)]
        by_cases h2 : a ≤ z ∧ z < a + j ∧ 0 ≤ z ∧ z < 8192
        · rw [if_pos h2, if_pos (by omega)]
        · rw [if_neg h2, if_neg (by omega)]
    · rw [if_neg h, ih]
      by_cases h2 : a ≤ z ∧ z < a + j ∧ 0 ≤ z ∧ z < 8192
      · rw [if_pos h2, if_pos (by omega)]
      · rw [if_neg h2, if_neg (by omega)]
theorem memAt_layL {M : List UInt8} (hM : M.length = 8192) (a : Int) (bs : List UInt8) (z : Int) : memAt (layL M a bs) z = if a ≤ z ∧ z < a + bs.length ∧ 0 ≤ z ∧ z < 8192 then bs.getD (z - a).toNat 0 else memAt M z := memAt_layN hM a bs z _
theorem layL_len (M : List UInt8) (a : Int) (bs : List UInt8) : (layL M a bs).length = M.length := layN_len M a bs _
theorem setM_len (M : List UInt8) (a n : Int) : (setM M a n).length = M.length := layL_len M a _
/-- Two memories that agree at each place are one. -/
theorem mem_ext {M N : List UInt8} (hM : M.length = 8192) (hN : N.length = 8192) (h : ∀ z, memAt M z = memAt N z) : M = N := by
  apply List.ext_getElem (by omega)
  intro i h1 h2
  have h3 := h (i : Int)
  unfold memAt at h3
  rw [if_pos (by omega), if_pos (by omega), Int.toNat_natCast, List.getD_eq_getElem?_getD, List.getD_eq_getElem?_getD, List.getElem?_eq_getElem h1, List.getElem?_eq_getElem h2] at h3
  exact h3
theorem loadL_congr {M N : List UInt8} {a b n : Int} (h : ∀ i : Nat, (i : Int) < n → memAt M (a + i) = memAt N (b + i)) : loadL M a n = loadL N b n := by
  unfold loadL
  apply List.map_congr_left
  intro i hi
  rw [List.mem_range] at hi
  exact h i (by omega)
theorem getM_congr {M N : List UInt8} {a b : Int} (h : ∀ i : Nat, i < 8 → memAt M (a + i) = memAt N (b + i)) : getM M a = getM N b := by
  unfold getM
  rw [loadL_congr (fun i hi => h i (by omega))]
theorem leN_congr {l m : List UInt8} {a b : Int} : ∀ k : Nat, (∀ i : Nat, i < k → byteZ l (a + i) = byteZ m (b + i)) → leN l a k = leN m b k := by
  intro k
  induction k with
  | zero => intro _; rfl
  | succ k ih => intro h; rw [leN, leN, ih (fun i hi => h i (by omega)), h k (by omega)]
theorem byteZ_mem {M : List UInt8} (hM : M.length = 8192) (z : Int) : byteZ M z = (memAt M z).toNat := by
  unfold byteZ memAt
  rw [hM]
  split
  · rw [if_pos (by assumption)]
  · rw [if_neg (by assumption)]; rfl
theorem loadL_getD (M : List UInt8) (a n : Int) (i : Nat) (h : (i : Int) < n) (h2 : n ≤ 8192) : (loadL M a n).getD i 0 = memAt M (a + i) := by
  have hl : i < (loadL M a n).length := by rw [loadL_len]; omega
  rw [List.getD_eq_getElem?_getD, List.getElem?_eq_getElem hl]
  simp only [Option.getD_some]
  rw [loadL_get]
theorem byteZ_load (M : List UInt8) (a n : Int) (z : Int) (h0 : 0 ≤ z) (h1 : z < n) (h2 : n ≤ 8192) : byteZ (loadL M a n) z = (memAt M (a + z)).toNat := by
  have hl := loadL_len M a n
  unfold byteZ
  rw [if_pos (by omega), List.getD_eq_getElem?_getD, List.getElem?_eq_getElem (by omega)]
  simp only [Option.getD_some]
  rw [loadL_get, show ((z.toNat : Nat) : Int) = z by omega]
/-- The reference's cell is the memory's. -/
theorem cellL_mem {M : List UInt8} (hM : M.length = 8192) (a : Int) : cellL M a = getM M a := by
  unfold getM cellL
  rw [leN_congr (l := M) (a := a) (m := loadL M a 8) (b := 0) 8]
  intro i hi
  rw [byteZ_mem hM, byteZ_load _ _ _ _ (by omega) (by omega) (by omega), Int.zero_add]
theorem getD_set8 (l : List UInt8) (k j : Nat) (x : UInt8) (hk : k < l.length) : (l.set k x).getD j 0 = if j = k then x else l.getD j 0 := by
  rw [List.getD_eq_getElem?_getD, List.getD_eq_getElem?_getD, List.getElem?_set]
  by_cases e : j = k
  · rw [if_pos e.symm, if_pos hk, if_pos e]; rfl
  · rw [if_neg (fun h => e h.symm), if_neg e]
theorem putL_getD (l : List UInt8) (a : Int) (v : Nat) (j : Nat) : ∀ k : Nat, (putL l a v k).getD j 0 = if a ≤ j ∧ (j : Int) < a + k ∧ j < l.length then UInt8.ofNat (v / 2 ^ (8 * ((j : Int) - a).toNat)) else l.getD j 0 := by
  intro k
  induction k with
  | zero => rw [if_neg (by omega)]; rfl
  | succ k ih =>
    rw [putL]
    by_cases h : 0 ≤ a + k ∧ a + k < l.length
    · rw [if_pos h, getD_set8 _ _ _ _ (by rw [putL_len]; omega), ih]
      by_cases e : j = (a + k).toNat
      · rw [if_pos e, if_pos (by omega), show ((j : Int) - a).toNat = k by omega]
      · rw [if_neg e]
        by_cases h2 : a ≤ j ∧ (j : Int) < a + k ∧ j < l.length
        · rw [if_pos h2, if_pos (by omega)]
        · rw [if_neg h2, if_neg (by omega)]
    · rw [if_neg h, ih]
      by_cases h2 : a ≤ j ∧ (j : Int) < a + k ∧ j < l.length
      · rw [if_pos h2, if_pos (by omega)]
      · rw [if_neg h2, if_neg (by omega)]
theorem memAt_putCell {M : List UInt8} (hM : M.length = 8192) (a n : Int) (z : Int) : memAt (putCellL M a n) z = if a ≤ z ∧ z < a + 8 ∧ 0 ≤ z ∧ z < 8192 then UInt8.ofNat ((IntKind.u64.wrap n).toNat / 2 ^ (8 * (z - a).toNat)) else memAt M z := by
  unfold memAt putCellL
  by_cases hz : 0 ≤ z ∧ z < 8192
  · rw [if_pos hz, putL_getD, if_pos hz, hM]
    by_cases h2 : a ≤ z ∧ z < a + 8 ∧ 0 ≤ z ∧ z < 8192
    · rw [if_pos h2, if_pos (by omega), show (((z.toNat : Nat) : Int) - a).toNat = (z - a).toNat by omega]
    · rw [if_neg h2, if_neg (by omega)]
  · rw [if_neg hz, if_neg (by omega), if_neg hz]
theorem cellBytes_getD (n : Int) (j : Nat) (hj : j < 8) : (putCellL (List.replicate 8 0) 0 n).getD j 0 = UInt8.ofNat ((IntKind.u64.wrap n).toNat / 2 ^ (8 * j)) := by
  unfold putCellL
  rw [putL_getD, if_pos ⟨by omega, by omega, by rw [List.length_replicate]; exact hj⟩, show ((j : Int) - 0).toNat = j by omega]
theorem cellBytes_len (n : Int) : (putCellL (List.replicate 8 0) 0 n).length = 8 := by unfold putCellL; rw [putL_len]; simp
/-- The reference's 'Set' is the memory's. -/
theorem putCell_mem {M : List UInt8} (hM : M.length = 8192) (a n : Int) : putCellL M a n = setM M a n := by
  apply mem_ext (by unfold putCellL; rw [putL_len]; exact hM) (by rw [setM_len]; exact hM)
  intro z
  unfold setM
  rw [memAt_putCell hM, memAt_layL hM, cellBytes_len]
  by_cases h2 : a ≤ z ∧ z < a + 8 ∧ 0 ≤ z ∧ z < 8192
  · rw [if_pos h2, if_pos (by omega), cellBytes_getD _ _ (by omega)]
  · rw [if_neg h2, if_neg (by omega)]
theorem memAt_setM {M : List UInt8} (hM : M.length = 8192) (a n : Int) (z : Int) : memAt (setM M a n) z = if a ≤ z ∧ z < a + 8 ∧ 0 ≤ z ∧ z < 8192 then UInt8.ofNat ((IntKind.u64.wrap n).toNat / 2 ^ (8 * (z - a).toNat)) else memAt M z := by
  rw [← putCell_mem hM, memAt_putCell hM]
theorem leN_val (l : List UInt8) (a : Int) (v : Nat) : ∀ k : Nat, (∀ i : Nat, i < k → byteZ l (a + i) = v / 2 ^ (8 * i) % 256) → leN l a k = v % 2 ^ (8 * k) := by
  intro k
  induction k with
  | zero => intro _; simp [leN, Nat.mod_one]
  | succ k ih =>
    intro h
    rw [leN, ih (fun i hi => h i (by omega)), h k (by omega), show 8 * (k + 1) = 8 * k + 8 by omega, Nat.pow_add, Nat.mod_mul]
    generalize 2 ^ (8 * k) = p
    rw [Nat.mul_comm p]
/-- A cell that is laid is the number. -/
theorem cellL_val (l : List UInt8) (a n : Int) (hn : isI n) (h : ∀ i : Nat, i < 8 → byteZ l (a + i) = (IntKind.u64.wrap n).toNat / 2 ^ (8 * i) % 256) : cellL l a = n := by
  unfold cellL
  rw [leN_val l a _ 8 h]
  unfold isI at hn
  have h1 := IntKind.wrap_u64 n
  have h2 := IntKind.wrap_i64 (((IntKind.u64.wrap n).toNat % 2 ^ (8 * 8) : Nat) : Int)
  omega
theorem getM_setM {M : List UInt8} (hM : M.length = 8192) (a n : Int) (hn : isI n) (ha : 0 ≤ a ∧ a ≤ 8184) : getM (setM M a n) a = n := by
  rw [← cellL_mem (by rw [setM_len]; exact hM)]
  apply cellL_val _ _ _ hn
  intro i hi
  rw [byteZ_mem (by rw [setM_len]; exact hM), memAt_setM hM, if_pos (by omega), UInt8.toNat_ofNat', show (a + (i : Int) - a).toNat = i by omega]
theorem getM_other {M : List UInt8} (hM : M.length = 8192) (a b n : Int) (h : b + 8 ≤ a ∨ a + 8 ≤ b) : getM (setM M a n) b = getM M b := by
  apply getM_congr
  intro i hi
  rw [memAt_setM hM, if_neg (by omega)]
theorem loadL_other {M : List UInt8} (hM : M.length = 8192) (a b n k : Int) (h : b + k ≤ a ∨ a + 8 ≤ b) : loadL (setM M a n) b k = loadL M b k := by
  apply loadL_congr
  intro i hi
  rw [memAt_setM hM, if_neg (by omega)]
theorem getM_lay {M : List UInt8} (hM : M.length = 8192) (a b : Int) (bs : List UInt8) (h : b + 8 ≤ a ∨ a + bs.length ≤ b) : getM (layL M a bs) b = getM M b := by
  apply getM_congr
  intro i hi
  rw [memAt_layL hM, if_neg (by omega)]
end Go.Proofs.Ytkcmphjgflbchaa

/- A slice of bytes that is only read; 'Flat' of it. -/
namespace Go.Proofs.Ytkcmphjgflbchaa
open Go.RowKit
set_option linter.unusedVariables false
set_option linter.unusedSimpArgs false
attribute [local go_sem] cell_set set_set m_undef

/-- The slice value v reads as the bytes l. -/
def Rb (w : World) (v : Value) (l : List UInt8) : Prop :=
  (v = .slice none 0 0 ∧ l = []) ∨ ∃ a cap, v = .slice (some a) l.length cap ∧ ∀ j (hj : j < l.length), w.cell? (a.add j) = some (.int .u8 (l[j].toNat : Int))
theorem Rb.form {w : World} {v : Value} {l : List UInt8} (h : Rb w v l) : ∃ a cap, v = .slice a l.length cap := by
  rcases h with ⟨rfl, rfl⟩ | ⟨a, cap, h1, _⟩
  · exact ⟨_, _, rfl⟩
  · exact ⟨_, _, h1⟩
theorem Bs.rb {w : World} {B : Nat} {v : Value} {l : List UInt8} (h : Bs w B v l) : Rb w v l := by
  rcases h with h | ⟨b, o, cap, rfl, h2, h3, h4, h5, h6⟩
  · exact .inl h
  · exact .inr ⟨⟨b, o, none⟩, cap, rfl, fun j hj => by rw [Addr.add_lit]; exact h5 j hj⟩
theorem Rb.below {w w' : World} {v : Value} {l : List UInt8} (h : Rb w v l) (hb : Below w.heap.size w w') : Rb w' v l := by
  rcases h with h | ⟨a, cap, h1, h2⟩
  · exact .inl h
  · exact .inr ⟨a, cap, h1, fun j hj => (hb.cell (World.block_lt_of_cell? _ _ (h2 j hj))).trans (h2 j hj)⟩
theorem Rb.alloc {w : World} {v : Value} {l : List UInt8} (h : Rb w v l) (o : Obj) : Rb (w.alloc o) v l := h.below (bel_alloc (Below.refl _ _) _)
theorem Rb.copy {P : Program} {w : World} {g : Nat} {cur l : List UInt8} {t dT sT ty e : TypeId} {v : Value} (hg : Blk w g (cb cur).toArray t) (dLen dCap : Nat) (hd : dLen ≤ cur.length) (hv : Rb w v l)
    (hu : P.underlying dT = some (.slice e)) (hs : (P.info? e).map (·.size) = some 1) :
    ∃ w', (Builtin.copy_ #[dT, sT] ty #[.slice (some ⟨g, 0, none⟩) dLen dCap, v]).run P w = .ok (.int .i64 ((min l.length dLen : Nat) : Int)) w' ∧ Blk w' g (cb (l.take dLen ++ cur.drop (min l.length dLen))).toArray t ∧ w.grownBy w' (some g) := by
  rcases hv with ⟨rfl, rfl⟩ | ⟨a, cap, rfl, h5⟩
  · refine ⟨w, ?_, by simpa using hg, ⟨rfl, rfl, rfl, Nat.le_refl _, fun _ _ _ => rfl⟩⟩
    have := run_copy_nil (P := P) w dT sT ty e ⟨g, 0, none⟩ dLen dCap hu (by
      cases h : P.info? e with
      | none => simp [h] at hs
      | some i => rfl)
    simpa [goInt] using this
  · have hlen : (cb (l.take dLen)).length = Nat.min l.length dLen := by rw [cb_len, List.length_take, Nat.min_comm]
    have hrun := run_copy_row (P := P) w dT sT ty e g 0 dLen dCap a l.length cap (cb cur).toArray t (cb (l.take dLen)) hu hs hg hlen (fun j u hu => by
      unfold cb at hu
      rw [List.getElem?_map, Option.map_eq_some_iff] at hu
      obtain ⟨c, hc, rfl⟩ := hu
      obtain ⟨hj, hc⟩ := List.getElem?_eq_some_iff.1 hc
      rw [List.length_take] at hj
      rw [List.getElem_take] at hc
      rw [h5 j (by omega), hc]) (by rw [hlen, Nat.zero_add]; simp only [List.size_toArray, cb_len]; exact Nat.le_trans (Nat.min_le_right _ _) hd) (cb_one _)
    have e0 : goInt (cb (l.take dLen)).length = .int .i64 ((min l.length dLen : Nat) : Int) := by rw [hlen]; rfl
    refine ⟨_, by rw [hrun, e0], ?_, ?_⟩
    · have := setRow_heap w g (cb cur).toArray ((cb cur).toArray.toList.take 0 ++ cb (l.take dLen) ++ (cb cur).toArray.toList.drop (0 + (cb (l.take dLen)).length)).toArray t _ hg
      refine Eq.trans this ?_
      have e2 : (cb cur).toArray.toList.take 0 ++ cb (l.take dLen) ++ (cb cur).toArray.toList.drop (0 + (cb (l.take dLen)).length) = cb (l.take dLen ++ cur.drop (min l.length dLen)) := by
        rw [hlen, Nat.zero_add]
        show [] ++ cb (l.take dLen) ++ (cb cur).drop (min l.length dLen) = _
        simp [cb, List.map_drop]
      rw [e2]
    · exact ⟨rfl, rfl, rfl, by simp [World.setRow], fun k hk hne => setRow_other w g k _ (fun e => hne (by rw [e]))⟩
set_option maxHeartbeats 1000000 in
theorem wFlatR (w : World) (v : Value) (l : List UInt8) (h : Rb w v l) : Calls Try.prog 7 #[v] w fun e w' => FlatQ w w' l e := by
  obtain ⟨ad, cap, rfl⟩ := h.form
  have hmk : (Instr.makeSlice 22 (.int .i64 8192) (.int .i64 8192)).run Try.prog w = .ok (.slice (some ⟨w.heap.size, 0, none⟩) 8192 8192) (w.alloc (.cells (cb (List.replicate 8192 0)).toArray 5)) := run_made w 8192 (by omega)
  have hF0 : Blk (w.alloc (.cells (cb (List.replicate 8192 0)).toArray 5)) w.heap.size (cb (List.replicate 8192 0)).toArray 5 := Blk.new _ _ _
  have hv1 := h.alloc (.cells (cb (List.replicate 8192 0)).toArray 5)
  have hb1 : Below w.heap.size w (w.alloc (.cells (cb (List.replicate 8192 0)).toArray 5)) := bel_alloc (Below.refl _ w) _
  have hs1 : (w.alloc (.cells (cb (List.replicate 8192 0)).toArray 5)).heap.size = w.heap.size + 1 := World.size_alloc _ _
  generalize w.alloc (.cells (cb (List.replicate 8192 0)).toArray 5) = w1 at *
  obtain ⟨w2, hr, hF2, hg2⟩ := Rb.copy (P := Try.prog) (dT := 22) (sT := 22) (ty := 3) (e := 5) hF0 8192 8192 (by rw [List.length_replicate]; exact Nat.le_refl _) hv1 Try.underlying22 (by kernel_rfl)
  obtain ⟨m, hm⟩ : ∃ m : Int, ((min l.length 8192 : Nat) : Int) = m := ⟨_, rfl⟩
  rw [hm] at hr
  have hFl : flatL l = l.take 8192 ++ (List.replicate 8192 0).drop (min l.length 8192) := rfl
  rw [← hFl] at hF2
  have hlen := flatL_len l
  have hb2 : Below w.heap.size w w2 := hb1.grown hg2 (by omega) (fun k e => by have := Option.some.inj e; omega)
  have hs2 := hg2.size
  unfold FlatQ
  generalize flatL l = L at *
  clear hm hFl hF0 hv1 hb1
  replace hF2 := Lib.hid hF2
  replace hlen := Lib.hid hlen
  replace hb2 := Lib.hid hb2
  replace h := Lib.hid h
  clear hg2
  have hmm : (Instr.makeMap 47 none).run Try.prog w2 = .ok (.map (some w2.heap.size)) (w2.alloc (.map #[] 0)) := by kernel_rfl
  go_enter Try.func7, Try.ntmps7
  go_wp2
  go_ret
  refine ⟨w2.heap.size + 1, _, rfl, MemP.of (pb := w2.heap.size) (fb := w.heap.size) (F := L) (g := fun _ => none) ⟨hlen.out, hlen.out, Blk.new' (by simp), (hF2.out.alloc _).alloc _, ⟨_, by
    have e : cnt (fun _ => none) = 0 := by simp [cnt]
    rw [e]
    exact (World.ownsMap_made w2 Try.prog 3 ptrR).alloc _, PG.empty⟩, ⟨by omega, by omega, Nat.le_refl _⟩, ⟨by omega, by omega, by omega⟩, fun k hk b hb => (by cases hb), fun k hk _ => rfl⟩, bel_alloc (bel_alloc hb2.out _) _⟩
end Go.Proofs.Ytkcmphjgflbchaa

/- The reference's memory: 'Flat', 'Get', 'Set'. -/
namespace Go.Proofs.Ytkcmphjgflbchaa
open Go.RowKit
set_option linter.unusedVariables false
set_option linter.unusedSimpArgs false
attribute [local go_sem] cell_set set_set m_undef

/-- A reference's memory. -/
def RefI (w : World) (base rb vb ob : Nat) (M : List UInt8) : Prop :=
  M.length = 8192 ∧ base ≤ rb ∧ vb ≠ rb ∧ ∃ cap ws nn, Blk w rb #[.slice (some ⟨vb, ob, none⟩) 8192 cap, ws, .bool nn] 38 ∧ Bs w base (.slice (some ⟨vb, ob, none⟩) 8192 cap) M
def RefP (w : World) (base rb : Nat) (M : List UInt8) (R : Nat → Prop) : Prop := ∃ vb ob, RefI w base rb vb ob M ∧ ∀ k, R k ↔ (k = rb ∨ k = vb)
theorem Bs.lt2 {w : World} {B b o n cap : Nat} {l : List UInt8} (h : Bs w B (.slice (some ⟨b, o, none⟩) n cap) l) : B ≤ b ∧ b < w.heap.size := by
  rcases h.lt with e | ⟨k, e, h1, h2⟩
  · cases e
  · have e' : b = k := Option.some.inj e
    exact ⟨by omega, by omega⟩
theorem Bs.len2 {w : World} {B b o n cap : Nat} {l : List UInt8} (h : Bs w B (.slice (some ⟨b, o, none⟩) n cap) l) : l.length = n ∧ n ≤ cap := by
  obtain ⟨a, c, e, h2⟩ := h.len
  cases e
  exact ⟨rfl, h2⟩
theorem RefP.len {w : World} {base rb : Nat} {M : List UInt8} {R : Nat → Prop} (h : RefP w base rb M R) : M.length = 8192 := by
  obtain ⟨vb, ob, hI, _⟩ := h
  exact hI.1
theorem RefP.lt {w : World} {base rb : Nat} {M : List UInt8} {R : Nat → Prop} (h : RefP w base rb M R) {k : Nat} (hk : R k) : k < w.heap.size ∧ base ≤ k := by
  obtain ⟨vb, ob, ⟨h1, h2, h3, cap, ws, nn, hB, hv⟩, hR⟩ := h
  rcases (hR k).1 hk with rfl | rfl
  · exact ⟨hB.lt, h2⟩
  · exact ⟨hv.lt2.2, hv.lt2.1⟩
theorem RefP.kept {w w' : World} {base rb : Nat} {M : List UInt8} {R : Nat → Prop} {row : Option Nat} (h : RefP w base rb M R) (hg : w.grownBy w' row) (hrow : ∀ k, row = some k → ¬ R k) : RefP w' base rb M R := by
  obtain ⟨vb, ob, ⟨h1, h2, h3, cap, ws, nn, hB, hv⟩, hR⟩ := h
  refine ⟨vb, ob, ⟨h1, h2, h3, cap, ws, nn, hB.kept hg (fun e => hrow rb e.symm ((hR _).2 (.inl rfl))), hv.kept hg (.inr (fun e => hrow vb e.symm ((hR _).2 (.inr rfl))))⟩, hR⟩
theorem RefP.below {w w' : World} {base rb : Nat} {M : List UInt8} {R : Nat → Prop} (h : RefP w base rb M R) (hb : Below w.heap.size w w') : RefP w' base rb M R :=
  h.kept (row := none) ⟨hb.os, hb.tape, hb.output, hb.size, fun k hk _ => hb.block k hk⟩ (fun k e => by cases e)
/-- It stands while another memory turns. -/
theorem RefP.turn {w w' : World} {base rb : Nat} {M : List UInt8} {R O O' : Nat → Prop} (h : RefP w base rb M R) (hT : Turn w w' O O') (hd : ∀ k, R k → ¬ O k) : RefP w' base rb M R := by
  obtain ⟨vb, ob, ⟨h1, h2, h3, cap, ws, nn, hB, hv⟩, hR⟩ := h
  exact ⟨vb, ob, ⟨h1, h2, h3, cap, ws, nn, hB.turn hT (hd _ ((hR _).2 (.inl rfl))), hv.turn hT (fun k hk => hd _ ((hR k).2 (.inr (Option.some.inj hk).symm)))⟩, hR⟩
theorem MemI.turn {w w' : World} {base mb pb fb : Nat} {F M : List UInt8} {g : Nat → Option Nat} {R R' : Nat → Prop} (h : MemI w base mb pb fb F M g) (hT : Turn w w' R R') (hd : ∀ k, MemO mb pb fb g k → ¬ R k) : MemI w' base mb pb fb F M g := by
  obtain ⟨D, hD, hPG⟩ := h.map
  have hb : ∀ k, MemO mb pb fb g k → w'.heap[k]? = w.heap[k]? := fun k hk => hT.block k (h.lt hk).1 (hd k hk)
  refine ⟨h.lenM, h.lenF, h.own.turn hT (hd _ (.inl rfl)), h.first.turn hT (hd _ (.inr (.inr (.inl rfl)))), ⟨D, ?_, hPG⟩, h.low, h.ne, fun q hq b hgb => ?_, h.rest⟩
  · obtain ⟨Es, e0, e1, e2⟩ := hD
    exact ⟨Es, e0, (hb pb (.inr (.inl rfl))).trans e1, e2⟩
  · obtain ⟨r1, r2, r3, r4, r5, r6⟩ := h.pages q hq b hgb
    exact ⟨r1, r2, r3, r4, r5.turn hT (hd _ (.inr (.inr (.inr ⟨q, hq, hgb⟩)))), r6⟩
theorem MemP.turn {w w' : World} {base mb : Nat} {M : List UInt8} {O R R' : Nat → Prop} (h : MemP w base mb M O) (hT : Turn w w' R R') (hd : ∀ k, O k → ¬ R k) : MemP w' base mb M O := by
  obtain ⟨pb, fb, F, g, hI, hO⟩ := h
  exact ⟨pb, fb, F, g, hI.turn hT (fun k hk => hd k ((hO k).2 hk)), hO⟩
set_option maxHeartbeats 1000000 in
theorem rGet {w : World} {base rb : Nat} {M : List UInt8} {R : Nat → Prop} (h : RefP w base rb M R) (a : Int) (ha : isI a) :
    Calls Try.prog 21 #[.pointer (some ⟨rb, 0, none⟩), .int .i64 a] w fun e w' => e = .returned (.int .i64 (getM M a)) ∧ Below w.heap.size w w' := by
  obtain ⟨vb, ob, ⟨h1, h2, h3, cap, ws, nn, hB, hv⟩, hR⟩ := h
  have hC := rCell w base _ M a hv ha (by rw [h1]; omega)
  rw [cellL_mem h1] at hC
  generalize getM M a = n at *
  obtain ⟨e1, e2⟩ : w.cell? ⟨rb, 0, none⟩ = some (.slice (some ⟨vb, ob, none⟩) 8192 cap) ∧ w.frozen? ⟨rb, 0, none⟩ = false := ⟨by rw [hB.cell]; rfl, hB.frozen _⟩
  replace hC := Lib.hid hC
  clear h1 h2 h3 hB hv hR
  go_enter Try.func21, Try.ntmps21
  go_wp2_with (go_at_call 46; refine hC.out.mono ?_; rintro e w1 ⟨rfl, hb1⟩; replace hb1 := Lib.hid hb1)
  go_ret
  exact ⟨rfl, hb1.out⟩
/-- What leaves a reference's memory behind. -/
def RefQ (w w' : World) (base rb : Nat) (M' : List UInt8) (R : Nat → Prop) (v : Value) (e : Ending) : Prop := e = .returned v ∧ ∃ R', RefP w' base rb M' R' ∧ Turn w w' R R'
theorem flat_fin {w w2 : World} {A B : Nat} {Z : Array Value} (hZ : Z = (cb (List.replicate 8192 0)).toArray) (hA : Blk w2 A Z 5) (hB : Blk w2 B Z 5) (hne : A ≠ B) (hNA : w.heap.size ≤ A) (hNB : w.heap.size ≤ B) {v : Value} {l : List UInt8} (hv : Rb w v l) (hb : Below w.heap.size w w2) :
    ∃ w4 w5, (Builtin.copy_ #[22, 22] 3 #[.slice (some ⟨A, 0, none⟩) 8192 8192, v]).run Try.prog (w2.alloc (.cells #[.slice (some ⟨A, 0, none⟩) 8192 8192, .slice (some ⟨B, 0, none⟩) 8192 8192, .bool false] 38)).drew = .ok (.int .i64 ((min l.length 8192 : Nat) : Int)) w4 ∧
      w4.cell? ⟨w2.heap.size, 1, none⟩ = some (.slice (some ⟨B, 0, none⟩) 8192 8192) ∧
      (Builtin.copy_ #[22, 22] 3 #[.slice (some ⟨B, 0, none⟩) 8192 8192, v]).run Try.prog w4 = .ok (.int .i64 ((min l.length 8192 : Nat) : Int)) w5 ∧ (∃ R, RefP w5 w.heap.size w2.heap.size (flatL l) R) ∧ Below w.heap.size w w5 := by
  subst hZ
  obtain ⟨w3, hw3⟩ : ∃ w3, w3 = (w2.alloc (.cells #[.slice (some ⟨A, 0, none⟩) 8192 8192, .slice (some ⟨B, 0, none⟩) 8192 8192, .bool false] 38)).drew := ⟨_, rfl⟩
  rw [← hw3]
  have hb23 : Below w2.heap.size w2 w3 := by subst hw3; exact bel_drew (bel_alloc (Below.refl _ _) _)
  have hS3 : Blk w3 w2.heap.size #[.slice (some ⟨A, 0, none⟩) 8192 8192, .slice (some ⟨B, 0, none⟩) 8192 8192, .bool false] 38 := by subst hw3; exact (Blk.new _ _ _).drew
  have hb3 := bel_trans hb hb23
  have hAl := hA.lt
  have hBl := hB.lt
  obtain ⟨w4, hr4, hA4, hg4⟩ := Rb.copy (P := Try.prog) (dT := 22) (sT := 22) (ty := 3) (e := 5) (hA.below hb23) 8192 8192 (by rw [List.length_replicate]; exact Nat.le_refl _) (hv.below hb3) Try.underlying22 (by kernel_rfl)
  have hb4 : Below w.heap.size w w4 := hb3.grown hg4 hb3.size (fun k e => by have := Option.some.inj e; omega)
  obtain ⟨w5, hr5, hB5, hg5⟩ := Rb.copy (P := Try.prog) (dT := 22) (sT := 22) (ty := 3) (e := 5) ((hB.below hb23).kept hg4 (fun e => hne (Option.some.inj e).symm)) 8192 8192 (by rw [List.length_replicate]; exact Nat.le_refl _) (hv.below hb4) Try.underlying22 (by kernel_rfl)
  have hS4 := hS3.kept hg4 (fun e => by have := Option.some.inj e; omega)
  have hS5 := hS4.kept hg5 (fun e => by have := Option.some.inj e; omega)
  have hA5 := hA4.kept hg5 (fun e => hne (Option.some.inj e))
  have hFl : l.take 8192 ++ (List.replicate 8192 0).drop (min l.length 8192) = flatL l := rfl
  rw [hFl] at hA5
  refine ⟨w4, w5, hr4, by rw [hS4.cell]; rfl, hr5, ⟨fun k => k = w2.heap.size ∨ k = A, A, 0, ⟨flatL_len l, hb.size, by omega, 8192, _, false, hS5, ?_⟩, fun k => Iff.rfl⟩, hb4.grown hg5 hb4.size (fun k e => by have := Option.some.inj e; omega)⟩
  exact (Bs.of_blk hA5 (flatL_len l)).rebase (fun k hk => by have e' : A = k := Option.some.inj hk; omega)
set_option maxRecDepth 100000 in
set_option maxHeartbeats 1000000 in
theorem rFlat (w : World) (v : Value) (l : List UInt8) (h : Rb w v l) : Calls Try.prog 8 #[v] w fun e w' => ∃ rb R, e = .returned (.pointer (some ⟨rb, 0, none⟩)) ∧ RefP w' w.heap.size rb (flatL l) R ∧ Below w.heap.size w w' := by
  obtain ⟨Z, hZ⟩ : ∃ Z, Z = (cb (List.replicate 8192 0)).toArray := ⟨_, rfl⟩
  have hm1 : (Instr.makeSlice 22 (.int .i64 8192) (.int .i64 8192)).run Try.prog w.drew = .ok (.slice (some ⟨w.heap.size, 0, none⟩) 8192 8192) (w.drew.alloc (.cells Z 5)) := by rw [hZ]; exact run_made w.drew 8192 (by omega)
  have hm2 : (Instr.makeSlice 22 (.int .i64 8192) (.int .i64 8192)).run Try.prog (w.alloc (.cells Z 5)).drew = .ok (.slice (some ⟨w.heap.size + 1, 0, none⟩) 8192 8192) ((w.alloc (.cells Z 5)).drew.alloc (.cells Z 5)) := by
    have h2 := run_made (w.alloc (.cells Z 5)).drew 8192 (by omega)
    rw [show (w.alloc (.cells Z 5)).drew.heap.size = w.heap.size + 1 from World.size_alloc _ _] at h2
    rw [hZ] at h2 ⊢
    exact h2
  have hF1 : Blk ((w.alloc (.cells Z 5)).alloc (.cells Z 5)) w.heap.size Z 5 := (Blk.new w Z 5).alloc _
  have hF2 : Blk ((w.alloc (.cells Z 5)).alloc (.cells Z 5)) (w.heap.size + 1) Z 5 := by
    have h2 := Blk.new (w.alloc (.cells Z 5)) Z 5
    rw [World.size_alloc] at h2
    exact h2
  have hb2 : Below w.heap.size w ((w.alloc (.cells Z 5)).alloc (.cells Z 5)) := bel_alloc (bel_alloc (Below.refl _ _) _) _
  have hs2 : ((w.alloc (.cells Z 5)).alloc (.cells Z 5)).heap.size = w.heap.size + 1 + 1 := by rw [World.size_alloc, World.size_alloc]
  replace hZ := Lib.hid hZ
  obtain ⟨ad, cap, rfl⟩ := h.form
  go_enter Try.func8, Try.ntmps8
  go_upto_region 1 with fail
  refine wp_region_noPanic ?_
  refine wp_region_held_drew (S := (fun _ => True)) (by kernel_rfl) ?_ (fun hHeld => ?_)
  · (try dsimp only); (try exact trivial)
  refine wpAnyH_ready (rs := [0, 1]) (by kernel_rfl) (by simp) ?_
  refine AllReadyH.cons (o := { dst := some 4, op := Go.Op.makeSlice 22 (Go.Operand.const (Go.Value.int Go.IntKind.i64 8192)) (Go.Operand.const (Go.Value.int Go.IntKind.i64 8192)), type := 22, pos := "ref.go:18", after := #[], guard := none }) rfl (fun K hK => ?_) ?_
  ·
    go_simp
    refine hK.out _ _ ?_ (fun hHeld2 => ?_)
    · (try dsimp only); (try exact trivial)
    clear hK K hHeld
    have hHeld := hHeld2
    clear hHeld2
    try simp only [Act.put, List.setIfInBounds_toArray, List.set_cons_zero, List.set_cons_succ]
    refine wpAnyH_ready (rs := [1]) (by kernel_rfl) (by simp) ?_
    refine AllReadyH.cons (o := { dst := some 5, op := Go.Op.makeSlice 22 (Go.Operand.const (Go.Value.int Go.IntKind.i64 8192)) (Go.Operand.const (Go.Value.int Go.IntKind.i64 8192)), type := 22, pos := "ref.go:18", after := #[], guard := none }) rfl (fun K hK => ?_) AllReadyH.nil
    go_simp
    refine hK.out _ _ ?_ (fun hHeld2 => ?_)
    · (try dsimp only); (try exact trivial)
    clear hK K hHeld
    have hHeld := hHeld2
    clear hHeld2
    try simp only [Act.put, List.setIfInBounds_toArray, List.set_cons_zero, List.set_cons_succ]
    refine wpAnyH_take (i := 2) (oi := { dst := some 6, op := Go.Op.build 38 #[(0, Go.Operand.tmp 4), (1, Go.Operand.tmp 5)], type := 38, pos := "ref.go:18", after := #[{ on := 0, ground := Go.Ground.data }, { on := 1, ground := Go.Ground.data }], guard := none }) (v := ?v1) rfl (by kernel_rfl) (by kernel_rfl) (by kernel_rfl) (fun _ _ _ h => h) (Or.inl ⟨by rfl, ?hy1⟩) (by assumption) ?rest1
    case hy1 => (intro w hSw; (try dsimp only at hSw); go_simp <;> with_reducible rfl)
    try simp only [Act.put, List.setIfInBounds_toArray, List.set_cons_zero, List.set_cons_succ]
    refine wpAnyH_ready (rs := [3]) (by kernel_rfl) (by simp) ?_
    refine AllReadyH.cons (o := { dst := some 7, op := Go.Op.box 38 (Go.Operand.tmp 6), type := 28, pos := "ref.go:18", after := #[{ on := 2, ground := Go.Ground.data }], guard := none }) rfl (fun K hK => ?_) AllReadyH.nil
    go_simp
    refine hK.out _ _ ?_ (fun hHeld2 => ?_)
    · (try dsimp only); (try exact trivial)
    clear hK K hHeld
    have hHeld := hHeld2
    clear hHeld2
    try simp only [Act.put, List.setIfInBounds_toArray, List.set_cons_zero, List.set_cons_succ]
    refine wpAnyH_take (i := 4) (oi := { dst := some 3, op := Go.Op.assign (Go.Operand.tmp 7), type := 28, pos := "ref.go:18", after := #[{ on := 3, ground := Go.Ground.data }, { on := 0, ground := Go.Ground.phase }, { on := 1, ground := Go.Ground.phase }, { on := 2, ground := Go.Ground.phase }, { on := 3, ground := Go.Ground.phase }], guard := none }) (v := ?v2) rfl (by kernel_rfl) (by kernel_rfl) (by kernel_rfl) (fun _ _ _ h => h) (Or.inl ⟨by rfl, ?hy2⟩) (by assumption) ?rest2
    case hy2 => (intro w hSw; (try dsimp only at hSw); go_simp <;> with_reducible rfl)
    try simp only [Act.put, List.setIfInBounds_toArray, List.set_cons_zero, List.set_cons_succ]
    refine wpAnyH_done (by kernel_rfl) ?_ _
    refine NoPanic.normal ?_
    first
      | (obtain ⟨w4, w5, hr4, hc4, hr5, hP5, hb5⟩ := flat_fin hZ.out hF1 hF2 (by omega) (Nat.le_refl _) (by omega) h hb2; rw [hs2] at hc4 hP5; generalize ((min l.length 8192 : Nat) : Int) = m at hr4 hr5; replace hP5 := Lib.hid hP5; replace hb5 := Lib.hid hb5; go_wp2; go_ret; exact ⟨_, _, rfl, hP5.out.choose_spec, hb5.out⟩)
      | (obtain ⟨w4, w5, hr4, hc4, hr5, hP5, hb5⟩ := flat_fin hZ.out hF2 hF1 (by omega) (by omega) (Nat.le_refl _) h hb2; rw [hs2] at hc4 hP5; generalize ((min l.length 8192 : Nat) : Int) = m at hr4 hr5; replace hP5 := Lib.hid hP5; replace hb5 := Lib.hid hb5; go_wp2; go_ret; exact ⟨_, _, rfl, hP5.out.choose_spec, hb5.out⟩)
  refine AllReadyH.cons (o := { dst := some 5, op := Go.Op.makeSlice 22 (Go.Operand.const (Go.Value.int Go.IntKind.i64 8192)) (Go.Operand.const (Go.Value.int Go.IntKind.i64 8192)), type := 22, pos := "ref.go:18", after := #[], guard := none }) rfl (fun K hK => ?_) ?_
  ·
    go_simp
    refine hK.out _ _ ?_ (fun hHeld2 => ?_)
    · (try dsimp only); (try exact trivial)
    clear hK K hHeld
    have hHeld := hHeld2
    clear hHeld2
    try simp only [Act.put, List.setIfInBounds_toArray, List.set_cons_zero, List.set_cons_succ]
    refine wpAnyH_ready (rs := [0]) (by kernel_rfl) (by simp) ?_
    refine AllReadyH.cons (o := { dst := some 4, op := Go.Op.makeSlice 22 (Go.Operand.const (Go.Value.int Go.IntKind.i64 8192)) (Go.Operand.const (Go.Value.int Go.IntKind.i64 8192)), type := 22, pos := "ref.go:18", after := #[], guard := none }) rfl (fun K hK => ?_) AllReadyH.nil
    go_simp
    refine hK.out _ _ ?_ (fun hHeld2 => ?_)
    · (try dsimp only); (try exact trivial)
    clear hK K hHeld
    have hHeld := hHeld2
    clear hHeld2
    try simp only [Act.put, List.setIfInBounds_toArray, List.set_cons_zero, List.set_cons_succ]
    refine wpAnyH_take (i := 2) (oi := { dst := some 6, op := Go.Op.build 38 #[(0, Go.Operand.tmp 4), (1, Go.Operand.tmp 5)], type := 38, pos := "ref.go:18", after := #[{ on := 0, ground := Go.Ground.data }, { on := 1, ground := Go.Ground.data }], guard := none }) (v := ?v3) rfl (by kernel_rfl) (by kernel_rfl) (by kernel_rfl) (fun _ _ _ h => h) (Or.inl ⟨by rfl, ?hy3⟩) (by assumption) ?rest3
    case hy3 => (intro w hSw; (try dsimp only at hSw); go_simp <;> with_reducible rfl)
    try simp only [Act.put, List.setIfInBounds_toArray, List.set_cons_zero, List.set_cons_succ]
    refine wpAnyH_ready (rs := [3]) (by kernel_rfl) (by simp) ?_
    refine AllReadyH.cons (o := { dst := some 7, op := Go.Op.box 38 (Go.Operand.tmp 6), type := 28, pos := "ref.go:18", after := #[{ on := 2, ground := Go.Ground.data }], guard := none }) rfl (fun K hK => ?_) AllReadyH.nil
    go_simp
    refine hK.out _ _ ?_ (fun hHeld2 => ?_)
    · (try dsimp only); (try exact trivial)
    clear hK K hHeld
    have hHeld := hHeld2
    clear hHeld2
    try simp only [Act.put, List.setIfInBounds_toArray, List.set_cons_zero, List.set_cons_succ]
    refine wpAnyH_take (i := 4) (oi := { dst := some 3, op := Go.Op.assign (Go.Operand.tmp 7), type := 28, pos := "ref.go:18", after := #[{ on := 3, ground := Go.Ground.data }, { on := 0, ground := Go.Ground.phase }, { on := 1, ground := Go.Ground.phase }, { on := 2, ground := Go.Ground.phase }, { on := 3, ground := Go.Ground.phase }], guard := none }) (v := ?v4) rfl (by kernel_rfl) (by kernel_rfl) (by kernel_rfl) (fun _ _ _ h => h) (Or.inl ⟨by rfl, ?hy4⟩) (by assumption) ?rest4
    case hy4 => (intro w hSw; (try dsimp only at hSw); go_simp <;> with_reducible rfl)
    try simp only [Act.put, List.setIfInBounds_toArray, List.set_cons_zero, List.set_cons_succ]
    refine wpAnyH_done (by kernel_rfl) ?_ _
    refine NoPanic.normal ?_
    first
      | (obtain ⟨w4, w5, hr4, hc4, hr5, hP5, hb5⟩ := flat_fin hZ.out hF1 hF2 (by omega) (Nat.le_refl _) (by omega) h hb2; rw [hs2] at hc4 hP5; generalize ((min l.length 8192 : Nat) : Int) = m at hr4 hr5; replace hP5 := Lib.hid hP5; replace hb5 := Lib.hid hb5; go_wp2; go_ret; exact ⟨_, _, rfl, hP5.out.choose_spec, hb5.out⟩)
      | (obtain ⟨w4, w5, hr4, hc4, hr5, hP5, hb5⟩ := flat_fin hZ.out hF2 hF1 (by omega) (by omega) (Nat.le_refl _) h hb2; rw [hs2] at hc4 hP5; generalize ((min l.length 8192 : Nat) : Int) = m at hr4 hr5; replace hP5 := Lib.hid hP5; replace hb5 := Lib.hid hb5; go_wp2; go_ret; exact ⟨_, _, rfl, hP5.out.choose_spec, hb5.out⟩)
  exact AllReadyH.nil
end Go.Proofs.Ytkcmphjgflbchaa

/- The reference's memory: 'Load'. -/
namespace Go.Proofs.Ytkcmphjgflbchaa
open Go.RowKit
set_option linter.unusedVariables false
set_option linter.unusedSimpArgs false
attribute [local go_sem] cell_set set_set m_undef

set_option maxRecDepth 100000 in
set_option maxHeartbeats 1600000 in
theorem rLoad {w : World} {base rb : Nat} {M : List UInt8} {R : Nat → Prop} (h : RefP w base rb M R) (a n : Int) (ha : isI a) :
    Calls Try.prog 11 #[.pointer (some ⟨rb, 0, none⟩), .int .i64 a, .int .i64 n] w fun e w' => ∃ v', e = .returned v' ∧ Bs w' w.heap.size v' (loadL M a n) ∧ Below w.heap.size w w' := by
  obtain ⟨vb, ob, ⟨h1, h2, h3, cap, ws, nn, hB, hv⟩, hR⟩ := h
  unfold isI at ha
  obtain ⟨N, hN⟩ : ∃ N : Nat, N = (min (max n 0) 8192).toNat := ⟨_, rfl⟩
  have hloadL : loadL M a n = partL M a N N := by
    unfold loadL partL
    rw [← hN]
    apply List.map_congr_left
    intro i hi
    rw [if_pos (List.mem_range.1 hi)]
  rw [hloadL]
  have hmin : (if (8192 : Int) < (if n < 0 then 0 else n) then 8192 else (if n < 0 then 0 else n)) = (N : Int) := by split <;> split <;> omega
  obtain ⟨m0, hm0⟩ : ∃ m0, (if n < 0 then (0 : Int) else n) = m0 := ⟨_, rfl⟩
  rw [hm0] at hmin
  have hN8 : N ≤ 8192 := by omega
  have hmk := run_made w N (by omega)
  clear hN hloadL
  have hb1 : Below w.heap.size w (w.alloc (.cells (cb (List.replicate N 0)).toArray 5)) := bel_alloc (Below.refl _ _) _
  have hB1 : Bs (w.alloc (.cells (cb (List.replicate N 0)).toArray 5)) w.heap.size (.slice (some ⟨w.heap.size, 0, none⟩) N N) (List.replicate N 0) :=
    (Bs.of_blk (n := N) (Blk.new w (cb (List.replicate N 0)).toArray 5) (by simp)).rebase (fun k hk => by have e' : w.heap.size = k := Option.some.inj hk; omega)
  have hBl := hB.lt
  have hvl := hv.lt2.2
  have hbl0 : w.heap.size < (w.alloc (.cells (cb (List.replicate N 0)).toArray 5)).heap.size := by rw [World.size_alloc]; omega
  go_enter Try.func11, Try.ntmps11
  go_upto_region 2 with fail
  generalize hw1 : w.alloc (.cells (cb (List.replicate N 0)).toArray 5) = w1 at *
  replace hB := Lib.hid hB
  replace hv := Lib.hid hv
  replace hb1 := Lib.hid hb1
  clear hm0 hmin hmk hw1 hR
  go_wp2
  go_loopw [15] (fun i wr => ∃ (j : Nat), j ≤ N ∧ i = .int .i64 (j : Int) ∧ Bs wr w.heap.size (.slice (some ⟨w.heap.size, 0, none⟩) N N) (partL M a N j) ∧ Below w.heap.size w wr) (fun i _ => (N - (intOf i).toNat))
  case atStart => exact ⟨0, by omega, rfl, by rw [partL_zero]; exact hB1, hb1.out⟩
  case round =>
    clear hB1
    obtain ⟨j, hj, rfl, hB2, hb2⟩ := hrel
    have hBr := hB.out.below hb2
    have hvr := hv.out.below hb2
    obtain ⟨y1, y1f⟩ : wr.cell? ⟨rb, 0, none⟩ = some (.slice (some ⟨vb, ob, none⟩) 8192 cap) ∧ wr.frozen? ⟨rb, 0, none⟩ = false := ⟨by rw [hBr.cell]; rfl, hBr.frozen _⟩
    by_cases hjN : j < N
    · have w1' : IntKind.i64.wrap ((j : Int) + 1) = ((j + 1 : Nat) : Int) := by rw [IntKind.wrap_i64]; omega
      have t2 : ((j : Int) < (N : Int)) = True := by simp; omega
      by_cases h8 : a ≤ 8192
      · have t1 : (a ≤ 8192) = True := by simp; exact h8
        by_cases hin : 0 ≤ a + j ∧ a + j < 8192
        · obtain ⟨kN, hkN⟩ : ∃ kN : Nat, (kN : Int) = a + j := ⟨(a + j).toNat, by omega⟩
          have w2 : IntKind.i64.wrap (a + (j : Int)) = (kN : Int) := by rw [IntKind.wrap_i64]; omega
          have t3 : ((kN : Int) < 8192) = True := by simp; omega
          have hk8 : kN < 8192 := by omega
          have hstep := partL_step M a N j hjN
          have hmem : memAt M (a + j) = M[kN]'(by rw [h1]; exact hk8) := by
            rw [memAt, if_pos hin, ← hkN, Int.toNat_natCast, List.getD_eq_getElem?_getD, List.getElem?_eq_getElem (by rw [h1]; exact hk8)]
            rfl
          rw [hmem] at hstep
          obtain ⟨q1, q1f⟩ := hvr.at kN (by rw [h1]; exact hk8)
          obtain ⟨r1, r2⟩ := hB2.at j (by rw [partL_len]; exact hjN)
          rw [Nat.zero_add] at r1 r2
          have hB6 := hB2.setAt j (M[kN]'(by rw [h1]; exact hk8)) (by rw [partL_len]; exact hjN)
          rw [Nat.zero_add, ← hstep] at hB6
          have hb6 := bel_set hb2 (Nat.le_refl w.heap.size) (o := j) (.int .u8 ((M[kN]'(by rw [h1]; exact hk8)).toNat : Int))
          obtain ⟨x, hx⟩ : ∃ x, x = M[kN]'(by rw [h1]; exact hk8) := ⟨_, rfl⟩
          rw [← hx] at q1 hB6 hb6
          replace hB6 := Lib.hid hB6
          replace hb6 := Lib.hid hb6
          clear hin hkN hmem hstep hx hBr hvr hB2 hb2 h8
          go_wp2
          go_roundw
          case rel => exact ⟨j + 1, by omega, rfl, hB6.out, hb6.out⟩
          case measure => simp [intOf]; omega
        · obtain ⟨i, hi⟩ : ∃ i : Int, i = a + j := ⟨_, rfl⟩
          have w2 : IntKind.i64.wrap (a + (j : Int)) = i := by rw [IntKind.wrap_i64]; omega
          have hout := Lib.hid (partL_out M a N j hjN hin)
          replace hB2 := Lib.hid hB2
          replace hb2 := Lib.hid hb2
          by_cases h0 : 0 ≤ i
          · have t3 : ((0 : Int) ≤ i) = True := by simp; exact h0
            have t4 : (i < 8192) = False := by simp; omega
            clear hi hin h0 h8 hBr hvr
            go_wp2
            go_roundw
            case rel => exact ⟨j + 1, by omega, rfl, by rw [hout.out]; exact hB2.out, hb2.out⟩
            case measure => simp [intOf]; omega
          · have t3 : ((0 : Int) ≤ i) = False := by simp; omega
            clear hi hin h0 h8 hBr hvr
            go_wp2
            go_roundw
            case rel => exact ⟨j + 1, by omega, rfl, by rw [hout.out]; exact hB2.out, hb2.out⟩
            case measure => simp [intOf]; omega
      · have t1 : (a ≤ 8192) = False := by simp; omega
        have hout := Lib.hid (partL_out M a N j hjN (by omega))
        replace hB2 := Lib.hid hB2
        replace hb2 := Lib.hid hb2
        clear h8 hBr hvr
        go_wp2
        go_roundw
        case rel => exact ⟨j + 1, by omega, rfl, by rw [hout.out]; exact hB2.out, hb2.out⟩
        case measure => simp [intOf]; omega
    · have hjs : j = N := by omega
      subst hjs
      have t2 : ((j : Int) < (j : Int)) = False := by simp
      replace hB2 := Lib.hid hB2
      replace hb2 := Lib.hid hb2
      clear hj hBr hvr
      go_wp2
      go_ret
      exact ⟨_, rfl, hB2.out, hb2.out⟩
end Go.Proofs.Ytkcmphjgflbchaa
