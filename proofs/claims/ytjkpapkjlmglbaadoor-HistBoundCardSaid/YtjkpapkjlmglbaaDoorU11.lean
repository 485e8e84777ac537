/- 'Show'. -/
import Derived.Test.YtjkpapkjlmglbaaDoorU10
namespace Go.Proofs.YtjkpapkjlmglbaaDoor
open Go.RowKit Go.Shelf
set_option linter.unusedVariables false
set_option linter.unusedSimpArgs false
attribute [local go_sem] Oper.semAt_some cell_set set_set m_undef

section
variable {P : Program} {w w' : World} {v u v' : Value}
theorem stepIn_append_bs {F : Fence} {n : Nat} {ops : Array Oper} {o : Oper} {a : Act} {K : Act → World → Prop} {Q : Exit → Act → World → Prop} {E : Prop} (hgd : o.guard = none) (s x : Operand) (t : TypeId) (ho : o.op = .call { callee := .builtin .append, args := #[s, x], argTypes := #[t, t] })
    (hr : (Builtin.append_ #[t, t] o.type #[v, u]).run P w = .ok v' w') (hs : a.eval s = v) (hx : a.eval x = u) (h : K (a.put o.dst v') w') :
    if Region.wanted o (yielded ops a.tmps) = true then Oper.wpIn F n P o a w K Q else E := by
  have hw : Region.wanted o (yielded ops a.tmps) = true := by simp [Region.wanted, hgd]
  rw [if_pos hw]
  unfold Oper.wpIn
  refine ⟨?_, ?_⟩
  · simp [Oper.about, ho, resolve, Target.leads, Sem.run_pure]
  · rw [Oper.semAt_plain F _ _ (by rw [ho]; intro c hc'; cases hc')]
    simp [execOp, ho, resolve, invoke, builtin, hs, hx, hr, Result.andThen]
    exact h
end
theorem Vs.lit4 (w : World) (a b c d : Value) (t : TypeId) (h1 : a.oneCell' = true) (h2 : b.oneCell' = true) (h3 : c.oneCell' = true) (h4 : d.oneCell' = true) : Vs (w.alloc (.cells #[a, b, c, d] t)) 0 1 (.slice (some ⟨w.heap.size, 0, none⟩) 4 4) 4 [a, b, c, d] :=
  Vs.of_blk (Blk.new _ _ _) rfl (Nat.le_refl _) (Nat.le_refl _) (fun j u hj => by simpa using hj) (fun u hu => by
    simp only [List.mem_cons, List.not_mem_nil, or_false] at hu
    rcases hu with rfl | rfl | rfl | rfl <;> assumption) (Nat.zero_le _)
/-- The pieces that are joined. -/
def piecesL (ls : List (List UInt8)) (k : Nat) : List (List UInt8) := (List.range k).flatMap fun (i : Nat) => [Lib.itoa ((i : Int) + 1), [58, 32], ls.getD i [], [10]]
theorem piecesL_succ (ls : List (List UInt8)) (k : Nat) (x : List UInt8) (h : ls[k]? = some x) : piecesL ls (k + 1) = piecesL ls k ++ [Lib.itoa ((k : Int) + 1), [58, 32], x, [10]] := by
  unfold piecesL
  rw [List.range_succ, List.flatMap_append]
  simp [List.getD, h]
theorem piecesL_len (ls : List (List UInt8)) (k : Nat) : (piecesL ls k).length = 4 * k := by
  induction k with
  | zero => rfl
  | succ k ih =>
    unfold piecesL at *
    rw [List.range_succ, List.flatMap_append, List.length_append, ih]
    simp
    omega
theorem piecesL_flat (ls : List (List UInt8)) (k : Nat) : (piecesL ls k).flatten = showN ls k := by
  induction k with
  | zero => rfl
  | succ k ih =>
    unfold piecesL showN at *
    rw [List.range_succ, List.flatMap_append, List.flatten_append, ih, List.map_append, List.flatten_append]
    simp [itemL]
theorem showN_len (ls : List (List UInt8)) (h : ∀ l ∈ ls, l.length ≤ 510) (k : Nat) (hk : k ≤ ls.length) (hk2 : k ≤ 1000) : (showN ls k).length ≤ 600 * k := by
  induction k with
  | zero => exact Nat.le_refl _
  | succ k ih =>
    rw [showN_succ ls k (by omega), List.length_append]
    have := itemL_len k ls[k] (by omega)
    have := h ls[k] (List.getElem_mem (by omega))
    have := ih (by omega) (by omega)
    omega
attribute [local irreducible] textV linesL piecesL showN
set_option maxRecDepth 100000 in
set_option maxHeartbeats 4000000 in
theorem wShow {w : World} {B mb : Nat} {M : List UInt8} {O : Nat → Prop} (h : MemP w B mb M O) (hB : B ≤ w.heap.size) (hK : Keep w O PW) :
    Calls Tryd.prog 12 #[.pointer (some ⟨mb, 0, none⟩)] w fun e w' => MemQ w w' B mb M O (.string ⟨(showL (linesL (textV M))).toArray⟩) e := by
  have hg := hK.1.lt
  have hS := ((One.startK h hB hK).new #[.slice none 0 0] 29).new #[.int .i64 0] 3
  rw [World.size_alloc] at hS
  have hTx := Lib.hid (fun (w9 : World) (O : Nat → Prop) (h : MemP w9 B mb M O) (hb : B ≤ w9.heap.size) => wText h hb)
  have hend := textV_ended M
  have hlen := textV_len M
  have hle := fun (l : List UInt8) (hl : l ∈ linesL (textV M)) => Nat.le_trans (linesL_le hl) hlen
  generalize textV M = t at *
  obtain ⟨ls, rfl, hno⟩ := hend
  have hll : linesL (joinL ls) = ls := linesL_join ls hno
  rw [hll] at hle ⊢
  have hl := linesL_len (joinL ls)
  rw [hll] at hl
  unfold showL
  have hsl := showN_len ls hle ls.length (Nat.le_refl _) (by omega)
  have hpf := piecesL_flat ls ls.length
  clear h hB hK hll hle
  refine (callsIn_wide (n := 3)).1 ?_
  refine callsIn_of_wp_marks Tryd.func12 rfl trivial ?_ rfl
  simp only [Tryd.ntmps12, List.size_toArray, List.length_cons, List.length_nil, Nat.reduceAdd, Nat.reduceSub, Array.replicate_succ, Array.replicate_zero, List.push_toArray, List.append_toArray, List.nil_append, List.cons_append]
  gi_wp2
  refine ⟨trivial, ?_⟩
  gi_at_call 19
  refine (callsIn_wide.2 (hS.mem (fun O h hb => hTx.out _ _ h hb))).mono ?_
  rintro e w2 ⟨rfl, hS2⟩
  clear hS
  have hS3 := hS2.new #[.string ⟨(joinL ls).toArray⟩] 9
  have hL2 : w.heap.size + 1 < w2.heap.size := hS2.slt (.inr rfl)
  gi_wp2
  refine ⟨trivial, ?_⟩
  gi_at_call 18
  refine (callsIn_wide.2 (wLinesF _ _)).mono ?_
  rintro e w3 ⟨rfl, rfl⟩
  obtain ⟨bx, hbx⟩ : ∃ bx, bx = w2.heap.size := ⟨_, rfl⟩
  obtain ⟨W9, hW9⟩ : ∃ W9, W9 = w2.alloc (.cells #[.string ⟨(joinL ls).toArray⟩] 9) := ⟨_, rfl⟩
  have hN : bx < W9.heap.size := by rw [hW9, hbx]; simp
  rw [← hW9, ← hbx] at hS3
  rw [← hW9, ← hbx]
  rw [← hbx] at hL2
  clear hW9 hbx hS2 hTx
  have hLI : LoopI bx W9.heap.size (LJ w B mb M O bx W9.heap.size w.heap.size (fun k => .blk (w.heap.size + 1) #[.int .i64 (k : Int)] 3) (fun k => sl (piecesL ls k))) := LJ.loop hg (Nat.le_refl _) (by omega) hN (fun k j hj => by have : j = w.heap.size + 1 := hj; omega)
  gi_wp2
  refine wpIn_range_lines (by omega) (bx := bx) rfl rfl hLI ls hno (by omega) ?start (fun x => { tmps := #[.pointer (some ⟨mb, 0, none⟩), undef, .string ⟨#[]⟩, .pointer (some ⟨w.heap.size, 0, none⟩), .pointer (some ⟨w.heap.size + 1, 0, none⟩), .string ⟨x.toArray⟩, .pointer (some ⟨mb, 0, none⟩), .string ⟨(joinL ls).toArray⟩, .func (.func 29) #[] #[.pointer (some ⟨bx, 0, none⟩)], .string ⟨x.toArray⟩, undef, undef, undef, undef, undef, undef, undef, undef, undef, undef], defers := [] }) ?assign ?body ?done
  case start =>
    intro o
    refine ⟨.slice none 0 0, ?_, fun b hb => by cases hb⟩
    have h1 := One.st.newObj (One.st.newObj hS3 (.deferred (some []))) o
    rw [World.size_alloc] at h1
    have e0 : sl (piecesL ls 0) = [] := by delta piecesL; rfl
    show One w _ B mb M O ((LK bx W9.heap.size w.heap.size (.blk (w.heap.size + 1) #[.int .i64 ((0 : Nat) : Int)] 3) (joinL ls) o (.slice none 0 0)).and (.vs 1 (.slice none 0 0) (sl (piecesL ls 0)).length (sl (piecesL ls 0))))
    rw [e0]
    exact h1.keep fun O h => (((((h.left.left.left.left.left.and h.left.left.left.right).and h.left.right).and h.right).and h.left.left.right).and h.left.left.left.left.right).and (Keep.vs (Vs.nil _ 0 1) (fun b hb => by cases hb))
  case assign =>
    intro l x W K hK
    gi_wp2
    exact hK
  case body =>
    rintro l o k x s W hx ⟨lv, hT, hown⟩
    have hk8 := (List.getElem?_eq_some_iff.1 hx).1
    have hlk : (sl (piecesL ls k)).length = 4 * k := by rw [sl_len, piecesL_len]
    have hlk2 : (sl (piecesL ls (k + 1))).length = 4 * k + 4 := by rw [sl_len, piecesL_len]; omega
    replace hT : One w W B mb M O ((LK bx W9.heap.size w.heap.size (.blk (w.heap.size + 1) #[.int .i64 (k : Int)] 3) s o lv).and (.vs 1 lv (sl (piecesL ls k)).length (sl (piecesL ls k)))) := hT
    rw [hlk] at hT
    obtain ⟨k4, hk4⟩ : ∃ k4, k4 = 4 * k := ⟨_, rfl⟩
    rw [← hk4] at hT hlk2
    obtain ⟨al, cl, rfl, -⟩ := (show Vs _ 0 1 _ _ _ from hT.fact.2).form
    have hb := (show Blk W (w.heap.size + 1) _ _ from hT.fact.1.1.1.1.1.2)
    have z0 : W.cell? ⟨w.heap.size + 1, 0, none⟩ = some (.int .i64 (k : Int)) := hb.cell 0
    have z1 := hb.frozen 0
    obtain ⟨k1, hk1⟩ : ∃ k1 : Int, k1 = (k : Int) + 1 := ⟨_, rfl⟩
    have wk : IntKind.i64.wrap ((k : Int) + 1) = k1 := by rw [hk1, IntKind.wrap_i64]; omega
    have hk1n : ((k + 1 : Nat) : Int) = k1 := by omega
    obtain ⟨W1, hW1⟩ : ∃ W1, W1 = W.setCell ⟨w.heap.size + 1, 0, none⟩ (.int .i64 k1) := ⟨_, rfl⟩
    have hS1 := (hT.keep (L := (((((PW.and (.obj W9.heap.size (.deferred (some [])))).and (.obj (W9.heap.size + 1) o)).and (.blk bx #[.string ⟨s.toArray⟩] 9)).and (.blk w.heap.size #[.slice al k4 cl] 29)).and (.vs 1 (.slice al k4 cl) k4 (sl (piecesL ls k)))).and (.blk (w.heap.size + 1) #[.int .i64 (k : Int)] 3)) fun O h => (((((h.left.left.left.left.left.left.and h.left.left.left.left.right).and h.left.left.left.right).and h.left.left.right).and h.left.right).and h.right).and h.left.left.left.left.left.right).set (by omega) (fun hs => by
      rcases hs with ((((hs | hs) | hs) | hs) | hs) | hs
      · have : w.heap.size + 1 = 0 ∨ w.heap.size + 1 = 1 := hs
        omega
      · have : w.heap.size + 1 = W9.heap.size := hs
        omega
      · have : w.heap.size + 1 = W9.heap.size + 1 := hs
        omega
      · have : w.heap.size + 1 = bx := hs
        omega
      · have : w.heap.size + 1 = w.heap.size := hs
        omega
      · exact (hown _ hs).2 (.inl (.inl (.inl (.inl (.inr rfl)))))) 0 (.int .i64 k1)
    replace hS1 : One w (W.setCell ⟨w.heap.size + 1, 0, none⟩ (.int .i64 k1)) B mb M O ((LK bx W9.heap.size w.heap.size (.blk (w.heap.size + 1) #[.int .i64 k1] 3) s o (.slice al k4 cl)).and (.vs 1 (.slice al k4 cl) k4 (sl (piecesL ls k)))) := hS1.keep fun O h => ((((((h.left.left.left.left.left.left.and h.right).and h.left.left.left.left.left.right).and h.left.left.left.left.right).and h.left.left.left.right).and h.left.left.right).and h.left.right)
    rw [← hW1] at hS1
    replace hown := Lib.hid (show ∀ b, (Value.slice al k4 cl).ownBlock = some b → w.heap.size ≤ b ∧ ¬ (LK bx W9.heap.size w.heap.size (.blk (w.heap.size + 1) #[.int .i64 k1] 3) s o (.slice al k4 cl)).S b from fun b hb => hown b hb)
    have hLn := Lib.hid (show ¬ ((((PW.and (.blk (w.heap.size + 1) #[.int .i64 k1] 3)).and (.obj W9.heap.size (.deferred (some [])))).and (.obj (W9.heap.size + 1) o)).and (.blk bx #[.string ⟨s.toArray⟩] 9)).S w.heap.size from fun hs => by
      rcases hs with (((hs | hs) | hs) | hs) | hs
      · have : w.heap.size = 0 ∨ w.heap.size = 1 := hs
        omega
      · have : w.heap.size = w.heap.size + 1 := hs
        omega
      · have : w.heap.size = W9.heap.size := hs
        omega
      · have : w.heap.size = W9.heap.size + 1 := hs
        omega
      · have : w.heap.size = bx := hs
        omega)
    have hV2 : sl (piecesL ls k) ++ [.string ⟨(Lib.itoa k1).toArray⟩, .string ⟨#[58, 32]⟩, .string ⟨x.toArray⟩, .string ⟨#[10]⟩] = sl (piecesL ls (k + 1)) := by
      rw [piecesL_succ ls k x hx, ← hk1]; simp [sl]
    have hend := Lib.hid (show ∀ (a' : Option Addr) (c' : Nat) (W3 : World), One w W3 B mb M O ((LK bx W9.heap.size w.heap.size (.blk (w.heap.size + 1) #[.int .i64 k1] 3) s o (.slice a' (k4 + 4) c')).and (.vs 1 (.slice a' (k4 + 4) c') (k4 + 4) (sl (piecesL ls k) ++ [.string ⟨(Lib.itoa k1).toArray⟩, .string ⟨#[58, 32]⟩, .string ⟨x.toArray⟩, .string ⟨#[10]⟩]))) → (∀ b, (Value.slice a' (k4 + 4) c').ownBlock = some b → w.heap.size ≤ b ∧ ¬ (LK bx W9.heap.size w.heap.size (.blk (w.heap.size + 1) #[.int .i64 k1] 3) s o (.slice al k4 cl)).S b) →
        LJ w B mb M O bx W9.heap.size w.heap.size (fun k => .blk (w.heap.size + 1) #[.int .i64 (k : Int)] 3) (fun k => sl (piecesL ls k)) o (k + 1) s W3 from fun a' c' W3 h1 h2 => by
      refine ⟨.slice a' (k4 + 4) c', ?_, h2⟩
      rw [hV2] at h1
      have hV3 : Kp.vs 1 (.slice a' (k4 + 4) c') (k4 + 4) (sl (piecesL ls (k + 1))) = Kp.vs 1 (.slice a' (k4 + 4) c') (sl (piecesL ls (k + 1))).length (sl (piecesL ls (k + 1))) := by rw [hlk2]
      rw [hV3] at h1
      show One w W3 B mb M O ((LK bx W9.heap.size w.heap.size (.blk (w.heap.size + 1) #[.int .i64 ((k + 1 : Nat) : Int)] 3) s o _).and _)
      rw [hk1n]
      exact h1)
    have hI := Lib.hid (fun (w9 : World) (h9 : Pow10 w9) => itoa_ k1 (by unfold isI; omega) w9 h9)
    have hk8' : k4 + 4 ≤ 100000 := by omega
    replace hk8 := Lib.hid hk8'
    clear hT hb hk1n hV2 hlk hlk2 hk4 hx hk8' hk1 hpf hsl
    gi_wp2
    rw [← hW1]
    clear z0 z1 hW1 wk
    refine wpIn_region_any (by kernel_rfl) ?_
    change wpAnyIn _ _ _ _ _ _ _ _ _ (World.drew _)
    obtain ⟨Wd, hWd⟩ : ∃ Wd, Wd = W1.drew := ⟨_, rfl⟩
    have hS := hS1.drew
    rw [← hWd] at hS ⊢
    clear hS1 hWd
    have y0 : Wd.cell? ⟨w.heap.size, 0, none⟩ = some (.slice al k4 cl) := (show Blk _ _ _ _ from hS.fact.1.2).cell 0
    have y1 : Wd.cell? ⟨w.heap.size + 1, 0, none⟩ = some (.int .i64 k1) := (show Blk _ _ _ _ from hS.fact.1.1.1.1.1.2).cell 0
    refine wpAnyIn_ready (rs := [0, 1, 3]) (by kernel_rfl) (by simp) ?_
    refine AllReadyIn.cons rfl (fun K hK => ?_) ?_
    ·
      go_simp
      refine hK _ _ ?_
      clear hK K
      try simp only [Act.put, List.setIfInBounds_toArray, List.set_cons_zero, List.set_cons_succ]
      refine wpAnyIn_ready (rs := [1, 3]) (by kernel_rfl) (by simp) ?_
      refine AllReadyIn.cons rfl (fun K hK => ?_) ?_
      ·
        go_simp
        refine hK _ _ ?_
        clear hK K
        try simp only [Act.put, List.setIfInBounds_toArray, List.set_cons_zero, List.set_cons_succ]
        refine wpAnyIn_ready (rs := [2, 3]) (by kernel_rfl) (by simp) ?_
        refine AllReadyIn.cons rfl (fun K hK => ?_) ?_
        ·
          go_simp
          refine ⟨trivial, ?_⟩; gi_at_call 21; refine (CallsIn.inRound l (callsIn_wide.2 (hS.still (hI.out _ hS.fact.1.1.1.1.1.1.2)))).mono ?_; rintro e w5 ⟨rfl, hS2⟩; have y2 : w5.cell? ⟨w.heap.size, 0, none⟩ = some (.slice al k4 cl) := (show Blk _ _ _ _ from hS2.fact.1.2).cell 0
          refine hK _ _ ?_
          clear hK K
          try simp only [Act.put, List.setIfInBounds_toArray, List.set_cons_zero, List.set_cons_succ]
          refine wpAnyIn_ready (rs := [3]) (by kernel_rfl) (by simp) ?_
          refine AllReadyIn.cons rfl (fun K hK => ?_) AllReadyIn.nil
          go_simp
          refine hK _ _ ?_
          clear hK K
          try simp only [Act.put, List.setIfInBounds_toArray, List.set_cons_zero, List.set_cons_succ]
          refine wpAnyIn_ready (rs := [4]) (by kernel_rfl) (by simp) ?_
          refine AllReadyIn.cons rfl (fun K hK => ?_) AllReadyIn.nil
          go_simp
          have hSa := hS2.alloc (.cells #[.string ⟨(Lib.itoa k1).toArray⟩, .string ⟨#[58, 32]⟩, .string ⟨x.toArray⟩, .string ⟨#[10]⟩] 9); obtain ⟨w6, hw6⟩ : ∃ w6, w6 = w5.alloc (.cells #[.string ⟨(Lib.itoa k1).toArray⟩, .string ⟨#[58, 32]⟩, .string ⟨x.toArray⟩, .string ⟨#[10]⟩] 9) := ⟨_, rfl⟩; obtain ⟨v', w8, hrn, hS4, hown4, hsz⟩ := One.appendVs (P := Tryd.prog) (ty := 29) hSa hown.out ((Vs.lit4 w5 (.string ⟨(Lib.itoa k1).toArray⟩) (.string ⟨#[58, 32]⟩) (.string ⟨x.toArray⟩) (.string ⟨#[10]⟩) 9 rfl rfl rfl rfl).src (t := 29) Tryd.underlying29) Tryd.underlying29 infoS rfl (by omega) (by have := hk8.out; omega) (by have := hk8.out; omega); obtain ⟨a', c', rfl, hcap'⟩ := (show Vs _ 0 1 v' (k4 + 4) _ from hS4.fact.2).form; rw [← hw6] at hSa hrn ⊢; have y3 : w6.cell? ⟨w.heap.size, 0, none⟩ = some (.slice al k4 cl) := (show Blk _ _ _ _ from hSa.fact.1.2).cell 0; have y4 : w8.cell? ⟨w.heap.size, 0, none⟩ = some (.slice al k4 cl) := (show Blk _ _ _ _ from hS4.fact.1.2).cell 0; have f4 := (show Blk w8 w.heap.size _ _ from hS4.fact.1.2).frozen 0; replace hS4 := Lib.hid hS4; replace hown4 := Lib.hid hown4; replace hrn := Lib.hid hrn; clear hw6 hcap'
          refine hK _ _ ?_
          clear hK K
          try simp only [Act.put, List.setIfInBounds_toArray, List.set_cons_zero, List.set_cons_succ]
          refine wpAnyIn_ready (rs := [5]) (by kernel_rfl) (by simp) ?_
          refine AllReadyIn.cons rfl (fun K hK => ?_) AllReadyIn.nil
          refine stepIn_append_bs rfl _ _ 29 rfl hrn.out rfl rfl ?_
          refine hK _ _ ?_
          clear hK K
          try simp only [Act.put, List.setIfInBounds_toArray, List.set_cons_zero, List.set_cons_succ]
          refine wpAnyIn_ready (rs := [6]) (by kernel_rfl) (by simp) ?_
          refine AllReadyIn.cons rfl (fun K hK => ?_) AllReadyIn.nil
          go_simp
          refine hK _ _ ?_
          clear hK K
          try simp only [Act.put, List.setIfInBounds_toArray, List.set_cons_zero, List.set_cons_succ]
          refine wpAnyIn_done (by kernel_rfl) ?_ _
          gi_wp2
          have hS5 := (hS4.out.keep (L := (((((PW.and (.blk (w.heap.size + 1) #[.int .i64 k1] 3)).and (.obj W9.heap.size (.deferred (some [])))).and (.obj (W9.heap.size + 1) o)).and (.blk bx #[.string ⟨s.toArray⟩] 9)).and (.vs 1 (.slice a' (k4 + 4) c') (k4 + 4) (sl (piecesL ls k) ++ [.string ⟨(Lib.itoa k1).toArray⟩, .string ⟨#[58, 32]⟩, .string ⟨x.toArray⟩, .string ⟨#[10]⟩]))).and (.blk w.heap.size #[.slice al k4 cl] 29)) fun O h => (h.left.left.and h.right).and h.left.right).set (Nat.le_refl _) (fun hs => by
            rcases hs with hs | hs
            · exact hLn.out hs
            · exact (hown4.out _ hs).2 (.inr rfl)) 0 (.slice a' (k4 + 4) c')
          have hfin := hend.out a' c' _ (hS5.keep fun O h => (h.left.left.and h.right).and h.left.right) (fun b hb => hown4.out b hb)
          first | exact ⟨rfl, hfin⟩ | exact hfin
        refine AllReadyIn.cons rfl (fun K hK => ?_) ?_
        ·
          go_simp
          refine hK _ _ ?_
          clear hK K
          try simp only [Act.put, List.setIfInBounds_toArray, List.set_cons_zero, List.set_cons_succ]
          refine wpAnyIn_ready (rs := [2]) (by kernel_rfl) (by simp) ?_
          refine AllReadyIn.cons rfl (fun K hK => ?_) AllReadyIn.nil
          go_simp
          refine ⟨trivial, ?_⟩; gi_at_call 21; refine (CallsIn.inRound l (callsIn_wide.2 (hS.still (hI.out _ hS.fact.1.1.1.1.1.1.2)))).mono ?_; rintro e w5 ⟨rfl, hS2⟩; have y2 : w5.cell? ⟨w.heap.size, 0, none⟩ = some (.slice al k4 cl) := (show Blk _ _ _ _ from hS2.fact.1.2).cell 0
          refine hK _ _ ?_
          clear hK K
          try simp only [Act.put, List.setIfInBounds_toArray, List.set_cons_zero, List.set_cons_succ]
          refine wpAnyIn_ready (rs := [4]) (by kernel_rfl) (by simp) ?_
          refine AllReadyIn.cons rfl (fun K hK => ?_) AllReadyIn.nil
          go_simp
          have hSa := hS2.alloc (.cells #[.string ⟨(Lib.itoa k1).toArray⟩, .string ⟨#[58, 32]⟩, .string ⟨x.toArray⟩, .string ⟨#[10]⟩] 9); obtain ⟨w6, hw6⟩ : ∃ w6, w6 = w5.alloc (.cells #[.string ⟨(Lib.itoa k1).toArray⟩, .string ⟨#[58, 32]⟩, .string ⟨x.toArray⟩, .string ⟨#[10]⟩] 9) := ⟨_, rfl⟩; obtain ⟨v', w8, hrn, hS4, hown4, hsz⟩ := One.appendVs (P := Tryd.prog) (ty := 29) hSa hown.out ((Vs.lit4 w5 (.string ⟨(Lib.itoa k1).toArray⟩) (.string ⟨#[58, 32]⟩) (.string ⟨x.toArray⟩) (.string ⟨#[10]⟩) 9 rfl rfl rfl rfl).src (t := 29) Tryd.underlying29) Tryd.underlying29 infoS rfl (by omega) (by have := hk8.out; omega) (by have := hk8.out; omega); obtain ⟨a', c', rfl, hcap'⟩ := (show Vs _ 0 1 v' (k4 + 4) _ from hS4.fact.2).form; rw [← hw6] at hSa hrn ⊢; have y3 : w6.cell? ⟨w.heap.size, 0, none⟩ = some (.slice al k4 cl) := (show Blk _ _ _ _ from hSa.fact.1.2).cell 0; have y4 : w8.cell? ⟨w.heap.size, 0, none⟩ = some (.slice al k4 cl) := (show Blk _ _ _ _ from hS4.fact.1.2).cell 0; have f4 := (show Blk w8 w.heap.size _ _ from hS4.fact.1.2).frozen 0; replace hS4 := Lib.hid hS4; replace hown4 := Lib.hid hown4; replace hrn := Lib.hid hrn; clear hw6 hcap'
          refine hK _ _ ?_
          clear hK K
          try simp only [Act.put, List.setIfInBounds_toArray, List.set_cons_zero, List.set_cons_succ]
          refine wpAnyIn_ready (rs := [5]) (by kernel_rfl) (by simp) ?_
          refine AllReadyIn.cons rfl (fun K hK => ?_) AllReadyIn.nil
          refine stepIn_append_bs rfl _ _ 29 rfl hrn.out rfl rfl ?_
          refine hK _ _ ?_
          clear hK K
          try simp only [Act.put, List.setIfInBounds_toArray, List.set_cons_zero, List.set_cons_succ]
          refine wpAnyIn_ready (rs := [6]) (by kernel_rfl) (by simp) ?_
          refine AllReadyIn.cons rfl (fun K hK => ?_) AllReadyIn.nil
          go_simp
          refine hK _ _ ?_
          clear hK K
          try simp only [Act.put, List.setIfInBounds_toArray, List.set_cons_zero, List.set_cons_succ]
          refine wpAnyIn_done (by kernel_rfl) ?_ _
          gi_wp2
          have hS5 := (hS4.out.keep (L := (((((PW.and (.blk (w.heap.size + 1) #[.int .i64 k1] 3)).and (.obj W9.heap.size (.deferred (some [])))).and (.obj (W9.heap.size + 1) o)).and (.blk bx #[.string ⟨s.toArray⟩] 9)).and (.vs 1 (.slice a' (k4 + 4) c') (k4 + 4) (sl (piecesL ls k) ++ [.string ⟨(Lib.itoa k1).toArray⟩, .string ⟨#[58, 32]⟩, .string ⟨x.toArray⟩, .string ⟨#[10]⟩]))).and (.blk w.heap.size #[.slice al k4 cl] 29)) fun O h => (h.left.left.and h.right).and h.left.right).set (Nat.le_refl _) (fun hs => by
            rcases hs with hs | hs
            · exact hLn.out hs
            · exact (hown4.out _ hs).2 (.inr rfl)) 0 (.slice a' (k4 + 4) c')
          have hfin := hend.out a' c' _ (hS5.keep fun O h => (h.left.left.and h.right).and h.left.right) (fun b hb => hown4.out b hb)
          first | exact ⟨rfl, hfin⟩ | exact hfin
        exact AllReadyIn.nil
      refine AllReadyIn.cons rfl (fun K hK => ?_) ?_
      ·
        go_simp
        refine hK _ _ ?_
        clear hK K
        try simp only [Act.put, List.setIfInBounds_toArray, List.set_cons_zero, List.set_cons_succ]
        refine wpAnyIn_ready (rs := [1]) (by kernel_rfl) (by simp) ?_
        refine AllReadyIn.cons rfl (fun K hK => ?_) AllReadyIn.nil
        go_simp
        refine hK _ _ ?_
        clear hK K
        try simp only [Act.put, List.setIfInBounds_toArray, List.set_cons_zero, List.set_cons_succ]
        refine wpAnyIn_ready (rs := [2]) (by kernel_rfl) (by simp) ?_
        refine AllReadyIn.cons rfl (fun K hK => ?_) AllReadyIn.nil
        go_simp
        refine ⟨trivial, ?_⟩; gi_at_call 21; refine (CallsIn.inRound l (callsIn_wide.2 (hS.still (hI.out _ hS.fact.1.1.1.1.1.1.2)))).mono ?_; rintro e w5 ⟨rfl, hS2⟩; have y2 : w5.cell? ⟨w.heap.size, 0, none⟩ = some (.slice al k4 cl) := (show Blk _ _ _ _ from hS2.fact.1.2).cell 0
        refine hK _ _ ?_
        clear hK K
        try simp only [Act.put, List.setIfInBounds_toArray, List.set_cons_zero, List.set_cons_succ]
        refine wpAnyIn_ready (rs := [4]) (by kernel_rfl) (by simp) ?_
        refine AllReadyIn.cons rfl (fun K hK => ?_) AllReadyIn.nil
        go_simp
        have hSa := hS2.alloc (.cells #[.string ⟨(Lib.itoa k1).toArray⟩, .string ⟨#[58, 32]⟩, .string ⟨x.toArray⟩, .string ⟨#[10]⟩] 9); obtain ⟨w6, hw6⟩ : ∃ w6, w6 = w5.alloc (.cells #[.string ⟨(Lib.itoa k1).toArray⟩, .string ⟨#[58, 32]⟩, .string ⟨x.toArray⟩, .string ⟨#[10]⟩] 9) := ⟨_, rfl⟩; obtain ⟨v', w8, hrn, hS4, hown4, hsz⟩ := One.appendVs (P := Tryd.prog) (ty := 29) hSa hown.out ((Vs.lit4 w5 (.string ⟨(Lib.itoa k1).toArray⟩) (.string ⟨#[58, 32]⟩) (.string ⟨x.toArray⟩) (.string ⟨#[10]⟩) 9 rfl rfl rfl rfl).src (t := 29) Tryd.underlying29) Tryd.underlying29 infoS rfl (by omega) (by have := hk8.out; omega) (by have := hk8.out; omega); obtain ⟨a', c', rfl, hcap'⟩ := (show Vs _ 0 1 v' (k4 + 4) _ from hS4.fact.2).form; rw [← hw6] at hSa hrn ⊢; have y3 : w6.cell? ⟨w.heap.size, 0, none⟩ = some (.slice al k4 cl) := (show Blk _ _ _ _ from hSa.fact.1.2).cell 0; have y4 : w8.cell? ⟨w.heap.size, 0, none⟩ = some (.slice al k4 cl) := (show Blk _ _ _ _ from hS4.fact.1.2).cell 0; have f4 := (show Blk w8 w.heap.size _ _ from hS4.fact.1.2).frozen 0; replace hS4 := Lib.hid hS4; replace hown4 := Lib.hid hown4; replace hrn := Lib.hid hrn; clear hw6 hcap'
        refine hK _ _ ?_
        clear hK K
        try simp only [Act.put, List.setIfInBounds_toArray, List.set_cons_zero, List.set_cons_succ]
        refine wpAnyIn_ready (rs := [5]) (by kernel_rfl) (by simp) ?_
        refine AllReadyIn.cons rfl (fun K hK => ?_) AllReadyIn.nil
        refine stepIn_append_bs rfl _ _ 29 rfl hrn.out rfl rfl ?_
        refine hK _ _ ?_
        clear hK K
        try simp only [Act.put, List.setIfInBounds_toArray, List.set_cons_zero, List.set_cons_succ]
        refine wpAnyIn_ready (rs := [6]) (by kernel_rfl) (by simp) ?_
        refine AllReadyIn.cons rfl (fun K hK => ?_) AllReadyIn.nil
        go_simp
        refine hK _ _ ?_
        clear hK K
        try simp only [Act.put, List.setIfInBounds_toArray, List.set_cons_zero, List.set_cons_succ]
        refine wpAnyIn_done (by kernel_rfl) ?_ _
        gi_wp2
        have hS5 := (hS4.out.keep (L := (((((PW.and (.blk (w.heap.size + 1) #[.int .i64 k1] 3)).and (.obj W9.heap.size (.deferred (some [])))).and (.obj (W9.heap.size + 1) o)).and (.blk bx #[.string ⟨s.toArray⟩] 9)).and (.vs 1 (.slice a' (k4 + 4) c') (k4 + 4) (sl (piecesL ls k) ++ [.string ⟨(Lib.itoa k1).toArray⟩, .string ⟨#[58, 32]⟩, .string ⟨x.toArray⟩, .string ⟨#[10]⟩]))).and (.blk w.heap.size #[.slice al k4 cl] 29)) fun O h => (h.left.left.and h.right).and h.left.right).set (Nat.le_refl _) (fun hs => by
          rcases hs with hs | hs
          · exact hLn.out hs
          · exact (hown4.out _ hs).2 (.inr rfl)) 0 (.slice a' (k4 + 4) c')
        have hfin := hend.out a' c' _ (hS5.keep fun O h => (h.left.left.and h.right).and h.left.right) (fun b hb => hown4.out b hb)
        first | exact ⟨rfl, hfin⟩ | exact hfin
      exact AllReadyIn.nil
    refine AllReadyIn.cons rfl (fun K hK => ?_) ?_
    ·
      go_simp
      refine hK _ _ ?_
      clear hK K
      try simp only [Act.put, List.setIfInBounds_toArray, List.set_cons_zero, List.set_cons_succ]
      refine wpAnyIn_ready (rs := [0, 2, 3]) (by kernel_rfl) (by simp) ?_
      refine AllReadyIn.cons rfl (fun K hK => ?_) ?_
      ·
        go_simp
        refine hK _ _ ?_
        clear hK K
        try simp only [Act.put, List.setIfInBounds_toArray, List.set_cons_zero, List.set_cons_succ]
        refine wpAnyIn_ready (rs := [2, 3]) (by kernel_rfl) (by simp) ?_
        refine AllReadyIn.cons rfl (fun K hK => ?_) ?_
        ·
          go_simp
          refine ⟨trivial, ?_⟩; gi_at_call 21; refine (CallsIn.inRound l (callsIn_wide.2 (hS.still (hI.out _ hS.fact.1.1.1.1.1.1.2)))).mono ?_; rintro e w5 ⟨rfl, hS2⟩; have y2 : w5.cell? ⟨w.heap.size, 0, none⟩ = some (.slice al k4 cl) := (show Blk _ _ _ _ from hS2.fact.1.2).cell 0
          refine hK _ _ ?_
          clear hK K
          try simp only [Act.put, List.setIfInBounds_toArray, List.set_cons_zero, List.set_cons_succ]
          refine wpAnyIn_ready (rs := [3]) (by kernel_rfl) (by simp) ?_
          refine AllReadyIn.cons rfl (fun K hK => ?_) AllReadyIn.nil
          go_simp
          refine hK _ _ ?_
          clear hK K
          try simp only [Act.put, List.setIfInBounds_toArray, List.set_cons_zero, List.set_cons_succ]
          refine wpAnyIn_ready (rs := [4]) (by kernel_rfl) (by simp) ?_
          refine AllReadyIn.cons rfl (fun K hK => ?_) AllReadyIn.nil
          go_simp
          have hSa := hS2.alloc (.cells #[.string ⟨(Lib.itoa k1).toArray⟩, .string ⟨#[58, 32]⟩, .string ⟨x.toArray⟩, .string ⟨#[10]⟩] 9); obtain ⟨w6, hw6⟩ : ∃ w6, w6 = w5.alloc (.cells #[.string ⟨(Lib.itoa k1).toArray⟩, .string ⟨#[58, 32]⟩, .string ⟨x.toArray⟩, .string ⟨#[10]⟩] 9) := ⟨_, rfl⟩; obtain ⟨v', w8, hrn, hS4, hown4, hsz⟩ := One.appendVs (P := Tryd.prog) (ty := 29) hSa hown.out ((Vs.lit4 w5 (.string ⟨(Lib.itoa k1).toArray⟩) (.string ⟨#[58, 32]⟩) (.string ⟨x.toArray⟩) (.string ⟨#[10]⟩) 9 rfl rfl rfl rfl).src (t := 29) Tryd.underlying29) Tryd.underlying29 infoS rfl (by omega) (by have := hk8.out; omega) (by have := hk8.out; omega); obtain ⟨a', c', rfl, hcap'⟩ := (show Vs _ 0 1 v' (k4 + 4) _ from hS4.fact.2).form; rw [← hw6] at hSa hrn ⊢; have y3 : w6.cell? ⟨w.heap.size, 0, none⟩ = some (.slice al k4 cl) := (show Blk _ _ _ _ from hSa.fact.1.2).cell 0; have y4 : w8.cell? ⟨w.heap.size, 0, none⟩ = some (.slice al k4 cl) := (show Blk _ _ _ _ from hS4.fact.1.2).cell 0; have f4 := (show Blk w8 w.heap.size _ _ from hS4.fact.1.2).frozen 0; replace hS4 := Lib.hid hS4; replace hown4 := Lib.hid hown4; replace hrn := Lib.hid hrn; clear hw6 hcap'
          refine hK _ _ ?_
          clear hK K
          try simp only [Act.put, List.setIfInBounds_toArray, List.set_cons_zero, List.set_cons_succ]
          refine wpAnyIn_ready (rs := [5]) (by kernel_rfl) (by simp) ?_
          refine AllReadyIn.cons rfl (fun K hK => ?_) AllReadyIn.nil
          refine stepIn_append_bs rfl _ _ 29 rfl hrn.out rfl rfl ?_
          refine hK _ _ ?_
          clear hK K
          try simp only [Act.put, List.setIfInBounds_toArray, List.set_cons_zero, List.set_cons_succ]
          refine wpAnyIn_ready (rs := [6]) (by kernel_rfl) (by simp) ?_
          refine AllReadyIn.cons rfl (fun K hK => ?_) AllReadyIn.nil
          go_simp
          refine hK _ _ ?_
          clear hK K
          try simp only [Act.put, List.setIfInBounds_toArray, List.set_cons_zero, List.set_cons_succ]
          refine wpAnyIn_done (by kernel_rfl) ?_ _
          gi_wp2
          have hS5 := (hS4.out.keep (L := (((((PW.and (.blk (w.heap.size + 1) #[.int .i64 k1] 3)).and (.obj W9.heap.size (.deferred (some [])))).and (.obj (W9.heap.size + 1) o)).and (.blk bx #[.string ⟨s.toArray⟩] 9)).and (.vs 1 (.slice a' (k4 + 4) c') (k4 + 4) (sl (piecesL ls k) ++ [.string ⟨(Lib.itoa k1).toArray⟩, .string ⟨#[58, 32]⟩, .string ⟨x.toArray⟩, .string ⟨#[10]⟩]))).and (.blk w.heap.size #[.slice al k4 cl] 29)) fun O h => (h.left.left.and h.right).and h.left.right).set (Nat.le_refl _) (fun hs => by
            rcases hs with hs | hs
            · exact hLn.out hs
            · exact (hown4.out _ hs).2 (.inr rfl)) 0 (.slice a' (k4 + 4) c')
          have hfin := hend.out a' c' _ (hS5.keep fun O h => (h.left.left.and h.right).and h.left.right) (fun b hb => hown4.out b hb)
          first | exact ⟨rfl, hfin⟩ | exact hfin
        refine AllReadyIn.cons rfl (fun K hK => ?_) ?_
        ·
          go_simp
          refine hK _ _ ?_
          clear hK K
          try simp only [Act.put, List.setIfInBounds_toArray, List.set_cons_zero, List.set_cons_succ]
          refine wpAnyIn_ready (rs := [2]) (by kernel_rfl) (by simp) ?_
          refine AllReadyIn.cons rfl (fun K hK => ?_) AllReadyIn.nil
          go_simp
          refine ⟨trivial, ?_⟩; gi_at_call 21; refine (CallsIn.inRound l (callsIn_wide.2 (hS.still (hI.out _ hS.fact.1.1.1.1.1.1.2)))).mono ?_; rintro e w5 ⟨rfl, hS2⟩; have y2 : w5.cell? ⟨w.heap.size, 0, none⟩ = some (.slice al k4 cl) := (show Blk _ _ _ _ from hS2.fact.1.2).cell 0
          refine hK _ _ ?_
          clear hK K
          try simp only [Act.put, List.setIfInBounds_toArray, List.set_cons_zero, List.set_cons_succ]
          refine wpAnyIn_ready (rs := [4]) (by kernel_rfl) (by simp) ?_
          refine AllReadyIn.cons rfl (fun K hK => ?_) AllReadyIn.nil
          go_simp
          have hSa := hS2.alloc (.cells #[.string ⟨(Lib.itoa k1).toArray⟩, .string ⟨#[58, 32]⟩, .string ⟨x.toArray⟩, .string ⟨#[10]⟩] 9); obtain ⟨w6, hw6⟩ : ∃ w6, w6 = w5.alloc (.cells #[.string ⟨(Lib.itoa k1).toArray⟩, .string ⟨#[58, 32]⟩, .string ⟨x.toArray⟩, .string ⟨#[10]⟩] 9) := ⟨_, rfl⟩; obtain ⟨v', w8, hrn, hS4, hown4, hsz⟩ := One.appendVs (P := Tryd.prog) (ty := 29) hSa hown.out ((Vs.lit4 w5 (.string ⟨(Lib.itoa k1).toArray⟩) (.string ⟨#[58, 32]⟩) (.string ⟨x.toArray⟩) (.string ⟨#[10]⟩) 9 rfl rfl rfl rfl).src (t := 29) Tryd.underlying29) Tryd.underlying29 infoS rfl (by omega) (by have := hk8.out; omega) (by have := hk8.out; omega); obtain ⟨a', c', rfl, hcap'⟩ := (show Vs _ 0 1 v' (k4 + 4) _ from hS4.fact.2).form; rw [← hw6] at hSa hrn ⊢; have y3 : w6.cell? ⟨w.heap.size, 0, none⟩ = some (.slice al k4 cl) := (show Blk _ _ _ _ from hSa.fact.1.2).cell 0; have y4 : w8.cell? ⟨w.heap.size, 0, none⟩ = some (.slice al k4 cl) := (show Blk _ _ _ _ from hS4.fact.1.2).cell 0; have f4 := (show Blk w8 w.heap.size _ _ from hS4.fact.1.2).frozen 0; replace hS4 := Lib.hid hS4; replace hown4 := Lib.hid hown4; replace hrn := Lib.hid hrn; clear hw6 hcap'
          refine hK _ _ ?_
          clear hK K
          try simp only [Act.put, List.setIfInBounds_toArray, List.set_cons_zero, List.set_cons_succ]
          refine wpAnyIn_ready (rs := [5]) (by kernel_rfl) (by simp) ?_
          refine AllReadyIn.cons rfl (fun K hK => ?_) AllReadyIn.nil
          refine stepIn_append_bs rfl _ _ 29 rfl hrn.out rfl rfl ?_
          refine hK _ _ ?_
          clear hK K
          try simp only [Act.put, List.setIfInBounds_toArray, List.set_cons_zero, List.set_cons_succ]
          refine wpAnyIn_ready (rs := [6]) (by kernel_rfl) (by simp) ?_
          refine AllReadyIn.cons rfl (fun K hK => ?_) AllReadyIn.nil
          go_simp
          refine hK _ _ ?_
          clear hK K
          try simp only [Act.put, List.setIfInBounds_toArray, List.set_cons_zero, List.set_cons_succ]
          refine wpAnyIn_done (by kernel_rfl) ?_ _
          gi_wp2
          have hS5 := (hS4.out.keep (L := (((((PW.and (.blk (w.heap.size + 1) #[.int .i64 k1] 3)).and (.obj W9.heap.size (.deferred (some [])))).and (.obj (W9.heap.size + 1) o)).and (.blk bx #[.string ⟨s.toArray⟩] 9)).and (.vs 1 (.slice a' (k4 + 4) c') (k4 + 4) (sl (piecesL ls k) ++ [.string ⟨(Lib.itoa k1).toArray⟩, .string ⟨#[58, 32]⟩, .string ⟨x.toArray⟩, .string ⟨#[10]⟩]))).and (.blk w.heap.size #[.slice al k4 cl] 29)) fun O h => (h.left.left.and h.right).and h.left.right).set (Nat.le_refl _) (fun hs => by
            rcases hs with hs | hs
            · exact hLn.out hs
            · exact (hown4.out _ hs).2 (.inr rfl)) 0 (.slice a' (k4 + 4) c')
          have hfin := hend.out a' c' _ (hS5.keep fun O h => (h.left.left.and h.right).and h.left.right) (fun b hb => hown4.out b hb)
          first | exact ⟨rfl, hfin⟩ | exact hfin
        exact AllReadyIn.nil
      refine AllReadyIn.cons rfl (fun K hK => ?_) ?_
      ·
        go_simp
        refine ⟨trivial, ?_⟩; gi_at_call 21; refine (CallsIn.inRound l (callsIn_wide.2 (hS.still (hI.out _ hS.fact.1.1.1.1.1.1.2)))).mono ?_; rintro e w5 ⟨rfl, hS2⟩; have y2 : w5.cell? ⟨w.heap.size, 0, none⟩ = some (.slice al k4 cl) := (show Blk _ _ _ _ from hS2.fact.1.2).cell 0
        refine hK _ _ ?_
        clear hK K
        try simp only [Act.put, List.setIfInBounds_toArray, List.set_cons_zero, List.set_cons_succ]
        refine wpAnyIn_ready (rs := [0, 3]) (by kernel_rfl) (by simp) ?_
        refine AllReadyIn.cons rfl (fun K hK => ?_) ?_
        ·
          go_simp
          refine hK _ _ ?_
          clear hK K
          try simp only [Act.put, List.setIfInBounds_toArray, List.set_cons_zero, List.set_cons_succ]
          refine wpAnyIn_ready (rs := [3]) (by kernel_rfl) (by simp) ?_
          refine AllReadyIn.cons rfl (fun K hK => ?_) AllReadyIn.nil
          go_simp
          refine hK _ _ ?_
          clear hK K
          try simp only [Act.put, List.setIfInBounds_toArray, List.set_cons_zero, List.set_cons_succ]
          refine wpAnyIn_ready (rs := [4]) (by kernel_rfl) (by simp) ?_
          refine AllReadyIn.cons rfl (fun K hK => ?_) AllReadyIn.nil
          go_simp
          have hSa := hS2.alloc (.cells #[.string ⟨(Lib.itoa k1).toArray⟩, .string ⟨#[58, 32]⟩, .string ⟨x.toArray⟩, .string ⟨#[10]⟩] 9); obtain ⟨w6, hw6⟩ : ∃ w6, w6 = w5.alloc (.cells #[.string ⟨(Lib.itoa k1).toArray⟩, .string ⟨#[58, 32]⟩, .string ⟨x.toArray⟩, .string ⟨#[10]⟩] 9) := ⟨_, rfl⟩; obtain ⟨v', w8, hrn, hS4, hown4, hsz⟩ := One.appendVs (P := Tryd.prog) (ty := 29) hSa hown.out ((Vs.lit4 w5 (.string ⟨(Lib.itoa k1).toArray⟩) (.string ⟨#[58, 32]⟩) (.string ⟨x.toArray⟩) (.string ⟨#[10]⟩) 9 rfl rfl rfl rfl).src (t := 29) Tryd.underlying29) Tryd.underlying29 infoS rfl (by omega) (by have := hk8.out; omega) (by have := hk8.out; omega); obtain ⟨a', c', rfl, hcap'⟩ := (show Vs _ 0 1 v' (k4 + 4) _ from hS4.fact.2).form; rw [← hw6] at hSa hrn ⊢; have y3 : w6.cell? ⟨w.heap.size, 0, none⟩ = some (.slice al k4 cl) := (show Blk _ _ _ _ from hSa.fact.1.2).cell 0; have y4 : w8.cell? ⟨w.heap.size, 0, none⟩ = some (.slice al k4 cl) := (show Blk _ _ _ _ from hS4.fact.1.2).cell 0; have f4 := (show Blk w8 w.heap.size _ _ from hS4.fact.1.2).frozen 0; replace hS4 := Lib.hid hS4; replace hown4 := Lib.hid hown4; replace hrn := Lib.hid hrn; clear hw6 hcap'
          refine hK _ _ ?_
          clear hK K
          try simp only [Act.put, List.setIfInBounds_toArray, List.set_cons_zero, List.set_cons_succ]
          refine wpAnyIn_ready (rs := [5]) (by kernel_rfl) (by simp) ?_
          refine AllReadyIn.cons rfl (fun K hK => ?_) AllReadyIn.nil
          refine stepIn_append_bs rfl _ _ 29 rfl hrn.out rfl rfl ?_
          refine hK _ _ ?_
          clear hK K
          try simp only [Act.put, List.setIfInBounds_toArray, List.set_cons_zero, List.set_cons_succ]
          refine wpAnyIn_ready (rs := [6]) (by kernel_rfl) (by simp) ?_
          refine AllReadyIn.cons rfl (fun K hK => ?_) AllReadyIn.nil
          go_simp
          refine hK _ _ ?_
          clear hK K
          try simp only [Act.put, List.setIfInBounds_toArray, List.set_cons_zero, List.set_cons_succ]
          refine wpAnyIn_done (by kernel_rfl) ?_ _
          gi_wp2
          have hS5 := (hS4.out.keep (L := (((((PW.and (.blk (w.heap.size + 1) #[.int .i64 k1] 3)).and (.obj W9.heap.size (.deferred (some [])))).and (.obj (W9.heap.size + 1) o)).and (.blk bx #[.string ⟨s.toArray⟩] 9)).and (.vs 1 (.slice a' (k4 + 4) c') (k4 + 4) (sl (piecesL ls k) ++ [.string ⟨(Lib.itoa k1).toArray⟩, .string ⟨#[58, 32]⟩, .string ⟨x.toArray⟩, .string ⟨#[10]⟩]))).and (.blk w.heap.size #[.slice al k4 cl] 29)) fun O h => (h.left.left.and h.right).and h.left.right).set (Nat.le_refl _) (fun hs => by
            rcases hs with hs | hs
            · exact hLn.out hs
            · exact (hown4.out _ hs).2 (.inr rfl)) 0 (.slice a' (k4 + 4) c')
          have hfin := hend.out a' c' _ (hS5.keep fun O h => (h.left.left.and h.right).and h.left.right) (fun b hb => hown4.out b hb)
          first | exact ⟨rfl, hfin⟩ | exact hfin
        refine AllReadyIn.cons rfl (fun K hK => ?_) ?_
        ·
          go_simp
          refine hK _ _ ?_
          clear hK K
          try simp only [Act.put, List.setIfInBounds_toArray, List.set_cons_zero, List.set_cons_succ]
          refine wpAnyIn_ready (rs := [0, 4]) (by kernel_rfl) (by simp) ?_
          refine AllReadyIn.cons rfl (fun K hK => ?_) ?_
          ·
            go_simp
            refine hK _ _ ?_
            clear hK K
            try simp only [Act.put, List.setIfInBounds_toArray, List.set_cons_zero, List.set_cons_succ]
            refine wpAnyIn_ready (rs := [4]) (by kernel_rfl) (by simp) ?_
            refine AllReadyIn.cons rfl (fun K hK => ?_) AllReadyIn.nil
            go_simp
            have hSa := hS2.alloc (.cells #[.string ⟨(Lib.itoa k1).toArray⟩, .string ⟨#[58, 32]⟩, .string ⟨x.toArray⟩, .string ⟨#[10]⟩] 9); obtain ⟨w6, hw6⟩ : ∃ w6, w6 = w5.alloc (.cells #[.string ⟨(Lib.itoa k1).toArray⟩, .string ⟨#[58, 32]⟩, .string ⟨x.toArray⟩, .string ⟨#[10]⟩] 9) := ⟨_, rfl⟩; obtain ⟨v', w8, hrn, hS4, hown4, hsz⟩ := One.appendVs (P := Tryd.prog) (ty := 29) hSa hown.out ((Vs.lit4 w5 (.string ⟨(Lib.itoa k1).toArray⟩) (.string ⟨#[58, 32]⟩) (.string ⟨x.toArray⟩) (.string ⟨#[10]⟩) 9 rfl rfl rfl rfl).src (t := 29) Tryd.underlying29) Tryd.underlying29 infoS rfl (by omega) (by have := hk8.out; omega) (by have := hk8.out; omega); obtain ⟨a', c', rfl, hcap'⟩ := (show Vs _ 0 1 v' (k4 + 4) _ from hS4.fact.2).form; rw [← hw6] at hSa hrn ⊢; have y3 : w6.cell? ⟨w.heap.size, 0, none⟩ = some (.slice al k4 cl) := (show Blk _ _ _ _ from hSa.fact.1.2).cell 0; have y4 : w8.cell? ⟨w.heap.size, 0, none⟩ = some (.slice al k4 cl) := (show Blk _ _ _ _ from hS4.fact.1.2).cell 0; have f4 := (show Blk w8 w.heap.size _ _ from hS4.fact.1.2).frozen 0; replace hS4 := Lib.hid hS4; replace hown4 := Lib.hid hown4; replace hrn := Lib.hid hrn; clear hw6 hcap'
            refine hK _ _ ?_
            clear hK K
            try simp only [Act.put, List.setIfInBounds_toArray, List.set_cons_zero, List.set_cons_succ]
            refine wpAnyIn_ready (rs := [5]) (by kernel_rfl) (by simp) ?_
            refine AllReadyIn.cons rfl (fun K hK => ?_) AllReadyIn.nil
            refine stepIn_append_bs rfl _ _ 29 rfl hrn.out rfl rfl ?_
            refine hK _ _ ?_
            clear hK K
            try simp only [Act.put, List.setIfInBounds_toArray, List.set_cons_zero, List.set_cons_succ]
            refine wpAnyIn_ready (rs := [6]) (by kernel_rfl) (by simp) ?_
            refine AllReadyIn.cons rfl (fun K hK => ?_) AllReadyIn.nil
            go_simp
            refine hK _ _ ?_
            clear hK K
            try simp only [Act.put, List.setIfInBounds_toArray, List.set_cons_zero, List.set_cons_succ]
            refine wpAnyIn_done (by kernel_rfl) ?_ _
            gi_wp2
            have hS5 := (hS4.out.keep (L := (((((PW.and (.blk (w.heap.size + 1) #[.int .i64 k1] 3)).and (.obj W9.heap.size (.deferred (some [])))).and (.obj (W9.heap.size + 1) o)).and (.blk bx #[.string ⟨s.toArray⟩] 9)).and (.vs 1 (.slice a' (k4 + 4) c') (k4 + 4) (sl (piecesL ls k) ++ [.string ⟨(Lib.itoa k1).toArray⟩, .string ⟨#[58, 32]⟩, .string ⟨x.toArray⟩, .string ⟨#[10]⟩]))).and (.blk w.heap.size #[.slice al k4 cl] 29)) fun O h => (h.left.left.and h.right).and h.left.right).set (Nat.le_refl _) (fun hs => by
              rcases hs with hs | hs
              · exact hLn.out hs
              · exact (hown4.out _ hs).2 (.inr rfl)) 0 (.slice a' (k4 + 4) c')
            have hfin := hend.out a' c' _ (hS5.keep fun O h => (h.left.left.and h.right).and h.left.right) (fun b hb => hown4.out b hb)
            first | exact ⟨rfl, hfin⟩ | exact hfin
          refine AllReadyIn.cons rfl (fun K hK => ?_) ?_
          ·
            go_simp
            have hSa := hS2.alloc (.cells #[.string ⟨(Lib.itoa k1).toArray⟩, .string ⟨#[58, 32]⟩, .string ⟨x.toArray⟩, .string ⟨#[10]⟩] 9); obtain ⟨w6, hw6⟩ : ∃ w6, w6 = w5.alloc (.cells #[.string ⟨(Lib.itoa k1).toArray⟩, .string ⟨#[58, 32]⟩, .string ⟨x.toArray⟩, .string ⟨#[10]⟩] 9) := ⟨_, rfl⟩; obtain ⟨v', w8, hrn, hS4, hown4, hsz⟩ := One.appendVs (P := Tryd.prog) (ty := 29) hSa hown.out ((Vs.lit4 w5 (.string ⟨(Lib.itoa k1).toArray⟩) (.string ⟨#[58, 32]⟩) (.string ⟨x.toArray⟩) (.string ⟨#[10]⟩) 9 rfl rfl rfl rfl).src (t := 29) Tryd.underlying29) Tryd.underlying29 infoS rfl (by omega) (by have := hk8.out; omega) (by have := hk8.out; omega); obtain ⟨a', c', rfl, hcap'⟩ := (show Vs _ 0 1 v' (k4 + 4) _ from hS4.fact.2).form; rw [← hw6] at hSa hrn ⊢; have y3 : w6.cell? ⟨w.heap.size, 0, none⟩ = some (.slice al k4 cl) := (show Blk _ _ _ _ from hSa.fact.1.2).cell 0; have y4 : w8.cell? ⟨w.heap.size, 0, none⟩ = some (.slice al k4 cl) := (show Blk _ _ _ _ from hS4.fact.1.2).cell 0; have f4 := (show Blk w8 w.heap.size _ _ from hS4.fact.1.2).frozen 0; replace hS4 := Lib.hid hS4; replace hown4 := Lib.hid hown4; replace hrn := Lib.hid hrn; clear hw6 hcap'
            refine hK _ _ ?_
            clear hK K
            try simp only [Act.put, List.setIfInBounds_toArray, List.set_cons_zero, List.set_cons_succ]
            refine wpAnyIn_ready (rs := [0]) (by kernel_rfl) (by simp) ?_
            refine AllReadyIn.cons rfl (fun K hK => ?_) AllReadyIn.nil
            go_simp
            refine hK _ _ ?_
            clear hK K
            try simp only [Act.put, List.setIfInBounds_toArray, List.set_cons_zero, List.set_cons_succ]
            refine wpAnyIn_ready (rs := [5]) (by kernel_rfl) (by simp) ?_
            refine AllReadyIn.cons rfl (fun K hK => ?_) AllReadyIn.nil
            refine stepIn_append_bs rfl _ _ 29 rfl hrn.out rfl rfl ?_
            refine hK _ _ ?_
            clear hK K
            try simp only [Act.put, List.setIfInBounds_toArray, List.set_cons_zero, List.set_cons_succ]
            refine wpAnyIn_ready (rs := [6]) (by kernel_rfl) (by simp) ?_
            refine AllReadyIn.cons rfl (fun K hK => ?_) AllReadyIn.nil
            go_simp
            refine hK _ _ ?_
            clear hK K
            try simp only [Act.put, List.setIfInBounds_toArray, List.set_cons_zero, List.set_cons_succ]
            refine wpAnyIn_done (by kernel_rfl) ?_ _
            gi_wp2
            have hS5 := (hS4.out.keep (L := (((((PW.and (.blk (w.heap.size + 1) #[.int .i64 k1] 3)).and (.obj W9.heap.size (.deferred (some [])))).and (.obj (W9.heap.size + 1) o)).and (.blk bx #[.string ⟨s.toArray⟩] 9)).and (.vs 1 (.slice a' (k4 + 4) c') (k4 + 4) (sl (piecesL ls k) ++ [.string ⟨(Lib.itoa k1).toArray⟩, .string ⟨#[58, 32]⟩, .string ⟨x.toArray⟩, .string ⟨#[10]⟩]))).and (.blk w.heap.size #[.slice al k4 cl] 29)) fun O h => (h.left.left.and h.right).and h.left.right).set (Nat.le_refl _) (fun hs => by
              rcases hs with hs | hs
              · exact hLn.out hs
              · exact (hown4.out _ hs).2 (.inr rfl)) 0 (.slice a' (k4 + 4) c')
            have hfin := hend.out a' c' _ (hS5.keep fun O h => (h.left.left.and h.right).and h.left.right) (fun b hb => hown4.out b hb)
            first | exact ⟨rfl, hfin⟩ | exact hfin
          exact AllReadyIn.nil
        exact AllReadyIn.nil
      refine AllReadyIn.cons rfl (fun K hK => ?_) ?_
      ·
        go_simp
        refine hK _ _ ?_
        clear hK K
        try simp only [Act.put, List.setIfInBounds_toArray, List.set_cons_zero, List.set_cons_succ]
        refine wpAnyIn_ready (rs := [0, 2]) (by kernel_rfl) (by simp) ?_
        refine AllReadyIn.cons rfl (fun K hK => ?_) ?_
        ·
          go_simp
          refine hK _ _ ?_
          clear hK K
          try simp only [Act.put, List.setIfInBounds_toArray, List.set_cons_zero, List.set_cons_succ]
          refine wpAnyIn_ready (rs := [2]) (by kernel_rfl) (by simp) ?_
          refine AllReadyIn.cons rfl (fun K hK => ?_) AllReadyIn.nil
          go_simp
          refine ⟨trivial, ?_⟩; gi_at_call 21; refine (CallsIn.inRound l (callsIn_wide.2 (hS.still (hI.out _ hS.fact.1.1.1.1.1.1.2)))).mono ?_; rintro e w5 ⟨rfl, hS2⟩; have y2 : w5.cell? ⟨w.heap.size, 0, none⟩ = some (.slice al k4 cl) := (show Blk _ _ _ _ from hS2.fact.1.2).cell 0
          refine hK _ _ ?_
          clear hK K
          try simp only [Act.put, List.setIfInBounds_toArray, List.set_cons_zero, List.set_cons_succ]
          refine wpAnyIn_ready (rs := [4]) (by kernel_rfl) (by simp) ?_
          refine AllReadyIn.cons rfl (fun K hK => ?_) AllReadyIn.nil
          go_simp
          have hSa := hS2.alloc (.cells #[.string ⟨(Lib.itoa k1).toArray⟩, .string ⟨#[58, 32]⟩, .string ⟨x.toArray⟩, .string ⟨#[10]⟩] 9); obtain ⟨w6, hw6⟩ : ∃ w6, w6 = w5.alloc (.cells #[.string ⟨(Lib.itoa k1).toArray⟩, .string ⟨#[58, 32]⟩, .string ⟨x.toArray⟩, .string ⟨#[10]⟩] 9) := ⟨_, rfl⟩; obtain ⟨v', w8, hrn, hS4, hown4, hsz⟩ := One.appendVs (P := Tryd.prog) (ty := 29) hSa hown.out ((Vs.lit4 w5 (.string ⟨(Lib.itoa k1).toArray⟩) (.string ⟨#[58, 32]⟩) (.string ⟨x.toArray⟩) (.string ⟨#[10]⟩) 9 rfl rfl rfl rfl).src (t := 29) Tryd.underlying29) Tryd.underlying29 infoS rfl (by omega) (by have := hk8.out; omega) (by have := hk8.out; omega); obtain ⟨a', c', rfl, hcap'⟩ := (show Vs _ 0 1 v' (k4 + 4) _ from hS4.fact.2).form; rw [← hw6] at hSa hrn ⊢; have y3 : w6.cell? ⟨w.heap.size, 0, none⟩ = some (.slice al k4 cl) := (show Blk _ _ _ _ from hSa.fact.1.2).cell 0; have y4 : w8.cell? ⟨w.heap.size, 0, none⟩ = some (.slice al k4 cl) := (show Blk _ _ _ _ from hS4.fact.1.2).cell 0; have f4 := (show Blk w8 w.heap.size _ _ from hS4.fact.1.2).frozen 0; replace hS4 := Lib.hid hS4; replace hown4 := Lib.hid hown4; replace hrn := Lib.hid hrn; clear hw6 hcap'
          refine hK _ _ ?_
          clear hK K
          try simp only [Act.put, List.setIfInBounds_toArray, List.set_cons_zero, List.set_cons_succ]
          refine wpAnyIn_ready (rs := [5]) (by kernel_rfl) (by simp) ?_
          refine AllReadyIn.cons rfl (fun K hK => ?_) AllReadyIn.nil
          refine stepIn_append_bs rfl _ _ 29 rfl hrn.out rfl rfl ?_
          refine hK _ _ ?_
          clear hK K
          try simp only [Act.put, List.setIfInBounds_toArray, List.set_cons_zero, List.set_cons_succ]
          refine wpAnyIn_ready (rs := [6]) (by kernel_rfl) (by simp) ?_
          refine AllReadyIn.cons rfl (fun K hK => ?_) AllReadyIn.nil
          go_simp
          refine hK _ _ ?_
          clear hK K
          try simp only [Act.put, List.setIfInBounds_toArray, List.set_cons_zero, List.set_cons_succ]
          refine wpAnyIn_done (by kernel_rfl) ?_ _
          gi_wp2
          have hS5 := (hS4.out.keep (L := (((((PW.and (.blk (w.heap.size + 1) #[.int .i64 k1] 3)).and (.obj W9.heap.size (.deferred (some [])))).and (.obj (W9.heap.size + 1) o)).and (.blk bx #[.string ⟨s.toArray⟩] 9)).and (.vs 1 (.slice a' (k4 + 4) c') (k4 + 4) (sl (piecesL ls k) ++ [.string ⟨(Lib.itoa k1).toArray⟩, .string ⟨#[58, 32]⟩, .string ⟨x.toArray⟩, .string ⟨#[10]⟩]))).and (.blk w.heap.size #[.slice al k4 cl] 29)) fun O h => (h.left.left.and h.right).and h.left.right).set (Nat.le_refl _) (fun hs => by
            rcases hs with hs | hs
            · exact hLn.out hs
            · exact (hown4.out _ hs).2 (.inr rfl)) 0 (.slice a' (k4 + 4) c')
          have hfin := hend.out a' c' _ (hS5.keep fun O h => (h.left.left.and h.right).and h.left.right) (fun b hb => hown4.out b hb)
          first | exact ⟨rfl, hfin⟩ | exact hfin
        refine AllReadyIn.cons rfl (fun K hK => ?_) ?_
        ·
          go_simp
          refine ⟨trivial, ?_⟩; gi_at_call 21; refine (CallsIn.inRound l (callsIn_wide.2 (hS.still (hI.out _ hS.fact.1.1.1.1.1.1.2)))).mono ?_; rintro e w5 ⟨rfl, hS2⟩; have y2 : w5.cell? ⟨w.heap.size, 0, none⟩ = some (.slice al k4 cl) := (show Blk _ _ _ _ from hS2.fact.1.2).cell 0
          refine hK _ _ ?_
          clear hK K
          try simp only [Act.put, List.setIfInBounds_toArray, List.set_cons_zero, List.set_cons_succ]
          refine wpAnyIn_ready (rs := [0, 4]) (by kernel_rfl) (by simp) ?_
          refine AllReadyIn.cons rfl (fun K hK => ?_) ?_
          ·
            go_simp
            refine hK _ _ ?_
            clear hK K
            try simp only [Act.put, List.setIfInBounds_toArray, List.set_cons_zero, List.set_cons_succ]
            refine wpAnyIn_ready (rs := [4]) (by kernel_rfl) (by simp) ?_
            refine AllReadyIn.cons rfl (fun K hK => ?_) AllReadyIn.nil
            go_simp
            have hSa := hS2.alloc (.cells #[.string ⟨(Lib.itoa k1).toArray⟩, .string ⟨#[58, 32]⟩, .string ⟨x.toArray⟩, .string ⟨#[10]⟩] 9); obtain ⟨w6, hw6⟩ : ∃ w6, w6 = w5.alloc (.cells #[.string ⟨(Lib.itoa k1).toArray⟩, .string ⟨#[58, 32]⟩, .string ⟨x.toArray⟩, .string ⟨#[10]⟩] 9) := ⟨_, rfl⟩; obtain ⟨v', w8, hrn, hS4, hown4, hsz⟩ := One.appendVs (P := Tryd.prog) (ty := 29) hSa hown.out ((Vs.lit4 w5 (.string ⟨(Lib.itoa k1).toArray⟩) (.string ⟨#[58, 32]⟩) (.string ⟨x.toArray⟩) (.string ⟨#[10]⟩) 9 rfl rfl rfl rfl).src (t := 29) Tryd.underlying29) Tryd.underlying29 infoS rfl (by omega) (by have := hk8.out; omega) (by have := hk8.out; omega); obtain ⟨a', c', rfl, hcap'⟩ := (show Vs _ 0 1 v' (k4 + 4) _ from hS4.fact.2).form; rw [← hw6] at hSa hrn ⊢; have y3 : w6.cell? ⟨w.heap.size, 0, none⟩ = some (.slice al k4 cl) := (show Blk _ _ _ _ from hSa.fact.1.2).cell 0; have y4 : w8.cell? ⟨w.heap.size, 0, none⟩ = some (.slice al k4 cl) := (show Blk _ _ _ _ from hS4.fact.1.2).cell 0; have f4 := (show Blk w8 w.heap.size _ _ from hS4.fact.1.2).frozen 0; replace hS4 := Lib.hid hS4; replace hown4 := Lib.hid hown4; replace hrn := Lib.hid hrn; clear hw6 hcap'
            refine hK _ _ ?_
            clear hK K
            try simp only [Act.put, List.setIfInBounds_toArray, List.set_cons_zero, List.set_cons_succ]
            refine wpAnyIn_ready (rs := [5]) (by kernel_rfl) (by simp) ?_
            refine AllReadyIn.cons rfl (fun K hK => ?_) AllReadyIn.nil
            refine stepIn_append_bs rfl _ _ 29 rfl hrn.out rfl rfl ?_
            refine hK _ _ ?_
            clear hK K
            try simp only [Act.put, List.setIfInBounds_toArray, List.set_cons_zero, List.set_cons_succ]
            refine wpAnyIn_ready (rs := [6]) (by kernel_rfl) (by simp) ?_
            refine AllReadyIn.cons rfl (fun K hK => ?_) AllReadyIn.nil
            go_simp
            refine hK _ _ ?_
            clear hK K
            try simp only [Act.put, List.setIfInBounds_toArray, List.set_cons_zero, List.set_cons_succ]
            refine wpAnyIn_done (by kernel_rfl) ?_ _
            gi_wp2
            have hS5 := (hS4.out.keep (L := (((((PW.and (.blk (w.heap.size + 1) #[.int .i64 k1] 3)).and (.obj W9.heap.size (.deferred (some [])))).and (.obj (W9.heap.size + 1) o)).and (.blk bx #[.string ⟨s.toArray⟩] 9)).and (.vs 1 (.slice a' (k4 + 4) c') (k4 + 4) (sl (piecesL ls k) ++ [.string ⟨(Lib.itoa k1).toArray⟩, .string ⟨#[58, 32]⟩, .string ⟨x.toArray⟩, .string ⟨#[10]⟩]))).and (.blk w.heap.size #[.slice al k4 cl] 29)) fun O h => (h.left.left.and h.right).and h.left.right).set (Nat.le_refl _) (fun hs => by
              rcases hs with hs | hs
              · exact hLn.out hs
              · exact (hown4.out _ hs).2 (.inr rfl)) 0 (.slice a' (k4 + 4) c')
            have hfin := hend.out a' c' _ (hS5.keep fun O h => (h.left.left.and h.right).and h.left.right) (fun b hb => hown4.out b hb)
            first | exact ⟨rfl, hfin⟩ | exact hfin
          refine AllReadyIn.cons rfl (fun K hK => ?_) ?_
          ·
            go_simp
            have hSa := hS2.alloc (.cells #[.string ⟨(Lib.itoa k1).toArray⟩, .string ⟨#[58, 32]⟩, .string ⟨x.toArray⟩, .string ⟨#[10]⟩] 9); obtain ⟨w6, hw6⟩ : ∃ w6, w6 = w5.alloc (.cells #[.string ⟨(Lib.itoa k1).toArray⟩, .string ⟨#[58, 32]⟩, .string ⟨x.toArray⟩, .string ⟨#[10]⟩] 9) := ⟨_, rfl⟩; obtain ⟨v', w8, hrn, hS4, hown4, hsz⟩ := One.appendVs (P := Tryd.prog) (ty := 29) hSa hown.out ((Vs.lit4 w5 (.string ⟨(Lib.itoa k1).toArray⟩) (.string ⟨#[58, 32]⟩) (.string ⟨x.toArray⟩) (.string ⟨#[10]⟩) 9 rfl rfl rfl rfl).src (t := 29) Tryd.underlying29) Tryd.underlying29 infoS rfl (by omega) (by have := hk8.out; omega) (by have := hk8.out; omega); obtain ⟨a', c', rfl, hcap'⟩ := (show Vs _ 0 1 v' (k4 + 4) _ from hS4.fact.2).form; rw [← hw6] at hSa hrn ⊢; have y3 : w6.cell? ⟨w.heap.size, 0, none⟩ = some (.slice al k4 cl) := (show Blk _ _ _ _ from hSa.fact.1.2).cell 0; have y4 : w8.cell? ⟨w.heap.size, 0, none⟩ = some (.slice al k4 cl) := (show Blk _ _ _ _ from hS4.fact.1.2).cell 0; have f4 := (show Blk w8 w.heap.size _ _ from hS4.fact.1.2).frozen 0; replace hS4 := Lib.hid hS4; replace hown4 := Lib.hid hown4; replace hrn := Lib.hid hrn; clear hw6 hcap'
            refine hK _ _ ?_
            clear hK K
            try simp only [Act.put, List.setIfInBounds_toArray, List.set_cons_zero, List.set_cons_succ]
            refine wpAnyIn_ready (rs := [0]) (by kernel_rfl) (by simp) ?_
            refine AllReadyIn.cons rfl (fun K hK => ?_) AllReadyIn.nil
            go_simp
            refine hK _ _ ?_
            clear hK K
            try simp only [Act.put, List.setIfInBounds_toArray, List.set_cons_zero, List.set_cons_succ]
            refine wpAnyIn_ready (rs := [5]) (by kernel_rfl) (by simp) ?_
            refine AllReadyIn.cons rfl (fun K hK => ?_) AllReadyIn.nil
            refine stepIn_append_bs rfl _ _ 29 rfl hrn.out rfl rfl ?_
            refine hK _ _ ?_
            clear hK K
            try simp only [Act.put, List.setIfInBounds_toArray, List.set_cons_zero, List.set_cons_succ]
            refine wpAnyIn_ready (rs := [6]) (by kernel_rfl) (by simp) ?_
            refine AllReadyIn.cons rfl (fun K hK => ?_) AllReadyIn.nil
            go_simp
            refine hK _ _ ?_
            clear hK K
            try simp only [Act.put, List.setIfInBounds_toArray, List.set_cons_zero, List.set_cons_succ]
            refine wpAnyIn_done (by kernel_rfl) ?_ _
            gi_wp2
            have hS5 := (hS4.out.keep (L := (((((PW.and (.blk (w.heap.size + 1) #[.int .i64 k1] 3)).and (.obj W9.heap.size (.deferred (some [])))).and (.obj (W9.heap.size + 1) o)).and (.blk bx #[.string ⟨s.toArray⟩] 9)).and (.vs 1 (.slice a' (k4 + 4) c') (k4 + 4) (sl (piecesL ls k) ++ [.string ⟨(Lib.itoa k1).toArray⟩, .string ⟨#[58, 32]⟩, .string ⟨x.toArray⟩, .string ⟨#[10]⟩]))).and (.blk w.heap.size #[.slice al k4 cl] 29)) fun O h => (h.left.left.and h.right).and h.left.right).set (Nat.le_refl _) (fun hs => by
              rcases hs with hs | hs
              · exact hLn.out hs
              · exact (hown4.out _ hs).2 (.inr rfl)) 0 (.slice a' (k4 + 4) c')
            have hfin := hend.out a' c' _ (hS5.keep fun O h => (h.left.left.and h.right).and h.left.right) (fun b hb => hown4.out b hb)
            first | exact ⟨rfl, hfin⟩ | exact hfin
          exact AllReadyIn.nil
        exact AllReadyIn.nil
      exact AllReadyIn.nil
    refine AllReadyIn.cons rfl (fun K hK => ?_) ?_
    ·
      go_simp
      refine hK _ _ ?_
      clear hK K
      try simp only [Act.put, List.setIfInBounds_toArray, List.set_cons_zero, List.set_cons_succ]
      refine wpAnyIn_ready (rs := [0, 1]) (by kernel_rfl) (by simp) ?_
      refine AllReadyIn.cons rfl (fun K hK => ?_) ?_
      ·
        go_simp
        refine hK _ _ ?_
        clear hK K
        try simp only [Act.put, List.setIfInBounds_toArray, List.set_cons_zero, List.set_cons_succ]
        refine wpAnyIn_ready (rs := [1]) (by kernel_rfl) (by simp) ?_
        refine AllReadyIn.cons rfl (fun K hK => ?_) AllReadyIn.nil
        go_simp
        refine hK _ _ ?_
        clear hK K
        try simp only [Act.put, List.setIfInBounds_toArray, List.set_cons_zero, List.set_cons_succ]
        refine wpAnyIn_ready (rs := [2]) (by kernel_rfl) (by simp) ?_
        refine AllReadyIn.cons rfl (fun K hK => ?_) AllReadyIn.nil
        go_simp
        refine ⟨trivial, ?_⟩; gi_at_call 21; refine (CallsIn.inRound l (callsIn_wide.2 (hS.still (hI.out _ hS.fact.1.1.1.1.1.1.2)))).mono ?_; rintro e w5 ⟨rfl, hS2⟩; have y2 : w5.cell? ⟨w.heap.size, 0, none⟩ = some (.slice al k4 cl) := (show Blk _ _ _ _ from hS2.fact.1.2).cell 0
        refine hK _ _ ?_
        clear hK K
        try simp only [Act.put, List.setIfInBounds_toArray, List.set_cons_zero, List.set_cons_succ]
        refine wpAnyIn_ready (rs := [4]) (by kernel_rfl) (by simp) ?_
        refine AllReadyIn.cons rfl (fun K hK => ?_) AllReadyIn.nil
        go_simp
        have hSa := hS2.alloc (.cells #[.string ⟨(Lib.itoa k1).toArray⟩, .string ⟨#[58, 32]⟩, .string ⟨x.toArray⟩, .string ⟨#[10]⟩] 9); obtain ⟨w6, hw6⟩ : ∃ w6, w6 = w5.alloc (.cells #[.string ⟨(Lib.itoa k1).toArray⟩, .string ⟨#[58, 32]⟩, .string ⟨x.toArray⟩, .string ⟨#[10]⟩] 9) := ⟨_, rfl⟩; obtain ⟨v', w8, hrn, hS4, hown4, hsz⟩ := One.appendVs (P := Tryd.prog) (ty := 29) hSa hown.out ((Vs.lit4 w5 (.string ⟨(Lib.itoa k1).toArray⟩) (.string ⟨#[58, 32]⟩) (.string ⟨x.toArray⟩) (.string ⟨#[10]⟩) 9 rfl rfl rfl rfl).src (t := 29) Tryd.underlying29) Tryd.underlying29 infoS rfl (by omega) (by have := hk8.out; omega) (by have := hk8.out; omega); obtain ⟨a', c', rfl, hcap'⟩ := (show Vs _ 0 1 v' (k4 + 4) _ from hS4.fact.2).form; rw [← hw6] at hSa hrn ⊢; have y3 : w6.cell? ⟨w.heap.size, 0, none⟩ = some (.slice al k4 cl) := (show Blk _ _ _ _ from hSa.fact.1.2).cell 0; have y4 : w8.cell? ⟨w.heap.size, 0, none⟩ = some (.slice al k4 cl) := (show Blk _ _ _ _ from hS4.fact.1.2).cell 0; have f4 := (show Blk w8 w.heap.size _ _ from hS4.fact.1.2).frozen 0; replace hS4 := Lib.hid hS4; replace hown4 := Lib.hid hown4; replace hrn := Lib.hid hrn; clear hw6 hcap'
        refine hK _ _ ?_
        clear hK K
        try simp only [Act.put, List.setIfInBounds_toArray, List.set_cons_zero, List.set_cons_succ]
        refine wpAnyIn_ready (rs := [5]) (by kernel_rfl) (by simp) ?_
        refine AllReadyIn.cons rfl (fun K hK => ?_) AllReadyIn.nil
        refine stepIn_append_bs rfl _ _ 29 rfl hrn.out rfl rfl ?_
        refine hK _ _ ?_
        clear hK K
        try simp only [Act.put, List.setIfInBounds_toArray, List.set_cons_zero, List.set_cons_succ]
        refine wpAnyIn_ready (rs := [6]) (by kernel_rfl) (by simp) ?_
        refine AllReadyIn.cons rfl (fun K hK => ?_) AllReadyIn.nil
        go_simp
        refine hK _ _ ?_
        clear hK K
        try simp only [Act.put, List.setIfInBounds_toArray, List.set_cons_zero, List.set_cons_succ]
        refine wpAnyIn_done (by kernel_rfl) ?_ _
        gi_wp2
        have hS5 := (hS4.out.keep (L := (((((PW.and (.blk (w.heap.size + 1) #[.int .i64 k1] 3)).and (.obj W9.heap.size (.deferred (some [])))).and (.obj (W9.heap.size + 1) o)).and (.blk bx #[.string ⟨s.toArray⟩] 9)).and (.vs 1 (.slice a' (k4 + 4) c') (k4 + 4) (sl (piecesL ls k) ++ [.string ⟨(Lib.itoa k1).toArray⟩, .string ⟨#[58, 32]⟩, .string ⟨x.toArray⟩, .string ⟨#[10]⟩]))).and (.blk w.heap.size #[.slice al k4 cl] 29)) fun O h => (h.left.left.and h.right).and h.left.right).set (Nat.le_refl _) (fun hs => by
          rcases hs with hs | hs
          · exact hLn.out hs
          · exact (hown4.out _ hs).2 (.inr rfl)) 0 (.slice a' (k4 + 4) c')
        have hfin := hend.out a' c' _ (hS5.keep fun O h => (h.left.left.and h.right).and h.left.right) (fun b hb => hown4.out b hb)
        first | exact ⟨rfl, hfin⟩ | exact hfin
      refine AllReadyIn.cons rfl (fun K hK => ?_) ?_
      ·
        go_simp
        refine hK _ _ ?_
        clear hK K
        try simp only [Act.put, List.setIfInBounds_toArray, List.set_cons_zero, List.set_cons_succ]
        refine wpAnyIn_ready (rs := [0, 2]) (by kernel_rfl) (by simp) ?_
        refine AllReadyIn.cons rfl (fun K hK => ?_) ?_
        ·
          go_simp
          refine hK _ _ ?_
          clear hK K
          try simp only [Act.put, List.setIfInBounds_toArray, List.set_cons_zero, List.set_cons_succ]
          refine wpAnyIn_ready (rs := [2]) (by kernel_rfl) (by simp) ?_
          refine AllReadyIn.cons rfl (fun K hK => ?_) AllReadyIn.nil
          go_simp
          refine ⟨trivial, ?_⟩; gi_at_call 21; refine (CallsIn.inRound l (callsIn_wide.2 (hS.still (hI.out _ hS.fact.1.1.1.1.1.1.2)))).mono ?_; rintro e w5 ⟨rfl, hS2⟩; have y2 : w5.cell? ⟨w.heap.size, 0, none⟩ = some (.slice al k4 cl) := (show Blk _ _ _ _ from hS2.fact.1.2).cell 0
          refine hK _ _ ?_
          clear hK K
          try simp only [Act.put, List.setIfInBounds_toArray, List.set_cons_zero, List.set_cons_succ]
          refine wpAnyIn_ready (rs := [4]) (by kernel_rfl) (by simp) ?_
          refine AllReadyIn.cons rfl (fun K hK => ?_) AllReadyIn.nil
          go_simp
          have hSa := hS2.alloc (.cells #[.string ⟨(Lib.itoa k1).toArray⟩, .string ⟨#[58, 32]⟩, .string ⟨x.toArray⟩, .string ⟨#[10]⟩] 9); obtain ⟨w6, hw6⟩ : ∃ w6, w6 = w5.alloc (.cells #[.string ⟨(Lib.itoa k1).toArray⟩, .string ⟨#[58, 32]⟩, .string ⟨x.toArray⟩, .string ⟨#[10]⟩] 9) := ⟨_, rfl⟩; obtain ⟨v', w8, hrn, hS4, hown4, hsz⟩ := One.appendVs (P := Tryd.prog) (ty := 29) hSa hown.out ((Vs.lit4 w5 (.string ⟨(Lib.itoa k1).toArray⟩) (.string ⟨#[58, 32]⟩) (.string ⟨x.toArray⟩) (.string ⟨#[10]⟩) 9 rfl rfl rfl rfl).src (t := 29) Tryd.underlying29) Tryd.underlying29 infoS rfl (by omega) (by have := hk8.out; omega) (by have := hk8.out; omega); obtain ⟨a', c', rfl, hcap'⟩ := (show Vs _ 0 1 v' (k4 + 4) _ from hS4.fact.2).form; rw [← hw6] at hSa hrn ⊢; have y3 : w6.cell? ⟨w.heap.size, 0, none⟩ = some (.slice al k4 cl) := (show Blk _ _ _ _ from hSa.fact.1.2).cell 0; have y4 : w8.cell? ⟨w.heap.size, 0, none⟩ = some (.slice al k4 cl) := (show Blk _ _ _ _ from hS4.fact.1.2).cell 0; have f4 := (show Blk w8 w.heap.size _ _ from hS4.fact.1.2).frozen 0; replace hS4 := Lib.hid hS4; replace hown4 := Lib.hid hown4; replace hrn := Lib.hid hrn; clear hw6 hcap'
          refine hK _ _ ?_
          clear hK K
          try simp only [Act.put, List.setIfInBounds_toArray, List.set_cons_zero, List.set_cons_succ]
          refine wpAnyIn_ready (rs := [5]) (by kernel_rfl) (by simp) ?_
          refine AllReadyIn.cons rfl (fun K hK => ?_) AllReadyIn.nil
          refine stepIn_append_bs rfl _ _ 29 rfl hrn.out rfl rfl ?_
          refine hK _ _ ?_
          clear hK K
          try simp only [Act.put, List.setIfInBounds_toArray, List.set_cons_zero, List.set_cons_succ]
          refine wpAnyIn_ready (rs := [6]) (by kernel_rfl) (by simp) ?_
          refine AllReadyIn.cons rfl (fun K hK => ?_) AllReadyIn.nil
          go_simp
          refine hK _ _ ?_
          clear hK K
          try simp only [Act.put, List.setIfInBounds_toArray, List.set_cons_zero, List.set_cons_succ]
          refine wpAnyIn_done (by kernel_rfl) ?_ _
          gi_wp2
          have hS5 := (hS4.out.keep (L := (((((PW.and (.blk (w.heap.size + 1) #[.int .i64 k1] 3)).and (.obj W9.heap.size (.deferred (some [])))).and (.obj (W9.heap.size + 1) o)).and (.blk bx #[.string ⟨s.toArray⟩] 9)).and (.vs 1 (.slice a' (k4 + 4) c') (k4 + 4) (sl (piecesL ls k) ++ [.string ⟨(Lib.itoa k1).toArray⟩, .string ⟨#[58, 32]⟩, .string ⟨x.toArray⟩, .string ⟨#[10]⟩]))).and (.blk w.heap.size #[.slice al k4 cl] 29)) fun O h => (h.left.left.and h.right).and h.left.right).set (Nat.le_refl _) (fun hs => by
            rcases hs with hs | hs
            · exact hLn.out hs
            · exact (hown4.out _ hs).2 (.inr rfl)) 0 (.slice a' (k4 + 4) c')
          have hfin := hend.out a' c' _ (hS5.keep fun O h => (h.left.left.and h.right).and h.left.right) (fun b hb => hown4.out b hb)
          first | exact ⟨rfl, hfin⟩ | exact hfin
        refine AllReadyIn.cons rfl (fun K hK => ?_) ?_
        ·
          go_simp
          refine ⟨trivial, ?_⟩; gi_at_call 21; refine (CallsIn.inRound l (callsIn_wide.2 (hS.still (hI.out _ hS.fact.1.1.1.1.1.1.2)))).mono ?_; rintro e w5 ⟨rfl, hS2⟩; have y2 : w5.cell? ⟨w.heap.size, 0, none⟩ = some (.slice al k4 cl) := (show Blk _ _ _ _ from hS2.fact.1.2).cell 0
          refine hK _ _ ?_
          clear hK K
          try simp only [Act.put, List.setIfInBounds_toArray, List.set_cons_zero, List.set_cons_succ]
          refine wpAnyIn_ready (rs := [0, 4]) (by kernel_rfl) (by simp) ?_
          refine AllReadyIn.cons rfl (fun K hK => ?_) ?_
          ·
            go_simp
            refine hK _ _ ?_
            clear hK K
            try simp only [Act.put, List.setIfInBounds_toArray, List.set_cons_zero, List.set_cons_succ]
            refine wpAnyIn_ready (rs := [4]) (by kernel_rfl) (by simp) ?_
            refine AllReadyIn.cons rfl (fun K hK => ?_) AllReadyIn.nil
            go_simp
            have hSa := hS2.alloc (.cells #[.string ⟨(Lib.itoa k1).toArray⟩, .string ⟨#[58, 32]⟩, .string ⟨x.toArray⟩, .string ⟨#[10]⟩] 9); obtain ⟨w6, hw6⟩ : ∃ w6, w6 = w5.alloc (.cells #[.string ⟨(Lib.itoa k1).toArray⟩, .string ⟨#[58, 32]⟩, .string ⟨x.toArray⟩, .string ⟨#[10]⟩] 9) := ⟨_, rfl⟩; obtain ⟨v', w8, hrn, hS4, hown4, hsz⟩ := One.appendVs (P := Tryd.prog) (ty := 29) hSa hown.out ((Vs.lit4 w5 (.string ⟨(Lib.itoa k1).toArray⟩) (.string ⟨#[58, 32]⟩) (.string ⟨x.toArray⟩) (.string ⟨#[10]⟩) 9 rfl rfl rfl rfl).src (t := 29) Tryd.underlying29) Tryd.underlying29 infoS rfl (by omega) (by have := hk8.out; omega) (by have := hk8.out; omega); obtain ⟨a', c', rfl, hcap'⟩ := (show Vs _ 0 1 v' (k4 + 4) _ from hS4.fact.2).form; rw [← hw6] at hSa hrn ⊢; have y3 : w6.cell? ⟨w.heap.size, 0, none⟩ = some (.slice al k4 cl) := (show Blk _ _ _ _ from hSa.fact.1.2).cell 0; have y4 : w8.cell? ⟨w.heap.size, 0, none⟩ = some (.slice al k4 cl) := (show Blk _ _ _ _ from hS4.fact.1.2).cell 0; have f4 := (show Blk w8 w.heap.size _ _ from hS4.fact.1.2).frozen 0; replace hS4 := Lib.hid hS4; replace hown4 := Lib.hid hown4; replace hrn := Lib.hid hrn; clear hw6 hcap'
            refine hK _ _ ?_
            clear hK K
            try simp only [Act.put, List.setIfInBounds_toArray, List.set_cons_zero, List.set_cons_succ]
            refine wpAnyIn_ready (rs := [5]) (by kernel_rfl) (by simp) ?_
            refine AllReadyIn.cons rfl (fun K hK => ?_) AllReadyIn.nil
            refine stepIn_append_bs rfl _ _ 29 rfl hrn.out rfl rfl ?_
            refine hK _ _ ?_
            clear hK K
            try simp only [Act.put, List.setIfInBounds_toArray, List.set_cons_zero, List.set_cons_succ]
            refine wpAnyIn_ready (rs := [6]) (by kernel_rfl) (by simp) ?_
            refine AllReadyIn.cons rfl (fun K hK => ?_) AllReadyIn.nil
            go_simp
            refine hK _ _ ?_
            clear hK K
            try simp only [Act.put, List.setIfInBounds_toArray, List.set_cons_zero, List.set_cons_succ]
            refine wpAnyIn_done (by kernel_rfl) ?_ _
            gi_wp2
            have hS5 := (hS4.out.keep (L := (((((PW.and (.blk (w.heap.size + 1) #[.int .i64 k1] 3)).and (.obj W9.heap.size (.deferred (some [])))).and (.obj (W9.heap.size + 1) o)).and (.blk bx #[.string ⟨s.toArray⟩] 9)).and (.vs 1 (.slice a' (k4 + 4) c') (k4 + 4) (sl (piecesL ls k) ++ [.string ⟨(Lib.itoa k1).toArray⟩, .string ⟨#[58, 32]⟩, .string ⟨x.toArray⟩, .string ⟨#[10]⟩]))).and (.blk w.heap.size #[.slice al k4 cl] 29)) fun O h => (h.left.left.and h.right).and h.left.right).set (Nat.le_refl _) (fun hs => by
              rcases hs with hs | hs
              · exact hLn.out hs
              · exact (hown4.out _ hs).2 (.inr rfl)) 0 (.slice a' (k4 + 4) c')
            have hfin := hend.out a' c' _ (hS5.keep fun O h => (h.left.left.and h.right).and h.left.right) (fun b hb => hown4.out b hb)
            first | exact ⟨rfl, hfin⟩ | exact hfin
          refine AllReadyIn.cons rfl (fun K hK => ?_) ?_
          ·
            go_simp
            have hSa := hS2.alloc (.cells #[.string ⟨(Lib.itoa k1).toArray⟩, .string ⟨#[58, 32]⟩, .string ⟨x.toArray⟩, .string ⟨#[10]⟩] 9); obtain ⟨w6, hw6⟩ : ∃ w6, w6 = w5.alloc (.cells #[.string ⟨(Lib.itoa k1).toArray⟩, .string ⟨#[58, 32]⟩, .string ⟨x.toArray⟩, .string ⟨#[10]⟩] 9) := ⟨_, rfl⟩; obtain ⟨v', w8, hrn, hS4, hown4, hsz⟩ := One.appendVs (P := Tryd.prog) (ty := 29) hSa hown.out ((Vs.lit4 w5 (.string ⟨(Lib.itoa k1).toArray⟩) (.string ⟨#[58, 32]⟩) (.string ⟨x.toArray⟩) (.string ⟨#[10]⟩) 9 rfl rfl rfl rfl).src (t := 29) Tryd.underlying29) Tryd.underlying29 infoS rfl (by omega) (by have := hk8.out; omega) (by have := hk8.out; omega); obtain ⟨a', c', rfl, hcap'⟩ := (show Vs _ 0 1 v' (k4 + 4) _ from hS4.fact.2).form; rw [← hw6] at hSa hrn ⊢; have y3 : w6.cell? ⟨w.heap.size, 0, none⟩ = some (.slice al k4 cl) := (show Blk _ _ _ _ from hSa.fact.1.2).cell 0; have y4 : w8.cell? ⟨w.heap.size, 0, none⟩ = some (.slice al k4 cl) := (show Blk _ _ _ _ from hS4.fact.1.2).cell 0; have f4 := (show Blk w8 w.heap.size _ _ from hS4.fact.1.2).frozen 0; replace hS4 := Lib.hid hS4; replace hown4 := Lib.hid hown4; replace hrn := Lib.hid hrn; clear hw6 hcap'
            refine hK _ _ ?_
            clear hK K
            try simp only [Act.put, List.setIfInBounds_toArray, List.set_cons_zero, List.set_cons_succ]
            refine wpAnyIn_ready (rs := [0]) (by kernel_rfl) (by simp) ?_
            refine AllReadyIn.cons rfl (fun K hK => ?_) AllReadyIn.nil
            go_simp
            refine hK _ _ ?_
            clear hK K
            try simp only [Act.put, List.setIfInBounds_toArray, List.set_cons_zero, List.set_cons_succ]
            refine wpAnyIn_ready (rs := [5]) (by kernel_rfl) (by simp) ?_
            refine AllReadyIn.cons rfl (fun K hK => ?_) AllReadyIn.nil
            refine stepIn_append_bs rfl _ _ 29 rfl hrn.out rfl rfl ?_
            refine hK _ _ ?_
            clear hK K
            try simp only [Act.put, List.setIfInBounds_toArray, List.set_cons_zero, List.set_cons_succ]
            refine wpAnyIn_ready (rs := [6]) (by kernel_rfl) (by simp) ?_
            refine AllReadyIn.cons rfl (fun K hK => ?_) AllReadyIn.nil
            go_simp
            refine hK _ _ ?_
            clear hK K
            try simp only [Act.put, List.setIfInBounds_toArray, List.set_cons_zero, List.set_cons_succ]
            refine wpAnyIn_done (by kernel_rfl) ?_ _
            gi_wp2
            have hS5 := (hS4.out.keep (L := (((((PW.and (.blk (w.heap.size + 1) #[.int .i64 k1] 3)).and (.obj W9.heap.size (.deferred (some [])))).and (.obj (W9.heap.size + 1) o)).and (.blk bx #[.string ⟨s.toArray⟩] 9)).and (.vs 1 (.slice a' (k4 + 4) c') (k4 + 4) (sl (piecesL ls k) ++ [.string ⟨(Lib.itoa k1).toArray⟩, .string ⟨#[58, 32]⟩, .string ⟨x.toArray⟩, .string ⟨#[10]⟩]))).and (.blk w.heap.size #[.slice al k4 cl] 29)) fun O h => (h.left.left.and h.right).and h.left.right).set (Nat.le_refl _) (fun hs => by
              rcases hs with hs | hs
              · exact hLn.out hs
              · exact (hown4.out _ hs).2 (.inr rfl)) 0 (.slice a' (k4 + 4) c')
            have hfin := hend.out a' c' _ (hS5.keep fun O h => (h.left.left.and h.right).and h.left.right) (fun b hb => hown4.out b hb)
            first | exact ⟨rfl, hfin⟩ | exact hfin
          exact AllReadyIn.nil
        exact AllReadyIn.nil
      exact AllReadyIn.nil
    exact AllReadyIn.nil
  case done =>
    rintro o W ⟨lv, hT, hown⟩
    replace hT : One w W B mb M O ((LK bx W9.heap.size w.heap.size (.blk (w.heap.size + 1) #[.int .i64 (ls.length : Int)] 3) [] o lv).and (.vs 1 lv (sl (piecesL ls ls.length)).length (sl (piecesL ls ls.length)))) := hT
    rw [sl_len] at hT
    have hpl := piecesL_len ls ls.length
    have hRv0 := (show Vs _ 0 1 _ _ _ from hT.fact.2).rv
    have hJo := wJoined W lv (piecesL ls ls.length) hRv0 (by rw [hpf]; omega) (by rw [hpl]; omega)
    rw [hpf] at hJo
    generalize piecesL ls ls.length = pcs at *
    obtain ⟨n4, hn4⟩ : ∃ n4, n4 = pcs.length := ⟨_, rfl⟩
    rw [← hn4] at hT
    obtain ⟨al, cl, rfl, -⟩ := (show Vs _ 0 1 _ _ _ from hT.fact.2).form
    have y0 : W.cell? ⟨w.heap.size, 0, none⟩ = some (.slice al n4 cl) := (show Blk _ _ _ _ from hT.fact.1.2).cell 0
    replace hJo := Lib.hid hJo
    replace hown := Lib.hid (show ∀ b, (Value.slice al n4 cl).ownBlock = some b → b ≠ W9.heap.size from fun b hb e => (hown b hb).2 (by rw [e]; exact .inl (.inl (.inl (.inr rfl)))))
    clear hpf hRv0 hpl hn4 hsl
    gi_wp2
    refine ⟨trivial, ?_⟩
    gi_at_call 22
    refine (callsIn_wide.2 (hT.still hJo.out)).mono ?_
    rintro e w4 ⟨rfl, hT4⟩
    have dN : w4.heap[W9.heap.size]? = some (.deferred (some [])) := hT4.fact.1.1.1.1.2
    have hP := One.st.putObj (hT4.keep (L := (((((PW.and (.blk (w.heap.size + 1) #[.int .i64 (ls.length : Int)] 3)).and (.obj (W9.heap.size + 1) o)).and (.blk bx #[.string ⟨[].toArray⟩] 9)).and (.blk w.heap.size #[.slice al n4 cl] 29)).and (.vs 1 (.slice al n4 cl) n4 (sl pcs))).and (.obj W9.heap.size (.deferred (some [])))) fun O h => ((((h.left.left.left.left.left.and h.left.left.left.right).and h.left.left.right).and h.left.right).and h.right).and h.left.left.left.left.right) (by omega) (fun hs => by
      rcases hs with ((((hs | hs) | hs) | hs) | hs) | hs
      · have : W9.heap.size = 0 ∨ W9.heap.size = 1 := hs
        omega
      · have : W9.heap.size = w.heap.size + 1 := hs
        omega
      · have : W9.heap.size = W9.heap.size + 1 := hs
        omega
      · have : W9.heap.size = bx := hs
        omega
      · have : W9.heap.size = w.heap.size := hs
        omega
      · exact hown.out _ hs rfl) (.deferred none)
    replace hP := Lib.hid hP
    clear hT hT4
    gi_wp2
    refine ⟨by simp, .inl ⟨_, _, rfl, run_takeDeferred dN, ?_⟩⟩
    refine ⟨_, results_tmp rfl _ _ _, ?_⟩
    exact hP.out.memQ _
end Go.Proofs.YtjkpapkjlmglbaaDoor
