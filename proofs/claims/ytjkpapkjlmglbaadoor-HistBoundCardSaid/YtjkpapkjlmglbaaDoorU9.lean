/- What a loop over lines keeps; 'Lines'. -/
import Derived.Test.YtjkpapkjlmglbaaDoorU8
namespace Go.Proofs.YtjkpapkjlmglbaaDoor
open Go.RowKit Go.Shelf
set_option linter.unusedVariables false
set_option linter.unusedSimpArgs false
attribute [local go_sem] Oper.semAt_some cell_set set_set m_undef

def LK (bx N L : Nat) (E : Kp) (s : List UInt8) (o : Obj) (lv : Value) : Kp := ((((PW.and E).and (.obj N (.deferred (some [])))).and (.obj (N + 1) o)).and (.blk bx #[.string ⟨s.toArray⟩] 9)).and (.blk L #[lv] 29)
def LJ (W0 : World) (B mb : Nat) (M : List UInt8) (O0 : Nat → Prop) (bx N L : Nat) (E : Nat → Kp) (V : Nat → List Value) (o : Obj) (k : Nat) (s : List UInt8) (W : World) : Prop :=
  ∃ lv, One W0 W B mb M O0 ((LK bx N L (E k) s o lv).and (.vs 1 lv (V k).length (V k))) ∧ ∀ b, lv.ownBlock = some b → W0.heap.size ≤ b ∧ ¬ (LK bx N L (E k) s o lv).S b
theorem bel_drewN (w : World) (n : Nat) : Below w.heap.size w (w.drewN n) := ⟨rfl, rfl, rfl, Nat.le_refl _, fun _ _ => rfl⟩
theorem LJ.loop {W0 : World} {B mb : Nat} {M : List UInt8} {O0 : Nat → Prop} {bx N L : Nat} {E : Nat → Kp} {V : Nat → List Value} (hg : 1 < W0.heap.size) (hL : W0.heap.size ≤ L) (hb : L < bx) (hN : bx < N) (hE : ∀ k j, (E k).S j → j < bx ∧ j ≠ L) :
    LoopI bx N (LJ W0 B mb M O0 bx N L E V) := {
  recd := fun ⟨lv, h, _⟩ => h.fact.1.1.1.2
  cell := fun ⟨lv, h, _⟩ => h.fact.1.1.2
  putRec := fun {o k s W} ⟨lv, h, ho⟩ o' => by
    refine ⟨lv, ?_, ho⟩
    have h1 : One W0 W B mb M O0 ((((((PW.and (E k)).and (.obj N (.deferred (some [])))).and (.blk bx #[.string ⟨s.toArray⟩] 9)).and (.blk L #[lv] 29)).and (.vs 1 lv (V k).length (V k))).and (.obj (N + 1) o)) := h.keep fun O h => (((h.left.left.left.left.and h.left.left.right).and h.left.right).and h.right).and h.left.left.left.right
    refine (One.st.putObj h1 (by omega) (fun hs => ?_) o').keep fun O h => (((h.left.left.left.left.and h.right).and h.left.left.left.right).and h.left.left.right).and h.left.right
    rcases hs with ((((hs | hs) | hs) | hs) | hs) | hs
    · have : N + 1 = 0 ∨ N + 1 = 1 := hs
      omega
    · have := hE k _ hs; omega
    · have : N + 1 = N := hs
      omega
    · have : N + 1 = bx := hs
      omega
    · have : N + 1 = L := hs
      omega
    · exact (ho _ hs).2 (.inl (.inl (.inr rfl)))
  putBx := fun {o k s W} ⟨lv, h, ho⟩ s' => by
    refine ⟨lv, ?_, ho⟩
    have h1 : One W0 W B mb M O0 ((((((PW.and (E k)).and (.obj N (.deferred (some [])))).and (.obj (N + 1) o)).and (.blk L #[lv] 29)).and (.vs 1 lv (V k).length (V k))).and (.blk bx #[.string ⟨s.toArray⟩] 9)) := h.keep fun O h => ((h.left.left.left.and h.left.right).and h.right).and h.left.left.right
    refine (h1.set (by omega) (fun hs => ?_) 0 (.string ⟨s'.toArray⟩)).keep fun O h => ((h.left.left.left.and h.right).and h.left.left.right).and h.left.right
    rcases hs with ((((hs | hs) | hs) | hs) | hs) | hs
    · have : bx = 0 ∨ bx = 1 := hs
      omega
    · have := hE k _ hs; omega
    · have : bx = N := hs
      omega
    · have : bx = N + 1 := hs
      omega
    · have : bx = L := hs
      omega
    · exact (ho _ hs).2 (.inl (.inr rfl))
  drew := fun {o k s W} ⟨lv, h, ho⟩ n => ⟨lv, h.below (bel_drewN _ n), ho⟩
  max := fun ⟨lv, h, _⟩ => h.fact.1.1.1.1.1.1.1 }
section
variable {P : Program} {w w' : World} {v u v' : Value}
theorem wpListIn_append_bs {F : Fence} {n : Nat} {ops : Array Oper} {rest : List Oper} {o : Oper} {a : Act} {Q : Exit → Act → World → Prop} (hgd : o.guard = none) (s x : Operand) (t : TypeId) (ho : o.op = .call { callee := .builtin .append, args := #[s, x], argTypes := #[t, t] })
    (hr : (Builtin.append_ #[t, t] o.type #[v, u]).run P w = .ok v' w') (hs : a.eval s = v) (hx : a.eval x = u) (h : wpListIn F n P ops Q rest (a.put o.dst v') w') : wpListIn F n P ops Q (o :: rest) a w := by
  refine wpListIn_plain hgd fun K hK' => ?_
  unfold Oper.wpIn
  refine ⟨?_, ?_⟩
  · simp [Oper.about, ho, resolve, Target.leads, Sem.run_pure]
  · rw [Oper.semAt_plain F _ _ (by rw [ho]; intro c hc'; cases hc')]
    simp [execOp, ho, resolve, invoke, builtin, hs, hx, hr, Result.andThen]
    exact hK' _ _ h
end
attribute [local irreducible] textV linesL
set_option maxRecDepth 100000 in
set_option maxHeartbeats 2000000 in
theorem wLines {w : World} {B mb : Nat} {M : List UInt8} {O : Nat → Prop} (h : MemP w B mb M O) (hB : B ≤ w.heap.size) (hK : Keep w O PW) :
    Calls Tryd.prog 10 #[.pointer (some ⟨mb, 0, none⟩)] w fun e w' => MemX w w' B mb O (fun v : Value => v) (fun _ => M) (fun v => .vsN w.heap.size 1 v (linesL (textV M)).length (sl (linesL (textV M)))) e := by
  have hg := hK.1.lt
  have hS := (One.startK h hB hK).new #[.slice none 0 0] 29
  have hTx := Lib.hid (fun (w9 : World) (O : Nat → Prop) (h : MemP w9 B mb M O) (hb : B ≤ w9.heap.size) => wText h hb)
  have hend := textV_ended M
  have hlen := textV_len M
  generalize textV M = t at *
  obtain ⟨ls, rfl, hno⟩ := hend
  have hll : linesL (joinL ls) = ls := linesL_join ls hno
  rw [hll]
  have hl := linesL_len (joinL ls)
  rw [hll] at hl
  clear h hB hK hll
  refine (callsIn_wide (n := 3)).1 ?_
  refine callsIn_of_wp_marks Tryd.func10 rfl trivial ?_ rfl
  simp only [Tryd.ntmps10, List.size_toArray, List.length_cons, List.length_nil, Nat.reduceAdd, Nat.reduceSub, Array.replicate_succ, Array.replicate_zero, List.push_toArray, List.append_toArray, List.nil_append, List.cons_append]
  gi_wp2
  refine ⟨trivial, ?_⟩
  gi_at_call 19
  refine (callsIn_wide.2 (hS.mem (fun O h hb => hTx.out _ _ h hb))).mono ?_
  rintro e w2 ⟨rfl, hS2⟩
  clear hS
  have hS3 := hS2.new #[.string ⟨(joinL ls).toArray⟩] 9
  have hs2 := hS2.size
  have hL2 : w.heap.size < w2.heap.size := hS2.slt (.inr rfl)
  gi_wp2
  refine ⟨trivial, ?_⟩
  gi_at_call 18
  refine (callsIn_wide.2 (wLinesF _ _)).mono ?_
  rintro e w3 ⟨rfl, rfl⟩
  obtain ⟨bx, hbx⟩ : ∃ bx, bx = w2.heap.size := ⟨_, rfl⟩
  obtain ⟨W9, hW9⟩ : ∃ W9, W9 = w2.alloc (.cells #[.string ⟨(joinL ls).toArray⟩] 9) := ⟨_, rfl⟩
  have hN : bx < W9.heap.size := by rw [hW9, hbx]; simp
  rw [← hW9, ← hbx] at hS3
  rw [← hW9, ← hbx]
  rw [← hbx] at hL2
  clear hW9 hbx hS2 hTx
  have hLI : LoopI bx W9.heap.size (LJ w B mb M O bx W9.heap.size w.heap.size (fun _ => .emp) (fun k => sl (ls.take k))) := LJ.loop hg (Nat.le_refl _) hL2 (by omega) (fun k j hj => hj.elim)
  gi_wp2
  refine wpIn_range_lines (by omega) (bx := bx) rfl rfl hLI ls hno (by omega) ?start (fun x => { tmps := #[.pointer (some ⟨mb, 0, none⟩), undef, .slice none 0 0, .pointer (some ⟨w.heap.size, 0, none⟩), .string ⟨x.toArray⟩, .pointer (some ⟨mb, 0, none⟩), .string ⟨(joinL ls).toArray⟩, .func (.func 29) #[] #[.pointer (some ⟨bx, 0, none⟩)], .string ⟨x.toArray⟩, undef, undef, undef, undef, undef], defers := [] }) ?assign ?body ?done
  case start =>
    intro o
    refine ⟨.slice none 0 0, ?_, fun b hb => by cases hb⟩
    have h1 := One.st.newObj (One.st.newObj hS3 (.deferred (some []))) o
    rw [World.size_alloc] at h1
    exact h1.keep fun O h => (((((h.left.left.left.left.and (Keep.emp _ _)).and h.left.right).and h.right).and h.left.left.right).and h.left.left.left.right).and (Keep.vs (Vs.nil _ 0 1) (fun b hb => by cases hb))
  case assign =>
    intro l x W K hK
    gi_wp2
    exact hK
  case body =>
    rintro l o k x s W hx ⟨lv, hT, hown⟩
    have hk8 := (List.getElem?_eq_some_iff.1 hx).1
    have hlk : (sl (ls.take k)).length = k := by rw [sl_len, List.length_take]; omega
    have hlk2 : (sl (ls.take (k + 1))).length = k + 1 := by rw [sl_len, List.length_take]; omega
    replace hT : One w W B mb M O ((LK bx W9.heap.size w.heap.size .emp s o lv).and (.vs 1 lv (sl (ls.take k)).length (sl (ls.take k)))) := hT
    rw [hlk] at hT
    obtain ⟨al, cl, rfl, hcl⟩ := (show Vs _ 0 1 _ _ _ from hT.fact.2).form
    have y0 : W.cell? ⟨w.heap.size, 0, none⟩ = some (.slice al k cl) := (show Blk _ _ _ _ from hT.fact.1.2).cell 0
    have hSa := hT.alloc (.cells #[.string ⟨x.toArray⟩] 9)
    obtain ⟨v', w9, hrn, hS4, hown4, hsz⟩ := One.appendVs (P := Tryd.prog) (ty := 29) hSa hown ((Vs.lit1 _ (.string ⟨x.toArray⟩) _ rfl).src (t := 29) Tryd.underlying29) Tryd.underlying29 infoS rfl (by omega) (by omega) (by omega)
    obtain ⟨a', c', rfl, hcap'⟩ := (show Vs _ 0 1 v' (k + 1) _ from hS4.fact.2).form
    have hV2 : sl (ls.take k) ++ [.string ⟨x.toArray⟩] = sl (ls.take (k + 1)) := by
      rw [List.take_add_one, hx]; simp [sl]
    have hV3 : Kp.vs 1 (.slice a' (k + 1) c') (k + 1) (sl (ls.take (k + 1))) = Kp.vs 1 (.slice a' (k + 1) c') (sl (ls.take (k + 1))).length (sl (ls.take (k + 1))) := by rw [hlk2]
    rw [hV2, hV3] at hS4
    have y1 : w9.cell? ⟨w.heap.size, 0, none⟩ = some (.slice al k cl) := (show Blk _ _ _ _ from hS4.fact.1.2).cell 0
    have f1 := (show Blk w9 w.heap.size _ _ from hS4.fact.1.2).frozen 0
    have hS5 := (hS4.keep (L := (((((PW.and .emp).and (.obj W9.heap.size (.deferred (some [])))).and (.obj (W9.heap.size + 1) o)).and (.blk bx #[.string ⟨s.toArray⟩] 9)).and (.vs 1 (.slice a' (k + 1) c') (sl (ls.take (k + 1))).length (sl (ls.take (k + 1))))).and (.blk w.heap.size #[.slice al k cl] 29)) fun O h => (h.left.left.and h.right).and h.left.right).set (Nat.le_refl _) (fun hs => by
      rcases hs with hs | hs
      · rcases hs with ((((hs | hs) | hs) | hs) | hs)
        · have : w.heap.size = 0 ∨ w.heap.size = 1 := hs
          omega
        · exact hs
        · have : w.heap.size = W9.heap.size := hs
          omega
        · have : w.heap.size = W9.heap.size + 1 := hs
          omega
        · have : w.heap.size = bx := hs
          omega
      · exact (hown4 _ hs).2 (.inr rfl)) 0 (.slice a' (k + 1) c')
    have hJ := Lib.hid (show LJ w B mb M O bx W9.heap.size w.heap.size (fun _ => .emp) (fun k => sl (ls.take k)) o (k + 1) s (w9.setCell ⟨w.heap.size, 0, none⟩ (.slice a' (k + 1) c')) from ⟨.slice a' (k + 1) c', hS5.keep fun O h => (h.left.left.and h.right).and h.left.right, hown4⟩)
    clear hT hown hSa hS4 hown4 hsz hV2 hV3 hS5 hcl hk8 hlk hlk2 hx hcap'
    gi_wp2_with (gi_at_builtin; refine wpListIn_append_bs rfl _ _ 29 rfl hrn rfl rfl ?_)
    first | exact ⟨rfl, hJ.out⟩ | exact hJ.out
  case done =>
    rintro o W ⟨lv, hT, hown⟩
    replace hT : One w W B mb M O ((LK bx W9.heap.size w.heap.size .emp [] o lv).and (.vs 1 lv (sl (ls.take ls.length)).length (sl (ls.take ls.length)))) := hT
    rw [List.take_length, sl_len] at hT
    obtain ⟨al, cl, rfl, -⟩ := (show Vs _ 0 1 _ _ _ from hT.fact.2).form
    have y0 : W.cell? ⟨w.heap.size, 0, none⟩ = some (.slice al ls.length cl) := (show Blk _ _ _ _ from hT.fact.1.2).cell 0
    have dN : W.heap[W9.heap.size]? = some (.deferred (some [])) := hT.fact.1.1.1.1.2
    have hP := One.st.putObj (hT.keep (L := (((((PW.and .emp).and (.obj (W9.heap.size + 1) o)).and (.blk bx #[.string ⟨[].toArray⟩] 9)).and (.blk w.heap.size #[.slice al ls.length cl] 29)).and (.vs 1 (.slice al ls.length cl) ls.length (sl ls))).and (.obj W9.heap.size (.deferred (some [])))) fun O h => ((((h.left.left.left.left.left.and h.left.left.left.right).and h.left.left.right).and h.left.right).and h.right).and h.left.left.left.left.right) (by omega) (fun hs => by
      rcases hs with ((((hs | hs) | hs) | hs) | hs) | hs
      · have : W9.heap.size = 0 ∨ W9.heap.size = 1 := hs
        omega
      · exact hs
      · have : W9.heap.size = W9.heap.size + 1 := hs
        omega
      · have : W9.heap.size = bx := hs
        omega
      · have : W9.heap.size = w.heap.size := hs
        omega
      · exact (hown _ hs).2 (.inl (.inl (.inl (.inr rfl))))) (.deferred none)
    replace hP := Lib.hid hP
    replace hown := Lib.hid (show ∀ b, (Value.slice al ls.length cl).ownBlock = some b → w.heap.size ≤ b from fun b hb => (hown b hb).1)
    clear hT
    gi_wp2
    refine ⟨by simp, .inl ⟨_, _, rfl, run_takeDeferred dN, ?_⟩⟩
    refine ⟨_, results_tmp rfl _ _ _, ?_⟩
    obtain ⟨O', q1, q2, q3, q4⟩ := hP.out
    exact ⟨_, O', rfl, q1, q2, q3.left.right.vsN hown.out⟩
end Go.Proofs.YtjkpapkjlmglbaaDoor
