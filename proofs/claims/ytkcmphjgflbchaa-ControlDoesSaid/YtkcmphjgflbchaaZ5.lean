/- Texts merged: Q4 SQ H1 H2 H3 H4 H5 H7 PB1 PB2 PB3 PB4 PB5 PB6 PB7 PB8. -/
import Derived.Test.YtkcmphjgflbchaaZ4
import Derived.WalkKit
import Derived.WalkSpells
import Derived.WalkLawsBesides
import Derived.WalkSmall
import Derived.Lib.Hide
import Derived.Deep.WholeRow
import Derived.Great.Walk
import Derived.Test.YtkcmphjgflbchaaProg
import Derived.Deep.CutRange
import Derived.Deep.DeepCutAuto
import Derived.RangeFuncNested
import Derived.RangeFuncBound
import Derived.RangeFuncCalls
import Derived.RangeFuncLeaves
import Derived.RangeFuncWrites
import Derived.Shelf.Abstract
import Derived.Shelf.RegionOpen
import Derived.OwnWalkIn
import Derived.TacticsInMore
import Derived.LoopNIn
import Derived.LoopIn
import Derived.Maps.OwnIn
import Derived.StringKeys
import Derived.Maps.OwnOps
import Derived.Maps.Views
/- One memory, made behind W. -/
namespace Go.Proofs.Ytkcmphjgflbchaa
open Go.RowKit
set_option linter.unusedVariables false
set_option linter.unusedSimpArgs false

/-- One memory, made behind W. -/
def Uno (W w : World) (mb : Nat) (M : List UInt8) (K : Kp) : Prop := ∃ B O, W.heap.size ≤ B ∧ B ≤ w.heap.size ∧ MemP w B mb M O ∧ Below W.heap.size W w ∧ Keep w O K
section
variable {W w : World} {mb : Nat} {M : List UInt8} {K L : Kp}
theorem Uno.make {w1 w2 : World} {O : Nat → Prop} (hb1 : Below W.heap.size W w1) (hK : Keep w1 (fun _ => False) K) (hP : MemP w2 w1.heap.size mb M O) (hb2 : Below w1.heap.size w1 w2) : Uno W w2 mb M K :=
  ⟨w1.heap.size, O, hb1.size, hb2.size, hP, bel_trans hb1 hb2, (hK.turn (Turn.of_below hb2 _)).1, fun k hk => by
    have h1 := (hK.2 k hk).1
    have h2 := hb2.size
    refine ⟨by omega, fun hO => ?_⟩
    have := (hP.lt hO).2; omega⟩
theorem Uno.fact (h : Uno W w mb M K) : K.P w := by obtain ⟨_, _, _, _, _, _, h⟩ := h; exact h.1
theorem Uno.bel (h : Uno W w mb M K) : Below W.heap.size W w := by obtain ⟨_, _, _, _, _, h, _⟩ := h; exact h
theorem Uno.len (h : Uno W w mb M K) : M.length = 8192 := by obtain ⟨_, _, _, _, h, _⟩ := h; exact h.len
theorem Uno.keep (h : Uno W w mb M K) (hL : ∀ O, Keep w O K → Keep w O L) : Uno W w mb M L := by
  obtain ⟨B, O, h1, h2, h3, h4, h5⟩ := h
  exact ⟨B, O, h1, h2, h3, h4, hL _ h5⟩
theorem Uno.weak (h : Uno W w mb M (K.and L)) : Uno W w mb M K := h.keep fun _ h => h.left
theorem Uno.below {w' : World} (h : Uno W w mb M K) (hb : Below w.heap.size w w') : Uno W w' mb M K := by
  obtain ⟨B, O, h1, h2, h3, h4, h5⟩ := h
  exact ⟨B, O, h1, Nat.le_trans h2 hb.size, h3.below hb, h4.trans (hb.mono (Nat.le_trans h1 h2)), h5.turn (Turn.of_below hb _)⟩
theorem Uno.alloc (h : Uno W w mb M K) (o : Obj) : Uno W (w.alloc o) mb M K := h.below (bel_alloc (Below.refl _ _) o)
theorem Uno.drew (h : Uno W w mb M K) : Uno W w.drew mb M K := h.below (bel_drew (Below.refl _ _))
theorem Uno.newK {w' : World} (h : Uno W w mb M K) (hb : Below w.heap.size w w') (hL : L.P w') (hS : ∀ k, L.S k → w.heap.size ≤ k ∧ k < w'.heap.size) : Uno W w' mb M (K.and L) := by
  obtain ⟨B, O, h1, h2, h3, h4, h5⟩ := h
  exact ⟨B, O, h1, Nat.le_trans h2 hb.size, h3.below hb, h4.trans (hb.mono (Nat.le_trans h1 h2)), (h5.turn (Turn.of_below hb _)).and ⟨hL, fun k hk => ⟨(hS k hk).2, fun hO => by
    have hk1 := (hS k hk).1
    have := (h3.lt hO).1; omega⟩⟩⟩
theorem Uno.new (h : Uno W w mb M K) (c : Array Value) (t : TypeId) : Uno W (w.alloc (.cells c t)) mb M (K.and (.blk w.heap.size c t)) :=
  h.newK (bel_alloc (Below.refl _ _) _) (Blk.new _ _ _) (fun k hk => by cases hk; exact ⟨Nat.le_refl _, by simp⟩)
theorem Uno.newBs {w' : World} (h : Uno W w mb M K) (hb : Below w.heap.size w w') {v : Value} {l : List UInt8} (hv : Bs w' w.heap.size v l) : Uno W w' mb M (K.and (.bs v l)) :=
  h.newK hb hv.zero (fun k hk => by
    rcases hv.lt with e | ⟨x, e, hx1, hx2⟩
    · rw [show v.ownBlock = some k from hk] at e; cases e
    · rw [show v.ownBlock = some k from hk] at e; cases e; exact ⟨hx1, hx2⟩)
theorem Uno.newVs {w' : World} (h : Uno W w mb M K) (hb : Below w.heap.size w w') {k n : Nat} {v : Value} {cs : List Value} (hv : Vs w' w.heap.size k v n cs) : Uno W w' mb M (K.and (.vs k v n cs)) :=
  h.newK hb hv.zero (fun b hb2 => by
    rcases hv.own with e | ⟨x, e, hx1, hx2⟩
    · rw [show v.ownBlock = some b from hb2] at e; cases e
    · rw [show v.ownBlock = some b from hb2] at e; cases e; exact ⟨hx1, hx2⟩)
theorem Uno.set {b : Nat} {c : Array Value} {t : TypeId} (h : Uno W w mb M (K.and (.blk b c t))) (hb : W.heap.size ≤ b) (hK : ¬ K.S b) (o : Nat) (v : Value) : Uno W (w.setCell ⟨b, o, none⟩ v) mb M (K.and (.blk b (c.setIfInBounds o v) t)) := by
  obtain ⟨B, O, h1, h2, h3, h4, h5⟩ := h
  have hO : ¬ O b := (h5.2 b (.inr rfl)).2
  exact ⟨B, O, h1, by rw [World.size_setCell]; exact h2, h3.setOwn hO v, bel_set h4 hb v, (h5.left.set hK v).and (Keep.blk (h5.right.1.set o v) hO)⟩
theorem Uno.memXK {α : Type} (h : Uno W w mb M K) {f : Nat} {args : Array Value} {ret : α → Value} {M' : α → List UInt8} {G : α → Kp} (c : ∀ B O, MemP w B mb M O → B ≤ w.heap.size → Keep w O K → Calls Try.prog f args w fun e w' => MemX w w' B mb O ret M' G e) :
    Calls Try.prog f args w fun e w' => ∃ x, e = .returned (ret x) ∧ Uno W w' mb (M' x) (K.and (G x)) := by
  obtain ⟨B, O, h1, h2, h3, h4, h5⟩ := h
  exact (c B O h3 h2 h5).mono fun e w' ⟨x, O', he, h8, h9, h10⟩ => ⟨x, he, B, O', h1, Nat.le_trans h2 h9.size, h8, h4.trans ((h9.below (fun k hk => (h3.lt hk).2) h2).mono h1), (h5.turn h9).and h10⟩
theorem Uno.memX {α : Type} (h : Uno W w mb M K) {f : Nat} {args : Array Value} {ret : α → Value} {M' : α → List UInt8} {G : α → Kp} (c : ∀ B O, MemP w B mb M O → B ≤ w.heap.size → Calls Try.prog f args w fun e w' => MemX w w' B mb O ret M' G e) :
    Calls Try.prog f args w fun e w' => ∃ x, e = .returned (ret x) ∧ Uno W w' mb (M' x) (K.and (G x)) := h.memXK fun B O h1 h2 _ => c B O h1 h2
theorem Uno.memK (h : Uno W w mb M K) {f : Nat} {args : Array Value} {M' : List UInt8} {v : Value} (c : ∀ B O, MemP w B mb M O → B ≤ w.heap.size → Keep w O K → Calls Try.prog f args w fun e w' => MemQ w w' B mb M' O v e) :
    Calls Try.prog f args w fun e w' => e = .returned v ∧ Uno W w' mb M' K := by
  obtain ⟨B, O, h1, h2, h3, h4, h5⟩ := h
  exact (c B O h3 h2 h5).mono fun e w' ⟨he, O', h8, h9⟩ => ⟨he, B, O', h1, Nat.le_trans h2 h9.size, h8, h4.trans ((h9.below (fun k hk => (h3.lt hk).2) h2).mono h1), h5.turn h9⟩
theorem Uno.mem (h : Uno W w mb M K) {f : Nat} {args : Array Value} {M' : List UInt8} {v : Value} (c : ∀ B O, MemP w B mb M O → B ≤ w.heap.size → Calls Try.prog f args w fun e w' => MemQ w w' B mb M' O v e) :
    Calls Try.prog f args w fun e w' => e = .returned v ∧ Uno W w' mb M' K := h.memK fun B O h1 h2 _ => c B O h1 h2
theorem Uno.load (h : Uno W w mb M K) {f : Nat} {args : Array Value} {l : List UInt8} (c : ∀ B O, MemP w B mb M O → B ≤ w.heap.size → Calls Try.prog f args w fun e w' => LoadQ w w' B mb M O l e) :
    Calls Try.prog f args w fun e w' => ∃ v, e = .returned v ∧ Uno W w' mb M (K.and (.bs v l)) := by
  obtain ⟨B, O, h1, h2, h3, h4, h5⟩ := h
  exact (c B O h3 h2).mono fun e w' ⟨v, O', he, hv, h8, h9, h10⟩ => ⟨v, he, B, O', h1, Nat.le_trans h2 h9.size, h8, h4.trans ((h9.below (fun k hk => (h3.lt hk).2) h2).mono h1), (h5.turn h9).and (Keep.bs hv h10)⟩
theorem Uno.still (h : Uno W w mb M K) {f : Nat} {args : Array Value} {Q : Ending → World → Prop} (c : Calls Try.prog f args w fun e w' => Q e w' ∧ Below w.heap.size w w') :
    Calls Try.prog f args w fun e w' => Q e w' ∧ Uno W w' mb M K := c.mono fun e w' ⟨hq, hb⟩ => ⟨hq, h.below hb⟩
theorem Uno.old (h : Uno W w mb M K) (hL : L.P W) (hS : ∀ k, L.S k → k < W.heap.size) : Uno W w mb M (K.and L) := by
  obtain ⟨B, O, h1, h2, h3, h4, h5⟩ := h
  exact ⟨B, O, h1, h2, h3, h4, h5.and ⟨L.stable W w (fun k hk hl => h4.block k hl) h4.size hL, fun k hk => ⟨Nat.lt_of_lt_of_le (hS k hk) h4.size, fun hO => by
    have := hS k hk
    have := (h3.lt hO).2; omega⟩⟩⟩
theorem Uno.oldRv (h : Uno W w mb M K) {k n : Nat} {v : Value} {cs : List Value} (hR : Rv W k v n cs) : Uno W w mb M (K.and (.rv k v n cs)) := h.old hR (fun b hb => ((Keep.rv hR).2 b hb).1)
end
end Go.Proofs.Ytkcmphjgflbchaa

/- The stacks: what is laid is taken again: plain. -/
namespace Go.Proofs.Ytkcmphjgflbchaa
open Go.RowKit
set_option linter.unusedVariables false
set_option linter.unusedSimpArgs false

/-- The stack holds these cells, the bottom first. -/
structure StkIs (M : List UInt8) (a lo hi : Int) (L : List Int) : Prop where
  len : M.length = 8192
  top : topL M a lo hi = hi - 8 * (L.length : Int)
  small : L.length ≤ 32
  cell : ∀ (j : Nat) (x : Int), L[j]? = some x → getM M (hi - 8 * ((j : Int) + 1)) = x ∧ isI x
theorem topL_set {M : List UInt8} (hM : M.length = 8192) {a lo hi : Int} (h : Sk a lo hi) (x : Int) (h1 : lo ≤ x) (h2 : x ≤ hi) (h3 : x % 8 = 0) : topL (setM M a x) a lo hi = x := by
  have hb := topL_bd (M := M) h
  have e : getM (setM M a x) a = x := getM_setM hM a x (by unfold isI; omega) (by omega)
  unfold topL
  rw [e, if_pos ⟨h3, h1, h2⟩]
theorem topL_congr {M N : List UInt8} {a lo hi : Int} (h : getM M a = getM N a) : topL M a lo hi = topL N a lo hi := by
  unfold topL; rw [h]
theorem StkIs.push {M : List UInt8} {a lo hi : Int} {L : List Int} (h : StkIs M a lo hi L) (hk : Sk a lo hi) (n : Int) (hn : isI n) (hl : L.length < 32) : StkIs (pushM M a lo hi n) a lo hi (L ++ [n]) ∧ ∀ ov, pushT M a lo hi ov = 0 := by
  obtain ⟨b1, b2, b3, b4, b5, b6, b7, b8, b9⟩ := topL_bd (M := M) hk
  have ht := h.top
  have hc := h.cell
  have hM := h.len
  unfold pushM pushT
  generalize topL M a lo hi = t at *
  rw [if_neg (by omega)]
  refine ⟨⟨by rw [setM_len, setM_len]; exact hM, ?_, by simp; omega, fun j x hj => ?_⟩, fun ov => by rw [if_neg (by omega)]⟩
  · rw [topL_set (by rw [setM_len]; exact hM) hk _ (by omega) (by omega) (by omega)]
    simp; omega
  · by_cases hjl : j < L.length
    · rw [List.getElem?_append_left hjl] at hj
      obtain ⟨e1, e2⟩ := hc j x hj
      refine ⟨?_, e2⟩
      rw [getM_other (by rw [setM_len]; exact hM) _ _ _ (by omega), getM_other hM _ _ _ (by omega)]
      exact e1
    · rw [List.getElem?_append_right (by omega)] at hj
      have hjj : j - L.length = 0 := by
        have := (List.getElem?_eq_some_iff.1 hj).1
        simp at this; omega
      rw [hjj] at hj
      simp at hj
      subst hj
      refine ⟨?_, hn⟩
      have e : hi - 8 * ((j : Int) + 1) = t - 8 := by omega
      rw [e, getM_other (by rw [setM_len]; exact hM) _ _ _ (by omega), getM_setM hM _ _ hn (by omega)]
theorem StkIs.full {M : List UInt8} {a lo hi : Int} {L : List Int} (h : StkIs M a lo hi L) (hk : Sk a lo hi) (n : Int) (hl : L.length = 32) : pushM M a lo hi n = M ∧ ∀ ov, pushT M a lo hi ov = ov := by
  obtain ⟨b1, b2, b3, b4, b5, b6, b7, b8, b9⟩ := topL_bd (M := M) hk
  have ht := h.top
  unfold pushM pushT
  generalize topL M a lo hi = t at *
  exact ⟨by rw [if_pos (by omega)], fun ov => by rw [if_pos (by omega)]⟩
theorem StkIs.dep {M : List UInt8} {a lo hi : Int} {L : List Int} (h : StkIs M a lo hi L) : depL M a lo hi = (L.length : Int) := by
  unfold depL; rw [h.top]; omega
theorem StkIs.pop {M : List UInt8} {a lo hi : Int} {L : List Int} {n : Int} (h : StkIs M a lo hi (L ++ [n])) (hk : Sk a lo hi) : StkIs (popM M a lo hi) a lo hi L ∧ peekV M a lo hi 0 = n ∧ ∀ un, peekT M a lo hi un 0 = 0 := by
  obtain ⟨b1, b2, b3, b4, b5, b6, b7, b8, b9⟩ := topL_bd (M := M) hk
  have hd := h.dep
  have ht := h.top
  have hc := h.cell
  have hM := h.len
  have hs := h.small
  simp only [List.length_append, List.length_cons, List.length_nil] at hd ht hs
  unfold popM peekV peekT
  rw [hd, if_pos (by omega), if_pos (by omega)]
  generalize topL M a lo hi = t at *
  refine ⟨⟨by rw [setM_len]; exact hM, ?_, by omega, fun j x hj => ?_⟩, ?_, fun un => by rw [if_pos (by omega)]⟩
  · rw [topL_set hM hk _ (by omega) (by omega) (by omega)]; omega
  · have hjl := (List.getElem?_eq_some_iff.1 hj).1
    obtain ⟨e1, e2⟩ := hc j x (by rw [List.getElem?_append_left hjl]; exact hj)
    exact ⟨by rw [getM_other hM _ _ _ (by omega)]; exact e1, e2⟩
  · obtain ⟨e1, _⟩ := hc L.length n (by simp)
    have e : t + 8 * 0 = hi - 8 * ((L.length : Int) + 1) := by omega
    rw [e]; exact e1
theorem StkIs.none {M : List UInt8} {a lo hi : Int} (h : StkIs M a lo hi []) : popM M a lo hi = M ∧ peekV M a lo hi 0 = 0 ∧ ∀ un, peekT M a lo hi un 0 = un := by
  have hd := h.dep
  simp at hd
  unfold popM peekV peekT
  rw [hd]
  exact ⟨if_neg (by omega), if_neg (by omega), fun un => if_neg (by omega)⟩
/-- The other stack's places are apart. -/
theorem StkIs.other {M N : List UInt8} {a lo hi : Int} {L : List Int} (h : StkIs M a lo hi L) (hk : Sk a lo hi) (hN : N.length = 8192) (h1 : getM N a = getM M a) (h2 : ∀ b, lo ≤ b → b + 8 ≤ hi → getM N b = getM M b) : StkIs N a lo hi L := by
  obtain ⟨b1, b2, b3, b4, b5, b6, b7, b8, b9⟩ := topL_bd (M := M) hk
  refine ⟨hN, by rw [topL_congr h1]; exact h.top, h.small, fun j x hj => ?_⟩
  have hjl := (List.getElem?_eq_some_iff.1 hj).1
  have hs := h.small
  rw [h2 _ (by omega) (by omega)]
  exact h.cell j x hj
theorem getM_push {M : List UInt8} (hM : M.length = 8192) {a lo hi : Int} (hk : Sk a lo hi) (n b : Int) (h1 : b + 8 ≤ a ∨ a + 8 ≤ b) (h2 : b + 8 ≤ lo ∨ hi ≤ b) : getM (pushM M a lo hi n) b = getM M b := by
  obtain ⟨b1, b2, b3, b4, b5, b6, b7, b8, b9⟩ := topL_bd (M := M) hk
  unfold pushM
  generalize topL M a lo hi = t at *
  split
  · rfl
  · rw [getM_other (by rw [setM_len]; exact hM) _ _ _ (by omega), getM_other hM _ _ _ (by omega)]
theorem getM_pop {M : List UInt8} (hM : M.length = 8192) {a lo hi : Int} (b : Int) (h1 : b + 8 ≤ a ∨ a + 8 ≤ b) : getM (popM M a lo hi) b = getM M b := by
  unfold popM
  split
  · rw [getM_other hM _ _ _ (by omega)]
  · rfl
theorem StkIs.pushBack {M : List UInt8} {L : List Int} (h : StkIs M 32 256 512 L) (n : Int) : StkIs (pushM M 40 512 768 n) 32 256 512 L :=
  h.other (by unfold Sk; omega) (pushM_len _ _ _ _ _ h.len) (getM_push h.len (by unfold Sk; omega) n 32 (by omega) (by omega)) (fun b h1 h2 => getM_push h.len (by unfold Sk; omega) n b (by omega) (by omega))
theorem StkIs.pushData {M : List UInt8} {L : List Int} (h : StkIs M 40 512 768 L) (n : Int) : StkIs (pushM M 32 256 512 n) 40 512 768 L :=
  h.other (by unfold Sk; omega) (pushM_len _ _ _ _ _ h.len) (getM_push h.len (by unfold Sk; omega) n 40 (by omega) (by omega)) (fun b h1 h2 => getM_push h.len (by unfold Sk; omega) n b (by omega) (by omega))
theorem StkIs.popData {M : List UInt8} {L : List Int} (h : StkIs M 40 512 768 L) : StkIs (popM M 32 256 512) 40 512 768 L :=
  h.other (by unfold Sk; omega) (popM_len _ _ _ _ h.len) (getM_pop h.len 40 (by omega)) (fun b h1 h2 => getM_pop h.len b (by omega))
theorem StkIs.popBack {M : List UInt8} {L : List Int} (h : StkIs M 32 256 512 L) : StkIs (popM M 40 512 768) 32 256 512 L :=
  h.other (by unfold Sk; omega) (popM_len _ _ _ _ h.len) (getM_pop h.len 32 (by omega)) (fun b h1 h2 => getM_pop h.len b (by omega))
theorem stk_clear {M : List UInt8} (hM : M.length = 8192) : StkIs (clearM M) 32 256 512 [] ∧ StkIs (clearM M) 40 512 768 [] := by
  have hl : (clearM M).length = 8192 := by unfold clearM; rw [setM_len, setM_len]; exact hM
  have h1 : (setM M 32 512).length = 8192 := by rw [setM_len]; exact hM
  refine ⟨⟨hl, ?_, by simp, fun j x hj => by simp at hj⟩, ⟨hl, ?_, by simp, fun j x hj => by simp at hj⟩⟩
  · unfold clearM
    rw [topL_congr (getM_other h1 40 32 768 (by omega)), topL_set hM (by unfold Sk; omega) _ (by omega) (by omega) (by omega)]; simp
  · unfold clearM
    rw [topL_set h1 (by unfold Sk; omega) _ (by omega) (by omega) (by omega)]; simp
theorem zero_get (a : Int) : getM (flatL []) a = 0 := by
  have hz : flatL [] = List.replicate 8192 0 := by unfold flatL; rw [List.take_nil, List.nil_append, List.length_nil, Nat.zero_min, List.drop_zero]
  have hl : ∀ z, memAt (flatL []) z = 0 := fun z => by
    rw [hz]; unfold memAt
    split
    · rw [List.getD_eq_getElem?_getD, List.getElem?_replicate]; split <;> rfl
    · rfl
  have hb : ∀ z, byteZ (loadL (flatL []) a 8) z = 0 := fun z => by
    unfold byteZ
    split
    · rename_i h
      rw [loadL_len] at h
      have e := loadL_getD (flatL []) a 8 z.toNat (by omega) (by omega)
      rw [e, hl]; rfl
    · rfl
  have hn : ∀ k, leN (loadL (flatL []) a 8) 0 k = 0 := fun k => by
    induction k with
    | zero => rfl
    | succ k ih => show leN _ _ k + byteZ _ _ * _ = 0; rw [ih, hb]; simp
  unfold getM cellL
  rw [hn]; decide
theorem stk_zero : StkIs (flatL []) 32 256 512 [] ∧ StkIs (flatL []) 40 512 768 [] := by
  have hl := flatL_len []
  refine ⟨⟨hl, ?_, by simp, fun j x hj => by simp at hj⟩, ⟨hl, ?_, by simp, fun j x hj => by simp at hj⟩⟩
  · unfold topL; rw [zero_get]; rfl
  · unfold topL; rw [zero_get]; rfl
end Go.Proofs.Ytkcmphjgflbchaa

/- 'Here', 'Align', 'byteOf'. -/
namespace Go.Proofs.Ytkcmphjgflbchaa
open Go.RowKit
set_option linter.unusedVariables false
set_option linter.unusedSimpArgs false
attribute [local go_sem] cell_set set_set m_undef

theorem and7 (n : Int) (hn : isI n) : bits .and .i64 n 7 = n % 8 := by
  unfold isI at hn
  show IntKind.i64.wrap ((BitVec.ofInt 64 n &&& BitVec.ofInt 64 7).toNat : Int) = _
  rw [BitVec.toNat_and, BitVec.toNat_ofInt, BitVec.toNat_ofInt]
  have e : ((7 : Int) % ((2 ^ 64 : Nat) : Int)).toNat = 2 ^ 3 - 1 := by decide
  rw [e, Nat.and_two_pow_sub_one_eq_mod, IntKind.wrap_i64]
  omega
theorem andm8 (n : Int) (hn : isI n) : bits .and .i64 n (-8) = n - n % 8 := by
  unfold isI at hn
  show IntKind.i64.wrap ((BitVec.ofInt 64 n &&& BitVec.ofInt 64 (-8)).toNat : Int) = _
  rw [BitVec.toNat_and, BitVec.toNat_ofInt, BitVec.toNat_ofInt]
  have e : ((-8 : Int) % ((2 ^ 64 : Nat) : Int)).toNat = 18446744073709551608 := by decide
  rw [e, nat_hi64_3, IntKind.wrap_i64]
  omega
/-- The next multiple of eight. -/
def alignZ (n : Int) : Int := if n % 8 = 0 then n else IntKind.i64.wrap (n + (8 - n % 8))
/-- Where the dictionary goes on. -/
def hereL (M : List UInt8) : Int := if 1536 ≤ getM M 0 ∧ getM M 0 ≤ 5632 then getM M 0 else 1536
theorem mHere {w : World} {base mb : Nat} {M : List UInt8} {O : Nat → Prop} (h : MemP w base mb M O) (hbase : base ≤ w.heap.size) :
    Calls Try.prog 29 #[.pointer (some ⟨mb, 0, none⟩)] w fun e w' => MemQ w w' base mb M O (.int .i64 (hereL M)) e := by
  have hG := Lib.hid (mGet h hbase 0 (by unfold isI; omega))
  unfold hereL
  generalize getM M 0 = n at *
  go_enter Try.func29, Try.ntmps29
  by_cases h1 : 1536 ≤ n
  · have t1 : ((1536 : Int) ≤ n) = True := by simp; exact h1
    by_cases h2 : n ≤ 5632
    · have t2 : (n ≤ 5632) = True := by simp; exact h2
      rw [if_pos ⟨h1, h2⟩]
      clear h1 h2
      go_wp2_with (go_at_call 19; refine hG.out.mono ?_; rintro e w1 ⟨rfl, O1, hM1, hT1⟩; replace hM1 := Lib.hid hM1; replace hT1 := Lib.hid hT1)
      go_ret
      exact ⟨rfl, O1, hM1.out, hT1.out⟩
    · have t2 : (n ≤ 5632) = False := by simp; omega
      rw [if_neg (fun h => h2 h.2)]
      clear h1 h2
      go_wp2_with (go_at_call 19; refine hG.out.mono ?_; rintro e w1 ⟨rfl, O1, hM1, hT1⟩; replace hM1 := Lib.hid hM1; replace hT1 := Lib.hid hT1)
      go_ret
      exact ⟨rfl, O1, hM1.out, hT1.out⟩
  · have t1 : ((1536 : Int) ≤ n) = False := by simp; omega
    rw [if_neg (fun h => h1 h.1)]
    clear h1
    go_wp2_with (go_at_call 19; refine hG.out.mono ?_; rintro e w1 ⟨rfl, O1, hM1, hT1⟩; replace hM1 := Lib.hid hM1; replace hT1 := Lib.hid hT1)
    go_ret
    exact ⟨rfl, O1, hM1.out, hT1.out⟩
/-- The byte of a length and marks. -/
def markN (n : Nat) (now hides : Bool) : Nat := n + (if now then 128 else 0) + (if hides then 64 else 0)
end Go.Proofs.Ytkcmphjgflbchaa

/- 'Bytes'. -/
namespace Go.Proofs.Ytkcmphjgflbchaa
open Go.RowKit
set_option linter.unusedVariables false
set_option linter.unusedSimpArgs false
/-- 'append(v, u...)' -/
theorem Bs.appendS {P : Program} {w : World} {B : Nat} {v u : Value} {l l2 : List UInt8} (hv : Bs w B v l) {t tx e ty : TypeId} (hsrc : Src P 1 tx u l2.length (cb l2) w) (ht : P.underlying t = some (.slice e))
    (hi : (P.info? e).map (fun i => (i.zero, i.size, i.bytes)) = some (some (.int .u8 0), 1, 1)) (hl2 : l2 ≠ []) (hlen : l.length + l2.length ≤ 1000000) (hB : B ≤ w.heap.size) :
    ∃ v' w', (Builtin.append_ #[t, tx] ty #[v, u]).run P w = .ok v' w' ∧ Bs w' B v' (l ++ l2) ∧ w.grownBy w' v.ownBlock ∧ (v'.ownBlock = v.ownBlock ∨ v'.ownBlock = some w.heap.size) := by
  obtain ⟨i, hi1, hi2⟩ := Option.map_eq_some_iff.1 hi
  simp only [Prod.mk.injEq] at hi2
  obtain ⟨hz, hs1, hb1⟩ := hi2
  have hgrow : ∀ (a : Option Addr) (cap : Nat), v = .slice a l.length cap → cap < l.length + l2.length → (Builtin.firstCells i.size l.length (.slice a l.length cap)).run P w.drew = .ok (cb l).toArray w.drew →
      ∃ v' w', (Builtin.append_ #[t, tx] ty #[v, u]).run P w = .ok v' w' ∧ Bs w' B v' (l ++ l2) ∧ w.grownBy w' v.ownBlock ∧ (v'.ownBlock = v.ownBlock ∨ v'.ownBlock = some w.heap.size) := by
    intro a cap hva hcap hold
    subst hva
    have hfit : Builtin.nextslicecap (l.length + l2.length) cap * i.bytes ≤ 281474976710656 := growslice_fits hcap (by rw [hb1]; omega)
    have hrun := run_append_grow_src (P := P) w t tx ty e i (.int .u8 0) ht hi1 hz a l.length cap (cb l) hold u l2.length (cb l2) (by rw [hs1]; exact hsrc) hcap (by omega) hfit
    have hge := grownCap_ge w (l.length + l2.length) cap e
    obtain ⟨gc, hgc⟩ : ∃ gc, gc = grownCap w (l.length + l2.length) cap e := ⟨_, rfl⟩
    rw [← hgc] at hrun hge
    obtain ⟨C, hC⟩ : ∃ C, C = (cb l ++ cb l2).toArray ++ Builtin.zeroCells (Value.int .u8 0).cells (gc - (l.length + l2.length)) := ⟨_, rfl⟩
    rw [← hC] at hrun
    have hCs : C.size = gc := by
      rw [hC]
      simp [cb_len, Builtin.zeroCells, Value.cells]
      omega
    have hblk : Blk (w.drew.alloc (.cells C e)) w.heap.size C e := Blk.new w.drew C e
    refine ⟨_, _, hrun, ?_, ⟨rfl, rfl, rfl, by simp, fun k hk _ => Below.heap_alloc w.drew _ k hk⟩, .inr rfl⟩
    refine .inr ⟨w.heap.size, 0, gc, by rw [List.length_append], hB, hblk.lt, by rw [List.length_append]; exact hge, fun j hj => ?_, fun j hj => ?_⟩
    · rw [Nat.zero_add, hblk.cell, hC, Array.getElem?_append_left (by simp [cb_len]; simpa using hj)]
      have : (cb l ++ cb l2) = cb (l ++ l2) := by simp [cb]
      rw [this, List.getElem?_toArray]
      unfold cb
      rw [List.getElem?_map, List.getElem?_eq_getElem hj]
      rfl
    · rw [Nat.zero_add, hblk.cell, hblk.frozen]
      exact ⟨by rw [Array.getElem?_eq_getElem (by omega)]; rfl, rfl⟩
  rcases hv with ⟨rfl, rfl⟩ | ⟨b, o, cap, rfl, h2, h3, h4, h5, h6⟩
  · by_cases h0 : l2 = []
    · exact absurd h0 hl2
    · have : 0 < l2.length := List.length_pos_iff.2 h0
      refine hgrow none 0 rfl (by simpa using this) ?_
      simp [Builtin.firstCells, cb]
  · by_cases hroom : l.length + l2.length ≤ cap
    · have hlb : (cb l2).length = l2.length := cb_len l2
      have hrun := run_append_room_src (P := P) w t tx ty e i ht hi1 b o l.length cap u l2.length (cb l2) (by rw [hs1]; exact hsrc) hroom
        (fun j hj => by rw [hs1, Nat.mul_one, Nat.add_assoc]; exact (h6 _ (by omega)).1) (fun j hj => by rw [hs1, Nat.mul_one, Nat.add_assoc]; exact (h6 _ (by omega)).2)
      rw [hs1, Nat.mul_one] at hrun
      obtain ⟨q1, q2, q3, q4⟩ := setCells_size b (cb l2) (o + l.length) w
      refine ⟨_, _, hrun, ?_, ⟨q2, q3, q4, by omega, fun k hk hne => setCells_heap b _ _ _ k (fun e => hne (by rw [e]; rfl))⟩, .inl rfl⟩
      refine .inr ⟨b, o, cap, by rw [List.length_append], h2, by omega, by rw [List.length_append]; exact hroom, fun j hj => ?_, fun j hj => ?_⟩
      · by_cases hjl : j < l.length
        · rw [World.cell?_setCells_out b _ _ _ _ (fun _ _ => .inl (by show o + j < _; omega)), h5 j hjl, List.getElem_append_left hjl]
        · have hj2 : j - l.length < (cb l2).length := by rw [hlb]; rw [List.length_append] at hj; omega
          have := World.cell?_setCells_in b (cb l2) (o + l.length) w (fun j hj => by rw [Nat.add_assoc]; exact (h6 _ (by omega)).1) (j - l.length) hj2
          rw [show o + l.length + (j - l.length) = o + j by omega] at this
          rw [this, List.getElem_append_right (by omega)]
          simp [cb]
      · rw [World.frozen?_setCells]
        exact ⟨cell_isSome_setCells b _ _ _ _ (h6 j hj).1, (h6 j hj).2⟩
    · refine hgrow (some ⟨b, o, none⟩) cap rfl (by omega) ?_
      have hv' : Bs w B (.slice (some ⟨b, o, none⟩) l.length cap) l := .inr ⟨b, o, cap, rfl, h2, h3, h4, h5, h6⟩
      rw [hs1]
      exact (hv'.src ht).cellsD
section
variable {P : Program} {w w' : World} {v u v' : Value}
/-- The operation, its run given. -/
theorem wp_append_bs2 {o : Oper} {a : Act} {K : Act → World → Prop} {Q : Exit → Act → World → Prop} (s x : Operand) (t tx : TypeId) (ho : o.op = .call { callee := .builtin .append, args := #[s, x], argTypes := #[t, tx] })
    (hr : (Builtin.append_ #[t, tx] o.type #[v, u]).run P w = .ok v' w') (hs : a.eval s = v) (hx : a.eval x = u) (h : K (a.put o.dst v') w') : o.wp P a w K Q := by
  unfold Oper.wp execOp
  simp only [ho, resolve, invoke, builtin, Sem.run_bind, Sem.run_pure, Result.andThen_ok, List.map_toArray, List.map_cons, List.map_nil, hs, hx, hr]
  exact h
theorem wpList_append_bs2 {ops : Array Oper} {rest : List Oper} {o : Oper} {a : Act} {Q : Exit → Act → World → Prop} (hgd : o.guard = none) (s x : Operand) (t tx : TypeId) (ho : o.op = .call { callee := .builtin .append, args := #[s, x], argTypes := #[t, tx] })
    (hr : (Builtin.append_ #[t, tx] o.type #[v, u]).run P w = .ok v' w') (hs : a.eval s = v) (hx : a.eval x = u) (h : wpList P ops Q rest (a.put o.dst v') w') : wpList P ops Q (o :: rest) a w :=
  wpList_plain hgd fun _ hK => wp_append_bs2 s x t tx ho hr hs hx (hK _ _ h)
end

attribute [local go_sem] cell_set set_set m_undef
/-- A header's value. -/
def hdV (at_ link : Int) (nm : List UInt8) (imm hid : Bool) (xt : Int) : Value := .agg #[.int .i64 at_, .int .i64 link, .string ⟨nm.toArray⟩, .bool imm, .bool hid, .int .i64 xt]
/-- A header's bytes. -/
def bytesL (link : Int) (nm : List UInt8) (imm hid : Bool) : List UInt8 := putCellL (List.replicate 8 0) 0 link ++ [UInt8.ofNat (markN nm.length imm hid)] ++ nm ++ List.replicate ((8 - (9 + nm.length) % 8) % 8) 0
/-- What 'Bytes' gives. -/
def BytesP (w w' : World) (link : Int) (nm : List UInt8) (imm hid : Bool) (e : Ending) : Prop :=
  Below w.heap.size w w' ∧ ((nm = [] ∧ e = .returned (.tuple #[.slice none 0 0, .int .i64 (-16)])) ∨ (nm ≠ [] ∧ 31 < nm.length ∧ e = .returned (.tuple #[.slice none 0 0, .int .i64 (-19)])) ∨
    (nm ≠ [] ∧ nm.length ≤ 31 ∧ ∃ v, e = .returned (.tuple #[v, .int .i64 0]) ∧ Bs w' w.heap.size v (bytesL link nm imm hid)))
/-- A new slice of one byte. -/
theorem Bs.lit1 (w : World) (c : UInt8) : Bs (w.alloc (.cells #[.int .u8 (c.toNat : Int)] 5)) w.heap.size (.slice (some ⟨w.heap.size, 0, none⟩) 1 1) [c] := by
  refine .inr ⟨w.heap.size, 0, 1, rfl, Nat.le_refl _, by simp, Nat.le_refl _, fun j hj => ?_, fun j hj => ?_⟩
  · have : j = 0 := by simp at hj; omega
    subst this
    obtain ⟨e1, e2, _⟩ := (Blk.new w #[.int .u8 (c.toNat : Int)] 5).one
    exact e1
  · have : j = 0 := by omega
    subst this
    obtain ⟨e1, e2, _⟩ := (Blk.new w #[.int .u8 (c.toNat : Int)] 5).one
    exact ⟨by rw [e1]; rfl, e2⟩
theorem Bs.form {w : World} {B : Nat} {v : Value} {l : List UInt8} (h : Bs w B v l) : ∃ a n c, v = .slice a n c := by
  obtain ⟨a, cap, e, _⟩ := h.len
  exact ⟨a, _, cap, e⟩
theorem Bs.ge {w : World} {B N k : Nat} {v : Value} {l : List UInt8} (h : Bs w B v l) (hN : N ≤ B) (e : v.ownBlock = some k) : N ≤ k := by
  rcases h.lt with e2 | ⟨j, e2, h1, _⟩
  · rw [e] at e2; cases e2
  · rw [e] at e2; cases e2; omega
theorem str_ne {nm : List UInt8} (h : nm ≠ []) : nm.isEmpty = false := by
  cases nm with
  | nil => exact absurd rfl h
  | cons c r => rfl
end Go.Proofs.Ytkcmphjgflbchaa

/- 'Read'. -/
namespace Go.Proofs.Ytkcmphjgflbchaa
open Go.RowKit
set_option linter.unusedVariables false
set_option linter.unusedSimpArgs false
attribute [local go_sem] cell_set set_set m_undef

theorem Blk.six {w : World} {b : Nat} {x y z u v s : Value} {t : TypeId} (h : Blk w b #[x, y, z, u, v, s] t) : (w.cell? ⟨b, 0, none⟩ = some x ∧ w.frozen? ⟨b, 0, none⟩ = false) ∧ (w.cell? ⟨b, 1, none⟩ = some y ∧ w.frozen? ⟨b, 1, none⟩ = false) ∧ (w.cell? ⟨b, 2, none⟩ = some z ∧ w.frozen? ⟨b, 2, none⟩ = false) ∧
    (w.cell? ⟨b, 3, none⟩ = some u ∧ w.frozen? ⟨b, 3, none⟩ = false) ∧ (w.cell? ⟨b, 4, none⟩ = some v ∧ w.frozen? ⟨b, 4, none⟩ = false) ∧ (w.cell? ⟨b, 5, none⟩ = some s ∧ w.frozen? ⟨b, 5, none⟩ = false) := by
  refine ⟨⟨?_, h.frozen _⟩, ⟨?_, h.frozen _⟩, ⟨?_, h.frozen _⟩, ⟨?_, h.frozen _⟩, ⟨?_, h.frozen _⟩, ?_, h.frozen _⟩ <;> rw [h.cell] <;> rfl
theorem Blk.put6 {w : World} {b : Nat} {x0 y0 z0 u0 v0 s0 x y z u v t : Value} {ty : TypeId} (h : Blk w b #[x0, y0, z0, u0, v0, s0] ty) :
    Blk ((((((w.setCell ⟨b, 0, none⟩ x).setCell ⟨b, 1, none⟩ y).setCell ⟨b, 2, none⟩ z).setCell ⟨b, 3, none⟩ u).setCell ⟨b, 4, none⟩ v).setCell ⟨b, 5, none⟩ t) b #[x, y, z, u, v, t] ty := (((((h.set 0 x).set 1 y).set 2 z).set 3 u).set 4 v).set 5 t
theorem Turn.notO {w w' : World} {O O' : Nat → Prop} {k : Nat} (h : Turn w w' O O') (hk : ¬ O k) (hlt : k < w.heap.size) : ¬ O' k := fun h2 => by
  rcases h.new k h2 with h3 | h3
  · exact hk h3
  · omega
/-- A block that is not the memory's is stored into. -/
theorem Turn.setNew {w w' : World} {O O' : Nat → Prop} (h : Turn w w' O O') {b o : Nat} (hb : w.heap.size ≤ b) (v : Value) : Turn w (w'.setCell ⟨b, o, none⟩ v) O O' :=
  ⟨h.os, h.tape, h.output, by simpa using h.size, fun k hk hn => (Below.heap_setCell _ _ _ _ (by intro e; simp at e; omega)).trans (h.block k hk hn), h.new⟩
theorem MemP.setNew {w : World} {base mb : Nat} {M : List UInt8} {O : Nat → Prop} (h : MemP w base mb M O) {b o : Nat} (hb : ¬ O b) (v : Value) : MemP (w.setCell ⟨b, o, none⟩ v) base mb M O :=
  h.kept (grownBy_setCell w b o v) (fun k hk => by rw [← Option.some.inj hk]; exact hb)
/-- The length byte of a header. -/
def rdB (M : List UInt8) (a : Int) : Nat := ((loadL M a 40).getD 8 0).toNat
def rdN (M : List UInt8) (a : Int) : Nat := rdB M a % 32
def rdXt (M : List UInt8) (a : Int) : Int := alignZ (a + 9 + (rdN M a : Int))
def rdOk (M : List UInt8) (a : Int) : Bool := decide (a % 8 = 0 ∧ 1536 ≤ a ∧ a < hereL M ∧ rdN M a ≠ 0 ∧ rdXt M a + 8 ≤ hereL M)
/-- What 'Read' reads. -/
def rdV (M : List UInt8) (a : Int) : Value :=
  if rdOk M a then hdV a (cellL (loadL M a 40) 0) (((loadL M a 40).drop 9).take (rdN M a)) (decide (128 ≤ rdB M a)) (decide (rdB M a / 64 % 2 = 1)) (rdXt M a) else hdV 0 0 [] false false 0
theorem MemP.drew {w : World} {base mb : Nat} {M : List UInt8} {O : Nat → Prop} (h : MemP w base mb M O) : MemP w.drew base mb M O := h.below (bel_drew (Below.refl _ _))
theorem Turn.drew {w w' : World} {O O' : Nat → Prop} (h : Turn w w' O O') : Turn w w'.drew O O' := h.trans (Turn.of_below (bel_drew (Below.refl _ _)) O')
theorem hereL_le (M : List UInt8) : hereL M ≤ 5632 := by unfold hereL; split <;> omega
theorem alignZ_small (p : Int) (h : 0 ≤ p ∧ p ≤ 1000000) : p ≤ alignZ p ∧ alignZ p < p + 8 ∧ alignZ p % 8 = 0 := by
  unfold alignZ
  have := IntKind.wrap_i64 (p + (8 - p % 8))
  split <;> omega
theorem and31 (x : Nat) (h : x < 256) : bits .and .u8 (x : Int) 31 = ((x % 32 : Nat) : Int) := by
  have h2 := u8_and_nat x 31 h (by omega)
  rw [show (31 : Nat) = 2 ^ 5 - 1 from rfl, Nat.and_two_pow_sub_one_eq_mod] at h2
  exact h2
set_option maxRecDepth 100000 in
theorem nat128 : ∀ x : Nat, x < 256 → x &&& 128 = if 128 ≤ x then 128 else 0 := by decide
set_option maxRecDepth 100000 in
theorem nat64 : ∀ x : Nat, x < 256 → x &&& 64 = if x / 64 % 2 = 1 then 64 else 0 := by decide
theorem gt128 (x : Nat) (h : x < 256) : decide ((0 : Int) < bits .and .u8 (x : Int) 128) = decide (128 ≤ x) := by
  have h2 : bits .and .u8 (x : Int) 128 = ((x &&& 128 : Nat) : Int) := u8_and_nat x 128 h (by omega)
  rw [h2, nat128 x h]
  split <;> simp_all
theorem gt64 (x : Nat) (h : x < 256) : decide ((0 : Int) < bits .and .u8 (x : Int) 64) = decide (x / 64 % 2 = 1) := by
  have h2 : bits .and .u8 (x : Int) 64 = ((x &&& 64 : Nat) : Int) := u8_and_nat x 64 h (by omega)
  rw [h2, nat64 x h]
  split <;> simp_all
end Go.Proofs.Ytkcmphjgflbchaa

/- A header that is laid is read as it was. -/
namespace Go.Proofs.Ytkcmphjgflbchaa
open Go.RowKit
set_option linter.unusedVariables false
set_option linter.unusedSimpArgs false

theorem bytesL_len (link : Int) (nm : List UInt8) (im hd : Bool) : (bytesL link nm im hd).length = 9 + nm.length + (8 - (9 + nm.length) % 8) % 8 := by
  unfold bytesL
  rw [List.length_append, List.length_append, List.length_append, cellBytes_len, List.length_replicate]
  simp only [List.length_cons, List.length_nil]
theorem bytesL_low (link : Int) (nm : List UInt8) (im hd : Bool) (j : Nat) (hj : j < 8) : (bytesL link nm im hd).getD j 0 = UInt8.ofNat ((IntKind.u64.wrap link).toNat / 2 ^ (8 * j)) := by
  have h8 := cellBytes_len link
  rw [← cellBytes_getD link j hj]
  unfold bytesL
  rw [List.getD_eq_getElem?_getD, List.getD_eq_getElem?_getD, List.append_assoc, List.append_assoc, List.getElem?_append_left (by omega)]
theorem bytesL_mark (link : Int) (nm : List UInt8) (im hd : Bool) : (bytesL link nm im hd).getD 8 0 = UInt8.ofNat (markN nm.length im hd) := by
  have h8 := cellBytes_len link
  unfold bytesL
  rw [List.getD_eq_getElem?_getD, List.append_assoc, List.append_assoc, List.getElem?_append_right (by omega), h8]
  rfl
theorem bytesL_name (link : Int) (nm : List UInt8) (im hd : Bool) (j : Nat) (hj : j < nm.length) : (bytesL link nm im hd).getD (9 + j) 0 = nm[j] := by
  have h8 := cellBytes_len link
  unfold bytesL
  rw [List.getD_eq_getElem?_getD, List.append_assoc, List.append_assoc, List.getElem?_append_right (by omega), h8, show 9 + j - 8 = j + 1 by omega, List.singleton_append, List.getElem?_cons_succ,
    List.getElem?_append_left hj, List.getElem?_eq_getElem hj]
  rfl
theorem markN_lt (n : Nat) (im hd : Bool) (h : n < 32) : markN n im hd < 256 ∧ markN n im hd % 32 = n ∧ (128 ≤ markN n im hd ↔ im = true) ∧ (markN n im hd / 64 % 2 = 1 ↔ hd = true) := by
  unfold markN
  cases im <;> cases hd <;> simp <;> omega
theorem alignZ_up (p : Int) (h : 0 ≤ p ∧ p ≤ 1000000) : alignZ p = p + (8 - p % 8) % 8 := by
  have := alignZ_small p h
  omega
/-- A header that is laid is read as it was. -/
theorem read_laid {M : List UInt8} (hM : M.length = 8192) (a here link : Int) (nm : List UInt8) (im hd : Bool) (hlink : isI link) (h0 : nm ≠ []) (hl : nm.length ≤ 31) (ha : 1536 ≤ a) (ha8 : a % 8 = 0) (hh : a + (bytesL link nm im hd).length + 8 ≤ here) (hh2 : here ≤ 5632) :
    hereL (setM (layL M a (bytesL link nm im hd)) 0 here) = here ∧ rdOk (setM (layL M a (bytesL link nm im hd)) 0 here) a = true ∧
    rdV (setM (layL M a (bytesL link nm im hd)) 0 here) a = hdV a link nm im hd (a + (bytesL link nm im hd).length) := by
  have hbl := bytesL_len link nm im hd
  obtain ⟨bl, hb⟩ : ∃ bl, bl = bytesL link nm im hd := ⟨_, rfl⟩
  have b1 := bytesL_low link nm im hd
  have b2 := bytesL_mark link nm im hd
  have b3 := bytesL_name link nm im hd
  have hK := Lib.hid (markN_lt nm.length im hd (by omega))
  rw [← hb] at hh hbl b1 b2 b3 ⊢
  have hhb : 1536 ≤ here ∧ here ≤ 5632 := by omega
  have hM1 : (layL M a bl).length = 8192 := by rw [layL_len]; exact hM
  obtain ⟨M2, hM2⟩ : ∃ M2, M2 = setM (layL M a bl) 0 here := ⟨_, rfl⟩
  rw [← hM2]
  have hg := Lib.hid (show getM M2 0 = here by rw [hM2]; exact getM_setM hM1 0 here (by unfold isI; omega) (by omega))
  have hhere := Lib.hid (show hereL M2 = here by unfold hereL; rw [hg.out, if_pos hhb])
  have hat : ∀ i : Nat, i < bl.length → memAt M2 (a + i) = bl.getD i 0 := fun i hi => by
    have c1 : ¬ (0 ≤ a + (i : Int) ∧ a + (i : Int) < 0 + 8 ∧ 0 ≤ a + (i : Int) ∧ a + (i : Int) < 8192) := by omega
    have c2 : a ≤ a + (i : Int) ∧ a + (i : Int) < a + bl.length ∧ 0 ≤ a + (i : Int) ∧ a + (i : Int) < 8192 := by omega
    have c3 : (a + (i : Int) - a).toNat = i := by omega
    rw [hM2, memAt_setM hM1, if_neg c1, memAt_layL hM, if_pos c2, c3]
  have l40 : ∀ i : Nat, i < bl.length → (i : Int) < 40 := fun i hi => by omega
  have hgd : ∀ i : Nat, i < bl.length → (loadL M2 a 40).getD i 0 = bl.getD i 0 := fun i hi => by
    rw [loadL_getD _ _ _ _ (l40 i hi) (by decide), hat i hi]
  have f8 : 8 < bl.length := by omega
  have fa : 0 ≤ a + 9 + (nm.length : Int) ∧ a + 9 + (nm.length : Int) ≤ 1000000 := by omega
  have fb : a + 9 + (nm.length : Int) + (8 - (a + 9 + (nm.length : Int)) % 8) % 8 = a + bl.length := by omega
  have hnl : nm.length ≠ 0 := fun e => h0 (List.length_eq_zero_iff.1 e)
  have fc : a % 8 = 0 ∧ 1536 ≤ a ∧ a < here ∧ nm.length ≠ 0 ∧ a + bl.length + 8 ≤ here := by omega
  have fd : ∀ i, i < 8 → i < bl.length := fun i hi => by omega
  have fe : ∀ i, i < nm.length → 9 + i < bl.length := fun i hi => by omega
  have hB := Lib.hid (show rdB M2 a = markN nm.length im hd by
    unfold rdB
    rw [hgd 8 f8, b2, UInt8.toNat_ofNat']
    exact Nat.mod_eq_of_lt hK.out.1)
  have hN := Lib.hid (show rdN M2 a = nm.length by unfold rdN; rw [hB.out]; exact hK.out.2.1)
  have hX := Lib.hid (show rdXt M2 a = a + bl.length by
    unfold rdXt
    rw [hN.out, alignZ_up _ fa]
    exact fb)
  have hok := Lib.hid (show rdOk M2 a = true by
    unfold rdOk
    rw [hN.out, hX.out, hhere.out, decide_eq_true_iff]
    exact fc)
  refine ⟨hhere.out, hok.out, ?_⟩
  unfold rdV
  rw [hok.out, hN.out, hX.out, hB.out]
  have hc : cellL (loadL M2 a 40) 0 = link := by
    apply cellL_val _ _ _ hlink
    intro i hi
    have c1 : (0 : Int) ≤ 0 + (i : Int) ∧ 0 + (i : Int) < 40 := by omega
    rw [byteZ_load _ _ _ _ c1.1 c1.2 (by decide), Int.zero_add, hat i (fd i hi), b1 i hi, UInt8.toNat_ofNat']
  have hnm : ((loadL M2 a 40).drop 9).take nm.length = nm := by
    have e40 : (loadL M2 a 40).length = 40 := by rw [loadL_len]; rfl
    have e31 : min nm.length (40 - 9) = nm.length := by omega
    apply List.ext_getElem
    · rw [List.length_take, List.length_drop, e40]; exact e31
    · intro i h1 h2
      rw [List.getElem_take, List.getElem_drop]
      have h3 := hgd (9 + i) (fe i h2)
      rw [b3 i h2, List.getD_eq_getElem?_getD, List.getElem?_eq_getElem (by rw [List.length_take, List.length_drop] at h1; exact Nat.add_comm i 9 ▸ Nat.lt_of_lt_of_le (Nat.add_lt_of_lt_sub (Nat.lt_of_lt_of_le h1 (Nat.min_le_right _ _))) (Nat.le_refl _))] at h3
      exact h3
  rw [hc, hnm]
  obtain ⟨_, _, k3, k4⟩ := hK.out
  generalize markN nm.length im hd = q at *
  have e1 : decide (128 ≤ q) = im := by cases im <;> simp_all
  have e2 : decide (q / 64 % 2 = 1) = hd := by cases hd <;> simp_all
  rw [e1, e2]
  rfl
end Go.Proofs.Ytkcmphjgflbchaa

/- 'awake'. -/
namespace Go.Proofs.Ytkcmphjgflbchaa
open Go.RowKit
set_option linter.unusedVariables false
set_option linter.unusedSimpArgs false
attribute [local go_sem] cell_set set_set m_undef

end Go.Proofs.Ytkcmphjgflbchaa

/- The reference's 'Here', 'Inside', 'Read', 'Latest'. -/
namespace Go.Proofs.Ytkcmphjgflbchaa
open Go.RowKit
set_option linter.unusedVariables false
set_option linter.unusedSimpArgs false
attribute [local go_sem] cell_set set_set m_undef

theorem getM_isI (M : List UInt8) (a : Int) : isI (getM M a) := by
  unfold getM cellL isI
  have := IntKind.wrap_i64 (leN (loadL M a 8) 0 8 : Int)
  omega
set_option maxHeartbeats 1000000 in
theorem rHere {w : World} {base rb : Nat} {M : List UInt8} {R : Nat → Prop} (h : RefP w base rb M R) :
    Calls Try.prog 35 #[.pointer (some ⟨rb, 0, none⟩)] w fun e w' => e = .returned (.int .i64 (hereL M)) ∧ Below w.heap.size w w' := by
  have hG := Lib.hid (rGet h 0 (by unfold isI; omega))
  unfold hereL
  generalize getM M 0 = n at *
  clear h
  go_enter Try.func35, Try.ntmps35
  by_cases h1 : 1536 ≤ n
  · have t1 : (n < 1536) = False := by simp; omega
    by_cases h2 : n ≤ 5632
    · have t2 : ((5632 : Int) < n) = False := by simp; omega
      rw [if_pos ⟨h1, h2⟩]
      clear h1 h2
      go_wp2_with (go_at_call 21; refine hG.out.mono ?_; rintro e w1 ⟨rfl, hb1⟩; replace hb1 := Lib.hid hb1)
      go_ret
      exact ⟨rfl, hb1.out⟩
    · have t2 : ((5632 : Int) < n) = True := by simp; omega
      rw [if_neg (fun h => h2 h.2)]
      clear h1 h2
      go_wp2_with (go_at_call 21; refine hG.out.mono ?_; rintro e w1 ⟨rfl, hb1⟩; replace hb1 := Lib.hid hb1)
      go_ret
      exact ⟨rfl, hb1.out⟩
  · have t1 : (n < 1536) = True := by simp; omega
    rw [if_neg (fun h => h1 h.1)]
    clear h1
    go_wp2_with (go_at_call 21; refine hG.out.mono ?_; rintro e w1 ⟨rfl, hb1⟩; replace hb1 := Lib.hid hb1)
    go_ret
    exact ⟨rfl, hb1.out⟩
/-- Whether a whole cell stands there. -/
def insL (M : List UInt8) (a : Int) : Bool := decide (a % 8 = 0 ∧ 1536 ≤ a ∧ a + 8 ≤ hereL M)
set_option maxHeartbeats 1000000 in
theorem rInside {w : World} {base rb : Nat} {M : List UInt8} {R : Nat → Prop} (h : RefP w base rb M R) (a : Int) (ha : isI a) :
    Calls Try.prog 20 #[.pointer (some ⟨rb, 0, none⟩), .int .i64 a] w fun e w' => e = .returned (.bool (insL M a)) ∧ Below w.heap.size w w' := by
  have hH := Lib.hid (rHere h)
  have hl : 1536 ≤ hereL M ∧ hereL M ≤ 5632 := by unfold hereL; split <;> omega
  unfold insL
  generalize hereL M = here at *
  unfold isI at ha
  have wh : IntKind.i64.wrap (here - 8) = here - 8 := by rw [IntKind.wrap_i64]; omega
  obtain ⟨r, hr⟩ : ∃ r, r = a.tmod 8 := ⟨_, rfl⟩
  have hr0 : r = 0 ↔ a % 8 = 0 := by rw [hr, Int.tmod_eq_emod]; split <;> omega
  have rm : a.tmod 8 = r := hr.symm
  clear hr h
  obtain ⟨h8, hh8⟩ : ∃ h8, h8 = here - 8 := ⟨_, rfl⟩
  rw [← hh8] at wh
  rw [hh8] at wh
  have wh2 : wrap64 (here - 8) = h8 := by rw [hh8]; unfold wrap64; omega
  rw [← hh8] at wh
  by_cases g1 : r = 0
  · have t1 : (r == 0) = true := by simp; exact g1
    by_cases g2 : 1536 ≤ a
    · have t2 : ((1536 : Int) ≤ a) = True := by simp; exact g2
      by_cases g3 : a ≤ h8
      · have t3 : (a ≤ h8) = True := by simp; exact g3
        have e : decide (a % 8 = 0 ∧ 1536 ≤ a ∧ a + 8 ≤ here) = true := by rw [decide_eq_true_iff]; exact ⟨hr0.1 g1, g2, by omega⟩
        rw [e]
        clear g1 g2 g3 e hh8 hl ha hr0
        go_enter Try.func20, Try.ntmps20
        go_wp2_with (go_at_call 35; refine hH.out.mono ?_; rintro e w1 ⟨rfl, hb1⟩; replace hb1 := Lib.hid hb1)
        go_ret
        exact ⟨rfl, hb1.out⟩
      · have t3 : (a ≤ h8) = False := by simp; omega
        have e : decide (a % 8 = 0 ∧ 1536 ≤ a ∧ a + 8 ≤ here) = false := by rw [decide_eq_false_iff_not]; omega
        rw [e]
        clear g1 g2 g3 e hh8 hl ha hr0
        go_enter Try.func20, Try.ntmps20
        go_wp2_with (go_at_call 35; refine hH.out.mono ?_; rintro e w1 ⟨rfl, hb1⟩; replace hb1 := Lib.hid hb1)
        go_ret
        exact ⟨rfl, hb1.out⟩
    · have t2 : ((1536 : Int) ≤ a) = False := by simp; omega
      have e : decide (a % 8 = 0 ∧ 1536 ≤ a ∧ a + 8 ≤ here) = false := by rw [decide_eq_false_iff_not]; omega
      rw [e]
      clear g1 g2 e hh8 hl ha hr0
      go_enter Try.func20, Try.ntmps20
      go_wp2
      go_ret
      exact ⟨rfl, Below.refl _ _⟩
  · have t1 : (r == 0) = false := by simp; exact g1
    have e : decide (a % 8 = 0 ∧ 1536 ≤ a ∧ a + 8 ≤ here) = false := by rw [decide_eq_false_iff_not]; exact fun h => g1 (hr0.2 h.1)
    rw [e]
    clear g1 e hh8 hl ha hr0
    go_enter Try.func20, Try.ntmps20
    go_wp2
    go_ret
    exact ⟨rfl, Below.refl _ _⟩
theorem ne64 (x : Nat) (h : x < 256) : (bits .and .u8 (x : Int) 64 != 0) = decide (x / 64 % 2 = 1) := by
  have h2 : bits .and .u8 (x : Int) 64 = ((x &&& 64 : Nat) : Int) := u8_and_nat x 64 h (by omega)
  rw [h2, nat64 x h]
  split <;> simp_all
end Go.Proofs.Ytkcmphjgflbchaa

/- The two tables: what 'rows' and 'table' give, as lists. -/
namespace Go.Proofs.Ytkcmphjgflbchaa
open Go.RowKit
set_option linter.unusedVariables false
set_option linter.unusedSimpArgs false

/-- A row of 'rows': name, takes, lays, now, only. -/
abbrev Row := ByteArray × Int × Int × Bool × Bool
/-- A row of 'table': name, takes, lays, mark. -/
abbrev TRow := ByteArray × Int × Int × Int
noncomputable def rowL : List Row := [
  (⟨#[]⟩, 0, 0, false, false),
  (⟨#[69, 88, 73, 84]⟩, 0, 0, false, false),
  (⟨#[40, 108, 105, 116, 41]⟩, 0, 1, false, false),
  (⟨#[40, 98, 114, 97, 110, 99, 104, 41]⟩, 0, 0, false, false),
  (⟨#[40, 48, 98, 114, 97, 110, 99, 104, 41]⟩, 1, 0, false, false),
  (⟨#[40, 100, 111, 41]⟩, 2, 0, false, false),
  (⟨#[40, 108, 111, 111, 112, 41]⟩, 0, 0, false, false),
  (⟨#[40, 43, 108, 111, 111, 112, 41]⟩, 1, 0, false, false),
  (⟨#[40, 115, 34, 41]⟩, 0, 2, false, false),
  (⟨#[40, 46, 34, 41]⟩, 0, 0, false, false),
  (⟨#[40, 97, 98, 111, 114, 116, 34, 41]⟩, 1, 0, false, false),
  (⟨#[40, 100, 111, 101, 115, 41]⟩, 0, 0, false, false),
  (⟨#[69, 88, 69, 67, 85, 84, 69]⟩, 1, 0, false, false),
  (⟨#[68, 85, 80]⟩, 1, 2, false, false),
  (⟨#[68, 82, 79, 80]⟩, 1, 0, false, false),
  (⟨#[83, 87, 65, 80]⟩, 2, 2, false, false),
  (⟨#[79, 86, 69, 82]⟩, 2, 3, false, false),
  (⟨#[82, 79, 84]⟩, 3, 3, false, false),
  (⟨#[63, 68, 85, 80]⟩, 1, 2, false, false),
  (⟨#[50, 68, 85, 80]⟩, 2, 4, false, false),
  (⟨#[50, 68, 82, 79, 80]⟩, 2, 0, false, false),
  (⟨#[50, 83, 87, 65, 80]⟩, 4, 4, false, false),
  (⟨#[50, 79, 86, 69, 82]⟩, 4, 6, false, false),
  (⟨#[68, 69, 80, 84, 72]⟩, 0, 1, false, false),
  (⟨#[62, 82]⟩, 1, 0, false, false),
  (⟨#[82, 62]⟩, 0, 1, false, false),
  (⟨#[82, 64]⟩, 0, 1, false, false),
  (⟨#[43]⟩, 2, 1, false, false),
  (⟨#[45]⟩, 2, 1, false, false),
  (⟨#[42]⟩, 2, 1, false, false),
  (⟨#[47]⟩, 2, 1, false, false),
  (⟨#[77, 79, 68]⟩, 2, 1, false, false),
  (⟨#[47, 77, 79, 68]⟩, 2, 2, false, false),
  (⟨#[42, 47]⟩, 3, 1, false, false),
  (⟨#[42, 47, 77, 79, 68]⟩, 3, 2, false, false),
  (⟨#[78, 69, 71, 65, 84, 69]⟩, 1, 1, false, false),
  (⟨#[65, 66, 83]⟩, 1, 1, false, false),
  (⟨#[77, 73, 78]⟩, 2, 1, false, false),
  (⟨#[77, 65, 88]⟩, 2, 1, false, false),
  (⟨#[49, 43]⟩, 1, 1, false, false),
  (⟨#[49, 45]⟩, 1, 1, false, false),
  (⟨#[50, 42]⟩, 1, 1, false, false),
  (⟨#[50, 47]⟩, 1, 1, false, false),
  (⟨#[76, 83, 72, 73, 70, 84]⟩, 2, 1, false, false),
  (⟨#[82, 83, 72, 73, 70, 84]⟩, 2, 1, false, false),
  (⟨#[65, 78, 68]⟩, 2, 1, false, false),
  (⟨#[79, 82]⟩, 2, 1, false, false),
  (⟨#[88, 79, 82]⟩, 2, 1, false, false),
  (⟨#[73, 78, 86, 69, 82, 84]⟩, 1, 1, false, false),
  (⟨#[61]⟩, 2, 1, false, false),
  (⟨#[60]⟩, 2, 1, false, false),
  (⟨#[62]⟩, 2, 1, false, false),
  (⟨#[85, 60]⟩, 2, 1, false, false),
  (⟨#[48, 61]⟩, 1, 1, false, false),
  (⟨#[48, 60]⟩, 1, 1, false, false),
  (⟨#[77, 42]⟩, 2, 2, false, false),
  (⟨#[85, 77, 42]⟩, 2, 2, false, false),
  (⟨#[85, 77, 47, 77, 79, 68]⟩, 3, 2, false, false),
  (⟨#[83, 77, 47, 82, 69, 77]⟩, 3, 2, false, false),
  (⟨#[70, 77, 47, 77, 79, 68]⟩, 3, 2, false, false),
  (⟨#[83, 62, 68]⟩, 1, 2, false, false),
  (⟨#[64]⟩, 1, 1, false, false),
  (⟨#[33]⟩, 2, 0, false, false),
  (⟨#[67, 64]⟩, 1, 1, false, false),
  (⟨#[67, 33]⟩, 2, 0, false, false),
  (⟨#[43, 33]⟩, 2, 0, false, false),
  (⟨#[50, 64]⟩, 1, 2, false, false),
  (⟨#[50, 33]⟩, 3, 0, false, false),
  (⟨#[67, 69, 76, 76, 43]⟩, 1, 1, false, false),
  (⟨#[67, 69, 76, 76, 83]⟩, 1, 1, false, false),
  (⟨#[67, 72, 65, 82, 43]⟩, 1, 1, false, false),
  (⟨#[67, 72, 65, 82, 83]⟩, 1, 1, false, false),
  (⟨#[65, 76, 73, 71, 78]⟩, 0, 0, false, false),
  (⟨#[65, 76, 73, 71, 78, 69, 68]⟩, 1, 1, false, false),
  (⟨#[72, 69, 82, 69]⟩, 0, 1, false, false),
  (⟨#[65, 76, 76, 79, 84]⟩, 1, 0, false, false),
  (⟨#[44]⟩, 1, 0, false, false),
  (⟨#[67, 44]⟩, 1, 0, false, false),
  (⟨#[70, 73, 76, 76]⟩, 3, 0, false, false),
  (⟨#[77, 79, 86, 69]⟩, 3, 0, false, false),
  (⟨#[67, 79, 85, 78, 84]⟩, 1, 2, false, false),
  (⟨#[66, 65, 83, 69]⟩, 0, 1, false, false),
  (⟨#[83, 84, 65, 84, 69]⟩, 0, 1, false, false),
  (⟨#[68, 69, 67, 73, 77, 65, 76]⟩, 0, 0, false, false),
  (⟨#[72, 69, 88]⟩, 0, 0, false, false),
  (⟨#[69, 77, 73, 84]⟩, 1, 0, false, false),
  (⟨#[84, 89, 80, 69]⟩, 2, 0, false, false),
  (⟨#[46]⟩, 1, 0, false, false),
  (⟨#[85, 46]⟩, 1, 0, false, false),
  (⟨#[67, 82]⟩, 0, 0, false, false),
  (⟨#[83, 80, 65, 67, 69]⟩, 0, 0, false, false),
  (⟨#[83, 80, 65, 67, 69, 83]⟩, 1, 0, false, false),
  (⟨#[66, 76]⟩, 0, 1, false, false),
  (⟨#[73]⟩, 0, 1, false, false),
  (⟨#[74]⟩, 0, 1, false, false),
  (⟨#[85, 78, 76, 79, 79, 80]⟩, 0, 0, false, false),
  (⟨#[58]⟩, 0, 0, false, false),
  (⟨#[59]⟩, 0, 0, true, true),
  (⟨#[67, 82, 69, 65, 84, 69]⟩, 0, 0, false, false),
  (⟨#[86, 65, 82, 73, 65, 66, 76, 69]⟩, 0, 0, false, false),
  (⟨#[67, 79, 78, 83, 84, 65, 78, 84]⟩, 1, 0, false, false),
  (⟨#[68, 79, 69, 83, 62]⟩, 0, 0, true, true),
  (⟨#[73, 77, 77, 69, 68, 73, 65, 84, 69]⟩, 0, 0, false, false),
  (⟨#[39]⟩, 0, 1, false, false),
  (⟨#[91, 39, 93]⟩, 0, 0, true, true),
  (⟨#[76, 73, 84, 69, 82, 65, 76]⟩, 1, 0, true, true),
  (⟨#[80, 79, 83, 84, 80, 79, 78, 69]⟩, 0, 0, true, true),
  (⟨#[82, 69, 67, 85, 82, 83, 69]⟩, 0, 0, true, true),
  (⟨#[91]⟩, 0, 0, true, false),
  (⟨#[93]⟩, 0, 0, false, false),
  (⟨#[73, 70]⟩, 0, 1, true, true),
  (⟨#[69, 76, 83, 69]⟩, 1, 1, true, true),
  (⟨#[84, 72, 69, 78]⟩, 1, 0, true, true),
  (⟨#[66, 69, 71, 73, 78]⟩, 0, 1, true, true),
  (⟨#[85, 78, 84, 73, 76]⟩, 1, 0, true, true),
  (⟨#[87, 72, 73, 76, 69]⟩, 1, 2, true, true),
  (⟨#[82, 69, 80, 69, 65, 84]⟩, 2, 0, true, true),
  (⟨#[65, 71, 65, 73, 78]⟩, 1, 0, true, true),
  (⟨#[68, 79]⟩, 0, 1, true, true),
  (⟨#[76, 79, 79, 80]⟩, 1, 0, true, true),
  (⟨#[43, 76, 79, 79, 80]⟩, 1, 0, true, true),
  (⟨#[40]⟩, 0, 0, true, false),
  (⟨#[92]⟩, 0, 0, true, false),
  (⟨#[46, 34]⟩, 0, 0, true, false),
  (⟨#[83, 34]⟩, 0, 2, true, false),
  (⟨#[65, 66, 79, 82, 84]⟩, 0, 0, false, false),
  (⟨#[65, 66, 79, 82, 84, 34]⟩, 0, 0, true, true),
  (⟨#[84, 72, 82, 79, 87]⟩, 1, 0, false, false),
  (⟨#[67, 72, 65, 82]⟩, 0, 1, false, false),
  (⟨#[91, 67, 72, 65, 82, 93]⟩, 0, 0, true, true),
  (⟨#[62, 66, 79, 68, 89]⟩, 1, 1, false, false),
  (⟨#[67, 82, 69, 65, 84, 69, 45, 70, 73, 76, 69]⟩, 3, 2, false, false),
  (⟨#[79, 80, 69, 78, 45, 70, 73, 76, 69]⟩, 3, 2, false, false),
  (⟨#[67, 76, 79, 83, 69, 45, 70, 73, 76, 69]⟩, 1, 1, false, false),
  (⟨#[82, 69, 65, 68, 45, 70, 73, 76, 69]⟩, 3, 2, false, false),
  (⟨#[87, 82, 73, 84, 69, 45, 70, 73, 76, 69]⟩, 3, 1, false, false),
  (⟨#[70, 73, 76, 69, 45, 83, 73, 90, 69]⟩, 1, 3, false, false),
  (⟨#[82, 69, 83, 73, 90, 69, 45, 70, 73, 76, 69]⟩, 3, 1, false, false),
  (⟨#[68, 69, 76, 69, 84, 69, 45, 70, 73, 76, 69]⟩, 2, 1, false, false),
  (⟨#[82, 69, 78, 65, 77, 69, 45, 70, 73, 76, 69]⟩, 4, 1, false, false),
  (⟨#[70, 73, 76, 69, 45, 80, 79, 83, 73, 84, 73, 79, 78]⟩, 1, 3, false, false),
  (⟨#[82, 69, 80, 79, 83, 73, 84, 73, 79, 78, 45, 70, 73, 76, 69]⟩, 3, 1, false, false)]
noncomputable def tabL : List TRow := [
  (⟨#[69, 88, 73, 84]⟩, 0, 0, 0),
  (⟨#[40, 108, 105, 116, 41]⟩, 0, 1, 0),
  (⟨#[40, 98, 114, 97, 110, 99, 104, 41]⟩, 0, 0, 0),
  (⟨#[40, 48, 98, 114, 97, 110, 99, 104, 41]⟩, 1, 0, 0),
  (⟨#[40, 100, 111, 41]⟩, 2, 0, 0),
  (⟨#[40, 108, 111, 111, 112, 41]⟩, 0, 0, 0),
  (⟨#[40, 43, 108, 111, 111, 112, 41]⟩, 1, 0, 0),
  (⟨#[40, 115, 34, 41]⟩, 0, 2, 0),
  (⟨#[40, 46, 34, 41]⟩, 0, 0, 0),
  (⟨#[40, 97, 98, 111, 114, 116, 34, 41]⟩, 1, 0, 0),
  (⟨#[40, 100, 111, 101, 115, 41]⟩, 0, 0, 0),
  (⟨#[69, 88, 69, 67, 85, 84, 69]⟩, 1, 0, 0),
  (⟨#[68, 85, 80]⟩, 1, 2, 0),
  (⟨#[68, 82, 79, 80]⟩, 1, 0, 0),
  (⟨#[83, 87, 65, 80]⟩, 2, 2, 0),
  (⟨#[79, 86, 69, 82]⟩, 2, 3, 0),
  (⟨#[82, 79, 84]⟩, 3, 3, 0),
  (⟨#[63, 68, 85, 80]⟩, 1, 2, 0),
  (⟨#[50, 68, 85, 80]⟩, 2, 4, 0),
  (⟨#[50, 68, 82, 79, 80]⟩, 2, 0, 0),
  (⟨#[50, 83, 87, 65, 80]⟩, 4, 4, 0),
  (⟨#[50, 79, 86, 69, 82]⟩, 4, 6, 0),
  (⟨#[68, 69, 80, 84, 72]⟩, 0, 1, 0),
  (⟨#[62, 82]⟩, 1, 0, 0),
  (⟨#[82, 62]⟩, 0, 1, 0),
  (⟨#[82, 64]⟩, 0, 1, 0),
  (⟨#[43]⟩, 2, 1, 0),
  (⟨#[45]⟩, 2, 1, 0),
  (⟨#[42]⟩, 2, 1, 0),
  (⟨#[47]⟩, 2, 1, 0),
  (⟨#[77, 79, 68]⟩, 2, 1, 0),
  (⟨#[47, 77, 79, 68]⟩, 2, 2, 0),
  (⟨#[42, 47]⟩, 3, 1, 0),
  (⟨#[42, 47, 77, 79, 68]⟩, 3, 2, 0),
  (⟨#[78, 69, 71, 65, 84, 69]⟩, 1, 1, 0),
  (⟨#[65, 66, 83]⟩, 1, 1, 0),
  (⟨#[77, 73, 78]⟩, 2, 1, 0),
  (⟨#[77, 65, 88]⟩, 2, 1, 0),
  (⟨#[49, 43]⟩, 1, 1, 0),
  (⟨#[49, 45]⟩, 1, 1, 0),
  (⟨#[50, 42]⟩, 1, 1, 0),
  (⟨#[50, 47]⟩, 1, 1, 0),
  (⟨#[76, 83, 72, 73, 70, 84]⟩, 2, 1, 0),
  (⟨#[82, 83, 72, 73, 70, 84]⟩, 2, 1, 0),
  (⟨#[65, 78, 68]⟩, 2, 1, 0),
  (⟨#[79, 82]⟩, 2, 1, 0),
  (⟨#[88, 79, 82]⟩, 2, 1, 0),
  (⟨#[73, 78, 86, 69, 82, 84]⟩, 1, 1, 0),
  (⟨#[61]⟩, 2, 1, 0),
  (⟨#[60]⟩, 2, 1, 0),
  (⟨#[62]⟩, 2, 1, 0),
  (⟨#[85, 60]⟩, 2, 1, 0),
  (⟨#[48, 61]⟩, 1, 1, 0),
  (⟨#[48, 60]⟩, 1, 1, 0),
  (⟨#[77, 42]⟩, 2, 2, 0),
  (⟨#[85, 77, 42]⟩, 2, 2, 0),
  (⟨#[85, 77, 47, 77, 79, 68]⟩, 3, 2, 0),
  (⟨#[83, 77, 47, 82, 69, 77]⟩, 3, 2, 0),
  (⟨#[70, 77, 47, 77, 79, 68]⟩, 3, 2, 0),
  (⟨#[83, 62, 68]⟩, 1, 2, 0),
  (⟨#[64]⟩, 1, 1, 0),
  (⟨#[33]⟩, 2, 0, 0),
  (⟨#[67, 64]⟩, 1, 1, 0),
  (⟨#[67, 33]⟩, 2, 0, 0),
  (⟨#[43, 33]⟩, 2, 0, 0),
  (⟨#[50, 64]⟩, 1, 2, 0),
  (⟨#[50, 33]⟩, 3, 0, 0),
  (⟨#[67, 69, 76, 76, 43]⟩, 1, 1, 0),
  (⟨#[67, 69, 76, 76, 83]⟩, 1, 1, 0),
  (⟨#[67, 72, 65, 82, 43]⟩, 1, 1, 0),
  (⟨#[67, 72, 65, 82, 83]⟩, 1, 1, 0),
  (⟨#[65, 76, 73, 71, 78]⟩, 0, 0, 0),
  (⟨#[65, 76, 73, 71, 78, 69, 68]⟩, 1, 1, 0),
  (⟨#[72, 69, 82, 69]⟩, 0, 1, 0),
  (⟨#[65, 76, 76, 79, 84]⟩, 1, 0, 0),
  (⟨#[44]⟩, 1, 0, 0),
  (⟨#[67, 44]⟩, 1, 0, 0),
  (⟨#[70, 73, 76, 76]⟩, 3, 0, 0),
  (⟨#[77, 79, 86, 69]⟩, 3, 0, 0),
  (⟨#[67, 79, 85, 78, 84]⟩, 1, 2, 0),
  (⟨#[66, 65, 83, 69]⟩, 0, 1, 0),
  (⟨#[83, 84, 65, 84, 69]⟩, 0, 1, 0),
  (⟨#[68, 69, 67, 73, 77, 65, 76]⟩, 0, 0, 0),
  (⟨#[72, 69, 88]⟩, 0, 0, 0),
  (⟨#[69, 77, 73, 84]⟩, 1, 0, 0),
  (⟨#[84, 89, 80, 69]⟩, 2, 0, 0),
  (⟨#[46]⟩, 1, 0, 0),
  (⟨#[85, 46]⟩, 1, 0, 0),
  (⟨#[67, 82]⟩, 0, 0, 0),
  (⟨#[83, 80, 65, 67, 69]⟩, 0, 0, 0),
  (⟨#[83, 80, 65, 67, 69, 83]⟩, 1, 0, 0),
  (⟨#[66, 76]⟩, 0, 1, 0),
  (⟨#[73]⟩, 0, 1, 0),
  (⟨#[74]⟩, 0, 1, 0),
  (⟨#[85, 78, 76, 79, 79, 80]⟩, 0, 0, 0),
  (⟨#[58]⟩, 0, 0, 0),
  (⟨#[59]⟩, 0, 0, 2),
  (⟨#[67, 82, 69, 65, 84, 69]⟩, 0, 0, 0),
  (⟨#[86, 65, 82, 73, 65, 66, 76, 69]⟩, 0, 0, 0),
  (⟨#[67, 79, 78, 83, 84, 65, 78, 84]⟩, 1, 0, 0),
  (⟨#[68, 79, 69, 83, 62]⟩, 0, 0, 2),
  (⟨#[73, 77, 77, 69, 68, 73, 65, 84, 69]⟩, 0, 0, 0),
  (⟨#[39]⟩, 0, 1, 0),
  (⟨#[91, 39, 93]⟩, 0, 0, 2),
  (⟨#[76, 73, 84, 69, 82, 65, 76]⟩, 1, 0, 2),
  (⟨#[80, 79, 83, 84, 80, 79, 78, 69]⟩, 0, 0, 2),
  (⟨#[82, 69, 67, 85, 82, 83, 69]⟩, 0, 0, 2),
  (⟨#[91]⟩, 0, 0, 1),
  (⟨#[93]⟩, 0, 0, 0),
  (⟨#[73, 70]⟩, 0, 1, 2),
  (⟨#[69, 76, 83, 69]⟩, 1, 1, 2),
  (⟨#[84, 72, 69, 78]⟩, 1, 0, 2),
  (⟨#[66, 69, 71, 73, 78]⟩, 0, 1, 2),
  (⟨#[85, 78, 84, 73, 76]⟩, 1, 0, 2),
  (⟨#[87, 72, 73, 76, 69]⟩, 1, 2, 2),
  (⟨#[82, 69, 80, 69, 65, 84]⟩, 2, 0, 2),
  (⟨#[65, 71, 65, 73, 78]⟩, 1, 0, 2),
  (⟨#[68, 79]⟩, 0, 1, 2),
  (⟨#[76, 79, 79, 80]⟩, 1, 0, 2),
  (⟨#[43, 76, 79, 79, 80]⟩, 1, 0, 2),
  (⟨#[40]⟩, 0, 0, 1),
  (⟨#[92]⟩, 0, 0, 1),
  (⟨#[46, 34]⟩, 0, 0, 1),
  (⟨#[83, 34]⟩, 0, 2, 1),
  (⟨#[65, 66, 79, 82, 84]⟩, 0, 0, 0),
  (⟨#[65, 66, 79, 82, 84, 34]⟩, 0, 0, 2),
  (⟨#[84, 72, 82, 79, 87]⟩, 1, 0, 0),
  (⟨#[67, 72, 65, 82]⟩, 0, 1, 0),
  (⟨#[91, 67, 72, 65, 82, 93]⟩, 0, 0, 2),
  (⟨#[62, 66, 79, 68, 89]⟩, 1, 1, 0),
  (⟨#[67, 82, 69, 65, 84, 69, 45, 70, 73, 76, 69]⟩, 3, 2, 0),
  (⟨#[79, 80, 69, 78, 45, 70, 73, 76, 69]⟩, 3, 2, 0),
  (⟨#[67, 76, 79, 83, 69, 45, 70, 73, 76, 69]⟩, 1, 1, 0),
  (⟨#[82, 69, 65, 68, 45, 70, 73, 76, 69]⟩, 3, 2, 0),
  (⟨#[87, 82, 73, 84, 69, 45, 70, 73, 76, 69]⟩, 3, 1, 0),
  (⟨#[70, 73, 76, 69, 45, 83, 73, 90, 69]⟩, 1, 3, 0),
  (⟨#[82, 69, 83, 73, 90, 69, 45, 70, 73, 76, 69]⟩, 3, 1, 0),
  (⟨#[68, 69, 76, 69, 84, 69, 45, 70, 73, 76, 69]⟩, 2, 1, 0),
  (⟨#[82, 69, 78, 65, 77, 69, 45, 70, 73, 76, 69]⟩, 4, 1, 0),
  (⟨#[70, 73, 76, 69, 45, 80, 79, 83, 73, 84, 73, 79, 78]⟩, 1, 3, 0),
  (⟨#[82, 69, 80, 79, 83, 73, 84, 73, 79, 78, 45, 70, 73, 76, 69]⟩, 3, 1, 0)]
def cellsR (r : Row) : List Value := [.string r.1, .int .i64 r.2.1, .int .i64 r.2.2.1, .bool r.2.2.2.1, .bool r.2.2.2.2]
def cellsT (r : TRow) : List Value := [.string r.1, .int .i64 r.2.1, .int .i64 r.2.2.1, .int .i64 r.2.2.2]
noncomputable def cells19 : Array Value := (rowL.flatMap cellsR).toArray
noncomputable def cells20 : Array Value := (tabL.flatMap cellsT).toArray

/-- What builds of constants, one behind the other, leave in a frame. -/
noncomputable def buildAll (P : Program) : List Oper → Act → Option Act
  | [], a => some a
  | o :: rest, a =>
    match o.guard, o.op with
    | none, .build t parts =>
      match P.built t (parts.map fun (i, x) => (i, a.eval x)).toList with
      | some cells => buildAll P rest (a.put o.dst (.agg cells))
      | none => none
    | _, _ => none
theorem wpList_buildAll {P : Program} {ops : Array Oper} {Q : Exit → Act → World → Prop} {rest : List Oper} {w : World} {a' : Act} : ∀ (l : List Oper) (a : Act), buildAll P l a = some a' → wpList P ops Q rest a' w → wpList P ops Q (l ++ rest) a w
  | [], a, h, hk => by cases h; exact hk
  | o :: l, a, h, hk => by
    unfold buildAll at h
    split at h
    · rename_i t parts hg ho
      split at h
      · rename_i cells hc
        refine wpList_build hg t parts ho (by rw [hc]; rfl) ?_
        rw [hc]
        exact wpList_buildAll l _ h hk
      · cases h
    · cases h
noncomputable def opsOf (f : Func) (n : Nat) : List Oper :=
  match n, f.body with
  | 1, some (.seq _ (.seq (.region _ ops _) _)) => ops.toList
  | _, _ => []

noncomputable def ops19 : List Oper := opsOf Try.f50 1
noncomputable def ops20 : List Oper := opsOf Try.f43 1
theorem region_builds {P : Program} {id : Nat} {opsA : Array Oper} {l rest : List Oper} {Q : Exit → Act → World → Prop} {a a' : Act} {w : World} (hl : opsA.toList = l ++ rest) (h : buildAll P l a = some a')
    (hk : wpList P opsA Q rest a' w) : (Code.region id opsA false).wp P Q a w := wp_region_list (by rw [hl]; exact wpList_buildAll l a h hk)
/-- The frames ahead of the builds. -/
noncomputable def fr19 (p : Value) : Act := { tmps := #[p, undef, undef, undef, undef, undef, undef, undef, undef, undef, undef, undef, undef, undef, undef, undef, undef, undef, undef, undef, undef, undef, undef, undef, undef, undef, undef, undef, undef, undef, undef, undef, undef, undef, undef, undef, undef, undef, undef, undef, undef, undef, undef, undef, undef, undef, undef, undef, undef, undef, undef, undef, undef, undef, undef, undef, undef, undef, undef, undef, undef, undef, undef, undef, undef, undef, undef, undef, undef, undef, undef, undef, undef, undef, undef, undef, undef, undef, undef, undef, undef, undef, undef, undef, undef, undef, undef, undef, undef, undef, undef, undef, undef, undef, undef, undef, undef, undef, undef, undef, undef, undef, undef, undef, undef, undef, undef, undef, undef, undef, undef, undef, undef, undef, undef, undef, undef, undef, undef, undef, undef, undef, undef, undef, undef, undef, undef, undef, undef, undef, undef, undef, undef, undef, undef, undef, undef, undef, undef, undef, undef, undef, undef, undef], defers := [] }
noncomputable def fr20 (p : Value) : Act := { tmps := #[p, undef, undef, undef, undef, undef, undef, undef, undef, undef, undef, undef, undef, undef, undef, undef, undef, undef, undef, undef, undef, undef, undef, undef, undef, undef, undef, undef, undef, undef, undef, undef, undef, undef, undef, undef, undef, undef, undef, undef, undef, undef, undef, undef, undef, undef, undef, undef, undef, undef, undef, undef, undef, undef, undef, undef, undef, undef, undef, undef, undef, undef, undef, undef, undef, undef, undef, undef, undef, undef, undef, undef, undef, undef, undef, undef, undef, undef, undef, undef, undef, undef, undef, undef, undef, undef, undef, undef, undef, undef, undef, undef, undef, undef, undef, undef, undef, undef, undef, undef, undef, undef, undef, undef, undef, undef, undef, undef, undef, undef, undef, undef, undef, undef, undef, undef, undef, undef, undef, undef, undef, undef, undef, undef, undef, undef, undef, undef, undef, undef, undef, undef, undef, undef, undef, undef, undef, undef, undef, undef, undef, undef, undef], defers := [] }
noncomputable def zero39 : Array Value := match (Try.prog.info? 96).bind (·.zero) with | some (.agg c) => c | _ => #[]
noncomputable def st19 : Oper := ops19.getD 143 default
noncomputable def bs20 : Oper := ops20.getD 141 default
noncomputable def as20 : Oper := ops20.getD 142 default
noncomputable def parts20 : Array (Nat × Operand) := match bs20.op with | .buildSlice _ _ p => p | _ => #[]
theorem info39 : (Try.prog.info? 96).map (fun i => (i.zero, i.size)) = some (some (.agg zero39), 710) := by kernel_rfl
theorem zero39_size : zero39.size = 710 := by kernel_rfl
theorem cells19_size : cells19.size = 710 := by kernel_rfl
theorem cells19_one : cells19.all (·.oneCell') = true := by kernel_rfl
theorem cells20_size : cells20.size = 564 := by kernel_rfl
end Go.Proofs.Ytkcmphjgflbchaa

/- What the builds of both tables come to (by the kernel). -/
namespace Go.Proofs.Ytkcmphjgflbchaa
open Go.RowKit

theorem built19 (p : Value) : (buildAll Try.prog (ops19.take 143) (fr19 p)).map (fun a => (a.eval (.tmp 0), a.eval (.tmp 143), a.tmps.getD 0 undef, a.defers)) = some (p, .agg cells19, p, []) := by kernel_rfl
theorem st19_op : st19.op = .store 96 (.tmp 0) (.tmp 143) ∧ st19.guard = none ∧ st19.dst = none := by refine ⟨by kernel_rfl, by kernel_rfl, by kernel_rfl⟩
theorem ops19_is : ops19 = ops19.take 143 ++ [st19] := by kernel_rfl
theorem built20 (p : Value) : (buildAll Try.prog (ops20.take 141) (fr20 p)).map (fun a => (Try.prog.builtSlice 86 141 (parts20.map fun (i, x) => (i, a.eval x)).toList, a.tmps.size, a.defers)) = some (some cells20, 143, []) := by kernel_rfl
theorem bs20_op : bs20.op = .buildSlice 83 141 parts20 ∧ bs20.guard = none ∧ bs20.dst = some 142 := by refine ⟨by kernel_rfl, by kernel_rfl, by kernel_rfl⟩
theorem as20_op : as20.op = .assign (.tmp 142) ∧ as20.guard = none ∧ as20.dst = some 0 := by refine ⟨by kernel_rfl, by kernel_rfl, by kernel_rfl⟩
theorem ops20_is : ops20 = ops20.take 141 ++ [bs20, as20] := by kernel_rfl
end Go.Proofs.Ytkcmphjgflbchaa

/- 'rows' and 'table' give the two lists. -/
namespace Go.Proofs.Ytkcmphjgflbchaa
open Go.RowKit
set_option linter.unusedVariables false
set_option linter.unusedSimpArgs false

theorem results_cell {P : Program} {fn : Func} {k : Nat} {t : TypeId} {tmps : Array Value} {p : Addr} {v : Value} {w : World} (hr : fn.results = #[ResultVar.cell k t]) (hp : tmps.getD k undef = .pointer (some p))
    (hl : (loadVar t p).run P w = .ok v w) : (results fn tmps).run P w = .ok v w := by
  have e : (tmps[k]?).getD undef = .pointer (some p) := by simpa using hp
  simp [results, hr, e, asAddr, hl]
set_option maxRecDepth 100000 in
set_option maxHeartbeats 4000000 in
theorem rowsC (w : World) : Calls Try.prog 50 #[] w fun e w' => e = .returned (.agg cells19) ∧ Below w.heap.size w w' := by
  have hz := (zero_of_info info39).1
  have hs := (zero_of_info info39).2
  have hB := built19 (.pointer (some ⟨w.heap.size, 0, none⟩))
  obtain ⟨a', ha', hv⟩ := Option.map_eq_some_iff.1 hB
  simp only [Prod.mk.injEq] at hv
  obtain ⟨h0, h1, h2, h3⟩ := hv
  clear hB
  go_enter Try.func50, Try.ntmps50
  go_upto_region 1 with fail
  refine region_builds (l := ops19.take 143) (rest := [st19]) (a' := a') ?_ ha' ?_
  · exact ops19_is
  refine wpList_store_row st19_op.2.1 96 (.tmp 0) (.tmp 143) st19_op.1 w.heap.size cells19 h0 h1 96 zero39 (heap_alloc_last w _) (by rw [hs, cells19_size]) (by rw [zero39_size, cells19_size]) cells19_one ?_
  rw [World.setRow_alloc_new, st19_op.2.2]
  clear ha' h0 h1 hz
  rename_i Q' K hK
  simp only [wpList]
  refine hK _ _ ?_
  clear hK K
  go_wp2
  refine bodyPost_ret (v := .agg cells19) ?_ h3 ⟨rfl, ?_⟩
  · show (results Try.f50 a'.tmps).run Try.prog _ = _
    exact results_cell Try.results50 h2 (run_loadVar_new w 96 cells19 142 95 (by kernel_rfl) (by rw [hs, cells19_size]))
  · exact (Below.refl _ _).alloc (Nat.le_refl _) _

set_option maxRecDepth 100000 in
set_option maxHeartbeats 4000000 in
theorem tableC (w : World) : Calls Try.prog 43 #[] w fun e w' => e = .returned (.slice (some ⟨w.heap.size, 0, none⟩) 141 141) ∧ w' = w.alloc (.cells cells20 86) := by
  have hB := built20 (.slice none 0 0)
  obtain ⟨a', ha', hv⟩ := Option.map_eq_some_iff.1 hB
  simp only [Prod.mk.injEq] at hv
  obtain ⟨h0, h1, h3⟩ := hv
  clear hB
  go_enter Try.func43, Try.ntmps43
  go_upto_region 1 with fail
  refine region_builds (l := ops20.take 141) (rest := [bs20, as20]) (a' := a') ?_ ha' ?_
  · exact ops20_is
  refine Great.wpList_buildSliceTo bs20_op.2.1 83 86 141 parts20 bs20_op.1 w.heap.size rfl (some 142) bs20_op.2.2 (by kernel_rfl) cells20 h0 ?_
  clear ha' h0
  refine wpList_plain as20_op.2.1 fun K' hK' => ?_
  rename_i Q' K hK
  have ev : (a'.put (some 142) (.slice (some ⟨w.heap.size, 0, none⟩) 141 141)).eval (.tmp 142) = .slice (some ⟨w.heap.size, 0, none⟩) 141 141 := by
    simp [Act.put, Act.eval, h1]
  unfold Oper.wp execOp
  simp only [as20_op.1, ev, Sem.run_pure, Result.andThen_ok, Oper.upon_value]
  refine hK' _ _ ?_
  rw [as20_op.2.2]
  simp only [wpList]
  refine hK _ _ ?_
  clear hK K hK' K'
  go_wp2
  refine bodyPost_ret (v := .slice (some ⟨w.heap.size, 0, none⟩) 141 141) ?_ h3 ⟨rfl, rfl⟩
  simp [results, Try.results43, Act.put, h1, go_sem]
end Go.Proofs.Ytkcmphjgflbchaa

/- 'Of', 'Xt', 'Number' of both packages. -/
namespace Go.Proofs.Ytkcmphjgflbchaa
open Go.RowKit
set_option linter.unusedVariables false
set_option linter.unusedSimpArgs false

def primV (r : Row) : Value := .agg #[.string r.1, .int .i64 r.2.1, .int .i64 r.2.2.1, .bool r.2.2.2.1, .bool r.2.2.2.2]
theorem extract_flat {α β} [Inhabited α] (f : α → List β) (k : Nat) (hf : ∀ x, (f x).length = k) : ∀ (L : List α) (i : Nat), i < L.length → (((L.flatMap f).drop (i * k)).take k) = f (L.getD i default)
  | [], i, h => by simp at h
  | x :: L, 0, h => by simp [hf x]
  | x :: L, i + 1, h => by
    have := extract_flat f k hf L i (by simpa using h)
    rw [List.flatMap_cons, Nat.add_mul, Nat.one_mul, Nat.add_comm, ← hf x, List.drop_append, hf x]
    have e0 : List.drop (k + i * k) (f x) = [] := List.drop_eq_nil_of_le (by rw [hf x]; omega)
    simpa [List.getD_cons_succ, e0] using this
theorem rowL_len : rowL.length = 142 := by kernel_rfl
theorem tabL_len : tabL.length = 141 := by kernel_rfl
theorem index19 (n : Int) (h1 : 0 ≤ n) (h2 : n < 142) (w : World) : (Instr.index 96 (.agg cells19) (.int .i64 n)).run Try.prog w = .ok (primV (rowL.getD n.toNat default)) w := by
  show _ = Result.ok (Value.agg (cellsR (rowL.getD n.toNat default)).toArray) w
  have hu : Try.prog.underlying 96 = some (.array 142 95) := by kernel_rfl
  have hu2 : Try.prog.underlying 95 = some (.struct ((match Try.prog.underlying 95 with | some (.struct f) => f | _ => #[]))) := by kernel_rfl
  have hi : (Try.prog.info? 95).map (·.size) = some 5 := by kernel_rfl
  obtain ⟨i, hi', hs⟩ := Option.map_eq_some_iff.1 hi
  have e := extract_flat cellsR 5 (fun _ => rfl) rowL n.toNat (by rw [rowL_len]; omega)
  simp [Instr.index, run_underlying hu, asIntOf, h1, h2, part, isAgg, run_underlying hu2, sizeOf, typeInfo, hi', hs]
  rw [cells19]
  have e2 : n.toNat * 5 + 5 - n.toNat * 5 = 5 := by omega
  apply Array.ext'
  rw [Array.toList_extract]
  simp only [List.extract_eq_take_drop, e2]
  simpa using e

attribute [local irreducible] cells19 cells20 rowL tabL
attribute [local go_sem] cell_set set_set
set_option maxRecDepth 100000 in
set_option maxHeartbeats 400000 in
theorem wOf (n : Int) (h1 : 1 ≤ n) (h2 : n ≤ 141) (w : World) : Calls Try.prog 28 #[.int .i64 n] w fun e w' => e = .returned (.tuple #[primV (rowL.getD n.toNat default), .bool true]) ∧ Below w.heap.size w w' := by
  have t1 : ¬ n < 1 := by omega
  have t2 : ¬ 141 < n := by omega
  have hI := fun w => index19 n (by omega) (by omega) w
  obtain ⟨r, hr⟩ : ∃ r, r = rowL.getD n.toNat default := ⟨_, rfl⟩
  rw [← hr] at hI ⊢
  clear hr h1 h2
  obtain ⟨nm, tk, ly, nw, on⟩ := r
  unfold primV at *
  go_enter Try.func28, Try.ntmps28
  go_wp2_with (first
    | (go_at_call 50; refine (rowsC _).mono ?_; rintro e w1 ⟨rfl, hb_w1⟩; obtain ⟨k1, k2, k3, k4, k5, k6, k7, k8, k9, k10, k11⟩ := (show Blk w1 (w.heap.size) #[.string ⟨#[]⟩, .int .i64 0, .int .i64 0, .bool false, .bool false] 64 from (by repeat (first | (with_reducible assumption) | (with_reducible refine Blk.new' ?_; first | rfl | (simp; done) | (simp; omega)) | (with_reducible apply Blk.setFive) | (with_reducible apply Blk.set0) | (with_reducible apply Blk.set1) | (with_reducible apply Blk.setOne) | (with_reducible refine Blk.set_other ?_ (by omega) _ _) | (with_reducible apply Blk.alloc) | (with_reducible apply Blk.drew) | (with_reducible refine Blk.below ?_ (by with_reducible assumption))))).five))
  refine ret_blk (v := .tuple #[.agg #[.string nm, .int .i64 tk, .int .i64 ly, .bool nw, .bool on], .bool true]) w.heap.size #[.string nm, .int .i64 tk, .int .i64 ly, .bool nw, .bool on] 64 ?_ (fun w' h => by obtain ⟨c1, c2, c3, c4, c5, _⟩ := h.five; simp [results, Try.results28, go_sem, c1, c2, c3, c4, c5]) rfl ⟨rfl, ?_⟩
  · repeat (first | (with_reducible assumption) | (with_reducible refine Blk.new' ?_; first | rfl | (simp; done) | (simp; omega)) | (with_reducible apply Blk.setFive) | (with_reducible apply Blk.set0) | (with_reducible apply Blk.set1) | (with_reducible apply Blk.setOne) | (with_reducible refine Blk.set_other ?_ (by omega) _ _) | (with_reducible apply Blk.alloc) | (with_reducible apply Blk.drew) | (with_reducible refine Blk.below ?_ (by with_reducible assumption)))
  · repeat (first | (with_reducible exact Below.refl _ _) | (with_reducible assumption) | (with_reducible apply bel_alloc) | (with_reducible apply bel_drew) | (with_reducible refine bel_set ?_ (by first | exact Nat.le_refl _ | (simp; done) | omega | (simp; omega)) _) | (with_reducible refine bel_trans ?_ (by with_reducible assumption)))

def noPrim : Row := (⟨#[]⟩, 0, 0, false, false)
set_option maxRecDepth 100000 in
set_option maxHeartbeats 400000 in
theorem wOf_no (n : Int) (h : ¬ (1 ≤ n ∧ n ≤ 141)) (w : World) : Calls Try.prog 28 #[.int .i64 n] w fun e w' => e = .returned (.tuple #[primV noPrim, .bool false]) ∧ Below w.heap.size w w' := by
  unfold primV noPrim
  by_cases t1 : n < 1
  · clear h
    go_enter Try.func28, Try.ntmps28
    go_wp2
    refine ret_blk (v := .tuple #[.agg #[.string ⟨#[]⟩, .int .i64 0, .int .i64 0, .bool false, .bool false], .bool false]) w.heap.size #[.string ⟨#[]⟩, .int .i64 0, .int .i64 0, .bool false, .bool false] 64 ?_ (fun w' h => by obtain ⟨c1, c2, c3, c4, c5, _⟩ := h.five; simp [results, Try.results28, go_sem, c1, c2, c3, c4, c5]) rfl ⟨rfl, ?_⟩
    · repeat (first | (with_reducible assumption) | (with_reducible refine Blk.new' ?_; first | rfl | (simp; done) | (simp; omega)) | (with_reducible apply Blk.setFive) | (with_reducible apply Blk.set0) | (with_reducible apply Blk.set1) | (with_reducible apply Blk.setOne) | (with_reducible refine Blk.set_other ?_ (by omega) _ _) | (with_reducible apply Blk.alloc) | (with_reducible apply Blk.drew) | (with_reducible refine Blk.below ?_ (by with_reducible assumption)))
    · repeat (first | (with_reducible exact Below.refl _ _) | (with_reducible assumption) | (with_reducible apply bel_alloc) | (with_reducible apply bel_drew) | (with_reducible refine bel_set ?_ (by first | exact Nat.le_refl _ | (simp; done) | omega | (simp; omega)) _) | (with_reducible refine bel_trans ?_ (by with_reducible assumption)))
  · have t2 : 141 < n := by omega
    clear h
    go_enter Try.func28, Try.ntmps28
    go_wp2
    refine ret_blk (v := .tuple #[.agg #[.string ⟨#[]⟩, .int .i64 0, .int .i64 0, .bool false, .bool false], .bool false]) w.heap.size #[.string ⟨#[]⟩, .int .i64 0, .int .i64 0, .bool false, .bool false] 64 ?_ (fun w' h => by obtain ⟨c1, c2, c3, c4, c5, _⟩ := h.five; simp [results, Try.results28, go_sem, c1, c2, c3, c4, c5]) rfl ⟨rfl, ?_⟩
    · repeat (first | (with_reducible assumption) | (with_reducible refine Blk.new' ?_; first | rfl | (simp; done) | (simp; omega)) | (with_reducible apply Blk.setFive) | (with_reducible apply Blk.set0) | (with_reducible apply Blk.set1) | (with_reducible apply Blk.setOne) | (with_reducible refine Blk.set_other ?_ (by omega) _ _) | (with_reducible apply Blk.alloc) | (with_reducible apply Blk.drew) | (with_reducible refine Blk.below ?_ (by with_reducible assumption)))
    · repeat (first | (with_reducible exact Below.refl _ _) | (with_reducible assumption) | (with_reducible apply bel_alloc) | (with_reducible apply bel_drew) | (with_reducible refine bel_set ?_ (by first | exact Nat.le_refl _ | (simp; done) | omega | (simp; omega)) _) | (with_reducible refine bel_trans ?_ (by with_reducible assumption)))
theorem tableB (w : World) : Calls Try.prog 43 #[] w fun e w' => e = .returned (.slice (some ⟨w.heap.size, 0, none⟩) 141 141) ∧ Below w.heap.size w w' ∧ Blk w' w.heap.size cells20 86 :=
  (tableC w).mono fun e w' ⟨h, h2⟩ => ⟨h, by subst h2; exact ⟨(Below.refl _ _).alloc (Nat.le_refl _) _, Blk.new _ _ _⟩⟩
theorem tab_cells (i : Nat) (hi : i < 141) (j : Nat) (hj : j < 4) : cells20[i * 4 + j]? = (cellsT (tabL.getD i default))[j]? := by
  have e := extract_flat cellsT 4 (fun _ => rfl) tabL i (by rw [tabL_len]; exact hi)
  rw [← e]
  simp [cells20, List.getElem?_take, hj]
def toRow (t : TRow) : Row := (t.1, t.2.1, t.2.2.1, decide (0 < t.2.2.2), t.2.2.2 == 2)
theorem tab_row : tabL.map toRow = rowL.tail := by kernel_rfl
theorem tab_rowL (i : Nat) (hi : i < 141) : toRow (tabL.getD i default) = rowL.getD (i + 1) default := by
  have e : rowL.getD (i + 1) default = rowL.tail.getD i default := by simp [List.getD]
  rw [e, ← tab_row]
  simp [List.getD, List.getElem?_map]
  have : i < tabL.length := by rw [tabL_len]; exact hi
  simp [this]
theorem wXt (n : Int) (w : World) : Calls Try.prog 93 #[.int .i64 n] w fun e w' => e = .returned (.int .i64 (if 1 ≤ n ∧ n ≤ 141 then n * 8 else 0)) ∧ Below w.heap.size w w' := by
  by_cases t1 : n < 1
  · rw [if_neg (by omega)]
    go_enter Try.func93, Try.ntmps93
    go_wp2
    go_ret
    exact ⟨rfl, by repeat (first | (with_reducible exact Below.refl _ _) | (with_reducible assumption) | (with_reducible apply bel_alloc) | (with_reducible apply bel_drew) | (with_reducible refine bel_set ?_ (by first | exact Nat.le_refl _ | (simp; done) | omega | (simp; omega)) _) | (with_reducible refine bel_trans ?_ (by with_reducible assumption)))⟩
  by_cases t2 : 141 < n
  · rw [if_neg (by omega)]
    go_enter Try.func93, Try.ntmps93
    go_wp2
    go_ret
    exact ⟨rfl, by repeat (first | (with_reducible exact Below.refl _ _) | (with_reducible assumption) | (with_reducible apply bel_alloc) | (with_reducible apply bel_drew) | (with_reducible refine bel_set ?_ (by first | exact Nat.le_refl _ | (simp; done) | omega | (simp; omega)) _) | (with_reducible refine bel_trans ?_ (by with_reducible assumption)))⟩
  · rw [if_pos (by omega)]
    go_enter Try.func93, Try.ntmps93
    go_wp2
    go_ret
    exact ⟨rfl, by repeat (first | (with_reducible exact Below.refl _ _) | (with_reducible assumption) | (with_reducible apply bel_alloc) | (with_reducible apply bel_drew) | (with_reducible refine bel_set ?_ (by first | exact Nat.le_refl _ | (simp; done) | omega | (simp; omega)) _) | (with_reducible refine bel_trans ?_ (by with_reducible assumption)))⟩
theorem rXt (n : Int) (w : World) : Calls Try.prog 67 #[.int .i64 n] w fun e w' => e = .returned (.int .i64 (if 1 ≤ n ∧ n ≤ 141 then n * 8 else 0)) ∧ Below w.heap.size w w' := by
  by_cases t1 : n < 1
  · rw [if_neg (by omega)]
    go_enter Try.func67, Try.ntmps67
    go_wp2
    go_ret
    exact ⟨rfl, by repeat (first | (with_reducible exact Below.refl _ _) | (with_reducible assumption) | (with_reducible apply bel_alloc) | (with_reducible apply bel_drew) | (with_reducible refine bel_set ?_ (by first | exact Nat.le_refl _ | (simp; done) | omega | (simp; omega)) _) | (with_reducible refine bel_trans ?_ (by with_reducible assumption)))⟩
  by_cases t2 : 141 < n
  · rw [if_neg (by omega)]
    go_enter Try.func67, Try.ntmps67
    go_wp2_with (go_at_call 43; refine (tableB _).mono ?_; rintro e w1 ⟨rfl, hb_w1, hk⟩)
    go_ret
    exact ⟨rfl, by repeat (first | (with_reducible exact Below.refl _ _) | (with_reducible assumption) | (with_reducible apply bel_alloc) | (with_reducible apply bel_drew) | (with_reducible refine bel_set ?_ (by first | exact Nat.le_refl _ | (simp; done) | omega | (simp; omega)) _) | (with_reducible refine bel_trans ?_ (by with_reducible assumption)))⟩
  · rw [if_pos (by omega)]
    go_enter Try.func67, Try.ntmps67
    go_wp2_with (go_at_call 43; refine (tableB _).mono ?_; rintro e w1 ⟨rfl, hb_w1, hk⟩)
    rw [Int.mul_comm]
    go_ret
    exact ⟨rfl, by repeat (first | (with_reducible exact Below.refl _ _) | (with_reducible assumption) | (with_reducible apply bel_alloc) | (with_reducible apply bel_drew) | (with_reducible refine bel_set ?_ (by first | exact Nat.le_refl _ | (simp; done) | omega | (simp; omega)) _) | (with_reducible refine bel_trans ?_ (by with_reducible assumption)))⟩

def numF (x : Int) : Int := if x % 8 = 0 ∧ 8 ≤ x ∧ x ≤ 1128 then x / 8 else 0
theorem mask7 (x : Int) (hx : isI x) : bits .and .i64 x 7 = x % 8 := by
  obtain ⟨h1, h2⟩ := hx
  unfold bits
  simp
  have e : IntKind.i64.bits = 64 := rfl
  rw [e]
  have h : ((x % 2 ^ 64).toNat &&& (7 % 2 ^ 64)) = (x % 2 ^ 64).toNat % 8 := Nat.and_two_pow_sub_one_eq_mod _ 3
  rw [h, IntKind.wrap_i64]
  omega
theorem ret_i64 {a b : Int} (h : a = b) : Ending.returned (.int .i64 a) = .returned (.int .i64 b) := by rw [h]
set_option maxRecDepth 100000 in
set_option maxHeartbeats 800000 in
theorem rOf (n : Int) (h1 : 1 ≤ n) (h2 : n ≤ 141) (w : World) : Calls Try.prog 32 #[.int .i64 n] w fun e w' => e = .returned (.tuple #[primV (rowL.getD n.toNat default), .bool true]) ∧ Below w.heap.size w w' := by
  have t1 : ¬ n < 1 := by omega
  have t2 : ¬ 141 < n := by omega
  have hr := tab_rowL (n.toNat - 1) (by omega)
  rw [show n.toNat - 1 + 1 = n.toNat by omega] at hr
  obtain ⟨i, hi⟩ : ∃ i : Nat, i = n.toNat - 1 := ⟨_, rfl⟩
  have hn : n = (i : Int) + 1 := by omega
  have hc := fun j hj => tab_cells i (by omega) j hj
  rw [← hi] at hr
  rw [← hr]
  clear hr
  subst hn
  obtain ⟨r, hr⟩ : ∃ r, r = tabL.getD i default := ⟨_, rfl⟩
  rw [← hr] at hc ⊢
  clear hr
  obtain ⟨nm, tk, ly, mk⟩ := r
  have c0 : cells20[i * 4]? = some (.string nm) := hc 0 (by omega)
  have c1 : cells20[i * 4 + 1]? = some (.int .i64 tk) := hc 1 (by omega)
  have c2 : cells20[i * 4 + 2]? = some (.int .i64 ly) := hc 2 (by omega)
  have c3 : cells20[i * 4 + 3]? = some (.int .i64 mk) := hc 3 (by omega)
  have hw : IntKind.i64.wrap ((i : Int) + 1 - 1) = i := by rw [IntKind.wrap_i64]; omega
  clear hc hi
  unfold primV toRow
  go_enter Try.func32, Try.ntmps32
  go_wp2_with (go_at_call 43; refine (tableB _).mono ?_; rintro e w1 ⟨rfl, hb_w1, hk0⟩; have hk : Blk w1 (w.heap.size + 1) cells20 86 := (by simpa using hk0); clear hk0; obtain ⟨k1, k2, k3, k4, k5, k6, k7, k8, k9, k10, k11⟩ := (show Blk w1 (w.heap.size) #[.string ⟨#[]⟩, .int .i64 0, .int .i64 0, .bool false, .bool false] 64 from (by repeat (first | (with_reducible assumption) | (with_reducible refine Blk.new' ?_; first | rfl | (simp; done) | (simp; omega)) | (with_reducible apply Blk.setFive) | (with_reducible apply Blk.set0) | (with_reducible apply Blk.set1) | (with_reducible apply Blk.setOne) | (with_reducible refine Blk.set_other ?_ (by omega) _ _) | (with_reducible apply Blk.alloc) | (with_reducible apply Blk.drew) | (with_reducible refine Blk.below ?_ (by with_reducible assumption))))).five; have y0 := (hk.cell (i * 4)).trans c0; have y1 := (hk.cell (i * 4 + 1)).trans c1; have y2 := (hk.cell (i * 4 + 2)).trans c2; have y3 := (hk.cell (i * 4 + 3)).trans c3)
  refine ret_blk (v := .tuple #[.agg #[.string nm, .int .i64 tk, .int .i64 ly, .bool (decide (0 < mk)), .bool (mk == 2)], .bool true]) w.heap.size #[.string nm, .int .i64 tk, .int .i64 ly, .bool (decide (0 < mk)), .bool (mk == 2)] 64 ?_ (fun w' h => by obtain ⟨c1, c2, c3, c4, c5, _⟩ := h.five; simp [results, Try.results32, go_sem, c1, c2, c3, c4, c5]) rfl ⟨rfl, ?_⟩
  · repeat (first | (with_reducible assumption) | (with_reducible refine Blk.new' ?_; first | rfl | (simp; done) | (simp; omega)) | (with_reducible apply Blk.setFive) | (with_reducible apply Blk.set0) | (with_reducible apply Blk.set1) | (with_reducible apply Blk.setOne) | (with_reducible refine Blk.set_other ?_ (by omega) _ _) | (with_reducible apply Blk.alloc) | (with_reducible apply Blk.drew) | (with_reducible refine Blk.below ?_ (by with_reducible assumption)))
  · repeat (first | (with_reducible exact Below.refl _ _) | (with_reducible assumption) | (with_reducible apply bel_alloc) | (with_reducible apply bel_drew) | (with_reducible refine bel_set ?_ (by first | exact Nat.le_refl _ | (simp; done) | omega | (simp; omega)) _) | (with_reducible refine bel_trans ?_ (by with_reducible assumption)))
set_option maxRecDepth 100000 in
set_option maxHeartbeats 400000 in
theorem rOf_no (n : Int) (h : ¬ (1 ≤ n ∧ n ≤ 141)) (w : World) : Calls Try.prog 32 #[.int .i64 n] w fun e w' => e = .returned (.tuple #[primV noPrim, .bool false]) ∧ Below w.heap.size w w' := by
  unfold primV noPrim
  by_cases t1 : n < 1
  · clear h
    go_enter Try.func32, Try.ntmps32
    go_wp2_with (go_at_call 43; refine (tableB _).mono ?_; rintro e w1 ⟨rfl, hb_w1, hk⟩; obtain ⟨k1, k2, k3, k4, k5, k6, k7, k8, k9, k10, k11⟩ := (show Blk w1 (w.heap.size) #[.string ⟨#[]⟩, .int .i64 0, .int .i64 0, .bool false, .bool false] 64 from (by repeat (first | (with_reducible assumption) | (with_reducible refine Blk.new' ?_; first | rfl | (simp; done) | (simp; omega)) | (with_reducible apply Blk.setFive) | (with_reducible apply Blk.set0) | (with_reducible apply Blk.set1) | (with_reducible apply Blk.setOne) | (with_reducible refine Blk.set_other ?_ (by omega) _ _) | (with_reducible apply Blk.alloc) | (with_reducible apply Blk.drew) | (with_reducible refine Blk.below ?_ (by with_reducible assumption))))).five)
    refine ret_blk (v := .tuple #[.agg #[.string ⟨#[]⟩, .int .i64 0, .int .i64 0, .bool false, .bool false], .bool false]) w.heap.size #[.string ⟨#[]⟩, .int .i64 0, .int .i64 0, .bool false, .bool false] 64 ?_ (fun w' h => by obtain ⟨c1, c2, c3, c4, c5, _⟩ := h.five; simp [results, Try.results32, go_sem, c1, c2, c3, c4, c5]) rfl ⟨rfl, ?_⟩
    · repeat (first | (with_reducible assumption) | (with_reducible refine Blk.new' ?_; first | rfl | (simp; done) | (simp; omega)) | (with_reducible apply Blk.setFive) | (with_reducible apply Blk.set0) | (with_reducible apply Blk.set1) | (with_reducible apply Blk.setOne) | (with_reducible refine Blk.set_other ?_ (by omega) _ _) | (with_reducible apply Blk.alloc) | (with_reducible apply Blk.drew) | (with_reducible refine Blk.below ?_ (by with_reducible assumption)))
    · repeat (first | (with_reducible exact Below.refl _ _) | (with_reducible assumption) | (with_reducible apply bel_alloc) | (with_reducible apply bel_drew) | (with_reducible refine bel_set ?_ (by first | exact Nat.le_refl _ | (simp; done) | omega | (simp; omega)) _) | (with_reducible refine bel_trans ?_ (by with_reducible assumption)))
  · have t2 : 141 < n := by omega
    clear h
    go_enter Try.func32, Try.ntmps32
    go_wp2_with (go_at_call 43; refine (tableB _).mono ?_; rintro e w1 ⟨rfl, hb_w1, hk⟩; obtain ⟨k1, k2, k3, k4, k5, k6, k7, k8, k9, k10, k11⟩ := (show Blk w1 (w.heap.size) #[.string ⟨#[]⟩, .int .i64 0, .int .i64 0, .bool false, .bool false] 64 from (by repeat (first | (with_reducible assumption) | (with_reducible refine Blk.new' ?_; first | rfl | (simp; done) | (simp; omega)) | (with_reducible apply Blk.setFive) | (with_reducible apply Blk.set0) | (with_reducible apply Blk.set1) | (with_reducible apply Blk.setOne) | (with_reducible refine Blk.set_other ?_ (by omega) _ _) | (with_reducible apply Blk.alloc) | (with_reducible apply Blk.drew) | (with_reducible refine Blk.below ?_ (by with_reducible assumption))))).five)
    refine ret_blk (v := .tuple #[.agg #[.string ⟨#[]⟩, .int .i64 0, .int .i64 0, .bool false, .bool false], .bool false]) w.heap.size #[.string ⟨#[]⟩, .int .i64 0, .int .i64 0, .bool false, .bool false] 64 ?_ (fun w' h => by obtain ⟨c1, c2, c3, c4, c5, _⟩ := h.five; simp [results, Try.results32, go_sem, c1, c2, c3, c4, c5]) rfl ⟨rfl, ?_⟩
    · repeat (first | (with_reducible assumption) | (with_reducible refine Blk.new' ?_; first | rfl | (simp; done) | (simp; omega)) | (with_reducible apply Blk.setFive) | (with_reducible apply Blk.set0) | (with_reducible apply Blk.set1) | (with_reducible apply Blk.setOne) | (with_reducible refine Blk.set_other ?_ (by omega) _ _) | (with_reducible apply Blk.alloc) | (with_reducible apply Blk.drew) | (with_reducible refine Blk.below ?_ (by with_reducible assumption)))
    · repeat (first | (with_reducible exact Below.refl _ _) | (with_reducible assumption) | (with_reducible apply bel_alloc) | (with_reducible apply bel_drew) | (with_reducible refine bel_set ?_ (by first | exact Nat.le_refl _ | (simp; done) | omega | (simp; omega)) _) | (with_reducible refine bel_trans ?_ (by with_reducible assumption)))
end Go.Proofs.Ytkcmphjgflbchaa

/- 'Large' of both packages. -/
namespace Go.Proofs.Ytkcmphjgflbchaa
open Go.RowKit
set_option linter.unusedVariables false
set_option linter.unusedSimpArgs false

def up (c : UInt8) : UInt8 := if 97 ≤ c.toNat ∧ c.toNat ≤ 122 then c - 32 else c
def large (s : ByteArray) : ByteArray := ⟨(s.data.toList.map up).toArray⟩
/-- What the row holds when k bytes are done. -/
def st (l : List UInt8) (k : Nat) : List UInt8 := (l.map up).take k ++ l.drop k
theorem st_len (l : List UInt8) (k : Nat) (hk : k ≤ l.length) : (st l k).length = l.length := by unfold st; simp; omega
theorem st_at (l : List UInt8) (k : Nat) (hk : k < l.length) : (st l k)[k]? = some l[k] := by
  unfold st
  rw [List.getElem?_append_right (by simp; omega)]
  simp [Nat.min_eq_left (Nat.le_of_lt hk), hk]
theorem st_next (l : List UInt8) (k : Nat) (hk : k < l.length) : (st l k).set k (up l[k]) = st l (k + 1) := by
  apply List.ext_getElem?
  intro i
  unfold st
  rw [List.getElem?_set]
  have h1 : min k l.length = k := by omega
  have h2 : min (k + 1) l.length = k + 1 := by omega
  by_cases e : k = i
  · subst e
    rw [if_pos rfl, if_pos (by simp; omega), List.getElem?_append_left (by simp; omega)]
    simp [hk]
  · rw [if_neg e]
    by_cases hi : i < k
    · rw [List.getElem?_append_left (by simp; omega), List.getElem?_append_left (by simp; omega), List.getElem?_take, List.getElem?_take, if_pos hi, if_pos (by omega)]
    · rw [List.getElem?_append_right (by simp; omega), List.getElem?_append_right (by simp; omega)]
      simp [h1, h2]
      congr 1; omega
theorem st_end (l : List UInt8) : st l l.length = l.map up := by unfold st; rw [List.drop_length, List.append_nil, List.take_of_length_le (by simp)]
theorem up_same {l : List UInt8} {k : Nat} (hk : k < l.length) (h : up l[k] = l[k]) : st l (k + 1) = st l k := by
  rw [← st_next l k hk, h]
  apply List.ext_getElem?
  intro i
  rw [List.getElem?_set]
  split
  · rename_i e
    subst e
    rw [if_pos (by rw [st_len l k (by omega)]; exact hk), st_at l k hk]
  · rfl

set_option maxRecDepth 100000 in
set_option maxHeartbeats 800000 in
theorem rLarge (s : ByteArray) (hs : s.size ≤ 1000) (w : World) : Calls Try.prog 44 #[.string s] w fun e w' => e = .returned (.string (large s)) ∧ Below w.heap.size w w' := by
  have hconv := run_bytes_of_string (P := Try.prog) w 9 22 5 s Try.underlying9 Try.underlying22 Try.underlying5
  have hrow := Bytes.conv w.drew s (grownCap w s.size 0 5) 5 (bytesRow s (grownCap w s.size 0 5)).size ((bytesRow s (grownCap w s.size 0 5)).size + 1) (by simp [bytesRow])
  obtain ⟨R, hR⟩ : ∃ R, R = bytesRow s (grownCap w s.size 0 5) := ⟨_, rfl⟩
  obtain ⟨cap, hcap⟩ : ∃ cap, cap = grownCap w s.size 0 5 := ⟨_, rfl⟩
  rw [← hR] at hrow hconv
  rw [← hcap] at hconv
  clear hR hcap
  obtain ⟨l, hl⟩ : ∃ l, l = s.data.toList := ⟨_, rfl⟩
  have hn : l.length = s.size := by rw [hl, Array.length_toList]; rfl
  rw [← hl] at hrow
  unfold large
  rw [← hl]
  clear hl
  obtain ⟨n, hn2⟩ : ∃ n, n = s.size := ⟨_, rfl⟩
  rw [← hn2] at hn hconv hs
  clear hn2
  have hw : ∀ k : Nat, k ≤ 1000 → IntKind.i64.wrap ((k : Int) + 1) = ((k + 1 : Nat) : Int) := fun k hk => by rw [IntKind.wrap_i64]; omega
  go_enter Try.func44, Try.ntmps44
  go_wp2
  go_loopw [9] (fun i wr => ∃ k : Nat, k ≤ n ∧ i = .int .i64 (k : Int) ∧ Bytes wr w.heap.size (st l k) ∧ Below w.heap.size w wr) (fun i _ => (n - (intOf i).toNat))
  case atStart =>
    exact ⟨0, by omega, rfl, by rw [show st l 0 = l by simp [st]]; exact hrow, by repeat (first | (with_reducible exact Below.refl _ _) | (with_reducible assumption) | (with_reducible apply bel_alloc) | (with_reducible apply bel_drew) | (with_reducible refine bel_set ?_ (by first | exact Nat.le_refl _ | (simp; done) | omega | (simp; omega)) _) | (with_reducible refine bel_trans ?_ (by with_reducible assumption)))⟩
  case round =>
    obtain ⟨k, hk, rfl, hB, hbl⟩ := hrel
    clear hrow hconv
    by_cases hk0 : k < n
    · have hkl : k < l.length := by omega
      have hlen := st_len l k (by omega)
      have hat := hB k (by omega)
      have hst := st_at l k hkl
      rw [List.getElem?_eq_getElem (by omega)] at hst
      have hst' := Option.some.inj hst
      rw [hst'] at hat
      obtain ⟨c1, f1⟩ := hat
      have hx : l[k].toNat < 256 := l[k].toNat_lt
      have hnx := st_next l k hkl
      have hsame := fun h => up_same hkl h
      have hup : up l[k] = if 97 ≤ l[k].toNat ∧ l[k].toNat ≤ 122 then l[k] - 32 else l[k] := rfl
      have hset := hB.set k (up l[k]) (by omega)
      rw [hnx] at hset
      have hwk := hw k (by omega)
      have hB' := hB
      clear hst hst' hnx hw hlen hB
      by_cases hu : 97 ≤ l[k].toNat ∧ l[k].toNat ≤ 122
      · have hv : ((up l[k]).toNat : Int) = (l[k].toNat : Int) - 32 := by
          rw [hup, if_pos hu, UInt8.toNat_sub_of_le _ _ (by show 32 ≤ l[k]; exact UInt8.le_iff_toNat_le.2 (by simpa using (by omega : 32 ≤ l[k].toNat)))]
          have : (32 : UInt8).toNat = 32 := rfl
          omega
        rw [hv] at hset
        have hset' := Lib.hid hset
        clear hsame hup hset hv hB'
        obtain ⟨x, hxe⟩ : ∃ x : Int, x = (l[k].toNat : Int) := ⟨_, rfl⟩
        rw [← hxe] at c1 hset'
        have t1 : (97 : Int) ≤ x := by omega
        have t2 : x ≤ 122 := by omega
        have hw8 : IntKind.u8.wrap (x - 32) = x - 32 := by rw [IntKind.wrap_u8]; omega
        clear hxe hu hx
        go_wp2
        go_roundw
        case rel => exact ⟨k + 1, by omega, rfl, hset'.out, by repeat (first | (with_reducible exact Below.refl _ _) | (with_reducible assumption) | (with_reducible apply bel_alloc) | (with_reducible apply bel_drew) | (with_reducible refine bel_set ?_ (by first | exact Nat.le_refl _ | (simp; done) | omega | (simp; omega)) _) | (with_reducible refine bel_trans ?_ (by with_reducible assumption)))⟩
        case measure => simp [intOf]; omega
      · have hv := hsame (by rw [hup, if_neg hu])
        clear hsame hup hset
        obtain ⟨x, hxe⟩ : ∃ x : Int, x = (l[k].toNat : Int) := ⟨_, rfl⟩
        rw [← hxe] at c1
        rw [← hv] at hB'
        have hB2 := Lib.hid hB'
        clear hv hB'
        by_cases t1 : (97 : Int) ≤ x
        · have t2 : ¬ x ≤ 122 := by omega
          clear hxe hu hx
          go_wp2
          go_roundw
          case rel => exact ⟨k + 1, by omega, rfl, hB2.out, by repeat (first | (with_reducible exact Below.refl _ _) | (with_reducible assumption) | (with_reducible apply bel_alloc) | (with_reducible apply bel_drew) | (with_reducible refine bel_set ?_ (by first | exact Nat.le_refl _ | (simp; done) | omega | (simp; omega)) _) | (with_reducible refine bel_trans ?_ (by with_reducible assumption)))⟩
          case measure => simp [intOf]; omega
        · clear hxe hu hx
          go_wp2
          go_roundw
          case rel => exact ⟨k + 1, by omega, rfl, hB2.out, by repeat (first | (with_reducible exact Below.refl _ _) | (with_reducible assumption) | (with_reducible apply bel_alloc) | (with_reducible apply bel_drew) | (with_reducible refine bel_set ?_ (by first | exact Nat.le_refl _ | (simp; done) | omega | (simp; omega)) _) | (with_reducible refine bel_trans ?_ (by with_reducible assumption)))⟩
          case measure => simp [intOf]; omega
    · obtain rfl : k = n := by omega
      have hback := run_convert_bytes_back (P := Try.prog) wr 22 9 5 ⟨w.heap.size, 0, none⟩ cap (l.map up) Try.underlying22 Try.underlying5 Try.underlying9 (fun j hj => by
        have h := (hB j (by rw [← hn, st_end]; exact hj)).1
        have e : (st l k)[j]'(by rw [← hn, st_end]; exact hj) = (l.map up)[j] := by simp only [← hn, st_end]
        rw [e] at h
        have hadd : (⟨w.heap.size, 0, none⟩ : Addr).add j = ⟨w.heap.size, j, none⟩ := by unfold Addr.add; split <;> simp_all
        rw [hadd]
        simpa using h)
      rw [List.length_map, hn] at hback
      clear hB
      go_wp2
      go_ret
      exact ⟨rfl, by repeat (first | (with_reducible exact Below.refl _ _) | (with_reducible assumption) | (with_reducible apply bel_alloc) | (with_reducible apply bel_drew) | (with_reducible refine bel_set ?_ (by first | exact Nat.le_refl _ | (simp; done) | omega | (simp; omega)) _) | (with_reducible refine bel_trans ?_ (by with_reducible assumption)))⟩
end Go.Proofs.Ytkcmphjgflbchaa

/- The iterator over all primitives. -/
namespace Go.Proofs.Ytkcmphjgflbchaa
open Go.RowKit Go.Shelf
set_option linter.unusedVariables false
set_option linter.unusedSimpArgs false
attribute [local go_sem] Oper.semAt_some
attribute [local irreducible] cells19 cells20 rowL tabL

/-- A primitive's number. -/
abbrev Ix := { n : Nat // 1 ≤ n ∧ n ≤ 141 }
def allIx : List Ix := (List.finRange 141).map fun i => ⟨i.1 + 1, by omega, by have := i.2; omega⟩
theorem allIx_len : allIx.length = 141 := by simp [allIx]
theorem allIx_at (k : Nat) (hk : k < 141) : allIx[k]? = some ⟨k + 1, by omega, by omega⟩ := by simp [allIx, hk]
theorem allIx_next (k : Nat) (hk : k < 141) : allIx.take k ++ [⟨k + 1, by omega, by omega⟩] = allIx.take (k + 1) := by
  rw [List.take_add_one, allIx_at k hk]; rfl
noncomputable def rowAt (x : Ix) : Row := rowL.getD x.1 default
noncomputable abbrev encs (x : Ix) : Array Value := #[.int .i64 (x.1 : Int), primV (rowAt x)]
theorem grown_of_below {w w' : World} (h : Below w.heap.size w w') : w.grownBy w' none := ⟨h.os, h.tape, h.output, h.size, fun k hk _ => h.block k hk⟩

end Go.Proofs.Ytkcmphjgflbchaa

/- 'names': the map of all names that can be found. -/
namespace Go.Proofs.Ytkcmphjgflbchaa
open Go.RowKit Go.Shelf
set_option linter.unusedVariables false
set_option linter.unusedSimpArgs false
attribute [local go_sem] Oper.semAt_some
attribute [local irreducible] cells19 cells20 rowL tabL

def vis (x : Ix) : Bool := decide (x.1 < 2) || decide (11 < x.1)
/-- The map, as a datum. -/
noncomputable def namesD (xs : List Ix) : DataW Unit := (xs.filter vis).foldl (fun D x => D.put (.string (rowAt x).1.data.toList) (.lit (.int .i64 (x.1 : Int)))) (.map [])
theorem namesD_yes (pre : List Ix) (x : Ix) (h : vis x = true) : namesD (pre ++ [x]) = (namesD pre).put (.string (rowAt x).1.data.toList) (.lit (.int .i64 (x.1 : Int))) := by simp [namesD, h]
theorem namesD_no (pre : List Ix) (x : Ix) (h : vis x = false) : namesD (pre ++ [x]) = namesD pre := by simp [namesD, h]

theorem names_small : rowL.all (fun r => decide (r.1.size ≤ 16)) = true := by kernel_rfl
theorem name_small (x : Ix) : (rowAt x).1.size ≤ 16 := by
  have h := List.all_eq_true.1 names_small
  have hx : x.1 < rowL.length := by rw [rowL_len]; have := x.2; omega
  have h2 := h (rowAt x) (by unfold rowAt; simp only [List.getD, List.getElem?_eq_getElem hx, Option.getD_some]; exact List.getElem_mem hx)
  simpa using h2
/-- A row's five cells. -/
def rowC (r : Row) : Array Value := #[.string r.1, .int .i64 r.2.1, .int .i64 r.2.2.1, .bool r.2.2.2.1, .bool r.2.2.2.2]
theorem blk_own {X Y : World} {row : Option Nat} {B : Nat} {c : Array Value} {t : TypeId} (h : Blk X B c t) (hg : X.grownBy Y row) (hr : ∀ r, row = some r → ∃ o : Obj, X.heap[r]? = some o ∧ o.isCells = false) : Blk Y B c t := by
  unfold Blk at *
  refine (hg.block B (Array.getElem?_eq_some_iff.1 h).1 (fun e => ?_)).trans h
  obtain ⟨o, ho, hc⟩ := hr B e.symm
  rw [h] at ho
  cases ho
  cases hc
end Go.Proofs.Ytkcmphjgflbchaa

/- 'Find' of the package: the map's answer as a list's. -/
namespace Go.Proofs.Ytkcmphjgflbchaa
open Go.RowKit Go.Shelf
set_option linter.unusedVariables false
set_option linter.unusedSimpArgs false
attribute [local irreducible] cells19 cells20 rowL tabL

noncomputable def nameOf (x : Ix) : List UInt8 := (rowAt x).1.data.toList
noncomputable def numOf (k : List UInt8) : Int := match (allIx.filter vis).find? (fun x => nameOf x == k) with | some x => (x.1 : Int) | none => 0
noncomputable def putAll (D : DataW Unit) (xs : List Ix) : DataW Unit := xs.foldl (fun D x => D.put (.string (nameOf x)) (.lit (.int .i64 (x.1 : Int)))) D
theorem putAll_not (k : List UInt8) (z : DataW Unit) : ∀ (xs : List Ix) (D : DataW Unit), (∀ x ∈ xs, nameOf x ≠ k) → (putAll D xs).atKey (.string k) z = D.atKey (.string k) z
  | [], D, _ => rfl
  | x :: xs, D, h => by
    show (putAll (D.put _ _) xs).atKey _ _ = _
    rw [putAll_not k z xs _ (fun y hy => h y (List.mem_cons_of_mem _ hy))]
    exact Maps.atKey_put_other (by intro e; exact h x List.mem_cons_self (by cases e; rfl)) _ _
theorem putAll_at (k : List UInt8) (z : DataW Unit) : ∀ (xs : List Ix) (D : DataW Unit), Maps.IsMap D → (xs.map nameOf).Nodup →
    (putAll D xs).atKey (.string k) z = match xs.find? (fun x => nameOf x == k) with | some x => .lit (.int .i64 (x.1 : Int)) | none => D.atKey (.string k) z
  | [], D, _, _ => rfl
  | x :: xs, D, hD, hn => by
    have hn' : nameOf x ∉ xs.map nameOf ∧ (xs.map nameOf).Nodup := by simpa using hn
    show (putAll (D.put _ _) xs).atKey _ _ = _
    by_cases e : nameOf x = k
    · rw [putAll_not k z xs _ (fun y hy e2 => hn'.1 (by rw [e, ← e2]; exact List.mem_map_of_mem hy))]
      rw [List.find?_cons_of_pos (by simpa using e)]
      rw [e]
      exact Maps.atKey_put_same hD (by trivial) _ _
    · rw [List.find?_cons_of_neg (by simpa using e)]
      rw [putAll_at k z xs _ (hD.put _ _) hn'.2]
      rw [Maps.atKey_put_other (by intro h; exact e (by cases h; rfl))]
theorem names_nodup : ((allIx.filter vis).map nameOf).Nodup := of_decide_eq_true (by kernel_rfl)
theorem namesD_at (k : List UInt8) : (namesD allIx).atKey (.string k) (.lit (.int .i64 0)) = .lit (.int .i64 (numOf k)) := by
  show (putAll (.map []) (allIx.filter vis)).atKey _ _ = _
  rw [putAll_at k _ _ _ Maps.isMap_empty names_nodup]
  unfold numOf
  cases (allIx.filter vis).find? (fun x => nameOf x == k) <;> rfl
theorem large_size (s : ByteArray) : (large s).size = s.size := by
  show (List.map up s.data.toList).toArray.size = s.data.size
  simp

end Go.Proofs.Ytkcmphjgflbchaa
