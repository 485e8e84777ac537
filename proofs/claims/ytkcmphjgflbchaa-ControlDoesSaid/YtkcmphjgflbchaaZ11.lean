/- Texts merged: W11 W12 W13 W14 W15. -/
import Derived.Test.YtkcmphjgflbchaaZ10
import Derived.Deep.SlicePairs
import Derived.ProofKit
import Derived.OpenShut
import Derived.ChangeOld
import Derived.Lib.SmallJoins
import Derived.ChangeMaps5
import Derived.ChangeSlices
/- 'nest': the words' names. -/
namespace Go.Proofs.Ytkcmphjgflbchaa
open Go.RowKit
set_option linter.unusedVariables false
set_option linter.unusedSimpArgs false
attribute [local go_sem] cell_set set_set m_undef

def sC (l : List ByteArray) : List Value := l.map .string
theorem sC_len (l : List ByteArray) : (sC l).length = l.length := by simp [sC]
theorem sC_app (a b : List ByteArray) : sC (a ++ b) = sC a ++ sC b := by simp [sC]
def nmN (n : Int) : ByteArray := nmC (n - 110).toNat
def nestS (l : List Int) : List ByteArray := (nestN l).map nmN
def pieceS (n : Int) : List ByteArray := (pieceN n).map nmN
theorem infoS : (Try.prog.info? 9).map (fun i => (i.zero, i.size, i.bytes)) = some (some (.string ⟨#[]⟩), 1, 16) := by kernel_rfl
theorem wPc0 (w : World) : Calls Try.prog 42 #[.int .i64 0] w fun e w' => e = .returned (.slice (some ⟨w.heap.size, 0, none⟩) 2 2) ∧ w' = w.alloc (.cells #[.string ⟨#[73, 70]⟩, .string ⟨#[84, 72, 69, 78]⟩] 9) := by
  go_enter Try.func42, Try.ntmps42
  go_wp2
  go_ret
  exact ⟨rfl, rfl⟩
theorem pieceS_0 : pieceS 0 = [⟨#[73, 70]⟩, ⟨#[84, 72, 69, 78]⟩] := rfl
theorem wPc1 (w : World) : Calls Try.prog 42 #[.int .i64 1] w fun e w' => e = .returned (.slice (some ⟨w.heap.size, 0, none⟩) 3 3) ∧ w' = w.alloc (.cells #[.string ⟨#[73, 70]⟩, .string ⟨#[69, 76, 83, 69]⟩, .string ⟨#[84, 72, 69, 78]⟩] 9) := by
  go_enter Try.func42, Try.ntmps42
  go_wp2
  go_ret
  exact ⟨rfl, rfl⟩
theorem pieceS_1 : pieceS 1 = [⟨#[73, 70]⟩, ⟨#[69, 76, 83, 69]⟩, ⟨#[84, 72, 69, 78]⟩] := rfl
theorem wPc2 (w : World) : Calls Try.prog 42 #[.int .i64 2] w fun e w' => e = .returned (.slice (some ⟨w.heap.size, 0, none⟩) 2 2) ∧ w' = w.alloc (.cells #[.string ⟨#[66, 69, 71, 73, 78]⟩, .string ⟨#[85, 78, 84, 73, 76]⟩] 9) := by
  go_enter Try.func42, Try.ntmps42
  go_wp2
  go_ret
  exact ⟨rfl, rfl⟩
theorem pieceS_2 : pieceS 2 = [⟨#[66, 69, 71, 73, 78]⟩, ⟨#[85, 78, 84, 73, 76]⟩] := rfl
theorem wPc3 (w : World) : Calls Try.prog 42 #[.int .i64 3] w fun e w' => e = .returned (.slice (some ⟨w.heap.size, 0, none⟩) 3 3) ∧ w' = w.alloc (.cells #[.string ⟨#[66, 69, 71, 73, 78]⟩, .string ⟨#[87, 72, 73, 76, 69]⟩, .string ⟨#[82, 69, 80, 69, 65, 84]⟩] 9) := by
  go_enter Try.func42, Try.ntmps42
  go_wp2
  go_ret
  exact ⟨rfl, rfl⟩
theorem pieceS_3 : pieceS 3 = [⟨#[66, 69, 71, 73, 78]⟩, ⟨#[87, 72, 73, 76, 69]⟩, ⟨#[82, 69, 80, 69, 65, 84]⟩] := rfl
theorem wPc4 (w : World) : Calls Try.prog 42 #[.int .i64 4] w fun e w' => e = .returned (.slice (some ⟨w.heap.size, 0, none⟩) 2 2) ∧ w' = w.alloc (.cells #[.string ⟨#[66, 69, 71, 73, 78]⟩, .string ⟨#[65, 71, 65, 73, 78]⟩] 9) := by
  go_enter Try.func42, Try.ntmps42
  go_wp2
  go_ret
  exact ⟨rfl, rfl⟩
theorem pieceS_4 : pieceS 4 = [⟨#[66, 69, 71, 73, 78]⟩, ⟨#[65, 71, 65, 73, 78]⟩] := rfl
theorem wPc5 (w : World) : Calls Try.prog 42 #[.int .i64 5] w fun e w' => e = .returned (.slice (some ⟨w.heap.size, 0, none⟩) 2 2) ∧ w' = w.alloc (.cells #[.string ⟨#[68, 79]⟩, .string ⟨#[76, 79, 79, 80]⟩] 9) := by
  go_enter Try.func42, Try.ntmps42
  go_wp2
  go_ret
  exact ⟨rfl, rfl⟩
theorem pieceS_5 : pieceS 5 = [⟨#[68, 79]⟩, ⟨#[76, 79, 79, 80]⟩] := rfl
theorem wPc6 (n : Int) (h0 : ¬ n = 0) (h1 : ¬ n = 1) (h2 : ¬ n = 2) (h3 : ¬ n = 3) (h4 : ¬ n = 4) (h5 : ¬ n = 5) (w : World) : Calls Try.prog 42 #[.int .i64 n] w fun e w' => e = .returned (.slice (some ⟨w.heap.size, 0, none⟩) 2 2) ∧ w' = w.alloc (.cells #[.string ⟨#[68, 79]⟩, .string ⟨#[43, 76, 79, 79, 80]⟩] 9) := by
  have q0 : (n == 0) = false := by simp; exact h0
  have q1 : (n == 1) = false := by simp; exact h1
  have q2 : (n == 2) = false := by simp; exact h2
  have q3 : (n == 3) = false := by simp; exact h3
  have q4 : (n == 4) = false := by simp; exact h4
  have q5 : (n == 5) = false := by simp; exact h5
  go_enter Try.func42, Try.ntmps42
  go_wp2
  go_ret
  exact ⟨rfl, rfl⟩
theorem pieceS_6 (n : Int) (h0 : ¬ n = 0) (h1 : ¬ n = 1) (h2 : ¬ n = 2) (h3 : ¬ n = 3) (h4 : ¬ n = 4) (h5 : ¬ n = 5) : pieceS n = [⟨#[68, 79]⟩, ⟨#[43, 76, 79, 79, 80]⟩] := by unfold pieceS pieceN; rw [if_neg h0, if_neg h1, if_neg h2, if_neg h3, if_neg h4, if_neg h5]; rfl
theorem wPiece (n : Int) (w : World) : (∃ x y, pieceS n = [x, y] ∧ Calls Try.prog 42 #[.int .i64 n] w fun e w' => e = .returned (.slice (some ⟨w.heap.size, 0, none⟩) 2 2) ∧ w' = w.alloc (.cells #[.string x, .string y] 9)) ∨
    (∃ x y z, pieceS n = [x, y, z] ∧ Calls Try.prog 42 #[.int .i64 n] w fun e w' => e = .returned (.slice (some ⟨w.heap.size, 0, none⟩) 3 3) ∧ w' = w.alloc (.cells #[.string x, .string y, .string z] 9)) := by
  by_cases h0 : n = 0
  · subst h0
    exact .inl ⟨_, _, pieceS_0, wPc0 w⟩
  by_cases h1 : n = 1
  · subst h1
    exact .inr ⟨_, _, _, pieceS_1, wPc1 w⟩
  by_cases h2 : n = 2
  · subst h2
    exact .inl ⟨_, _, pieceS_2, wPc2 w⟩
  by_cases h3 : n = 3
  · subst h3
    exact .inr ⟨_, _, _, pieceS_3, wPc3 w⟩
  by_cases h4 : n = 4
  · subst h4
    exact .inl ⟨_, _, pieceS_4, wPc4 w⟩
  by_cases h5 : n = 5
  · subst h5
    exact .inl ⟨_, _, pieceS_5, wPc5 w⟩
  exact .inl ⟨_, _, pieceS_6 n h0 h1 h2 h3 h4 h5, wPc6 n h0 h1 h2 h3 h4 h5 w⟩
/-- From W, whose blocks stay as they were, the walk has come to w: K holds, of new blocks. -/
def Pls (W w : World) (K : Kp) : Prop := Below W.heap.size W w ∧ K.P w ∧ ∀ k, K.S k → W.heap.size ≤ k ∧ k < w.heap.size
section
variable {W w w' : World} {K L : Kp}
theorem Pls.start (W : World) : Pls W W .emp := ⟨Below.refl _ _, trivial, fun _ h => h.elim⟩
theorem Pls.bel (h : Pls W w K) : Below W.heap.size W w := h.1
theorem Pls.fact (h : Pls W w K) : K.P w := h.2.1
theorem Pls.slt (h : Pls W w K) {k : Nat} (hk : K.S k) : k < w.heap.size := (h.2.2 k hk).2
theorem Pls.sge (h : Pls W w K) {k : Nat} (hk : K.S k) : W.heap.size ≤ k := (h.2.2 k hk).1
theorem Pls.keep (h : Pls W w K) (hP : K.P w → L.P w) (hS : ∀ k, L.S k → K.S k) : Pls W w L := ⟨h.1, hP h.2.1, fun k hk => h.2.2 k (hS k hk)⟩
theorem Pls.weak (h : Pls W w (K.and L)) : Pls W w K := h.keep (fun h => h.1) (fun _ h => .inl h)
theorem Pls.below (h : Pls W w K) (hb : Below w.heap.size w w') : Pls W w' K :=
  ⟨bel_trans h.1 hb, K.stable w w' (fun k hk hl => hb.block k hl) hb.size h.2.1, fun k hk => ⟨(h.2.2 k hk).1, Nat.lt_of_lt_of_le (h.2.2 k hk).2 hb.size⟩⟩
theorem Pls.alloc (h : Pls W w K) (o : Obj) : Pls W (w.alloc o) K := h.below (bel_alloc (Below.refl _ _) o)
theorem Pls.drew (h : Pls W w K) : Pls W w.drew K := h.below (bel_drew (Below.refl _ _))
theorem Pls.new (h : Pls W w K) (c : Array Value) (t : TypeId) : Pls W (w.alloc (.cells c t)) (K.and (.blk w.heap.size c t)) := by
  have h2 := h.alloc (.cells c t)
  refine ⟨h2.1, ⟨h2.2.1, Blk.new _ _ _⟩, fun k hk => ?_⟩
  rcases hk with hk | hk
  · exact h2.2.2 k hk
  · cases hk; exact ⟨h.1.size, by simp⟩
end
theorem Pls.appendVs {P : Program} {W w : World} {K : Kp} {k n m : Nat} {v u : Value} {cs ds : List Value} (h : Pls W w (K.and (.vs k v n cs))) (hown : ∀ b, v.ownBlock = some b → ¬ K.S b)
    {t tx e ty : TypeId} {z : Value} {by_ : Nat} (hu : Src P k tx u m ds w) (ht : P.underlying t = some (.slice e))
    (hi : (P.info? e).map (fun i => (i.zero, i.size, i.bytes)) = some (some z, k, by_)) (hz : z.cells.size = k) (hm : 0 < m) (hlen : (n + m) * by_ ≤ 1000000000) (hlen2 : n + m ≤ 1000000000) :
    ∃ v' w', (Builtin.append_ #[t, tx] ty #[v, u]).run P w = .ok v' w' ∧ Pls W w' (K.and (.vs k v' (n + m) (cs ++ ds))) ∧ (∀ b, v'.ownBlock = some b → ¬ K.S b) := by
  have hV : Vs w 0 k v n cs := h.fact.2
  obtain ⟨v', w', hr, hv', hg, hob⟩ := hV.append hu ht hi hz hm hlen hlen2 (Nat.zero_le _) (ty := ty)
  have hws := h.bel.size
  have hvW : ∀ b, v.ownBlock = some b → W.heap.size ≤ b ∧ b < w.heap.size := fun b hb => h.2.2 b (.inr hb)
  have hown' : ∀ b, v'.ownBlock = some b → ¬ K.S b := fun b hb => by
    rcases hob with e | e
    · exact hown b (e ▸ hb)
    · rw [hb] at e; cases e
      exact fun hS => by have := (h.2.2 _ (.inl hS)).2; omega
  refine ⟨v', w', hr, ⟨h.bel.grown hg hws (fun b hb => (hvW b hb).1), ⟨K.stable w w' (fun b hb hl => hg.block b hl (fun e => hown b e.symm hb)) hg.size h.fact.1, hv'⟩, fun b hb => ?_⟩, hown'⟩
  rcases hb with hb | hb
  · have := h.2.2 b (.inl hb)
    exact ⟨this.1, Nat.lt_of_lt_of_le this.2 hg.size⟩
  · rcases hv'.own with e | ⟨x, e, _, hx⟩
    · rw [show v'.ownBlock = some b from hb] at e; cases e
    · rw [show v'.ownBlock = some b from hb] at e; cases e
      rcases hob with e2 | e2
      · rw [show v'.ownBlock = some b from hb] at e2
        exact ⟨(hvW b e2.symm).1, hx⟩
      · rw [show v'.ownBlock = some b from hb] at e2
        cases e2
        exact ⟨hws, hx⟩
theorem Pls.appendNil {P : Program} {W w : World} {K : Kp} {k m : Nat} {u : Value} {ds : List Value} (h : Pls W w K)
    {t tx e ty : TypeId} {z : Value} {by_ : Nat} (hu : Src P k tx u m ds w) (ht : P.underlying t = some (.slice e))
    (hi : (P.info? e).map (fun i => (i.zero, i.size, i.bytes)) = some (some z, k, by_)) (hz : z.cells.size = k) (hm : 0 < m ∧ m * by_ ≤ 1000000000 ∧ m ≤ 1000000000) :
    ∃ v' w', (Builtin.append_ #[t, tx] ty #[.slice none 0 0, u]).run P w = .ok v' w' ∧ Pls W w' (K.and (.vs k v' m ds)) ∧ (∀ b, v'.ownBlock = some b → ¬ K.S b) := by
  have h2 : Pls W w (K.and (.vs k (.slice none 0 0) 0 [])) := ⟨h.bel, ⟨h.fact, Vs.nil _ 0 k⟩, fun b hb => by
    rcases hb with hb | hb
    · exact h.2.2 b hb
    · cases hb⟩
  obtain ⟨v', w', hr, h3, h4⟩ := h2.appendVs (ty := ty) (fun b hb => by cases hb) hu ht hi hz hm.1 (by rw [Nat.zero_add]; exact hm.2.1) (by omega)
  rw [Nat.zero_add, List.nil_append] at h3
  exact ⟨v', w', hr, h3, h4⟩
theorem Pls.newVs {W w w' : World} {K : Kp} (h : Pls W w K) (hb : Below w.heap.size w w') {k n : Nat} {v : Value} {cs : List Value} (hv : Vs w' w.heap.size k v n cs) : Pls W w' (K.and (.vs k v n cs)) := by
  have h2 := h.below hb
  have hws := h.bel.size
  refine ⟨h2.bel, ⟨h2.fact, hv.zero⟩, fun b hb2 => ?_⟩
  rcases hb2 with hb2 | hb2
  · exact h2.2.2 b hb2
  · rcases hv.own with e | ⟨x, e, hx1, hx2⟩
    · rw [show v.ownBlock = some b from hb2] at e; cases e
    · rw [show v.ownBlock = some b from hb2] at e
      cases e
      exact ⟨Nat.le_trans hws hx1, hx2⟩
theorem Pls.swapK {W w : World} {K A B : Kp} (h : Pls W w ((K.and A).and B)) : Pls W w ((K.and B).and A) :=
  h.keep (fun h => ⟨⟨h.1.1, h.2⟩, h.1.2⟩) (fun k hk => by
    rcases hk with (hk | hk) | hk
    · exact .inl (.inl hk)
    · exact .inr hk
    · exact .inl (.inr hk))
theorem ownApart {W w w8 : World} {K : Kp} {k n n8 : Nat} {v u8 : Value} {cs c8 : List Value} (hP : Pls W w (K.and (.vs k v n cs))) (ho : ∀ b, v.ownBlock = some b → ¬ K.S b) (hV : Vs w8 w.heap.size 1 u8 n8 c8) : ∀ b, v.ownBlock = some b → ¬ (K.and (.vs 1 u8 n8 c8)).S b := fun b hb hs => by
  rcases hs with hs | hs
  · exact ho b hb hs
  · have h1 : b < w.heap.size := hP.slt (.inr hb)
    rcases hV.own with e | ⟨x, e, hx, _⟩
    · rw [show u8.ownBlock = some b from hs] at e; cases e
    · rw [show u8.ownBlock = some b from hs] at e
      cases e
      omega
theorem Pls.vsB {W w : World} {K : Kp} {k n : Nat} {v : Value} {cs : List Value} (h : Pls W w (K.and (.vs k v n cs))) : Vs w W.heap.size k v n cs := by
  have hV : Vs w 0 k v n cs := h.fact.2
  obtain ⟨h1, h2, h3⟩ := hV
  refine ⟨h1, h2, ?_⟩
  rcases h3 with h3 | ⟨b, o, cap, rfl, q1, q2⟩
  · exact .inl h3
  · exact .inr ⟨b, o, cap, rfl, h.sge (.inr rfl), q2⟩
theorem Pls.appendAny {P : Program} {W w : World} {K : Kp} {n m : Nat} {v u : Value} {cs ds : List Value} (h : Pls W w (K.and (.vs 1 v n cs))) (hown : ∀ b, v.ownBlock = some b → ¬ K.S b) (hn : 0 < n)
    {t tx e ty : TypeId} {z : Value} {by_ : Nat} (hu : Src P 1 tx u m ds w) (ht : P.underlying t = some (.slice e))
    (hi : (P.info? e).map (fun i => (i.zero, i.size, i.bytes)) = some (some z, 1, by_)) (hz : z.cells.size = 1) (hlen : (n + m) * by_ ≤ 1000000000) (hlen2 : n + m ≤ 1000000000) :
    ∃ v' w', (Builtin.append_ #[t, tx] ty #[v, u]).run P w = .ok v' w' ∧ Pls W w' (K.and (.vs 1 v' (n + m) (cs ++ ds))) ∧ (∀ b, v'.ownBlock = some b → ¬ K.S b) := by
  by_cases hm : m = 0
  · subst hm
    have hds : ds = [] := List.eq_nil_of_length_eq_zero (by simpa using hu.newsLen)
    subst hds
    have hV : Vs w 0 1 v n cs := h.fact.2
    obtain ⟨b, o, c, rfl⟩ := hV.some_of (by omega)
    obtain ⟨a', c', e', hcap⟩ := hV.form
    cases e'
    obtain ⟨i, hi1, hi2⟩ := Option.map_eq_some_iff.1 hi
    simp only [Prod.mk.injEq] at hi2
    obtain ⟨hz0, hs1, hb1⟩ := hi2
    have hr := run_append_room_src (P := P) w t tx ty _ i ht hi1 b o n c u 0 [] (by rw [hs1]; exact hu) (by omega) (fun j hj => by cases hj) (fun j hj => by cases hj)
    rw [Nat.add_zero, List.append_nil]
    exact ⟨_, _, hr, h, hown⟩
  · exact h.appendVs hown hu ht hi hz (by omega) hlen hlen2
theorem Blk.rv {w : World} {b : Nat} {L : List Value} {t : TypeId} (h : Blk w b L.toArray t) (h1 : ∀ u ∈ L, u.oneCell' = true) (k c : Nat) (hk : k ≤ L.length) : Rv w 1 (.slice (some ⟨b, 0, none⟩) k c) k (L.take k) :=
  ⟨by rw [List.length_take]; omega, fun u hu => h1 u (List.mem_of_mem_take hu), .inr ⟨_, c, rfl, fun j u hj => by
    rw [Addr.add_lit, Nat.zero_add, h.cell, List.getElem?_toArray]
    rw [List.getElem?_take] at hj
    split at hj
    · exact hj
    · cases hj⟩⟩
theorem sC_one (l : List ByteArray) : ∀ u ∈ sC l, u.oneCell' = true := fun u hu => by
  unfold sC at hu
  obtain ⟨x, _, rfl⟩ := List.mem_map.1 hu
  rfl
theorem add_addC (a : Addr) (i j : Nat) : (a.add i).add j = a.add (i + j) := by
  obtain ⟨b, o, x⟩ := a
  cases x <;> simp only [Addr.add] <;> (repeat' split) <;> simp_all <;> omega
theorem add_zeroC (a : Addr) : a.add 0 = a := by
  obtain ⟨b, o, x⟩ := a
  cases x <;> simp [Addr.add]
theorem Rv.rest {w : World} {a : Addr} {x : Int} {l : List Int} {cap : Nat} (h : Rv w 1 (.slice (some a) (l.length + 1) cap) (l.length + 1) (ic (x :: l))) : Rv w 1 (.slice (some (a.add 1)) l.length (cap - 1)) l.length (ic l) := by
  refine ⟨by rw [ic_len, Nat.mul_one], fun u hu => by unfold ic at hu; obtain ⟨y, _, rfl⟩ := List.mem_map.1 hu; rfl, .inr ⟨_, _, rfl, fun j u hj => ?_⟩⟩
  rcases h.2.2 with ⟨e, _⟩ | ⟨a', c, e, h5⟩
  · cases e
  · cases e
    rw [add_addC, Nat.add_comm]
    exact h5 (j + 1) u hj
theorem Rv.rest0 {w : World} (a : Addr) (c : Nat) : Rv w 1 (.slice (some a) 0 c) 0 (ic []) := ⟨rfl, (fun u hu => by cases hu), .inr ⟨_, _, rfl, (fun j u hj => by cases hj)⟩⟩
theorem nestN_cons (n : Int) (l : List Int) : nestN (n :: l) = (pieceN n).dropLast ++ nestN l ++ [(pieceN n).getLastD 0] := rfl
theorem nestS_cons (n : Int) (l : List Int) : nestS (n :: l) = (pieceS n).dropLast ++ nestS l ++ [(pieceS n).getLastD (nmN 0)] := by
  unfold nestS pieceS
  rw [nestN_cons, List.map_append, List.map_append, List.map_dropLast, List.map_cons, List.map_nil]
  congr 2
  rw [List.getLastD_eq_getLast?, List.getLastD_eq_getLast?, List.getLast?_map, Option.getD_map]
theorem nestS_len : ∀ l : List Int, (nestS l).length ≤ 3 * l.length
  | [] => by simp [nestS, nestN]
  | n :: l => by
    have ih := nestS_len l
    unfold nestS at *
    rw [List.length_map] at *
    have hp : (pieceN n).length ≤ 3 := by unfold pieceN; repeat (split; simp)
                                          simp
    rw [nestN_cons, List.length_append, List.length_append, List.length_dropLast, List.length_singleton, List.length_cons]
    omega
theorem nestW0 (w : World) (a0 : Option Addr) (cap : Nat) : Calls Try.prog 17 #[.slice a0 0 cap] w fun e w' => ∃ u, e = .returned u ∧ Vs w' w.heap.size 1 u (nestS []).length (sC (nestS [])) ∧ Below w.heap.size w w' := by
  go_enter Try.func17, Try.ntmps17
  go_wp2
  go_ret
  exact ⟨_, rfl, Vs.nil _ _ 1, Below.refl _ _⟩
set_option maxRecDepth 100000 in
set_option maxHeartbeats 2000000 in
theorem nestW2a {w : World} {a : Addr} {n : Int} {l : List Int} {cap : Nat} (hv : Rv w 1 (.slice (some a) (l.length + 1) cap) (l.length + 1) (ic (n :: l))) (hl : l.length ≤ 15) {x y : ByteArray} (hps : pieceS n = [x, y])
    (hPc : ∀ w9 : World, Calls Try.prog 42 #[.int .i64 n] w9 fun e w' => e = .returned (.slice (some ⟨w9.heap.size, 0, none⟩) 2 2) ∧ w' = w9.alloc (.cells #[.string x, .string y] 9)) (hcap : cap = 1)
    (hIH : ∀ w1, Below w.heap.size w w1 → Calls Try.prog 17 #[(.slice (some a) l.length 0)] w1 fun e w' => ∃ u, e = .returned u ∧ Vs w' w1.heap.size 1 u (nestS l).length (sC (nestS l)) ∧ Below w1.heap.size w1 w') :
    Calls Try.prog 17 #[.slice (some a) (l.length + 1) cap] w fun e w' => ∃ u, e = .returned u ∧ Vs w' w.heap.size 1 u (nestS (n :: l)).length (sC (nestS (n :: l))) ∧ Below w.heap.size w w' := by
  have hns : nestS (n :: l) = [x] ++ nestS l ++ [y] := by rw [nestS_cons, hps]; rfl
  have hnl := nestS_len l
  have z0 : w.cell? a = some (.int .i64 n) := by
    rcases hv.2.2 with ⟨e, _⟩ | ⟨a', c, e, h5⟩
    · cases e
    · cases e
      have := h5 0 _ rfl
      rwa [add_zeroC] at this
  have t0 : (((l.length + 1 : Nat) : Int) == 0) = false := by simp; omega
  have z1 : w.cell? (a.add 0) = some (.int .i64 n) := by rw [add_zeroC]; exact z0
  have t1 : ((l.length : Int) + 1 == 0) = false := by simp; omega
  have hn1 : (l.length + 1 = 0) = False := eq_false (by omega)
  have ww1 : IntKind.i64.wrap 1 = 1 := by decide
  have k3 : ((1 : Int) ≤ (l.length : Int) + 1) = True := eq_true (by omega)
  have ww2 : IntKind.i64.wrap 2 = 2 := by decide
  have hIH' := Lib.hid hIH
  have hPc' := Lib.hid hPc
  replace hns := Lib.hid hns
  clear hIH hPc hps hv
  go_enter Try.func17, Try.ntmps17
  go_upto_region 4 with (go_at_call 42; refine (hPc'.out _).mono ?_; rintro e w1 ⟨rfl, rfl⟩)
  have hP := ((Pls.start w).new #[.string x, .string y] 9).drew
  refine wp_region_noPanic ?_
  refine wp_region_held_drew (S := (fun w9 => Below w.heap.size w w9)) (by kernel_rfl) ?_ (fun hHeld => ?_)
  · (try dsimp only); exact hP.bel
  refine wpAnyH_take (i := 0) (oi := { dst := some 12, op := Go.Op.move (Go.Operand.tmp 3), type := 40, pos := "law.go:77", after := #[], guard := none }) (v := ?v1) rfl (by kernel_rfl) (by kernel_rfl) (by kernel_rfl) (fun _ _ _ h => h) (Or.inl ⟨by rfl, ?hy1⟩) (by assumption) ?rest1
  case hy1 => (intro w hSw; (try dsimp only at hSw); go_simp <;> with_reducible rfl)
  try simp only [Act.put, List.setIfInBounds_toArray, List.set_cons_zero, List.set_cons_succ]
  refine wpAnyH_take (i := 1) (oi := { dst := some 13, op := Go.Op.move (Go.Operand.tmp 3), type := 40, pos := "law.go:77", after := #[], guard := none }) (v := ?v2) rfl (by kernel_rfl) (by kernel_rfl) (by kernel_rfl) (fun _ _ _ h => h) (Or.inl ⟨by rfl, ?hy2⟩) (by assumption) ?rest2
  case hy2 => (intro w hSw; (try dsimp only at hSw); go_simp <;> with_reducible rfl)
  try simp only [Act.put, List.setIfInBounds_toArray, List.set_cons_zero, List.set_cons_succ]
  refine wpAnyH_take (i := 2) (oi := { dst := some 14, op := Go.Op.call { callee := Go.Callee.builtin Go.Builtin.len, args := #[Go.Operand.tmp 13], argTypes := #[40] }, type := 3, pos := "law.go:77", after := #[{ on := 1, ground := Go.Ground.data }], guard := none }) (v := ?v3) rfl (by kernel_rfl) (by kernel_rfl) (by kernel_rfl) (fun _ _ _ h => h) (Or.inl ⟨by rfl, ?hy3⟩) (by assumption) ?rest3
  case hy3 => (intro w hSw; (try dsimp only at hSw); go_simp <;> with_reducible rfl)
  try simp only [Act.put, List.setIfInBounds_toArray, List.set_cons_zero, List.set_cons_succ]
  refine wpAnyH_take (i := 3) (oi := { dst := some 15, op := Go.Op.binOp Go.BinOp.sub 3 (Go.Operand.tmp 14) (Go.Operand.const (Go.Value.int Go.IntKind.i64 1)) 3, type := 3, pos := "law.go:77", after := #[{ on := 2, ground := Go.Ground.data }], guard := none }) (v := ?v4) rfl (by kernel_rfl) (by kernel_rfl) (by kernel_rfl) (fun _ _ _ h => h) (Or.inl ⟨by rfl, ?hy4⟩) (by assumption) ?rest4
  case hy4 => (intro w hSw; (try dsimp only at hSw); go_simp <;> with_reducible rfl)
  try simp only [Act.put, List.setIfInBounds_toArray, List.set_cons_zero, List.set_cons_succ]
  refine wpAnyH_take (i := 4) (oi := { dst := some 16, op := Go.Op.slice 40 (Go.Operand.tmp 12) none (some (Go.Operand.tmp 15)) none, type := 40, pos := "law.go:77", after := #[{ on := 0, ground := Go.Ground.data }, { on := 3, ground := Go.Ground.data }], guard := none }) (v := ?v5) rfl (by kernel_rfl) (by kernel_rfl) (by kernel_rfl) (fun _ _ _ h => h) (Or.inl ⟨by rfl, ?hy5⟩) (by assumption) ?rest5
  case hy5 => (intro w hSw; (try dsimp only at hSw); go_simp <;> with_reducible rfl)
  try simp only [Act.put, List.setIfInBounds_toArray, List.set_cons_zero, List.set_cons_succ]
  refine wpAnyH_take (i := 6) (oi := { dst := some 18, op := Go.Op.move (Go.Operand.tmp 0), type := 23, pos := "law.go:77", after := #[], guard := none }) (v := ?v6) rfl (by kernel_rfl) (by kernel_rfl) (by kernel_rfl) (fun _ _ _ h => h) (Or.inl ⟨by rfl, ?hy6⟩) (by assumption) ?rest6
  case hy6 => (intro w hSw; (try dsimp only at hSw); go_simp <;> with_reducible rfl)
  try simp only [Act.put, List.setIfInBounds_toArray, List.set_cons_zero, List.set_cons_succ]
  refine wpAnyH_take (i := 7) (oi := { dst := some 19, op := Go.Op.slice 23 (Go.Operand.tmp 18) (some (Go.Operand.const (Go.Value.int Go.IntKind.i64 1))) none none, type := 23, pos := "law.go:77", after := #[{ on := 6, ground := Go.Ground.data }], guard := none }) (v := ?v7) rfl (by kernel_rfl) (by kernel_rfl) (by kernel_rfl) (fun _ _ _ h => h) (Or.inl ⟨by rfl, ?hy7⟩) (by assumption) ?rest7
  case hy7 => (intro w hSw; (try dsimp only at hSw); go_simp <;> with_reducible rfl)
  try simp only [Act.put, List.setIfInBounds_toArray, List.set_cons_zero, List.set_cons_succ]
  refine wpAnyH_ready (rs := [5]) (by kernel_rfl) (by simp) ?_
  refine AllReadyH.cons (o := { dst := some 17, op := Go.Op.call { callee := Go.Callee.builtin Go.Builtin.append, args := #[Go.Operand.const (Go.Value.slice none 0 0), Go.Operand.tmp 16], argTypes := #[40, 40] }, type := 40, pos := "law.go:77", after := #[{ on := 4, ground := Go.Ground.data }], guard := none }) rfl (fun K hK => ?_) AllReadyH.nil
  have hpb : Blk _ w.heap.size (sC [x, y]).toArray 9 := (by first | exact hP.fact.2 | exact hP.fact.1.2); have hRv : Rv _ 1 (.slice (some ⟨w.heap.size, 0, none⟩) 1 2) 1 (sC [x]) := Blk.rv (L := sC [x, y]) hpb (sC_one _) 1 2 (by simp [sC]); obtain ⟨v5, w5, hr5, hP5, ho5⟩ := Pls.appendNil hP (ds := sC [x]) (hRv.src (P := Try.prog) Try.underlying40) Try.underlying40 infoS rfl (by omega) (ty := 40); obtain ⟨a5, c5, rfl, hc5⟩ := (show Vs _ 0 1 _ _ _ from hP5.fact.2).form; clear hc5 hpb hRv; refine step_append_bs rfl _ _ 40 rfl hr5 rfl rfl ?_; clear hr5 hP; have hP := hP5; clear hP5
  refine hK.out _ _ ?_ (fun hHeld2 => ?_)
  · (try dsimp only); exact hP.bel
  clear hK K hHeld
  have hHeld := hHeld2
  clear hHeld2
  try simp only [Act.put, List.setIfInBounds_toArray, List.set_cons_zero, List.set_cons_succ]
  refine wpAnyH_ready (rs := [8]) (by kernel_rfl) (by simp) ?_
  refine AllReadyH.cons (o := { dst := some 20, op := Go.Op.call { callee := Go.Callee.value (Go.Operand.func 17), args := #[Go.Operand.tmp 19], argTypes := #[23] }, type := 40, pos := "law.go:77", after := #[{ on := 7, ground := Go.Ground.data }, { on := 5, ground := Go.Ground.chain }], guard := none }) rfl (fun K hK => ?_) AllReadyH.nil
  go_simp
  go_at_call 17; refine (hIH'.out _ hP.bel).mono ?_; rintro e w8 ⟨u8, rfl, hV8, hb8⟩; have hP8 := hP.newVs hb8 hV8; obtain ⟨a8, c8, rfl, hc8⟩ := hV8.form; (first | (have ho5' := ownApart hP ho5 hV8; have hP9 := hP8.swapK; clear ho5 hP8; have ho5 := ho5'; have hP8 := hP9; clear ho5' hP9) | skip); clear hc8 hV8 hb8 hP; have hP := hP8; clear hP8
  refine hK.out _ _ ?_ (fun hHeld2 => ?_)
  · (try dsimp only); exact hP.bel
  clear hK K hHeld
  have hHeld := hHeld2
  clear hHeld2
  try simp only [Act.put, List.setIfInBounds_toArray, List.set_cons_zero, List.set_cons_succ]
  refine wpAnyH_ready (rs := [9]) (by kernel_rfl) (by simp) ?_
  refine AllReadyH.cons (o := { dst := some 21, op := Go.Op.call { callee := Go.Callee.builtin Go.Builtin.append, args := #[Go.Operand.tmp 17, Go.Operand.tmp 20], argTypes := #[40, 40] }, type := 40, pos := "law.go:77", after := #[{ on := 5, ground := Go.Ground.data }, { on := 8, ground := Go.Ground.data }, { on := 8, ground := Go.Ground.chain }], guard := none }) rfl (fun K hK => ?_) AllReadyH.nil
  obtain ⟨v9, w9, hr9, hP9, ho9⟩ := Pls.appendAny hP ho5 (by omega) ((show Vs _ 0 1 _ _ _ from hP.fact.1.2).src (P := Try.prog) Try.underlying40) Try.underlying40 infoS rfl (by omega) (by omega) (ty := 40); obtain ⟨a9, c9, rfl, hc9⟩ := (show Vs _ 0 1 _ _ _ from hP9.fact.2).form; clear hc9; refine step_append_bs rfl _ _ 40 rfl hr9 rfl rfl ?_; clear hr9 hP; have hP := hP9; clear hP9
  refine hK.out _ _ ?_ (fun hHeld2 => ?_)
  · (try dsimp only); exact hP.bel
  clear hK K hHeld
  have hHeld := hHeld2
  clear hHeld2
  try simp only [Act.put, List.setIfInBounds_toArray, List.set_cons_zero, List.set_cons_succ]
  refine wpAnyH_take (i := 10) (oi := { dst := some 4, op := Go.Op.assign (Go.Operand.tmp 21), type := 40, pos := "law.go:77", after := #[{ on := 9, ground := Go.Ground.data }, { on := 9, ground := Go.Ground.chain }, { on := 0, ground := Go.Ground.phase }, { on := 1, ground := Go.Ground.phase }, { on := 2, ground := Go.Ground.phase }, { on := 3, ground := Go.Ground.phase }, { on := 4, ground := Go.Ground.phase }, { on := 5, ground := Go.Ground.phase }, { on := 6, ground := Go.Ground.phase }, { on := 7, ground := Go.Ground.phase }, { on := 8, ground := Go.Ground.phase }, { on := 9, ground := Go.Ground.phase }], guard := none }) (v := ?v8) rfl (by kernel_rfl) (by kernel_rfl) (by kernel_rfl) (fun _ _ _ h => h) (Or.inl ⟨by rfl, ?hy8⟩) (by assumption) ?rest8
  case hy8 => (intro w hSw; (try dsimp only at hSw); go_simp <;> with_reducible rfl)
  try simp only [Act.put, List.setIfInBounds_toArray, List.set_cons_zero, List.set_cons_succ]
  refine wpAnyH_done (by kernel_rfl) ?_ _
  refine NoPanic.normal ?_
  have hq : (([x] : List ByteArray).length + (nestS l).length) + 1 = (nestS (n :: l)).length := by rw [hns.out]; simp; omega
  have hcat : sC [x] ++ sC (nestS l) ++ [.string y] = sC (nestS (n :: l)) := by rw [hns.out, sC_app, sC_app]; rfl
  have yl : w9.cell? ⟨w.heap.size, 1, none⟩ = some (.string y) := (show Blk w9 w.heap.size #[.string x, .string y] _ from hP.fact.1.1.2).cell 1
  have hVl : Vs (w9.alloc (.cells #[.string y] 9)) 0 1 (.slice (some ⟨w9.heap.size, 0, none⟩) 1 1) 1 [.string y] := Vs.lit1 w9 (.string y) 9 rfl
  obtain ⟨v10, w10, hr10, hP10, -⟩ := Pls.appendVs (P := Try.prog) (hP.alloc (.cells #[.string y] 9)) ho9 (hVl.src Try.underlying40) Try.underlying40 infoS rfl (by omega) (by omega) (by omega) (ty := 40)
  have hbel := hP10.bel
  have hV10 := hP10.vsB
  clear hP10 hP hVl
  go_wp2_with (at_builtin; refine wpList_append_bs rfl _ _ 40 rfl hr10 rfl rfl ?_)
  go_ret
  refine ⟨_, rfl, ?_, hbel⟩
  rw [← hq, ← hcat]
  exact hV10
set_option maxRecDepth 100000 in
set_option maxHeartbeats 2000000 in
theorem nestW2b {w : World} {a : Addr} {n : Int} {l : List Int} {cap : Nat} (hv : Rv w 1 (.slice (some a) (l.length + 1) cap) (l.length + 1) (ic (n :: l))) (hl : l.length ≤ 15) {x y : ByteArray} (hps : pieceS n = [x, y])
    (hPc : ∀ w9 : World, Calls Try.prog 42 #[.int .i64 n] w9 fun e w' => e = .returned (.slice (some ⟨w9.heap.size, 0, none⟩) 2 2) ∧ w' = w9.alloc (.cells #[.string x, .string y] 9)) (hcap : cap ≠ 1)
    (hIH : ∀ w1, Below w.heap.size w w1 → Calls Try.prog 17 #[(.slice (some ⟨a.block, a.off + 1, none⟩) l.length (cap - 1))] w1 fun e w' => ∃ u, e = .returned u ∧ Vs w' w1.heap.size 1 u (nestS l).length (sC (nestS l)) ∧ Below w1.heap.size w1 w') :
    Calls Try.prog 17 #[.slice (some a) (l.length + 1) cap] w fun e w' => ∃ u, e = .returned u ∧ Vs w' w.heap.size 1 u (nestS (n :: l)).length (sC (nestS (n :: l))) ∧ Below w.heap.size w w' := by
  have hns : nestS (n :: l) = [x] ++ nestS l ++ [y] := by rw [nestS_cons, hps]; rfl
  have hnl := nestS_len l
  have z0 : w.cell? a = some (.int .i64 n) := by
    rcases hv.2.2 with ⟨e, _⟩ | ⟨a', c, e, h5⟩
    · cases e
    · cases e
      have := h5 0 _ rfl
      rwa [add_zeroC] at this
  have t0 : (((l.length + 1 : Nat) : Int) == 0) = false := by simp; omega
  have z1 : w.cell? (a.add 0) = some (.int .i64 n) := by rw [add_zeroC]; exact z0
  have t1 : ((l.length : Int) + 1 == 0) = false := by simp; omega
  have hn1 : (l.length + 1 = 0) = False := eq_false (by omega)
  have ww1 : IntKind.i64.wrap 1 = 1 := by decide
  have k3 : ((1 : Int) ≤ (l.length : Int) + 1) = True := eq_true (by omega)
  have ww2 : IntKind.i64.wrap 2 = 2 := by decide
  have hIH' := Lib.hid hIH
  have hPc' := Lib.hid hPc
  replace hns := Lib.hid hns
  have k1 : (cap = 1) = False := eq_false hcap
  clear hIH hPc hps hv
  go_enter Try.func17, Try.ntmps17
  go_upto_region 4 with (go_at_call 42; refine (hPc'.out _).mono ?_; rintro e w1 ⟨rfl, rfl⟩)
  have hP := ((Pls.start w).new #[.string x, .string y] 9).drew
  refine wp_region_noPanic ?_
  refine wp_region_held_drew (S := (fun w9 => Below w.heap.size w w9)) (by kernel_rfl) ?_ (fun hHeld => ?_)
  · (try dsimp only); exact hP.bel
  refine wpAnyH_take (i := 0) (oi := { dst := some 12, op := Go.Op.move (Go.Operand.tmp 3), type := 40, pos := "law.go:77", after := #[], guard := none }) (v := ?v9) rfl (by kernel_rfl) (by kernel_rfl) (by kernel_rfl) (fun _ _ _ h => h) (Or.inl ⟨by rfl, ?hy9⟩) (by assumption) ?rest9
  case hy9 => (intro w hSw; (try dsimp only at hSw); go_simp <;> with_reducible rfl)
  try simp only [Act.put, List.setIfInBounds_toArray, List.set_cons_zero, List.set_cons_succ]
  refine wpAnyH_take (i := 1) (oi := { dst := some 13, op := Go.Op.move (Go.Operand.tmp 3), type := 40, pos := "law.go:77", after := #[], guard := none }) (v := ?v10) rfl (by kernel_rfl) (by kernel_rfl) (by kernel_rfl) (fun _ _ _ h => h) (Or.inl ⟨by rfl, ?hy10⟩) (by assumption) ?rest10
  case hy10 => (intro w hSw; (try dsimp only at hSw); go_simp <;> with_reducible rfl)
  try simp only [Act.put, List.setIfInBounds_toArray, List.set_cons_zero, List.set_cons_succ]
  refine wpAnyH_take (i := 2) (oi := { dst := some 14, op := Go.Op.call { callee := Go.Callee.builtin Go.Builtin.len, args := #[Go.Operand.tmp 13], argTypes := #[40] }, type := 3, pos := "law.go:77", after := #[{ on := 1, ground := Go.Ground.data }], guard := none }) (v := ?v11) rfl (by kernel_rfl) (by kernel_rfl) (by kernel_rfl) (fun _ _ _ h => h) (Or.inl ⟨by rfl, ?hy11⟩) (by assumption) ?rest11
  case hy11 => (intro w hSw; (try dsimp only at hSw); go_simp <;> with_reducible rfl)
  try simp only [Act.put, List.setIfInBounds_toArray, List.set_cons_zero, List.set_cons_succ]
  refine wpAnyH_take (i := 3) (oi := { dst := some 15, op := Go.Op.binOp Go.BinOp.sub 3 (Go.Operand.tmp 14) (Go.Operand.const (Go.Value.int Go.IntKind.i64 1)) 3, type := 3, pos := "law.go:77", after := #[{ on := 2, ground := Go.Ground.data }], guard := none }) (v := ?v12) rfl (by kernel_rfl) (by kernel_rfl) (by kernel_rfl) (fun _ _ _ h => h) (Or.inl ⟨by rfl, ?hy12⟩) (by assumption) ?rest12
  case hy12 => (intro w hSw; (try dsimp only at hSw); go_simp <;> with_reducible rfl)
  try simp only [Act.put, List.setIfInBounds_toArray, List.set_cons_zero, List.set_cons_succ]
  refine wpAnyH_take (i := 4) (oi := { dst := some 16, op := Go.Op.slice 40 (Go.Operand.tmp 12) none (some (Go.Operand.tmp 15)) none, type := 40, pos := "law.go:77", after := #[{ on := 0, ground := Go.Ground.data }, { on := 3, ground := Go.Ground.data }], guard := none }) (v := ?v13) rfl (by kernel_rfl) (by kernel_rfl) (by kernel_rfl) (fun _ _ _ h => h) (Or.inl ⟨by rfl, ?hy13⟩) (by assumption) ?rest13
  case hy13 => (intro w hSw; (try dsimp only at hSw); go_simp <;> with_reducible rfl)
  try simp only [Act.put, List.setIfInBounds_toArray, List.set_cons_zero, List.set_cons_succ]
  refine wpAnyH_take (i := 6) (oi := { dst := some 18, op := Go.Op.move (Go.Operand.tmp 0), type := 23, pos := "law.go:77", after := #[], guard := none }) (v := ?v14) rfl (by kernel_rfl) (by kernel_rfl) (by kernel_rfl) (fun _ _ _ h => h) (Or.inl ⟨by rfl, ?hy14⟩) (by assumption) ?rest14
  case hy14 => (intro w hSw; (try dsimp only at hSw); go_simp <;> with_reducible rfl)
  try simp only [Act.put, List.setIfInBounds_toArray, List.set_cons_zero, List.set_cons_succ]
  refine wpAnyH_take (i := 7) (oi := { dst := some 19, op := Go.Op.slice 23 (Go.Operand.tmp 18) (some (Go.Operand.const (Go.Value.int Go.IntKind.i64 1))) none none, type := 23, pos := "law.go:77", after := #[{ on := 6, ground := Go.Ground.data }], guard := none }) (v := ?v15) rfl (by kernel_rfl) (by kernel_rfl) (by kernel_rfl) (fun _ _ _ h => h) (Or.inl ⟨by rfl, ?hy15⟩) (by assumption) ?rest15
  case hy15 => (intro w hSw; (try dsimp only at hSw); go_simp <;> with_reducible rfl)
  try simp only [Act.put, List.setIfInBounds_toArray, List.set_cons_zero, List.set_cons_succ]
  refine wpAnyH_ready (rs := [5]) (by kernel_rfl) (by simp) ?_
  refine AllReadyH.cons (o := { dst := some 17, op := Go.Op.call { callee := Go.Callee.builtin Go.Builtin.append, args := #[Go.Operand.const (Go.Value.slice none 0 0), Go.Operand.tmp 16], argTypes := #[40, 40] }, type := 40, pos := "law.go:77", after := #[{ on := 4, ground := Go.Ground.data }], guard := none }) rfl (fun K hK => ?_) AllReadyH.nil
  have hpb : Blk _ w.heap.size (sC [x, y]).toArray 9 := (by first | exact hP.fact.2 | exact hP.fact.1.2); have hRv : Rv _ 1 (.slice (some ⟨w.heap.size, 0, none⟩) 1 2) 1 (sC [x]) := Blk.rv (L := sC [x, y]) hpb (sC_one _) 1 2 (by simp [sC]); obtain ⟨v5, w5, hr5, hP5, ho5⟩ := Pls.appendNil hP (ds := sC [x]) (hRv.src (P := Try.prog) Try.underlying40) Try.underlying40 infoS rfl (by omega) (ty := 40); obtain ⟨a5, c5, rfl, hc5⟩ := (show Vs _ 0 1 _ _ _ from hP5.fact.2).form; clear hc5 hpb hRv; refine step_append_bs rfl _ _ 40 rfl hr5 rfl rfl ?_; clear hr5 hP; have hP := hP5; clear hP5
  refine hK.out _ _ ?_ (fun hHeld2 => ?_)
  · (try dsimp only); exact hP.bel
  clear hK K hHeld
  have hHeld := hHeld2
  clear hHeld2
  try simp only [Act.put, List.setIfInBounds_toArray, List.set_cons_zero, List.set_cons_succ]
  refine wpAnyH_ready (rs := [8]) (by kernel_rfl) (by simp) ?_
  refine AllReadyH.cons (o := { dst := some 20, op := Go.Op.call { callee := Go.Callee.value (Go.Operand.func 17), args := #[Go.Operand.tmp 19], argTypes := #[23] }, type := 40, pos := "law.go:77", after := #[{ on := 7, ground := Go.Ground.data }, { on := 5, ground := Go.Ground.chain }], guard := none }) rfl (fun K hK => ?_) AllReadyH.nil
  go_simp
  go_at_call 17; refine (hIH'.out _ hP.bel).mono ?_; rintro e w8 ⟨u8, rfl, hV8, hb8⟩; have hP8 := hP.newVs hb8 hV8; obtain ⟨a8, c8, rfl, hc8⟩ := hV8.form; (first | (have ho5' := ownApart hP ho5 hV8; have hP9 := hP8.swapK; clear ho5 hP8; have ho5 := ho5'; have hP8 := hP9; clear ho5' hP9) | skip); clear hc8 hV8 hb8 hP; have hP := hP8; clear hP8
  refine hK.out _ _ ?_ (fun hHeld2 => ?_)
  · (try dsimp only); exact hP.bel
  clear hK K hHeld
  have hHeld := hHeld2
  clear hHeld2
  try simp only [Act.put, List.setIfInBounds_toArray, List.set_cons_zero, List.set_cons_succ]
  refine wpAnyH_ready (rs := [9]) (by kernel_rfl) (by simp) ?_
  refine AllReadyH.cons (o := { dst := some 21, op := Go.Op.call { callee := Go.Callee.builtin Go.Builtin.append, args := #[Go.Operand.tmp 17, Go.Operand.tmp 20], argTypes := #[40, 40] }, type := 40, pos := "law.go:77", after := #[{ on := 5, ground := Go.Ground.data }, { on := 8, ground := Go.Ground.data }, { on := 8, ground := Go.Ground.chain }], guard := none }) rfl (fun K hK => ?_) AllReadyH.nil
  obtain ⟨v9, w9, hr9, hP9, ho9⟩ := Pls.appendAny hP ho5 (by omega) ((show Vs _ 0 1 _ _ _ from hP.fact.1.2).src (P := Try.prog) Try.underlying40) Try.underlying40 infoS rfl (by omega) (by omega) (ty := 40); obtain ⟨a9, c9, rfl, hc9⟩ := (show Vs _ 0 1 _ _ _ from hP9.fact.2).form; clear hc9; refine step_append_bs rfl _ _ 40 rfl hr9 rfl rfl ?_; clear hr9 hP; have hP := hP9; clear hP9
  refine hK.out _ _ ?_ (fun hHeld2 => ?_)
  · (try dsimp only); exact hP.bel
  clear hK K hHeld
  have hHeld := hHeld2
  clear hHeld2
  try simp only [Act.put, List.setIfInBounds_toArray, List.set_cons_zero, List.set_cons_succ]
  refine wpAnyH_take (i := 10) (oi := { dst := some 4, op := Go.Op.assign (Go.Operand.tmp 21), type := 40, pos := "law.go:77", after := #[{ on := 9, ground := Go.Ground.data }, { on := 9, ground := Go.Ground.chain }, { on := 0, ground := Go.Ground.phase }, { on := 1, ground := Go.Ground.phase }, { on := 2, ground := Go.Ground.phase }, { on := 3, ground := Go.Ground.phase }, { on := 4, ground := Go.Ground.phase }, { on := 5, ground := Go.Ground.phase }, { on := 6, ground := Go.Ground.phase }, { on := 7, ground := Go.Ground.phase }, { on := 8, ground := Go.Ground.phase }, { on := 9, ground := Go.Ground.phase }], guard := none }) (v := ?v16) rfl (by kernel_rfl) (by kernel_rfl) (by kernel_rfl) (fun _ _ _ h => h) (Or.inl ⟨by rfl, ?hy16⟩) (by assumption) ?rest16
  case hy16 => (intro w hSw; (try dsimp only at hSw); go_simp <;> with_reducible rfl)
  try simp only [Act.put, List.setIfInBounds_toArray, List.set_cons_zero, List.set_cons_succ]
  refine wpAnyH_done (by kernel_rfl) ?_ _
  refine NoPanic.normal ?_
  have hq : (([x] : List ByteArray).length + (nestS l).length) + 1 = (nestS (n :: l)).length := by rw [hns.out]; simp; omega
  have hcat : sC [x] ++ sC (nestS l) ++ [.string y] = sC (nestS (n :: l)) := by rw [hns.out, sC_app, sC_app]; rfl
  have yl : w9.cell? ⟨w.heap.size, 1, none⟩ = some (.string y) := (show Blk w9 w.heap.size #[.string x, .string y] _ from hP.fact.1.1.2).cell 1
  have hVl : Vs (w9.alloc (.cells #[.string y] 9)) 0 1 (.slice (some ⟨w9.heap.size, 0, none⟩) 1 1) 1 [.string y] := Vs.lit1 w9 (.string y) 9 rfl
  obtain ⟨v10, w10, hr10, hP10, -⟩ := Pls.appendVs (P := Try.prog) (hP.alloc (.cells #[.string y] 9)) ho9 (hVl.src Try.underlying40) Try.underlying40 infoS rfl (by omega) (by omega) (by omega) (ty := 40)
  have hbel := hP10.bel
  have hV10 := hP10.vsB
  clear hP10 hP hVl
  go_wp2_with (at_builtin; refine wpList_append_bs rfl _ _ 40 rfl hr10 rfl rfl ?_)
  go_ret
  refine ⟨_, rfl, ?_, hbel⟩
  rw [← hq, ← hcat]
  exact hV10
set_option maxRecDepth 100000 in
set_option maxHeartbeats 2000000 in
theorem nestW3a {w : World} {a : Addr} {n : Int} {l : List Int} {cap : Nat} (hv : Rv w 1 (.slice (some a) (l.length + 1) cap) (l.length + 1) (ic (n :: l))) (hl : l.length ≤ 15) {x y z : ByteArray} (hps : pieceS n = [x, y, z])
    (hPc : ∀ w9 : World, Calls Try.prog 42 #[.int .i64 n] w9 fun e w' => e = .returned (.slice (some ⟨w9.heap.size, 0, none⟩) 3 3) ∧ w' = w9.alloc (.cells #[.string x, .string y, .string z] 9)) (hcap : cap = 1)
    (hIH : ∀ w1, Below w.heap.size w w1 → Calls Try.prog 17 #[(.slice (some a) l.length 0)] w1 fun e w' => ∃ u, e = .returned u ∧ Vs w' w1.heap.size 1 u (nestS l).length (sC (nestS l)) ∧ Below w1.heap.size w1 w') :
    Calls Try.prog 17 #[.slice (some a) (l.length + 1) cap] w fun e w' => ∃ u, e = .returned u ∧ Vs w' w.heap.size 1 u (nestS (n :: l)).length (sC (nestS (n :: l))) ∧ Below w.heap.size w w' := by
  have hns : nestS (n :: l) = [x, y] ++ nestS l ++ [z] := by rw [nestS_cons, hps]; rfl
  have hnl := nestS_len l
  have z0 : w.cell? a = some (.int .i64 n) := by
    rcases hv.2.2 with ⟨e, _⟩ | ⟨a', c, e, h5⟩
    · cases e
    · cases e
      have := h5 0 _ rfl
      rwa [add_zeroC] at this
  have t0 : (((l.length + 1 : Nat) : Int) == 0) = false := by simp; omega
  have z1 : w.cell? (a.add 0) = some (.int .i64 n) := by rw [add_zeroC]; exact z0
  have t1 : ((l.length : Int) + 1 == 0) = false := by simp; omega
  have hn1 : (l.length + 1 = 0) = False := eq_false (by omega)
  have ww1 : IntKind.i64.wrap 1 = 1 := by decide
  have k3 : ((1 : Int) ≤ (l.length : Int) + 1) = True := eq_true (by omega)
  have ww2 : IntKind.i64.wrap 2 = 2 := by decide
  have hIH' := Lib.hid hIH
  have hPc' := Lib.hid hPc
  replace hns := Lib.hid hns
  clear hIH hPc hps hv
  go_enter Try.func17, Try.ntmps17
  go_upto_region 4 with (go_at_call 42; refine (hPc'.out _).mono ?_; rintro e w1 ⟨rfl, rfl⟩)
  have hP := ((Pls.start w).new #[.string x, .string y, .string z] 9).drew
  refine wp_region_noPanic ?_
  refine wp_region_held_drew (S := (fun w9 => Below w.heap.size w w9)) (by kernel_rfl) ?_ (fun hHeld => ?_)
  · (try dsimp only); exact hP.bel
  refine wpAnyH_take (i := 0) (oi := { dst := some 12, op := Go.Op.move (Go.Operand.tmp 3), type := 40, pos := "law.go:77", after := #[], guard := none }) (v := ?v17) rfl (by kernel_rfl) (by kernel_rfl) (by kernel_rfl) (fun _ _ _ h => h) (Or.inl ⟨by rfl, ?hy17⟩) (by assumption) ?rest17
  case hy17 => (intro w hSw; (try dsimp only at hSw); go_simp <;> with_reducible rfl)
  try simp only [Act.put, List.setIfInBounds_toArray, List.set_cons_zero, List.set_cons_succ]
  refine wpAnyH_take (i := 1) (oi := { dst := some 13, op := Go.Op.move (Go.Operand.tmp 3), type := 40, pos := "law.go:77", after := #[], guard := none }) (v := ?v18) rfl (by kernel_rfl) (by kernel_rfl) (by kernel_rfl) (fun _ _ _ h => h) (Or.inl ⟨by rfl, ?hy18⟩) (by assumption) ?rest18
  case hy18 => (intro w hSw; (try dsimp only at hSw); go_simp <;> with_reducible rfl)
  try simp only [Act.put, List.setIfInBounds_toArray, List.set_cons_zero, List.set_cons_succ]
  refine wpAnyH_take (i := 2) (oi := { dst := some 14, op := Go.Op.call { callee := Go.Callee.builtin Go.Builtin.len, args := #[Go.Operand.tmp 13], argTypes := #[40] }, type := 3, pos := "law.go:77", after := #[{ on := 1, ground := Go.Ground.data }], guard := none }) (v := ?v19) rfl (by kernel_rfl) (by kernel_rfl) (by kernel_rfl) (fun _ _ _ h => h) (Or.inl ⟨by rfl, ?hy19⟩) (by assumption) ?rest19
  case hy19 => (intro w hSw; (try dsimp only at hSw); go_simp <;> with_reducible rfl)
  try simp only [Act.put, List.setIfInBounds_toArray, List.set_cons_zero, List.set_cons_succ]
  refine wpAnyH_take (i := 3) (oi := { dst := some 15, op := Go.Op.binOp Go.BinOp.sub 3 (Go.Operand.tmp 14) (Go.Operand.const (Go.Value.int Go.IntKind.i64 1)) 3, type := 3, pos := "law.go:77", after := #[{ on := 2, ground := Go.Ground.data }], guard := none }) (v := ?v20) rfl (by kernel_rfl) (by kernel_rfl) (by kernel_rfl) (fun _ _ _ h => h) (Or.inl ⟨by rfl, ?hy20⟩) (by assumption) ?rest20
  case hy20 => (intro w hSw; (try dsimp only at hSw); go_simp <;> with_reducible rfl)
  try simp only [Act.put, List.setIfInBounds_toArray, List.set_cons_zero, List.set_cons_succ]
  refine wpAnyH_take (i := 4) (oi := { dst := some 16, op := Go.Op.slice 40 (Go.Operand.tmp 12) none (some (Go.Operand.tmp 15)) none, type := 40, pos := "law.go:77", after := #[{ on := 0, ground := Go.Ground.data }, { on := 3, ground := Go.Ground.data }], guard := none }) (v := ?v21) rfl (by kernel_rfl) (by kernel_rfl) (by kernel_rfl) (fun _ _ _ h => h) (Or.inl ⟨by rfl, ?hy21⟩) (by assumption) ?rest21
  case hy21 => (intro w hSw; (try dsimp only at hSw); go_simp <;> with_reducible rfl)
  try simp only [Act.put, List.setIfInBounds_toArray, List.set_cons_zero, List.set_cons_succ]
  refine wpAnyH_take (i := 6) (oi := { dst := some 18, op := Go.Op.move (Go.Operand.tmp 0), type := 23, pos := "law.go:77", after := #[], guard := none }) (v := ?v22) rfl (by kernel_rfl) (by kernel_rfl) (by kernel_rfl) (fun _ _ _ h => h) (Or.inl ⟨by rfl, ?hy22⟩) (by assumption) ?rest22
  case hy22 => (intro w hSw; (try dsimp only at hSw); go_simp <;> with_reducible rfl)
  try simp only [Act.put, List.setIfInBounds_toArray, List.set_cons_zero, List.set_cons_succ]
  refine wpAnyH_take (i := 7) (oi := { dst := some 19, op := Go.Op.slice 23 (Go.Operand.tmp 18) (some (Go.Operand.const (Go.Value.int Go.IntKind.i64 1))) none none, type := 23, pos := "law.go:77", after := #[{ on := 6, ground := Go.Ground.data }], guard := none }) (v := ?v23) rfl (by kernel_rfl) (by kernel_rfl) (by kernel_rfl) (fun _ _ _ h => h) (Or.inl ⟨by rfl, ?hy23⟩) (by assumption) ?rest23
  case hy23 => (intro w hSw; (try dsimp only at hSw); go_simp <;> with_reducible rfl)
  try simp only [Act.put, List.setIfInBounds_toArray, List.set_cons_zero, List.set_cons_succ]
  refine wpAnyH_ready (rs := [5]) (by kernel_rfl) (by simp) ?_
  refine AllReadyH.cons (o := { dst := some 17, op := Go.Op.call { callee := Go.Callee.builtin Go.Builtin.append, args := #[Go.Operand.const (Go.Value.slice none 0 0), Go.Operand.tmp 16], argTypes := #[40, 40] }, type := 40, pos := "law.go:77", after := #[{ on := 4, ground := Go.Ground.data }], guard := none }) rfl (fun K hK => ?_) AllReadyH.nil
  have hpb : Blk _ w.heap.size (sC [x, y, z]).toArray 9 := (by first | exact hP.fact.2 | exact hP.fact.1.2); have hRv : Rv _ 1 (.slice (some ⟨w.heap.size, 0, none⟩) 2 3) 2 (sC [x, y]) := Blk.rv (L := sC [x, y, z]) hpb (sC_one _) 2 3 (by simp [sC]); obtain ⟨v5, w5, hr5, hP5, ho5⟩ := Pls.appendNil hP (ds := sC [x, y]) (hRv.src (P := Try.prog) Try.underlying40) Try.underlying40 infoS rfl (by omega) (ty := 40); obtain ⟨a5, c5, rfl, hc5⟩ := (show Vs _ 0 1 _ _ _ from hP5.fact.2).form; clear hc5 hpb hRv; refine step_append_bs rfl _ _ 40 rfl hr5 rfl rfl ?_; clear hr5 hP; have hP := hP5; clear hP5
  refine hK.out _ _ ?_ (fun hHeld2 => ?_)
  · (try dsimp only); exact hP.bel
  clear hK K hHeld
  have hHeld := hHeld2
  clear hHeld2
  try simp only [Act.put, List.setIfInBounds_toArray, List.set_cons_zero, List.set_cons_succ]
  refine wpAnyH_ready (rs := [8]) (by kernel_rfl) (by simp) ?_
  refine AllReadyH.cons (o := { dst := some 20, op := Go.Op.call { callee := Go.Callee.value (Go.Operand.func 17), args := #[Go.Operand.tmp 19], argTypes := #[23] }, type := 40, pos := "law.go:77", after := #[{ on := 7, ground := Go.Ground.data }, { on := 5, ground := Go.Ground.chain }], guard := none }) rfl (fun K hK => ?_) AllReadyH.nil
  go_simp
  go_at_call 17; refine (hIH'.out _ hP.bel).mono ?_; rintro e w8 ⟨u8, rfl, hV8, hb8⟩; have hP8 := hP.newVs hb8 hV8; obtain ⟨a8, c8, rfl, hc8⟩ := hV8.form; (first | (have ho5' := ownApart hP ho5 hV8; have hP9 := hP8.swapK; clear ho5 hP8; have ho5 := ho5'; have hP8 := hP9; clear ho5' hP9) | skip); clear hc8 hV8 hb8 hP; have hP := hP8; clear hP8
  refine hK.out _ _ ?_ (fun hHeld2 => ?_)
  · (try dsimp only); exact hP.bel
  clear hK K hHeld
  have hHeld := hHeld2
  clear hHeld2
  try simp only [Act.put, List.setIfInBounds_toArray, List.set_cons_zero, List.set_cons_succ]
  refine wpAnyH_ready (rs := [9]) (by kernel_rfl) (by simp) ?_
  refine AllReadyH.cons (o := { dst := some 21, op := Go.Op.call { callee := Go.Callee.builtin Go.Builtin.append, args := #[Go.Operand.tmp 17, Go.Operand.tmp 20], argTypes := #[40, 40] }, type := 40, pos := "law.go:77", after := #[{ on := 5, ground := Go.Ground.data }, { on := 8, ground := Go.Ground.data }, { on := 8, ground := Go.Ground.chain }], guard := none }) rfl (fun K hK => ?_) AllReadyH.nil
  obtain ⟨v9, w9, hr9, hP9, ho9⟩ := Pls.appendAny hP ho5 (by omega) ((show Vs _ 0 1 _ _ _ from hP.fact.1.2).src (P := Try.prog) Try.underlying40) Try.underlying40 infoS rfl (by omega) (by omega) (ty := 40); obtain ⟨a9, c9, rfl, hc9⟩ := (show Vs _ 0 1 _ _ _ from hP9.fact.2).form; clear hc9; refine step_append_bs rfl _ _ 40 rfl hr9 rfl rfl ?_; clear hr9 hP; have hP := hP9; clear hP9
  refine hK.out _ _ ?_ (fun hHeld2 => ?_)
  · (try dsimp only); exact hP.bel
  clear hK K hHeld
  have hHeld := hHeld2
  clear hHeld2
  try simp only [Act.put, List.setIfInBounds_toArray, List.set_cons_zero, List.set_cons_succ]
  refine wpAnyH_take (i := 10) (oi := { dst := some 4, op := Go.Op.assign (Go.Operand.tmp 21), type := 40, pos := "law.go:77", after := #[{ on := 9, ground := Go.Ground.data }, { on := 9, ground := Go.Ground.chain }, { on := 0, ground := Go.Ground.phase }, { on := 1, ground := Go.Ground.phase }, { on := 2, ground := Go.Ground.phase }, { on := 3, ground := Go.Ground.phase }, { on := 4, ground := Go.Ground.phase }, { on := 5, ground := Go.Ground.phase }, { on := 6, ground := Go.Ground.phase }, { on := 7, ground := Go.Ground.phase }, { on := 8, ground := Go.Ground.phase }, { on := 9, ground := Go.Ground.phase }], guard := none }) (v := ?v24) rfl (by kernel_rfl) (by kernel_rfl) (by kernel_rfl) (fun _ _ _ h => h) (Or.inl ⟨by rfl, ?hy24⟩) (by assumption) ?rest24
  case hy24 => (intro w hSw; (try dsimp only at hSw); go_simp <;> with_reducible rfl)
  try simp only [Act.put, List.setIfInBounds_toArray, List.set_cons_zero, List.set_cons_succ]
  refine wpAnyH_done (by kernel_rfl) ?_ _
  refine NoPanic.normal ?_
  have hq : (([x, y] : List ByteArray).length + (nestS l).length) + 1 = (nestS (n :: l)).length := by rw [hns.out]; simp; omega
  have hcat : sC [x, y] ++ sC (nestS l) ++ [.string z] = sC (nestS (n :: l)) := by rw [hns.out, sC_app, sC_app]; rfl
  have yl : w9.cell? ⟨w.heap.size, 2, none⟩ = some (.string z) := (show Blk w9 w.heap.size #[.string x, .string y, .string z] _ from hP.fact.1.1.2).cell 2
  have hVl : Vs (w9.alloc (.cells #[.string z] 9)) 0 1 (.slice (some ⟨w9.heap.size, 0, none⟩) 1 1) 1 [.string z] := Vs.lit1 w9 (.string z) 9 rfl
  obtain ⟨v10, w10, hr10, hP10, -⟩ := Pls.appendVs (P := Try.prog) (hP.alloc (.cells #[.string z] 9)) ho9 (hVl.src Try.underlying40) Try.underlying40 infoS rfl (by omega) (by omega) (by omega) (ty := 40)
  have hbel := hP10.bel
  have hV10 := hP10.vsB
  clear hP10 hP hVl
  go_wp2_with (at_builtin; refine wpList_append_bs rfl _ _ 40 rfl hr10 rfl rfl ?_)
  go_ret
  refine ⟨_, rfl, ?_, hbel⟩
  rw [← hq, ← hcat]
  exact hV10
set_option maxRecDepth 100000 in
set_option maxHeartbeats 2000000 in
theorem nestW3b {w : World} {a : Addr} {n : Int} {l : List Int} {cap : Nat} (hv : Rv w 1 (.slice (some a) (l.length + 1) cap) (l.length + 1) (ic (n :: l))) (hl : l.length ≤ 15) {x y z : ByteArray} (hps : pieceS n = [x, y, z])
    (hPc : ∀ w9 : World, Calls Try.prog 42 #[.int .i64 n] w9 fun e w' => e = .returned (.slice (some ⟨w9.heap.size, 0, none⟩) 3 3) ∧ w' = w9.alloc (.cells #[.string x, .string y, .string z] 9)) (hcap : cap ≠ 1)
    (hIH : ∀ w1, Below w.heap.size w w1 → Calls Try.prog 17 #[(.slice (some ⟨a.block, a.off + 1, none⟩) l.length (cap - 1))] w1 fun e w' => ∃ u, e = .returned u ∧ Vs w' w1.heap.size 1 u (nestS l).length (sC (nestS l)) ∧ Below w1.heap.size w1 w') :
    Calls Try.prog 17 #[.slice (some a) (l.length + 1) cap] w fun e w' => ∃ u, e = .returned u ∧ Vs w' w.heap.size 1 u (nestS (n :: l)).length (sC (nestS (n :: l))) ∧ Below w.heap.size w w' := by
  have hns : nestS (n :: l) = [x, y] ++ nestS l ++ [z] := by rw [nestS_cons, hps]; rfl
  have hnl := nestS_len l
  have z0 : w.cell? a = some (.int .i64 n) := by
    rcases hv.2.2 with ⟨e, _⟩ | ⟨a', c, e, h5⟩
    · cases e
    · cases e
      have := h5 0 _ rfl
      rwa [add_zeroC] at this
  have t0 : (((l.length + 1 : Nat) : Int) == 0) = false := by simp; omega
  have z1 : w.cell? (a.add 0) = some (.int .i64 n) := by rw [add_zeroC]; exact z0
  have t1 : ((l.length : Int) + 1 == 0) = false := by simp; omega
  have hn1 : (l.length + 1 = 0) = False := eq_false (by omega)
  have ww1 : IntKind.i64.wrap 1 = 1 := by decide
  have k3 : ((1 : Int) ≤ (l.length : Int) + 1) = True := eq_true (by omega)
  have ww2 : IntKind.i64.wrap 2 = 2 := by decide
  have hIH' := Lib.hid hIH
  have hPc' := Lib.hid hPc
  replace hns := Lib.hid hns
  have k1 : (cap = 1) = False := eq_false hcap
  clear hIH hPc hps hv
  go_enter Try.func17, Try.ntmps17
  go_upto_region 4 with (go_at_call 42; refine (hPc'.out _).mono ?_; rintro e w1 ⟨rfl, rfl⟩)
  have hP := ((Pls.start w).new #[.string x, .string y, .string z] 9).drew
  refine wp_region_noPanic ?_
  refine wp_region_held_drew (S := (fun w9 => Below w.heap.size w w9)) (by kernel_rfl) ?_ (fun hHeld => ?_)
  · (try dsimp only); exact hP.bel
  refine wpAnyH_take (i := 0) (oi := { dst := some 12, op := Go.Op.move (Go.Operand.tmp 3), type := 40, pos := "law.go:77", after := #[], guard := none }) (v := ?v25) rfl (by kernel_rfl) (by kernel_rfl) (by kernel_rfl) (fun _ _ _ h => h) (Or.inl ⟨by rfl, ?hy25⟩) (by assumption) ?rest25
  case hy25 => (intro w hSw; (try dsimp only at hSw); go_simp <;> with_reducible rfl)
  try simp only [Act.put, List.setIfInBounds_toArray, List.set_cons_zero, List.set_cons_succ]
  refine wpAnyH_take (i := 1) (oi := { dst := some 13, op := Go.Op.move (Go.Operand.tmp 3), type := 40, pos := "law.go:77", after := #[], guard := none }) (v := ?v26) rfl (by kernel_rfl) (by kernel_rfl) (by kernel_rfl) (fun _ _ _ h => h) (Or.inl ⟨by rfl, ?hy26⟩) (by assumption) ?rest26
  case hy26 => (intro w hSw; (try dsimp only at hSw); go_simp <;> with_reducible rfl)
  try simp only [Act.put, List.setIfInBounds_toArray, List.set_cons_zero, List.set_cons_succ]
  refine wpAnyH_take (i := 2) (oi := { dst := some 14, op := Go.Op.call { callee := Go.Callee.builtin Go.Builtin.len, args := #[Go.Operand.tmp 13], argTypes := #[40] }, type := 3, pos := "law.go:77", after := #[{ on := 1, ground := Go.Ground.data }], guard := none }) (v := ?v27) rfl (by kernel_rfl) (by kernel_rfl) (by kernel_rfl) (fun _ _ _ h => h) (Or.inl ⟨by rfl, ?hy27⟩) (by assumption) ?rest27
  case hy27 => (intro w hSw; (try dsimp only at hSw); go_simp <;> with_reducible rfl)
  try simp only [Act.put, List.setIfInBounds_toArray, List.set_cons_zero, List.set_cons_succ]
  refine wpAnyH_take (i := 3) (oi := { dst := some 15, op := Go.Op.binOp Go.BinOp.sub 3 (Go.Operand.tmp 14) (Go.Operand.const (Go.Value.int Go.IntKind.i64 1)) 3, type := 3, pos := "law.go:77", after := #[{ on := 2, ground := Go.Ground.data }], guard := none }) (v := ?v28) rfl (by kernel_rfl) (by kernel_rfl) (by kernel_rfl) (fun _ _ _ h => h) (Or.inl ⟨by rfl, ?hy28⟩) (by assumption) ?rest28
  case hy28 => (intro w hSw; (try dsimp only at hSw); go_simp <;> with_reducible rfl)
  try simp only [Act.put, List.setIfInBounds_toArray, List.set_cons_zero, List.set_cons_succ]
  refine wpAnyH_take (i := 4) (oi := { dst := some 16, op := Go.Op.slice 40 (Go.Operand.tmp 12) none (some (Go.Operand.tmp 15)) none, type := 40, pos := "law.go:77", after := #[{ on := 0, ground := Go.Ground.data }, { on := 3, ground := Go.Ground.data }], guard := none }) (v := ?v29) rfl (by kernel_rfl) (by kernel_rfl) (by kernel_rfl) (fun _ _ _ h => h) (Or.inl ⟨by rfl, ?hy29⟩) (by assumption) ?rest29
  case hy29 => (intro w hSw; (try dsimp only at hSw); go_simp <;> with_reducible rfl)
  try simp only [Act.put, List.setIfInBounds_toArray, List.set_cons_zero, List.set_cons_succ]
  refine wpAnyH_take (i := 6) (oi := { dst := some 18, op := Go.Op.move (Go.Operand.tmp 0), type := 23, pos := "law.go:77", after := #[], guard := none }) (v := ?v30) rfl (by kernel_rfl) (by kernel_rfl) (by kernel_rfl) (fun _ _ _ h => h) (Or.inl ⟨by rfl, ?hy30⟩) (by assumption) ?rest30
  case hy30 => (intro w hSw; (try dsimp only at hSw); go_simp <;> with_reducible rfl)
  try simp only [Act.put, List.setIfInBounds_toArray, List.set_cons_zero, List.set_cons_succ]
  refine wpAnyH_take (i := 7) (oi := { dst := some 19, op := Go.Op.slice 23 (Go.Operand.tmp 18) (some (Go.Operand.const (Go.Value.int Go.IntKind.i64 1))) none none, type := 23, pos := "law.go:77", after := #[{ on := 6, ground := Go.Ground.data }], guard := none }) (v := ?v31) rfl (by kernel_rfl) (by kernel_rfl) (by kernel_rfl) (fun _ _ _ h => h) (Or.inl ⟨by rfl, ?hy31⟩) (by assumption) ?rest31
  case hy31 => (intro w hSw; (try dsimp only at hSw); go_simp <;> with_reducible rfl)
  try simp only [Act.put, List.setIfInBounds_toArray, List.set_cons_zero, List.set_cons_succ]
  refine wpAnyH_ready (rs := [5]) (by kernel_rfl) (by simp) ?_
  refine AllReadyH.cons (o := { dst := some 17, op := Go.Op.call { callee := Go.Callee.builtin Go.Builtin.append, args := #[Go.Operand.const (Go.Value.slice none 0 0), Go.Operand.tmp 16], argTypes := #[40, 40] }, type := 40, pos := "law.go:77", after := #[{ on := 4, ground := Go.Ground.data }], guard := none }) rfl (fun K hK => ?_) AllReadyH.nil
  have hpb : Blk _ w.heap.size (sC [x, y, z]).toArray 9 := (by first | exact hP.fact.2 | exact hP.fact.1.2); have hRv : Rv _ 1 (.slice (some ⟨w.heap.size, 0, none⟩) 2 3) 2 (sC [x, y]) := Blk.rv (L := sC [x, y, z]) hpb (sC_one _) 2 3 (by simp [sC]); obtain ⟨v5, w5, hr5, hP5, ho5⟩ := Pls.appendNil hP (ds := sC [x, y]) (hRv.src (P := Try.prog) Try.underlying40) Try.underlying40 infoS rfl (by omega) (ty := 40); obtain ⟨a5, c5, rfl, hc5⟩ := (show Vs _ 0 1 _ _ _ from hP5.fact.2).form; clear hc5 hpb hRv; refine step_append_bs rfl _ _ 40 rfl hr5 rfl rfl ?_; clear hr5 hP; have hP := hP5; clear hP5
  refine hK.out _ _ ?_ (fun hHeld2 => ?_)
  · (try dsimp only); exact hP.bel
  clear hK K hHeld
  have hHeld := hHeld2
  clear hHeld2
  try simp only [Act.put, List.setIfInBounds_toArray, List.set_cons_zero, List.set_cons_succ]
  refine wpAnyH_ready (rs := [8]) (by kernel_rfl) (by simp) ?_
  refine AllReadyH.cons (o := { dst := some 20, op := Go.Op.call { callee := Go.Callee.value (Go.Operand.func 17), args := #[Go.Operand.tmp 19], argTypes := #[23] }, type := 40, pos := "law.go:77", after := #[{ on := 7, ground := Go.Ground.data }, { on := 5, ground := Go.Ground.chain }], guard := none }) rfl (fun K hK => ?_) AllReadyH.nil
  go_simp
  go_at_call 17; refine (hIH'.out _ hP.bel).mono ?_; rintro e w8 ⟨u8, rfl, hV8, hb8⟩; have hP8 := hP.newVs hb8 hV8; obtain ⟨a8, c8, rfl, hc8⟩ := hV8.form; (first | (have ho5' := ownApart hP ho5 hV8; have hP9 := hP8.swapK; clear ho5 hP8; have ho5 := ho5'; have hP8 := hP9; clear ho5' hP9) | skip); clear hc8 hV8 hb8 hP; have hP := hP8; clear hP8
  refine hK.out _ _ ?_ (fun hHeld2 => ?_)
  · (try dsimp only); exact hP.bel
  clear hK K hHeld
  have hHeld := hHeld2
  clear hHeld2
  try simp only [Act.put, List.setIfInBounds_toArray, List.set_cons_zero, List.set_cons_succ]
  refine wpAnyH_ready (rs := [9]) (by kernel_rfl) (by simp) ?_
  refine AllReadyH.cons (o := { dst := some 21, op := Go.Op.call { callee := Go.Callee.builtin Go.Builtin.append, args := #[Go.Operand.tmp 17, Go.Operand.tmp 20], argTypes := #[40, 40] }, type := 40, pos := "law.go:77", after := #[{ on := 5, ground := Go.Ground.data }, { on := 8, ground := Go.Ground.data }, { on := 8, ground := Go.Ground.chain }], guard := none }) rfl (fun K hK => ?_) AllReadyH.nil
  obtain ⟨v9, w9, hr9, hP9, ho9⟩ := Pls.appendAny hP ho5 (by omega) ((show Vs _ 0 1 _ _ _ from hP.fact.1.2).src (P := Try.prog) Try.underlying40) Try.underlying40 infoS rfl (by omega) (by omega) (ty := 40); obtain ⟨a9, c9, rfl, hc9⟩ := (show Vs _ 0 1 _ _ _ from hP9.fact.2).form; clear hc9; refine step_append_bs rfl _ _ 40 rfl hr9 rfl rfl ?_; clear hr9 hP; have hP := hP9; clear hP9
  refine hK.out _ _ ?_ (fun hHeld2 => ?_)
  · (try dsimp only); exact hP.bel
  clear hK K hHeld
  have hHeld := hHeld2
  clear hHeld2
  try simp only [Act.put, List.setIfInBounds_toArray, List.set_cons_zero, List.set_cons_succ]
  refine wpAnyH_take (i := 10) (oi := { dst := some 4, op := Go.Op.assign (Go.Operand.tmp 21), type := 40, pos := "law.go:77", after := #[{ on := 9, ground := Go.Ground.data }, { on := 9, ground := Go.Ground.chain }, { on := 0, ground := Go.Ground.phase }, { on := 1, ground := Go.Ground.phase }, { on := 2, ground := Go.Ground.phase }, { on := 3, ground := Go.Ground.phase }, { on := 4, ground := Go.Ground.phase }, { on := 5, ground := Go.Ground.phase }, { on := 6, ground := Go.Ground.phase }, { on := 7, ground := Go.Ground.phase }, { on := 8, ground := Go.Ground.phase }, { on := 9, ground := Go.Ground.phase }], guard := none }) (v := ?v32) rfl (by kernel_rfl) (by kernel_rfl) (by kernel_rfl) (fun _ _ _ h => h) (Or.inl ⟨by rfl, ?hy32⟩) (by assumption) ?rest32
  case hy32 => (intro w hSw; (try dsimp only at hSw); go_simp <;> with_reducible rfl)
  try simp only [Act.put, List.setIfInBounds_toArray, List.set_cons_zero, List.set_cons_succ]
  refine wpAnyH_done (by kernel_rfl) ?_ _
  refine NoPanic.normal ?_
  have hq : (([x, y] : List ByteArray).length + (nestS l).length) + 1 = (nestS (n :: l)).length := by rw [hns.out]; simp; omega
  have hcat : sC [x, y] ++ sC (nestS l) ++ [.string z] = sC (nestS (n :: l)) := by rw [hns.out, sC_app, sC_app]; rfl
  have yl : w9.cell? ⟨w.heap.size, 2, none⟩ = some (.string z) := (show Blk w9 w.heap.size #[.string x, .string y, .string z] _ from hP.fact.1.1.2).cell 2
  have hVl : Vs (w9.alloc (.cells #[.string z] 9)) 0 1 (.slice (some ⟨w9.heap.size, 0, none⟩) 1 1) 1 [.string z] := Vs.lit1 w9 (.string z) 9 rfl
  obtain ⟨v10, w10, hr10, hP10, -⟩ := Pls.appendVs (P := Try.prog) (hP.alloc (.cells #[.string z] 9)) ho9 (hVl.src Try.underlying40) Try.underlying40 infoS rfl (by omega) (by omega) (by omega) (ty := 40)
  have hbel := hP10.bel
  have hV10 := hP10.vsB
  clear hP10 hP hVl
  go_wp2_with (at_builtin; refine wpList_append_bs rfl _ _ 40 rfl hr10 rfl rfl ?_)
  go_ret
  refine ⟨_, rfl, ?_, hbel⟩
  rw [← hq, ← hcat]
  exact hV10
end Go.Proofs.Ytkcmphjgflbchaa

/- 'ControlClosed'. -/
namespace Go.Proofs.Ytkcmphjgflbchaa
open Go.RowKit
set_option linter.unusedVariables false
set_option linter.unusedSimpArgs false
attribute [local go_sem] cell_set set_set m_undef
attribute [local irreducible] cells19 cells20 rowL tabL

theorem wPieceE (n : Int) : (∃ x y, pieceS n = [x, y] ∧ ∀ w : World, Calls Try.prog 42 #[.int .i64 n] w fun e w' => e = .returned (.slice (some ⟨w.heap.size, 0, none⟩) 2 2) ∧ w' = w.alloc (.cells #[.string x, .string y] 9)) ∨
    (∃ x y z, pieceS n = [x, y, z] ∧ ∀ w : World, Calls Try.prog 42 #[.int .i64 n] w fun e w' => e = .returned (.slice (some ⟨w.heap.size, 0, none⟩) 3 3) ∧ w' = w.alloc (.cells #[.string x, .string y, .string z] 9)) := by
  by_cases h0 : n = 0
  · subst h0
    exact .inl ⟨_, _, pieceS_0, wPc0⟩
  by_cases h1 : n = 1
  · subst h1
    exact .inr ⟨_, _, _, pieceS_1, wPc1⟩
  by_cases h2 : n = 2
  · subst h2
    exact .inl ⟨_, _, pieceS_2, wPc2⟩
  by_cases h3 : n = 3
  · subst h3
    exact .inr ⟨_, _, _, pieceS_3, wPc3⟩
  by_cases h4 : n = 4
  · subst h4
    exact .inl ⟨_, _, pieceS_4, wPc4⟩
  by_cases h5 : n = 5
  · subst h5
    exact .inl ⟨_, _, pieceS_5, wPc5⟩
  exact .inl ⟨_, _, pieceS_6 n h0 h1 h2 h3 h4 h5, wPc6 n h0 h1 h2 h3 h4 h5⟩
theorem wPiece2 (n : Int) (h : ¬ ∃ x y z, pieceS n = [x, y, z] ∧ ∀ w9 : World, Calls Try.prog 42 #[.int .i64 n] w9 fun e w' => e = .returned (.slice (some ⟨w9.heap.size, 0, none⟩) 3 3) ∧ w' = w9.alloc (.cells #[.string x, .string y, .string z] 9)) :
    ∃ x y, pieceS n = [x, y] ∧ ∀ w : World, Calls Try.prog 42 #[.int .i64 n] w fun e w' => e = .returned (.slice (some ⟨w.heap.size, 0, none⟩) 2 2) ∧ w' = w.alloc (.cells #[.string x, .string y] 9) :=
  (wPieceE n).resolve_right h
theorem wNest : ∀ (l : List Int) (w : World) (a0 : Option Addr) (cap : Nat), Rv w 1 (.slice a0 l.length cap) l.length (ic l) → l.length ≤ cap → l.length ≤ 15 →
    Calls Try.prog 17 #[.slice a0 l.length cap] w fun e w' => ∃ u, e = .returned u ∧ Vs w' w.heap.size 1 u (nestS l).length (sC (nestS l)) ∧ Below w.heap.size w w'
  | [], w, a0, cap, _, _, _ => nestW0 w a0 cap
  | n :: l, w, a0, cap, hv, hc, hl => by
    simp only [List.length_cons] at hv hc hl ⊢
    obtain ⟨a, rfl⟩ : ∃ a, a0 = some a := by
      rcases hv.2.2 with ⟨e, e2⟩ | ⟨a, c, e, _⟩
      · omega
      · cases e; exact ⟨a, rfl⟩
    by_cases h1 : cap = 1
    · have hl0 : l = [] := List.eq_nil_of_length_eq_zero (by omega)
      subst hl0
      have hIH : ∀ w1 : World, Below w.heap.size w w1 → Calls Try.prog 17 #[.slice (some a) ([] : List Int).length 0] w1 fun e w' => ∃ u, e = .returned u ∧ Vs w' w1.heap.size 1 u (nestS []).length (sC (nestS [])) ∧ Below w1.heap.size w1 w' := fun w1 _ => nestW0 w1 (some a) 0
      by_cases h3 : ∃ x y z, pieceS n = [x, y, z] ∧ ∀ w9 : World, Calls Try.prog 42 #[.int .i64 n] w9 fun e w' => e = .returned (.slice (some ⟨w9.heap.size, 0, none⟩) 3 3) ∧ w' = w9.alloc (.cells #[.string x, .string y, .string z] 9)
      · obtain ⟨x, y, z, hp, hP⟩ := h3
        exact nestW3a hv (by simp) hp hP h1 hIH
      · obtain ⟨x, y, hp, hP⟩ := wPiece2 n h3
        exact nestW2a hv (by simp) hp hP h1 hIH
    · have hIH : ∀ w1 : World, Below w.heap.size w w1 → Calls Try.prog 17 #[.slice (some ⟨a.block, a.off + 1, none⟩) l.length (cap - 1)] w1 fun e w' => ∃ u, e = .returned u ∧ Vs w' w1.heap.size 1 u (nestS l).length (sC (nestS l)) ∧ Below w1.heap.size w1 w' := fun w1 hb =>
        wNest l w1 (some ⟨a.block, a.off + 1, none⟩) (cap - 1) (by have h5 := (Rv.rest hv).below hb; rwa [show a.add 1 = ⟨a.block, a.off + 1, none⟩ by simp [Addr.add]] at h5) (by omega) (by omega)
      by_cases h3 : ∃ x y z, pieceS n = [x, y, z] ∧ ∀ w9 : World, Calls Try.prog 42 #[.int .i64 n] w9 fun e w' => e = .returned (.slice (some ⟨w9.heap.size, 0, none⟩) 3 3) ∧ w' = w9.alloc (.cells #[.string x, .string y, .string z] 9)
      · obtain ⟨x, y, z, hp, hP⟩ := h3
        exact nestW3b hv (by omega) hp hP h1 hIH
      · obtain ⟨x, y, hp, hP⟩ := wPiece2 n h3
        exact nestW2b hv (by omega) hp hP h1 hIH
theorem num_0 : numOf (large ⟨#[73, 70]⟩).data.toList = 110 := by kernel_rfl
theorem num_1 : numOf (large ⟨#[69, 76, 83, 69]⟩).data.toList = 111 := by kernel_rfl
theorem num_2 : numOf (large ⟨#[84, 72, 69, 78]⟩).data.toList = 112 := by kernel_rfl
theorem num_3 : numOf (large ⟨#[66, 69, 71, 73, 78]⟩).data.toList = 113 := by kernel_rfl
theorem num_4 : numOf (large ⟨#[85, 78, 84, 73, 76]⟩).data.toList = 114 := by kernel_rfl
theorem num_5 : numOf (large ⟨#[87, 72, 73, 76, 69]⟩).data.toList = 115 := by kernel_rfl
theorem num_6 : numOf (large ⟨#[82, 69, 80, 69, 65, 84]⟩).data.toList = 116 := by kernel_rfl
theorem num_7 : numOf (large ⟨#[65, 71, 65, 73, 78]⟩).data.toList = 117 := by kernel_rfl
theorem num_8 : numOf (large ⟨#[68, 79]⟩).data.toList = 118 := by kernel_rfl
theorem num_9 : numOf (large ⟨#[76, 79, 79, 80]⟩).data.toList = 119 := by kernel_rfl
theorem num_10 : numOf (large ⟨#[43, 76, 79, 79, 80]⟩).data.toList = 120 := by kernel_rfl
theorem nums_are (k : Nat) (hk : k ≤ 10) : numOf (large (nmC k)).data.toList = 110 + (k : Int) ∧ (nmC k).size ≤ 1000 := by
  have hc : k = 0 ∨ k = 1 ∨ k = 2 ∨ k = 3 ∨ k = 4 ∨ k = 5 ∨ k = 6 ∨ k = 7 ∨ k = 8 ∨ k = 9 ∨ k = 10 := by omega
  rcases hc with rfl | rfl | rfl | rfl | rfl | rfl | rfl | rfl | rfl | rfl | rfl
  · exact ⟨num_0, by decide⟩
  · exact ⟨num_1, by decide⟩
  · exact ⟨num_2, by decide⟩
  · exact ⟨num_3, by decide⟩
  · exact ⟨num_4, by decide⟩
  · exact ⟨num_5, by decide⟩
  · exact ⟨num_6, by decide⟩
  · exact ⟨num_7, by decide⟩
  · exact ⟨num_8, by decide⟩
  · exact ⟨num_9, by decide⟩
  · exact ⟨num_10, by decide⟩
theorem rFindN (x : Int) (h : 110 ≤ x ∧ x ≤ 120) (w : World) : Calls Try.prog 18 #[.string (nmN x)] w fun e w' => e = .returned (.int .i64 x) ∧ Below w.heap.size w w' := by
  obtain ⟨h1, h2⟩ := nums_are (x - 110).toNat (by omega)
  have hq := rFind (nmC (x - 110).toNat) h2 w
  rw [h1, show (110 : Int) + ((x - 110).toNat : Int) = x by omega] at hq
  exact hq
theorem piece_in (n : Int) : ∀ x ∈ pieceN n, 110 ≤ x ∧ x ≤ 120 := by
  intro x hx
  unfold pieceN at hx
  repeat' split at hx
  all_goals
  · simp only [List.mem_cons, List.not_mem_nil, or_false] at hx
    omega
theorem piece_last (n : Int) : 110 ≤ (pieceN n).getLastD 0 ∧ (pieceN n).getLastD 0 ≤ 120 := by
  unfold pieceN
  repeat' split
  all_goals decide
theorem nest_in : ∀ (l : List Int), ∀ x ∈ nestN l, 110 ≤ x ∧ x ≤ 120
  | [], x, hx => by cases hx
  | n :: l, x, hx => by
    rw [nestN_cons] at hx
    rcases List.mem_append.1 hx with hx | hx
    · rcases List.mem_append.1 hx with hx | hx
      · exact piece_in n x ((List.dropLast_sublist _).subset hx)
      · exact nest_in l x hx
    · rw [List.mem_singleton.1 hx]
      exact piece_last n
theorem runM_snoc (M : List UInt8) (ws : List Int) (k : Nat) (x : Int) (h : ws[k]? = some x) : runM M (ws.take (k + 1)) = ctlM (runM M (ws.take k)) x := by
  rw [List.take_add_one, h, runM_app]
  exact runM_one _ _
theorem runOk_at : ∀ (ws : List Int) (M : List UInt8) (k : Nat) (x : Int), runOk ws M → ws[k]? = some x → ctlV (runM M (ws.take k)) x = 0
  | [], M, k, x, _, h => by simp at h
  | n :: ws, M, 0, x, hr, h => by
    simp at h
    subst h
    exact hr.1
  | n :: ws, M, k + 1, x, hr, h => by
    have h2 := runOk_at ws (ctlM M n) k x hr.2 (by simpa using h)
    rw [List.take_succ_cons, runM_cons]
    exact h2
theorem flat_id {l : List UInt8} (h : l.length = 8192) : flatL l = l := by
  unfold flatL
  rw [List.take_of_length_le (by omega), List.drop_eq_nil_of_le (by rw [List.length_replicate]; omega), List.append_nil]
theorem lay_load {M N : List UInt8} (hM : M.length = 8192) (hN : N.length = 8192) (h : ∀ z : Int, 768 ≤ z → memAt N z = memAt M z) : layL M 0 (loadL N 0 768) = N := by
  refine mem_ext (by rw [layL_len]; exact hM) hN fun z => ?_
  have hl : (loadL N 0 768).length = 768 := by rw [loadL_len]; rfl
  rw [memAt_layL hM, hl]
  by_cases hz : 0 ≤ z ∧ z < 768
  · rw [if_pos (by omega), loadL_getD N 0 768 _ (by omega) (by omega)]
    exact congrArg (memAt N) (by omega)
  · rw [if_neg (by omega)]
    by_cases h7 : 768 ≤ z
    · exact (h z h7).symm
    · rw [memAt_out M z (by omega), memAt_out N z (by omega)]
theorem push_far {M : List UInt8} (hM : M.length = 8192) (n : Int) (z : Int) (hz : 768 ≤ z) : memAt (pushM M 32 256 512 n) z = memAt M z := by
  obtain ⟨b1, b2, -⟩ := topL_bd (M := M) sk32
  unfold pushM
  split
  · rfl
  · rw [memAt_setM (by rw [setM_len]; exact hM), if_neg (by omega), memAt_setM hM, if_neg (by omega)]
theorem top_cell {M : List UInt8} {S : List Int} (h : StkIs M 32 256 512 S) (h0 : S ≠ []) : getM M 32 = 512 - 8 * (S.length : Int) := by
  have ht := h.top
  have hl : 0 < S.length := List.length_pos_iff.2 h0
  unfold topL at ht
  split at ht
  · exact ht
  · omega
theorem closed_law (l : List Int) (hl : l.length ≤ 15) (n : Int) (hn : isI n) : ∃ N, N = pushM (flatL []) 32 256 512 n ∧ layL (flatL []) 0 (loadL N 0 768) = N ∧ runOk (nestN l) N ∧ ∃ E, E = runM N (nestN l) ∧ E.length = 8192 ∧ getM E 504 = n ∧ getM E 32 = 504 ∧ ∀ a : Int, insL E a = true → getM E a ≠ 0 := by
  have c0 := zero_CSt.push n hn (by simp)
  obtain ⟨r, h', c, b1, b2⟩ := nest_ok l _ _ _ _ c0 (by simp; omega) (by omega)
  refine ⟨_, rfl, lay_load (flatL_len []) c0.len (fun z hz => push_far (flatL_len []) n z hz), r, _, rfl, c.len, (c.stk.cell 0 n rfl).1, top_cell c.stk (by simp), fun a ha h0 => ?_⟩
  unfold insL at ha
  rw [decide_eq_true_iff, c.here] at ha
  have := c.nz a ha.1 ha.2.1 ha.2.2 h0
  cases this
end Go.Proofs.Ytkcmphjgflbchaa

/- 'ControlClosed' walked. -/
namespace Go.Proofs.Ytkcmphjgflbchaa
open Go.RowKit
set_option linter.unusedVariables false
set_option linter.unusedSimpArgs false
attribute [local go_sem] cell_set set_set m_undef
attribute [local irreducible] cells19 cells20 rowL tabL ctlV ctlM nestN nestS runM insL

theorem insL_bdC {M : List UInt8} {a : Int} (h : insL M a = true) : 1536 ≤ a ∧ a + 8 ≤ 5632 := by
  have := hereL_in M
  delta insL at h
  have h := of_decide_eq_true h
  omega
theorem nestS_at {l : List Int} {k : Nat} (hk : k < (nestS l).length) : ∃ x, (nestN l)[k]? = some x ∧ (sC (nestS l))[k]? = some (.string (nmN x)) := by
  delta nestS at hk ⊢
  rw [List.length_map] at hk
  refine ⟨(nestN l)[k], List.getElem?_eq_getElem hk, ?_⟩
  unfold sC
  rw [List.getElem?_map, List.getElem?_map, List.getElem?_eq_getElem hk]
  rfl
theorem nestS_lenN (l : List Int) : (nestS l).length = (nestN l).length := by delta nestS; rw [List.length_map]
set_option maxRecDepth 100000 in
set_option maxHeartbeats 2000000 in
theorem controlClosed {w : World} (v : Value) (l : List Int) (h : Rv w 1 v l.length (ic l)) (hcap : ∀ a n c, v = .slice a n c → n ≤ c) (n : Int) (hn : isI n) : Calls Try.prog 4 #[v, .int .i64 n] w fun e w' => e = .returned (.bool true) ∧ Below w.heap.size w w' := by
  obtain ⟨ad, cap, rfl⟩ := h.form
  have hA := Lib.hid (fun w9 => wAwakeC w9)
  by_cases hl : 15 < l.length
  · clear h hcap
    have t1 : ((15 : Int) < (l.length : Int)) = True := by simp; omega
    go_enter Try.func4, Try.ntmps4
    go_wp2_with (go_at_call 6; refine (hA.out _).mono ?_; rintro e w1 ⟨rfl, hb1⟩)
    go_ret
    exact ⟨rfl, hb1⟩
  have t1 : ((15 : Int) < (l.length : Int)) = False := by simp; omega
  have hcap' := hcap _ _ _ rfl
  obtain ⟨N, hNe, hlay, hrun, E, hE, hEl, hE5, hE3, hEz⟩ := closed_law l (by omega) n hn
  have hF1 := fun (w9 : World) => wFlat w9 0 (.slice none 0 0) [] (Bs.nil _ _)
  have hF2 := fun (w9 : World) => rFlat w9 (.slice none 0 0) [] (Bs.nil w9 0).rb
  unfold FlatQ at hF1
  have hPu := fun (w9 : World) (B rb : Nat) (R : Nat → Prop) (h : RefP w9 B rb (flatL []) R) => rPush h n
  rw [← hNe] at hPu
  have hLl : (loadL N 0 768).length ≤ 1000000 := by rw [loadL_len]; omega
  have hLy := fun (w9 : World) (B mb : Nat) (O : Nat → Prop) (h : MemP w9 B mb (flatL []) O) (hb : B ≤ w9.heap.size) (v9 : Value) (hv : Bs w9 0 v9 (loadL N 0 768)) (hO : ∀ k, v9.ownBlock = some k → ¬ O k) => mLay h hb 0 (by unfold isI; omega) hv hLl hO
  rw [hlay] at hLy
  generalize flatL [] = M0 at *
  obtain ⟨pt, hpt⟩ : ∃ pt, pt = pushT M0 32 256 512 (-3) := ⟨_, rfl⟩
  rw [← hpt] at hPu
  have hNs := Lib.hid (fun (w9 : World) (h9 : Rv w9 1 (.slice ad l.length cap) l.length (ic l)) => wNest l w9 ad cap h9 hcap' (by omega))
  have hin := Lib.hid (fun (k : Nat) (x : Int) (hx : (nestN l)[k]? = some x) => nest_in l x (List.mem_of_getElem? hx))
  have hat := Lib.hid (fun (k : Nat) (hk : k < (nestS l).length) => nestS_at hk)
  have hok := Lib.hid (fun (k : Nat) (x : Int) (hx : (nestN l)[k]? = some x) => runOk_at (nestN l) N k x hrun hx)
  have hsn := Lib.hid (fun (k : Nat) (x : Int) (hx : (nestN l)[k]? = some x) => runM_snoc N (nestN l) k x hx)
  have hend : runM N ((nestN l).take (nestS l).length) = E := by rw [nestS_lenN, List.take_length]; exact hE.symm
  have hsl := nestS_len l
  have hlen : (nestS l).length ≤ 45 := by omega
  replace h := Lib.hid h
  replace hF1 := Lib.hid hF1
  replace hF2 := Lib.hid hF2
  replace hPu := Lib.hid hPu
  replace hLy := Lib.hid hLy
  replace hEz := Lib.hid hEz
  replace hend := Lib.hid hend
  have hst0 : runM N ((nestN l).take 0) = N := by delta runM; rfl
  replace hst0 := Lib.hid hst0
  clear hl hcap hcap' hNe hlay hrun hE hLl hpt hsl
  go_enter Try.func4, Try.ntmps4
  go_wp2_with (first
    | (go_at_call 6; refine (hA.out _).mono ?_; rintro e w1 ⟨rfl, hb1⟩; have hK1 := Lib.hid (Keep.rv (h.out.below hb1)); replace hb1 := Lib.hid hb1)
    | (go_at_call 7; refine (hF1.out _).mono ?_; rintro e w2 ⟨mb, O2, rfl, hP2, hb2⟩; replace hP2 := Lib.hid hP2; replace hb2 := Lib.hid hb2)
    | (go_at_call 8; refine (hF2.out _).mono ?_; rintro e w3 ⟨rb, R3, rfl, hP3, hb3⟩; have hT := Two.make hb1.out hK1.out hP2.out hb2.out hP3 hb3; clear hP3 hb3 hP2 hb2 hK1 hb1)
    | (go_at_call 9; refine (hT.ref (fun B R h hb => hPu.out _ _ _ _ h)).mono ?_; rintro e w4 ⟨rfl, hT2⟩; clear hT; have hT := hT2; clear hT2)
    | (go_at_call 11; refine (hT.refBs (fun B R h => rLoad h 0 768 (by unfold isI; omega))).mono ?_; rintro e w5 ⟨v5, rfl, hT2⟩; clear hT; have hT := hT2; clear hT2)
    | (go_at_call 10; refine (hT.memK (fun B O h hb hk => hLy.out _ _ _ _ h hb _ hk.right.1 (fun k hk2 => (hk.right.2 k hk2).2))).mono ?_; rintro e w6 ⟨rfl, hT2⟩; clear hT; have hT := hT2.weak; clear hT2)
    | (go_at_call 17; refine (hNs.out _ hT.fact).mono ?_; rintro e w7 ⟨u, rfl, hV7, hb7⟩; have hT2 := hT.newVs hb7 hV7; obtain ⟨au, cu, rfl, hcu⟩ := hV7.form; clear hcu hV7 hb7 hT; have hT := hT2; clear hT2))
  replace hT := hT.keep (L := .vs 1 (.slice au (nestS l).length cu) (nestS l).length (sC (nestS l))) fun O h => h.right
  clear hF1 hF2 hPu hLy hNs hA h
  go_loopw [30] (fun p wr => ∃ k : Nat, p = .int .i64 (k : Int) ∧ k ≤ (nestS l).length ∧ Two w wr mb rb (runM N ((nestN l).take k)) N (.vs 1 (.slice au (nestS l).length cu) (nestS l).length (sC (nestS l)))) (fun p wr => (nestS l).length - (intOf p).toNat)
  case atStart => exact ⟨0, rfl, Nat.zero_le _, by rw [hst0.out]; exact hT⟩
  case round =>
  clear hT
  obtain ⟨k, rfl, hk, hT⟩ := hrel
  by_cases hlt : k < (nestS l).length
  · have t2 : ((k : Int) < ((nestS l).length : Int)) = True := eq_true (by omega)
    have i1 : (0 : Int) ≤ (k : Int) := by omega
    have i2 : (k : Int) < ((nestS l).length : Int) := by omega
    have wi : IntKind.i64.wrap ((k : Int) + 1) = ((k + 1 : Nat) : Int) := by rw [IntKind.wrap_i64]; omega
    obtain ⟨x, hx, hs⟩ := hat.out k hlt
    obtain ⟨bu, ou, cu2, he⟩ := (show Vs _ 0 1 _ _ _ from hT.fact).some_of (by omega)
    cases he
    have z0 := (show Vs _ 0 1 _ _ _ from hT.fact).cell k _ hs
    have hF := Lib.hid (fun (w9 : World) => rFindN x (hin.out k x hx) w9)
    have hD := fun (w9 : World) (B mb : Nat) (O : Nat → Prop) (h : MemP w9 B mb (runM N ((nestN l).take k)) O) (hb : B ≤ w9.heap.size) => kDo h hb x
    rw [hok.out k x hx, ← hsn.out k x hx] at hD
    replace hD := Lib.hid hD
    have hlt' := Lib.hid hlt
    clear hs hx hk hlt
    go_wp2_with (first
      | (go_at_call 18; refine (hT.still (hF.out _)).mono ?_; rintro e w8 ⟨rfl, hT2⟩; clear hT; have hT := hT2; clear hT2)
      | (go_at_call 12; refine (hT.mem (fun B O h hb => hD.out _ _ _ _ h hb)).mono ?_; rintro e w9 ⟨rfl, hT2⟩; clear hT; have hT := hT2; clear hT2))
    go_roundw
    case rel => exact ⟨k + 1, rfl, hlt'.out, hT⟩
    case measure => have := hlt'.out; simp [intOf]; omega
  · have hkl : k = (nestS l).length := by omega
    subst hkl
    have t2 : (((nestS l).length : Int) < ((nestS l).length : Int)) = False := eq_false (by omega)
    rw [hend.out] at hT
    have hG1 := fun (w9 : World) (B mb : Nat) (O : Nat → Prop) (h : MemP w9 B mb E O) (hb : B ≤ w9.heap.size) => mGet h hb 504 (by unfold isI; omega)
    rw [hE5] at hG1
    have hG2 := fun (w9 : World) (B mb : Nat) (O : Nat → Prop) (h : MemP w9 B mb E O) (hb : B ≤ w9.heap.size) => mGet h hb 32 (by unfold isI; omega)
    rw [hE3] at hG2
    have hF := fun (w9 : World) (v9 : Value) (h9 : Rb w9 v9 E) => rFlat w9 v9 E h9
    rw [flat_id hEl] at hF
    replace hG1 := Lib.hid hG1
    replace hG2 := Lib.hid hG2
    replace hF := Lib.hid hF
    clear hlt hk hend hok hsn hat hin hE5 hE3 hEl hst0
    go_wp2_with (first
      | (go_at_call_of 19 (504 : Int); refine (hT.mem (fun B O h hb => hG1.out _ _ _ _ h hb)).mono ?_; rintro e w8 ⟨rfl, hT2⟩; clear hT; have hT := hT2; clear hT2)
      | (go_at_call_of 19 (32 : Int); refine (hT.mem (fun B O h hb => hG2.out _ _ _ _ h hb)).mono ?_; rintro e w8 ⟨rfl, hT2⟩; clear hT; have hT := hT2; clear hT2)
      | (go_at_call 16; refine (hT.load (fun B O h hb => mBytes h hb)).mono ?_; rintro e w9 ⟨v9, rfl, hT2⟩; clear hT; have hT := hT2; clear hT2; have hr9 := (show Bs _ 0 _ _ from hT.fact.2).rb; have hw9 := hT.bel; clear hT)
      | (go_at_call 8; refine (hF.out _ _ hr9).mono ?_; rintro e w10 ⟨rb2, R2, rfl, hP10, hb10⟩; have hw10 := bel_trans hw9 hb10; clear hr9 hw9 hb10))
    go_loopw [10] (fun p wr => ∃ a : Int, p = .int .i64 a ∧ 1536 ≤ a ∧ a ≤ 6000 ∧ RefP wr w9.heap.size rb2 E R2 ∧ Below w.heap.size w wr) (fun p wr => 6000 - (intOf p).toNat)
    case atStart => exact ⟨1536, rfl, by omega, by omega, hP10, hw10⟩
    case round =>
      clear hP10 hw10
      obtain ⟨a, rfl, ha1, ha2, hP, hb⟩ := hrel
      have hI := rInside hP a (by unfold isI; omega)
      have hG := fun (w9' : World) (h9 : RefP w9' w9.heap.size rb2 E R2) => rGet h9 a (by unfold isI; omega)
      have wa : IntKind.i64.wrap (a + 8) = a + 8 := by rw [IntKind.wrap_i64]; omega
      cases hi : insL E a with
      | true =>
        have hbd := insL_bdC hi
        have hne := hEz.out a hi
        rw [hi] at hI
        obtain ⟨g, hg⟩ : ∃ g, g = getM E a := ⟨_, rfl⟩
        rw [← hg] at hG hne
        have t3 : (g == 0) = false := by simp; exact hne
        obtain ⟨a8, ha8⟩ : ∃ a8, a8 = a + 8 := ⟨_, rfl⟩
        have wa8 : IntKind.i64.wrap (a + 8) = a8 := by rw [ha8]; exact wa
        have hrel2 := Lib.hid (show 1536 ≤ a8 ∧ a8 ≤ 6000 ∧ 6000 - a8.toNat < 6000 - a.toNat by omega)
        replace hG := Lib.hid hG
        replace hI := Lib.hid hI
        clear hi hbd hne hg wa ha8 ha1 ha2
        go_wp2_with (first
          | (go_at_call 20; refine hI.out.mono ?_; rintro e w11 ⟨rfl, hb11⟩; have hP11 := hP.below hb11; have hw11 := bel_trans hb hb11; clear hP hb hb11)
          | (go_at_call 21; refine (hG.out _ hP11).mono ?_; rintro e w12 ⟨rfl, hb12⟩; have hP12 := hP11.below hb12; have hw12 := bel_trans hw11 hb12; clear hP11 hw11 hb12))
        go_roundw
        case rel => exact ⟨a8, rfl, hrel2.out.1, hrel2.out.2.1, hP12, hw12⟩
        case measure => have := hrel2.out.2.2; simpa [intOf] using this
      | false =>
        rw [hi] at hI
        replace hI := Lib.hid hI
        clear hi hG wa ha1 ha2
        go_wp2_with (go_at_call 20; refine hI.out.mono ?_; rintro e w11 ⟨rfl, hb11⟩; have hw11 := bel_trans hb hb11)
        go_ret
        exact ⟨rfl, hw11⟩
end Go.Proofs.Ytkcmphjgflbchaa

/- A slice of ints that came in: its length is no more than its capacity. -/
namespace Go.Proofs.Ytkcmphjgflbchaa
open Go.ChangeMaps Go.ChangeShapes Go.WideShapes Go.ChangeAt Go.RowKit Go.Joins Go.Deep
set_option linter.unusedVariables false
variable {H : Type} {enc : TypeId × Value → H} {w : World} {base : Nat} {spare : Nat → Bool} {held : Bool}
theorem open_capN {fuel : Nat} {a0 : Option Addr} {n c : Nat} {x : DataW H × List MemPlace} (h : DataW.trod enc Try.prog w base spare held fuel 23 [.slice a0 n c] = some x) : ∀ a m k, Value.slice a0 n c = .slice a m k → m ≤ k := by
  intro a m k e
  cases e
  rcases open_ints Try.underlying23 Try.underlying3 (show Try.prog.cellsOf 3 = 1 by kernel_rfl) h with ⟨hcs, _⟩ | ⟨a, len, cap, zs, hcs, hb, hl, hm2, hlen, hx, hcell, hwf⟩
  · simp at hcs
    obtain ⟨_, rfl, rfl⟩ := hcs
    exact Nat.le_refl _
  · simp at hcs
    obtain ⟨_, rfl, rfl⟩ := hcs
    exact hl
/-- A slice of integers that came in. -/
theorem open_rvN {fuel : Nat} {a0 : Option Addr} {n c : Nat} {x : DataW H × List MemPlace} (h : DataW.trod enc Try.prog w base spare held fuel 23 [.slice a0 n c] = some x) : ∃ l : List Int, l.length = n ∧ Rv w 1 (.slice a0 n c) n (ic l) ∧ (∀ z ∈ l, isI z) ∧ n ≤ 9223372036854775807 := by
  rcases open_ints Try.underlying23 Try.underlying3 (show Try.prog.cellsOf 3 = 1 by kernel_rfl) h with ⟨hcs, _⟩ | ⟨a, len, cap, zs, hcs, hb, hl, hm2, hlen, hx, hcell, hwf⟩
  · simp at hcs
    obtain ⟨rfl, rfl, rfl⟩ := hcs
    exact ⟨[], rfl, ⟨by simp [ic], by simp [ic], .inl ⟨rfl, rfl⟩⟩, by simp, by omega⟩
  · simp at hcs
    obtain ⟨rfl, rfl, rfl⟩ := hcs
    have hzl : n ≤ zs.length := by rw [hlen]; split <;> omega
    have hln : (zs.take n).length = n := by rw [List.length_take]; omega
    unfold maxLen at hm2
    refine ⟨zs.take n, hln, ⟨by rw [ic_len, hln]; omega, fun u hu => by obtain ⟨z, _, rfl⟩ := List.mem_map.1 hu; rfl, .inr ⟨a, c, rfl, fun j u hj => ?_⟩⟩, fun z hz => i64_wf' (hwf z (List.mem_of_mem_take hz)), by omega⟩
    have hj2 := (List.getElem?_eq_some_iff.1 hj).1
    rw [ic_len, hln] at hj2
    rw [hcell j (by omega)]
    rw [ic, List.getElem?_map, List.getElem?_take_of_lt hj2, List.getElem?_eq_getElem (by omega)] at hj
    rw [List.getD_eq_getElem?_getD, List.getElem?_eq_getElem (by omega)]
    simpa using hj
end Go.Proofs.Ytkcmphjgflbchaa

/- The reference's 'Is', 'Comma'. -/
namespace Go.Proofs.Ytkcmphjgflbchaa
open Go.RowKit
set_option linter.unusedVariables false
set_option linter.unusedSimpArgs false
attribute [local go_sem] cell_set set_set m_undef

set_option maxRecDepth 100000 in
theorem rIsC (n : Int) (w : World) : Calls Try.prog 15 #[.int .i64 n] w fun e w' => e = .returned (.bool (isC n)) ∧ Below w.heap.size w w' := by
  have h1 := Lib.hid (fun (w9 : World) => rFindIF w9)
  have h2 := fun (w9 : World) => rFindN 120 (by omega) w9
  have e2 : nmN 120 = ⟨#[43, 76, 79, 79, 80]⟩ := rfl
  rw [e2] at h2
  replace h2 := Lib.hid h2
  unfold isC
  by_cases c1 : 110 ≤ n
  · have t1 : ((110 : Int) ≤ n) = True := eq_true c1
    by_cases c2 : n ≤ 120
    · have t2 : (n ≤ 120) = True := eq_true c2
      rw [decide_eq_true (show 110 ≤ n ∧ n ≤ 120 from ⟨c1, c2⟩)]
      clear c1 c2
      go_enter Try.func15, Try.ntmps15
      go_wp2_with (first
        | (go_at_call_of 18 (⟨#[73, 70]⟩ : ByteArray); refine (h1.out _).mono ?_; rintro e w1 ⟨rfl, hb1⟩)
        | (go_at_call_of 18 (⟨#[43, 76, 79, 79, 80]⟩ : ByteArray); refine (h2.out _).mono ?_; rintro e w2 ⟨rfl, hb2⟩; have hb3 := bel_trans hb1 hb2))
      go_ret
      exact ⟨rfl, hb3⟩
    · have t2 : (n ≤ 120) = False := eq_false c2
      rw [decide_eq_false (show ¬ (110 ≤ n ∧ n ≤ 120) from fun h => c2 h.2)]
      clear c1 c2
      go_enter Try.func15, Try.ntmps15
      go_wp2_with (first
        | (go_at_call_of 18 (⟨#[73, 70]⟩ : ByteArray); refine (h1.out _).mono ?_; rintro e w1 ⟨rfl, hb1⟩)
        | (go_at_call_of 18 (⟨#[43, 76, 79, 79, 80]⟩ : ByteArray); refine (h2.out _).mono ?_; rintro e w2 ⟨rfl, hb2⟩; have hb3 := bel_trans hb1 hb2))
      go_ret
      exact ⟨rfl, hb3⟩
  · have t1 : ((110 : Int) ≤ n) = False := eq_false c1
    rw [decide_eq_false (show ¬ (110 ≤ n ∧ n ≤ 120) from fun h => c1 h.1)]
    clear c1
    go_enter Try.func15, Try.ntmps15
    go_wp2_with (go_at_call_of 18 (⟨#[73, 70]⟩ : ByteArray); refine (h1.out _).mono ?_; rintro e w1 ⟨rfl, hb1⟩)
    go_ret
    exact ⟨rfl, hb1⟩
theorem lay_next {M : List UInt8} (hM : M.length = 8192) (a : Int) (l : List Int) (k : Nat) (x : Int) (h : l[k]? = some x) : layL M a (cellsB (l.take (k + 1))) = setM (layL M a (cellsB (l.take k))) (a + 8 * (k : Int)) x := by
  have hk := (List.getElem?_eq_some_iff.1 h).1
  rw [cellsB_next l k x h, lay_append hM, cellsB_len, List.length_take, Nat.min_eq_left (by omega), bytesB_cell, show a + ((8 * k : Nat) : Int) = a + 8 * (k : Int) by omega]
  rfl
attribute [local irreducible] layL setM cellsB
set_option maxRecDepth 100000 in
set_option maxHeartbeats 1000000 in
theorem rComma {w : World} {B rb : Nat} {M : List UInt8} {R : Nat → Prop} (h : RefP w B rb M R) (hB : B ≤ w.heap.size) (hM : M.length = 8192) {v : Value} {l : List Int} (hK : Keep w R (.rv 1 v l.length (ic l))) (hlen : l.length ≤ 1000) :
    Calls Try.prog 39 #[.pointer (some ⟨rb, 0, none⟩), v] w fun e w' => RefQ w w' B rb (lyM M (cellsB l)) R (.int .i64 (lyV M (cellsB l))) e := by
  obtain ⟨ad, cap, rfl⟩ := Rv.form hK.1
  have hS := Onr.startK h hB hK
  have hHr := Lib.hid (fun (w9 : World) (O : Nat → Prop) (h : RefP w9 B rb M O) => rHere h)
  have hin := hereL_in M
  have hv : lyV M (cellsB l) = if hereL M % 8 ≠ 0 then -23 else if 5632 - hereL M < 8 * (l.length : Int) then -8 else 0 := by unfold lyV; rw [cellsB_len]; simp only [Int.natCast_mul]; rfl
  have hm : lyM M (cellsB l) = if lyV M (cellsB l) = 0 then setM (layL M (hereL M) (cellsB l)) 0 (hereL M + 8 * (l.length : Int)) else M := by unfold lyM; rw [cellsB_len]; simp only [Int.natCast_mul]; rfl
  have hnx := Lib.hid (fun (k : Nat) (x : Int) (hx : l[k]? = some x) => lay_next hM (hereL M) l k x hx)
  have hl0 : layL M (hereL M) (cellsB (l.take 0)) = M := by rw [List.take_zero, show cellsB [] = [] by delta cellsB; rfl]; delta layL; rfl
  rw [hm, hv]
  clear hm hv h hB hK
  generalize hereL M = here at *
  obtain ⟨r, hr⟩ : ∃ r, r = here.tmod 8 := ⟨_, rfl⟩
  have hr0 : r = 0 ↔ here % 8 = 0 := by rw [hr, Int.tmod_eq_emod]; split <;> omega
  have rm : here.tmod 8 = r := hr.symm
  have w1 : IntKind.i64.wrap (5632 - here) = 5632 - here := by rw [IntKind.wrap_i64]; omega
  obtain ⟨d, hd⟩ : ∃ d, d = 5632 - here := ⟨_, rfl⟩
  have w1' : IntKind.i64.wrap (5632 - here) = d := by rw [hd]; exact w1
  rw [← hd]
  obtain ⟨q, hq⟩ : ∃ q, q = d / 8 := ⟨_, rfl⟩
  have q1 : d.tdiv 8 = q := by rw [hq]; exact Int.tdiv_eq_ediv_of_nonneg (by omega)
  have q2 : d / 8 = q := hq.symm
  have q3 : IntKind.i64.wrap q = q := by rw [IntKind.wrap_i64]; omega
  by_cases c1 : r = 0
  · have t1 : (r != 0) = false := by simp; exact c1
    rw [if_neg (show ¬ here % 8 ≠ 0 from fun h => h (hr0.1 c1))]
    by_cases c2 : d < 8 * (l.length : Int)
    · have t2 : (q < (l.length : Int)) = True := eq_true (by omega)
      rw [if_pos c2, if_neg (by decide)]
      clear hr hr0 hd hq w1 c1 c2 hin hnx hl0
      go_enter Try.func39, Try.ntmps39
      go_wp2_with (go_at_call 35; refine (hS.read (fun O h => hHr.out _ O h)).mono ?_; rintro e w2 ⟨rfl, hS2⟩; clear hS; have hS := hS2; clear hS2)
      go_ret
      exact hS.refQ _
    · have t2 : (q < (l.length : Int)) = False := eq_false (by omega)
      rw [if_neg c2, if_pos rfl]
      have hfit := Lib.hid (show here + 8 * (l.length : Int) ≤ 5632 by omega)
      have hin' := Lib.hid hin
      clear hr hr0 hd hq w1 c1 c2 hin
      go_enter Try.func39, Try.ntmps39
      go_wp2_with (go_at_call 35; refine (hS.read (fun O h => hHr.out _ O h)).mono ?_; rintro e w2 ⟨rfl, hS2⟩; clear hS; have hS := hS2; clear hS2)
      go_loopw [5, 21] (fun at_ i wr => ∃ k : Nat, i = .int .i64 (k : Int) ∧ at_ = .int .i64 (here + 8 * (k : Int)) ∧ k ≤ l.length ∧ Onr w wr B rb (layL M here (cellsB (l.take k))) R (.rv 1 (.slice ad l.length cap) l.length (ic l))) (fun _ i wr => l.length - (intOf i).toNat)
      case atStart => exact ⟨0, rfl, by simp, Nat.zero_le _, by rw [hl0]; exact hS⟩
      case round =>
      clear hS
      obtain ⟨k, rfl, rfl, hk, hS⟩ := hrel
      obtain ⟨at_, hat⟩ : ∃ at_, at_ = here + 8 * (k : Int) := ⟨_, rfl⟩
      rw [← hat]
      by_cases hlt : k < l.length
      · have t3 : ((k : Int) < (l.length : Int)) = True := eq_true (by omega)
        have i1 : (0 : Int) ≤ (k : Int) := by omega
        have i2 : (k : Int) < (l.length : Int) := by omega
        have wi : IntKind.i64.wrap ((k : Int) + 1) = ((k + 1 : Nat) : Int) := by rw [IntKind.wrap_i64]; omega
        have hx := List.getElem?_eq_getElem hlt
        obtain ⟨a, hea, z0⟩ : ∃ a, ad = some a ∧ wr.cell? (a.add k) = some (.int .i64 l[k]) := by
          rcases hS.fact.2.2 with ⟨e, h0⟩ | ⟨a, c, e, hq⟩
          · omega
          · cases e; exact ⟨a, rfl, hq k _ (ic_at l k hlt)⟩
        subst hea
        have hfo := hfit.out
        have hio := hin'.out
        have wa : IntKind.i64.wrap (at_ + 8) = here + 8 * ((k + 1 : Nat) : Int) := by rw [IntKind.wrap_i64]; omega
        have hst := Lib.hid (fun (w9 : World) (O : Nat → Prop) (h : RefP w9 B rb (layL M here (cellsB (l.take k))) O) => rSet h at_ l[k] (by unfold isI; omega))
        have hnk := hnx.out k _ hx
        rw [← hat] at hnk
        generalize l[k] = x at *
        have hlt' := Lib.hid hlt
        clear hx hk hlt hat hfo hio
        go_wp2_with (go_at_call 23; refine (hS.ref (fun O h hb => hst.out _ O h)).mono ?_; rintro e w3 ⟨rfl, hS2⟩; clear hS; have hS := hS2; clear hS2)
        go_roundw
        case rel => exact ⟨k + 1, rfl, rfl, hlt'.out, by rw [hnk]; exact hS⟩
        case measure => have := hlt'.out; simp [intOf]; omega
      · have hkl : k = l.length := by omega
        subst hkl
        have t3 : ((l.length : Int) < (l.length : Int)) = False := eq_false (by omega)
        rw [List.take_length] at hS
        have hst := Lib.hid (fun (w9 : World) (O : Nat → Prop) (h : RefP w9 B rb (layL M here (cellsB l)) O) => rSet h 0 at_ (by unfold isI; omega))
        replace hat := Lib.hid hat
        clear hlt hk
        go_wp2_with (go_at_call 23; refine (hS.ref (fun O h hb => hst.out _ O h)).mono ?_; rintro e w3 ⟨rfl, hS2⟩; clear hS; have hS := hS2; clear hS2)
        go_ret
        rw [hat.out] at hS
        exact hS.refQ _
  · have t1 : (r != 0) = true := by simp; exact c1
    rw [if_pos (show here % 8 ≠ 0 from fun h => c1 (hr0.2 h)), if_neg (by decide)]
    clear hr hr0 hd hq w1 c1 hin hnx hl0
    go_enter Try.func39, Try.ntmps39
    go_wp2_with (go_at_call 35; refine (hS.read (fun O h => hHr.out _ O h)).mono ?_; rintro e w2 ⟨rfl, hS2⟩; clear hS; have hS := hS2; clear hS2)
    go_ret
    exact hS.refQ _
end Go.Proofs.Ytkcmphjgflbchaa
