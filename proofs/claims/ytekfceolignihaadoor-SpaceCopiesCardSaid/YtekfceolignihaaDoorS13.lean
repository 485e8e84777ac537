/- 'Free', 'Used' over the counts; the others. -/
import Derived.Test.YtekfceolignihaaDoorS12
import Derived.Test.YtekfceolignihaaDoorVP
namespace Go.Proofs.YtekfceolignihaaDoor
open Go.RowKit
set_option linter.unusedVariables false
set_option linter.unusedSimpArgs false
attribute [local go_sem] cell_set set_set m_undef

theorem Pls.appendVs {P : Program} {W w : World} {K : Kp} {k n m : Nat} {v u : Value} {cs ds : List Value} (h : Pls W w (K.and (.vs k v n cs))) (hown : ∀ b, v.ownBlock = some b → ¬ K.S b)
    {t tx e ty : TypeId} {z : Value} {by_ : Nat} (hu : Src P k tx u m ds w) (ht : P.underlying t = some (.slice e))
    (hi : (P.info? e).map (fun i => (i.zero, i.size, i.bytes)) = some (some z, k, by_)) (hz : z.cells.size = k) (hm : 0 < m) (hlen : (n + m) * by_ ≤ 1000000000) (hlen2 : n + m ≤ 1000000000) :
    ∃ v' w', (Builtin.append_ #[t, tx] ty #[v, u]).run P w = .ok v' w' ∧ Pls W w' (K.and (.vs k v' (n + m) (cs ++ ds))) ∧ (∀ b, v'.ownBlock = some b → ¬ K.S b) := by
  have hV : Vs w 0 k v n cs := h.fact.2
  obtain ⟨v', w', hr, hv', hg, hob⟩ := hV.append hu ht hi hz hm hlen hlen2 (Nat.zero_le _) (ty := ty)
  have hws := h.bel.size
  have hvW : ∀ b, v.ownBlock = some b → W.heap.size ≤ b ∧ b < w.heap.size := fun b hb => h.2.2 b (.inr hb)
  have hown' : ∀ b, v'.ownBlock = some b → ¬ K.S b := fun b hb => by
    rcases hob with e | e
    · exact hown b (e ▸ hb)
    · rw [hb] at e; cases e
      exact fun hS => by have := (h.2.2 _ (.inl hS)).2; omega
  refine ⟨v', w', hr, ⟨h.bel.grown hg hws (fun b hb => (hvW b hb).1), ⟨K.stable w w' (fun b hb hl => hg.block b hl (fun e => hown b e.symm hb)) hg.size h.fact.1, hv'⟩, fun b hb => ?_⟩, hown'⟩
  rcases hb with hb | hb
  · have := h.2.2 b (.inl hb)
    exact ⟨this.1, Nat.lt_of_lt_of_le this.2 hg.size⟩
  · rcases hv'.own with e | ⟨x, e, _, hx⟩
    · rw [show v'.ownBlock = some b from hb] at e; cases e
    · rw [show v'.ownBlock = some b from hb] at e; cases e
      rcases hob with e2 | e2
      · rw [show v'.ownBlock = some b from hb] at e2
        exact ⟨(hvW b e2.symm).1, hx⟩
      · rw [show v'.ownBlock = some b from hb] at e2
        cases e2
        exact ⟨hws, hx⟩
theorem own_len (a : Option Addr) (n m c : Nat) : (Value.slice a n c).ownBlock = (Value.slice a m c).ownBlock := by cases a <;> rfl
/-- Those that are held, below k. -/
def usedTo (C : List Int) (k : Nat) : List Int := ((List.range k).filter fun j => decide (0 < C.getD j 0)).map fun j : Nat => (j : Int)
def usedL (C : List Int) : List Int := usedTo C C.length
theorem usedTo_yes (C : List Int) (k : Nat) (x : Int) (hx : C[k]? = some x) (h : 0 < x) : usedTo C (k + 1) = usedTo C k ++ [(k : Int)] := by
  unfold usedTo
  rw [List.range_succ, List.filter_append, List.map_append]
  simp [List.getD, hx, h]
theorem usedTo_no (C : List Int) (k : Nat) (x : Int) (hx : C[k]? = some x) (h : ¬ 0 < x) : usedTo C (k + 1) = usedTo C k := by
  unfold usedTo
  rw [List.range_succ, List.filter_append, List.map_append]
  simp [List.getD, hx, h]
theorem usedTo_len (C : List Int) (k : Nat) : (usedTo C k).length ≤ k := by
  unfold usedTo
  rw [List.length_map]
  exact Nat.le_trans (List.length_filter_le _ _) (by simp)
theorem ints_add (l : List Int) (x : Int) : ints (l ++ [x]) = ints l ++ [.int .i64 x] := by simp [ints]
section
variable {W w : World} {K : Kp} {mb cb fb cc fc : Nat} {C F : List Int} {T U : List Value} {mk : Bool}
set_option maxHeartbeats 1000000 in
theorem kUsed (h : Pls W w (K.and (MapB mb cb fb C F cc fc T U mk))) (hn : C.length ≤ 1000000) :
    Calls Tryd.prog 12 #[.pointer (some ⟨mb, 0, none⟩)] w fun e w' => ∃ v, e = .returned v ∧ Pls W w' ((K.and (MapB mb cb fb C F cc fc T U mk)).and (.vs 1 v (usedL C).length (ints (usedL C)))) ∧ (∀ b, v.ownBlock = some b → ¬ (K.and (MapB mb cb fb C F cc fc T U mk)).S b) := by
  obtain ⟨y1, y2, y3⟩ := MapB.cells h.fact.2
  have hM : ∀ (w9 : World), (K.and (MapB mb cb fb C F cc fc T U mk)).P w9 → w9.cell? ⟨mb, 0, none⟩ = some (.slice (some ⟨cb, 0, none⟩) C.length cc) ∧ ∀ (n : Nat) (x : Int), C[n]? = some x → w9.cell? ⟨cb, n, none⟩ = some (.int .i64 x) := fun w9 h9 => ⟨(MapB.cells h9.2).1, fun n x hx => (MapB.cnt h9.2 n x hx).1⟩
  have hul := usedTo_len C
  unfold usedL
  generalize hKM : K.and (MapB mb cb fb C F cc fc T U mk) = KM at *
  replace hM := Lib.hid hM
  clear hKM y2 y3
  go_enter Tryd.func12, Tryd.ntmps12
  go_wp2
  clear y1
  go_loopw [3, 12] (fun o i wr => ∃ k : Nat, i = .int .i64 (k : Int) ∧ k ≤ C.length ∧ Pls W wr (KM.and (.vs 1 o (usedTo C k).length (ints (usedTo C k)))) ∧ (∀ b, o.ownBlock = some b → ¬ KM.S b)) (fun o i wr => C.length - (intOf i).toNat)
  case atStart =>
    refine ⟨0, rfl, Nat.zero_le _, h.keep (fun h => ⟨h, Vs.nil _ 0 1⟩) (fun k hk => ?_), fun b hb => by cases hb⟩
    rcases hk with hk | hk
    · exact hk
    · cases hk
  case round =>
    obtain ⟨k, rfl, hk, hS, hown⟩ := hrel
    obtain ⟨ad, cap, rfl, hcap⟩ := (show Vs wr 0 1 _ _ _ from hS.fact.2).form
    obtain ⟨y1, hc⟩ := hM.out wr hS.fact.1
    clear hcap h
    by_cases hlt : k < C.length
    · have t1 : ((k : Int) < (C.length : Int)) = True := eq_true (by omega)
      have i1 : (0 : Int) ≤ (k : Int) := by omega
      have i2 : (k : Int) < (C.length : Int) := by omega
      have wk : IntKind.i64.wrap ((k : Int) + 1) = ((k + 1 : Nat) : Int) := by rw [IntKind.wrap_i64]; omega
      have hx : C[k]? = some C[k] := List.getElem?_eq_getElem hlt
      have c1 := hc k _ hx
      have hul1 := hul k
      by_cases hp : 0 < C[k]
      · have hy := usedTo_yes C k _ hx hp
        have tp : (0 < C[k]) = True := eq_true hp
        have hSa := hS.alloc (.cells #[.int .i64 (k : Int)] 3)
        obtain ⟨v', w4, hr, hS4, hown4⟩ := Pls.appendVs (P := Tryd.prog) (ty := 32) hSa hown ((Vs.lit1 wr (.int .i64 (k : Int)) 3 rfl).src (t := 32) Tryd.underlying32) Tryd.underlying32 infoI rfl (by omega) (by omega) (by omega)
        rw [← ints_add, ← hy, show (usedTo C k).length + 1 = (usedTo C (k + 1)).length by rw [hy, List.length_append]; rfl] at hS4
        obtain ⟨a', c', rfl, hcap'⟩ := (show Vs w4 0 1 v' _ _ from hS4.fact.2).form
        rw [show (usedTo C (k + 1)).length = (usedTo C k).length + 1 by rw [hy, List.length_append]; rfl] at hr
        have hle := Lib.hid (show (usedTo C k).length + 1 = (usedTo C (k + 1)).length by rw [hy, List.length_append]; rfl)
        generalize C[k] = x at *
        replace hS4 := Lib.hid hS4
        replace hlt := Lib.hid hlt
        clear hS hSa hcap' hc hx hp hul1 hul hn hk hy
        go_wp2_with (at_builtin; refine wpList_append_bs rfl _ _ 32 rfl hr rfl rfl ?_)
        go_roundw
        case rel => exact ⟨k + 1, rfl, hlt.out, by rw [hle.out]; exact hS4.out, fun b hb => hown4 b ((own_len a' _ _ c').trans hb)⟩
        case measure => have := hlt.out; simp [intOf]; omega
      · have hy := usedTo_no C k _ hx hp
        have tp : (0 < C[k]) = False := eq_false hp
        generalize C[k] = x at *
        rw [← hy] at hS
        replace hS := Lib.hid hS
        replace hlt := Lib.hid hlt
        clear hc hx hp hul1 hul hn hk
        go_wp2
        go_roundw
        case rel => exact ⟨k + 1, rfl, hlt.out, by rw [← hy]; exact hS.out, hown⟩
        case measure => have := hlt.out; simp [intOf]; omega
    · have t1 : ((k : Int) < (C.length : Int)) = False := eq_false (by omega)
      have hkk : k = C.length := by omega
      subst hkk
      clear hlt hk hul
      go_wp2
      go_ret
      exact ⟨_, rfl, hS, hown⟩
end
end Go.Proofs.YtekfceolignihaaDoor
