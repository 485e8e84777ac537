/- 'carrellaw26.HistBound' gives true for every input, and leaves the input as it was; no condition. -/
import Derived.Test.YtjkpapkjlmglbaaDoorU19
import Derived.Test.YtjkpapkjlmglbaaDoorRows
import Derived.WalkKit
import Derived.ProofKit
import Derived.OpenShut
import Derived.ChangeOld
import Derived.Below
import Derived.Carry
import Derived.Lib.SmallJoins
import Derived.ChangeMaps5
import Derived.SizedLaws
import Derived.SliceStrings
import Derived.ChangeSlices
import Derived.Test.YtjkpapkjlmglbaaDoorCards
import Derived.Test.YtjkpapkjlmglbaaDoorTie
import Derived.SevenTiedAt
import Derived.LaidMore
import Derived.Stop.Joined
import Derived.Lay
namespace Go.Proofs.YtjkpapkjlmglbaaDoor.histBoundDone
open Go.ChangeMaps Go.ChangeShapes Go.WideShapes Go.ChangeAt Go.RowKit Go.Joins
set_option linter.unusedVariables false

theorem own : ownKnob Tryd.prog.godebug = none := by kernel_rfl
theorem laidOut : laidOutB Tryd.prog = true := by kernel_rfl
theorem i64_wf {n : Int} (h : (Lit.int .i64 n).wf = true) : isI n := by
  simp [Lit.wf, IntKind.min, IntKind.max, IntKind.signed, IntKind.bits] at h
  unfold isI; omega

theorem u8_wf {n : Int} (h : (Lit.int .u8 n).wf = true) : 0 ≤ n ∧ n < 256 := by
  simp [Lit.wf, IntKind.min, IntKind.max, IntKind.signed, IntKind.bits] at h
  omega

theorem sl_map (L : List ByteArray) : sl (L.map fun s => s.data.toList) = L.map .string := by
  unfold sl
  rw [List.map_map]
  apply List.map_congr_left
  intro s _
  simp
theorem strs_weight {H : Type} {P : Program} {e : TypeId} (L : List ByteArray) : ∀ s ∈ L, s.size ∈ DataW.weightsAll P e (strs L : List (DataW H)) := by
  induction L with
  | nil => intro s hs; cases hs
  | cons a L ih =>
    intro s hs
    simp only [strs, List.map_cons, DataW.weightsAll, DataW.weights, List.mem_append, List.mem_singleton] at ih ⊢
    rcases List.mem_cons.1 hs with rfl | h
    · exact .inl rfl
    · exact .inr (ih s h)

set_option maxRecDepth 100000 in
set_option maxHeartbeats 2000000 in
theorem lifted (os : Os) (started : os.Started) (H : Type) (enc : TypeId × Value → H) :
    ReturnsInHanded {} Tryd.checked os 5 .any (fun w args => (Rows.histBoundSpec.pre enc Tryd.prog Tryd.f5 [] false w args ∧ laidMetH Tryd.prog laidL w) ∧ sizedMet enc Tryd.prog Tryd.f5 (OpenSpec.ofChange Rows.histBoundSpec) false w args) (Rows.histBoundSpec.post enc Tryd.prog Tryd.f5 false true false false) := by
  refine handed_and_shaped (C := Tryd.checked) (X := fun w _ => laidMetH Tryd.prog laidL w) (fun _ _ _ hh h => h.of_heap hh) own started (by kernel_rfl) Tryd.func5
    (ChangeSpec.witness_shaped (enc := enc) (C := Tryd.checked) (os := os) (X := fun w _ => laidMetH Tryd.prog laidL w) false (World.laidAll Tryd.prog os laidL) #[.slice none 0 0, .slice none 0 0] 8 (World.laidAll_os _ _ _) (World.shaped_of_ZipB (by kernel_rfl) (by kernel_rfl)) (by kernel_rfl) (by kernel_rfl) (by kernel_rfl) (door_met os _)) ?_
  intro W base args ds gs before hval0 hW hcnd hsz0 hL hsh _
  have hval : ∀ (j : Nat) t v, Tryd.f5.params[j]? = some t → args[j]? = some v → Value.okWide Tryd.prog W .any base t v := hval0
  have hW' := hW
  obtain ⟨p, q, hA0, hV, rfl, hfz, hnd⟩ := hW
  have hA : DataW.TrodAll enc Tryd.prog W 0 (fun _ => true) true Tryd.f5.params.toList args.toList ds p := hA0
  rw [Tryd.params5] at hA hval
  obtain ⟨v0, vs0, d0, ds0, p0, q0, hargs, rfl, rfl, h0, r0⟩ := trodAll_cons hA
  obtain ⟨v1, vs1, d1, ds1, p1, q1, rfl, rfl, rfl, h1, r1⟩ := trodAll_cons r0
  obtain ⟨rfl, rfl, rfl⟩ := trodAll_nil r1
  obtain rfl : args = #[v0, v1] := by cases args; simp_all
  obtain ⟨rfl, rfl⟩ := trodVars_none hV
  have hsz : (DataW.weightsEach Tryd.prog [22, 29] [d0, d1]).all (· ≤ reachBytes) = true := by rw [Tryd.params5] at hsz0; exact hsz0
  have k0 := h0
  have lt0 : ∀ x ∈ p0, x.block < W.heap.size := by obtain ⟨m, hm⟩ := k0; exact DataW.trod_lt m _ _ _ hm
  obtain ⟨la0, ll0, lc0, rfl⟩ := okWide_slice Tryd.underlying22 (hval 0 22 _ rfl rfl)
  obtain ⟨m0, hm0⟩ := h0
  obtain ⟨K0, hK0⟩ : ∃ K, Rb W (.slice la0 ll0 lc0) K := by
    rcases open_ints Tryd.underlying22 Tryd.underlying5 (show Tryd.prog.cellsOf 5 = 1 by kernel_rfl) hm0 with ⟨hcs, _⟩ | ⟨a, len, cap, zs, hcs, hb, hl, hm2, hlen, hx, hcell, hwf⟩
    · exact ⟨[], .inl ⟨by simpa [Value.cells] using hcs, rfl⟩⟩
    · simp at hlen
      refine ⟨(zs.take len).map (fun z => UInt8.ofNat z.toNat), .inr ⟨a, cap, ?_, fun j hj => ?_⟩⟩
      · rw [List.length_map, List.length_take, Nat.min_eq_left (by omega)]; simpa [Value.cells] using hcs
      · have hj2 : j < len ∧ j < zs.length := by simp at hj; omega
        have hz := u8_wf (hwf zs[j] (List.getElem_mem hj2.2))
        rw [hcell j hj2.2, List.getElem_map, List.getElem_take, List.getD_eq_getElem?_getD, List.getElem?_eq_getElem hj2.2, UInt8.toNat_ofNat']
        simp only [Option.getD_some]
        congr 2
        omega
  have k1 := h1
  have lt1 : ∀ x ∈ p1, x.block < W.heap.size := by obtain ⟨m, hm⟩ := k1; exact DataW.trod_lt m _ _ _ hm
  obtain ⟨la1, ll1, lc1, rfl⟩ := okWide_slice Tryd.underlying29 (hval 1 29 _ rfl rfl)
  obtain ⟨m1, hm1⟩ := h1
  obtain ⟨LS, hl1, hK1, hn1, hx1⟩ : ∃ LS : List (List UInt8), LS.length = ll1 ∧ Rv W 1 (.slice la1 ll1 lc1) ll1 (sl LS) ∧ LS.length ≤ 1000000000000000 ∧ (∀ x ∈ LS, x.length ≤ 140737488351232) := by
    rcases open_strings Tryd.underlying29 Tryd.underlying9 (show Tryd.prog.cellsOf 9 = 1 by kernel_rfl) hm1 with ⟨hcs, _⟩ | ⟨a, len, cap, zs, hcs, hb, hl, hm2, hlen, hx, hcell, hwf⟩
    · simp [Value.cells] at hcs
      obtain ⟨rfl, rfl, rfl⟩ := hcs
      exact ⟨[], rfl, ⟨by simp [sl], by simp [sl], .inl ⟨rfl, rfl⟩⟩, by simp, by simp⟩
    · simp [Value.cells] at hcs
      obtain ⟨rfl, rfl, rfl⟩ := hcs
      simp at hlen
      have hln : (zs.take ll1).length = ll1 := by rw [List.length_take]; omega
      have hd := congrArg Prod.fst hx
      dsimp only at hd
      have hr := sized_slice hsz (j := 1) (t := 29) (e := 9) (elems := strs (zs.take ll1)) (spare := strs (zs.drop ll1)) rfl (by rw [← hd]; rfl) Tryd.underlying29
      rw [show Tryd.prog.bytesOf 9 = 16 by kernel_rfl] at hr
      have h47 := reachBytes_lt
      have e9 : (strs (zs.take ll1) : List (DataW H)).length = ll1 := by rw [strs, List.length_map, hln]
      have hw : ∀ s ∈ zs.take ll1, s.size ≤ reachBytes := fun s hs => by
        have h2 := List.all_eq_true.1 hsz _ (DataW.weights_mem_each (j := 1) (t := 29) rfl (show [d0, d1][1]? = some (.slice (strs (zs.take ll1)) (strs (zs.drop ll1))) by rw [← hd]; rfl) s.size (by
          simp only [DataW.weights, Tryd.underlying29, List.mem_cons, List.mem_append]
          exact .inr (.inl (strs_weight _ s hs))))
        simpa using h2
      refine ⟨(zs.take ll1).map fun s => s.data.toList, by rw [List.length_map]; exact hln, ⟨by rw [sl_len, List.length_map, hln]; omega, sl_one _, .inr ⟨a, lc1, rfl, fun j u hj => ?_⟩⟩, by rw [List.length_map]; omega, fun x hx => ?_⟩
      · rw [sl_map] at hj
        have hj2 := (List.getElem?_eq_some_iff.1 hj).1
        rw [List.length_map, hln] at hj2
        rw [hcell j (by omega)]
        rw [List.getElem?_map, List.getElem?_take_of_lt hj2, List.getElem?_eq_getElem (by omega)] at hj
        rw [List.getD_eq_getElem?_getD, List.getElem?_eq_getElem (by omega)]
        simpa using hj
      · obtain ⟨s, hs, rfl⟩ := List.mem_map.1 hx
        exact hw s hs
  subst hl1
  clear hA0 hval0
  have hT : GL W := ⟨laysCut.s1_3 W hsh, of_laid hL⟩
  refine (histBoundAll _ K0 hK0 _ LS hK1 hx1 hn1 hT).mono fun e W' ⟨he, bel⟩ => ?_
  subst he
  exact ⟨_, rfl, _, _, _, [], _, [], hW', trodAll_mk1 (shut_bool Tryd.underlying4 _), (trodAll_cons_mk (Below.trod laidOut (by kernel_rfl) (of_decide_eq_true (by kernel_rfl)) k0 bel lt0) (trodAll_cons_mk (Below.trod laidOut (by kernel_rfl) (of_decide_eq_true (by kernel_rfl)) k1 bel lt1) trodAll_mk0)), rfl, bel.frame _, fun h => by cases h⟩

theorem over : Rows.histBoundRow.holds Tryd.pinned (OpenSpec.ofChange Rows.histBoundSpec) :=
  OpenClaim.holds_of_wide 5 Tryd.f5 rfl rfl rfl rfl rfl rfl rfl ⟨rfl, rfl, rfl, rfl, rfl⟩ rfl rfl rfl rfl rfl (by kernel_rfl) Tryd.func5 (by kernel_rfl)
    (of_decide_eq_true (by kernel_rfl)) (by unfold Func.isWrapper; first | (rw [if_pos (by decide +kernel)]; kernel_rfl) | (rw [if_neg (by decide +kernel)]; exact ⟨rfl, rfl⟩))
    (fun os started H enc _ => lifted os started H enc)

theorem proved : Rows.HistBoundCardSaid :=
  Claim7.holds_tied_plain_at .later [] [.data, .data, .data, .data, .pinned] true (true, "49dc3cbe94c2e98c54362ef87cb371daf067c201af3985feb497d118405efd2b") false
    over (fun _ h => by cases h) (by kernel_rfl) (fun _ h => by cases h) histBound_row_tie rfl ⟨rfl, rfl⟩ (by kernel_rfl) rfl
    (fun f fn hf hfn => by
      obtain rfl : f = 5 := Option.some.inj ((show Tryd.prog.funcNamed "carrel/carrellaw26.HistBound" = some 5 by kernel_rfl).symm.trans hf) |>.symm
      obtain rfl : fn = Tryd.f5 := (Option.some.inj (Tryd.func5.symm.trans hfn)).symm
      exact ⟨by kernel_rfl, fun j t ht => by
        rw [Tryd.params5] at ht
        have hm : t ∈ [22, 29] := by simpa using Array.mem_of_getElem? ht
        have hall : ([22, 29].all fun u => !Tryd.prog.wantsStandIn u) = true := by kernel_rfl
        exact (show Tryd.prog.wantsStandIn t = false by simpa using List.all_eq_true.1 hall t hm)⟩)
    (by kernel_rfl)
#print axioms proved
end Go.Proofs.YtjkpapkjlmglbaaDoor.histBoundDone
