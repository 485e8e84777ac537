/- 'carrellaw19.DictCreates' gives true for every input, and leaves the input as it was; no condition. -/
import Derived.Test.YtcfblcgdjhpdaaaZ10
import Derived.Test.YtcfblcgdjhpdaaaRows
import Derived.WalkKit
import Derived.ProofKit
import Derived.OpenShut
import Derived.ChangeOld
import Derived.Below
import Derived.Carry
import Derived.Lib.SmallJoins
import Derived.ChangeMaps5
import Derived.SizedLaws
import Derived.SliceStrings
import Derived.ChangeSlices
namespace Go.Proofs.Ytcfblcgdjhpdaaa.dictCreatesDone
open Go.ChangeMaps Go.ChangeShapes Go.WideShapes Go.ChangeAt Go.RowKit Go.Joins
set_option linter.unusedVariables false

theorem own : ownKnob Try.prog.godebug = none := by kernel_rfl
theorem laidOut : laidOutB Try.prog = true := by kernel_rfl
theorem i64_wf {n : Int} (h : (Lit.int .i64 n).wf = true) : isI n := by
  simp [Lit.wf, IntKind.min, IntKind.max, IntKind.signed, IntKind.bits] at h
  unfold isI; omega

theorem u8_wf {n : Int} (h : (Lit.int .u8 n).wf = true) : 0 ≤ n ∧ n < 256 := by
  simp [Lit.wf, IntKind.min, IntKind.max, IntKind.signed, IntKind.bits] at h
  omega

set_option maxRecDepth 100000 in
theorem lifted (os : Os) (started : os.Started) (H : Type) (enc : TypeId × Value → H) :
    ReturnsInHanded {} Try.checked os 5 .any (Rows.dictCreatesSpec.pre6 enc Try.prog Try.f5 Rows.dictCreatesRow.domain false) (Rows.dictCreatesSpec.post enc Try.prog Try.f5 false true false false) := by
  refine returnsInHanded_of_change_sized (C := Try.checked) own started (by kernel_rfl) Try.func5
    (ChangeSpec.witness6 (enc := enc) (C := Try.checked) false ⟨#[], #[.slice none 0 0, .slice none 0 0, .slice none 0 0], []⟩ 8 (by kernel_rfl) (by kernel_rfl) (by kernel_rfl) (by kernel_rfl)) ?_
  intro W base args ds gs before hval0 hW hcnd hsz0 _
  have hval : ∀ (j : Nat) t v, Try.f5.params[j]? = some t → args[j]? = some v → Value.okWide Try.prog W .any base t v := hval0
  have hW' := hW
  obtain ⟨p, q, hA0, hV, rfl, hfz, hnd⟩ := hW
  have hA : DataW.TrodAll enc Try.prog W 0 (fun _ => true) true Try.f5.params.toList args.toList ds p := hA0
  rw [Try.params5] at hA hval
  obtain ⟨v0, vs0, d0, ds0, p0, q0, hargs, rfl, rfl, h0, r0⟩ := trodAll_cons hA
  obtain ⟨v1, vs1, d1, ds1, p1, q1, rfl, rfl, rfl, h1, r1⟩ := trodAll_cons r0
  obtain ⟨v2, vs2, d2, ds2, p2, q2, rfl, rfl, rfl, h2, r2⟩ := trodAll_cons r1
  obtain ⟨rfl, rfl, rfl⟩ := trodAll_nil r2
  obtain rfl : args = #[v0, v1, v2] := by cases args; simp_all
  obtain ⟨rfl, rfl⟩ := trodVars_none hV
  have hsz : (DataW.weightsEach Try.prog [22, 42, 43] [d0, d1, d2]).all (· ≤ reachBytes) = true := by rw [Try.params5] at hsz0; exact hsz0
  have k0 := h0
  have lt0 : ∀ x ∈ p0, x.block < W.heap.size := by obtain ⟨m, hm⟩ := k0; exact DataW.trod_lt m _ _ _ hm
  obtain ⟨la0, ll0, lc0, rfl⟩ := okWide_slice Try.underlying22 (hval 0 22 _ rfl rfl)
  obtain ⟨m0, hm0⟩ := h0
  obtain ⟨K0, hK0⟩ : ∃ K, Rb W (.slice la0 ll0 lc0) K := by
    rcases open_ints Try.underlying22 Try.underlying5 (show Try.prog.cellsOf 5 = 1 by kernel_rfl) hm0 with ⟨hcs, _⟩ | ⟨a, len, cap, zs, hcs, hb, hl, hm2, hlen, hx, hcell, hwf⟩
    · exact ⟨[], .inl ⟨by simpa [Value.cells] using hcs, rfl⟩⟩
    · simp at hlen
      refine ⟨(zs.take len).map (fun z => UInt8.ofNat z.toNat), .inr ⟨a, cap, ?_, fun j hj => ?_⟩⟩
      · rw [List.length_map, List.length_take, Nat.min_eq_left (by omega)]; simpa [Value.cells] using hcs
      · have hj2 : j < len ∧ j < zs.length := by simp at hj; omega
        have hz := u8_wf (hwf zs[j] (List.getElem_mem hj2.2))
        rw [hcell j hj2.2, List.getElem_map, List.getElem_take, List.getD_eq_getElem?_getD, List.getElem?_eq_getElem hj2.2, UInt8.toNat_ofNat']
        simp only [Option.getD_some]
        congr 2
        omega
  have k1 := h1
  have lt1 : ∀ x ∈ p1, x.block < W.heap.size := by obtain ⟨m, hm⟩ := k1; exact DataW.trod_lt m _ _ _ hm
  obtain ⟨la1, ll1, lc1, rfl⟩ := okWide_slice Try.underlying42 (hval 1 42 _ rfl rfl)
  obtain ⟨m1, hm1⟩ := h1
  obtain ⟨K1, hl1, hK1, hKx1⟩ : ∃ K : List ByteArray, K.length = ll1 ∧ Rv W 1 (.slice la1 ll1 lc1) ll1 (sc K) ∧ (∀ s ∈ K, s.size ≤ 9223372036854775807) := by
    rcases open_strings Try.underlying42 Try.underlying9 (show Try.prog.cellsOf 9 = 1 by kernel_rfl) hm1 with ⟨hcs, _⟩ | ⟨a, len, cap, zs, hcs, hb, hl, hm2, hlen, hx, hcell, hwf⟩
    · simp [Value.cells] at hcs
      obtain ⟨rfl, rfl, rfl⟩ := hcs
      exact ⟨[], rfl, ⟨by simp [sc], by simp [sc], .inl ⟨rfl, rfl⟩⟩, by simp⟩
    · simp [Value.cells] at hcs
      obtain ⟨rfl, rfl, rfl⟩ := hcs
      simp at hlen
      have hln : (zs.take ll1).length = ll1 := by rw [List.length_take]; omega
      refine ⟨zs.take ll1, hln, ⟨by rw [sc_len, hln]; omega, fun u hu => by obtain ⟨z, _, rfl⟩ := List.mem_map.1 hu; rfl, .inr ⟨a, lc1, rfl, fun j u hj => ?_⟩⟩, fun s hs => hwf s (List.mem_of_mem_take hs)⟩
      have hj2 := (List.getElem?_eq_some_iff.1 hj).1
      rw [sc_len, hln] at hj2
      rw [hcell j (by omega)]
      rw [sc, List.getElem?_map, List.getElem?_take_of_lt hj2, List.getElem?_eq_getElem (by omega)] at hj
      rw [List.getD_eq_getElem?_getD, List.getElem?_eq_getElem (by omega)]
      simpa using hj
  subst hl1
  have hn1 : K1.length ≤ 1000000000000000 := by
    rcases open_strings Try.underlying42 Try.underlying9 (show Try.prog.cellsOf 9 = 1 by kernel_rfl) hm1 with ⟨hcs, _⟩ | ⟨a, len, cap, zs, hcs, hb, hl, hm2, hlen, hx, hcell, hwf⟩
    · simp [Value.cells] at hcs
      obtain ⟨_, h0, _⟩ := hcs
      first | omega | (rw [h0]; simp)
    · simp [Value.cells] at hcs
      obtain ⟨rfl, e2, rfl⟩ := hcs
      simp at hlen
      have hr := sized_slice hsz (j := 1) (t := 42) (e := 9) (elems := strs (zs.take len)) (spare := strs (zs.drop len)) rfl (by simp only [Prod.mk.injEq] at hx; rw [← hx.1]; rfl) Try.underlying42
      rw [show Try.prog.bytesOf 9 = 16 by kernel_rfl] at hr
      have h47 := reachBytes_lt
      rw [← List.length_append] at hr
      have e9 : (strs (zs.take len) ++ strs (zs.drop len) : List (DataW H)).length = zs.length := by rw [strs, strs, List.length_append, List.length_map, List.length_map, ← List.length_append, List.take_append_drop]
      omega
  have k2 := h2
  have lt2 : ∀ x ∈ p2, x.block < W.heap.size := by obtain ⟨m, hm⟩ := k2; exact DataW.trod_lt m _ _ _ hm
  obtain ⟨la2, ll2, lc2, rfl⟩ := okWide_slice Try.underlying43 (hval 2 43 _ rfl rfl)
  obtain ⟨m2, hm2⟩ := h2
  obtain ⟨K2, hl2, hK2, hz2, hn2⟩ := open_rvI (by simpa [Value.cells] using hm2)
  subst hl2
  clear hA0 hval0
  refine (dictCreates _ K0 hK0 _ K1 hK1 hKx1 _ K2 hK2 hz2 hn1 hn2).mono fun e W' ⟨he, bel⟩ => ?_
  subst he
  exact ⟨_, rfl, _, _, _, [], _, [], hW', trodAll_mk1 (shut_bool Try.underlying4 _), (trodAll_cons_mk (Below.trod laidOut (by kernel_rfl) (of_decide_eq_true (by kernel_rfl)) k0 bel lt0) (trodAll_cons_mk (Below.trod laidOut (by kernel_rfl) (of_decide_eq_true (by kernel_rfl)) k1 bel lt1) (trodAll_cons_mk (Below.trod laidOut (by kernel_rfl) (of_decide_eq_true (by kernel_rfl)) k2 bel lt2) trodAll_mk0))), rfl, bel.frame _, fun h => by cases h⟩

theorem over : Rows.dictCreatesRow.holds Try.pinned (OpenSpec.ofChange Rows.dictCreatesSpec) :=
  OpenClaim.holds_of_wide 5 Try.f5 rfl rfl rfl rfl rfl rfl rfl ⟨rfl, rfl, rfl, rfl, rfl⟩ rfl rfl rfl rfl rfl (by kernel_rfl) Try.func5 (by kernel_rfl)
    (of_decide_eq_true (by kernel_rfl)) (by unfold Func.isWrapper; first | (rw [if_pos (by decide +kernel)]; kernel_rfl) | (rw [if_neg (by decide +kernel)]; exact ⟨rfl, rfl⟩))
    (fun os started H enc _ => lifted os started H enc)

theorem proved : Rows.DictCreatesSaid := over
#print axioms proved
end Go.Proofs.Ytcfblcgdjhpdaaa.dictCreatesDone
