/- 'carrellaw22.ControlDoes' gives true for every input, and leaves the input as it was; no condition. -/
import Derived.Test.YtkcmphjgflbchaaZ14
import Derived.Test.YtkcmphjgflbchaaRows
import Derived.WalkKit
import Derived.ProofKit
import Derived.OpenShut
import Derived.ChangeOld
import Derived.Below
import Derived.Carry
import Derived.Lib.SmallJoins
import Derived.ChangeMaps5
import Derived.ChangeSlices
namespace Go.Proofs.Ytkcmphjgflbchaa.controlDoesDone
open Go.ChangeMaps Go.ChangeShapes Go.WideShapes Go.ChangeAt Go.RowKit Go.Joins
set_option linter.unusedVariables false

theorem own : ownKnob Try.prog.godebug = none := by kernel_rfl
theorem laidOut : laidOutB Try.prog = true := by kernel_rfl
theorem i64_wf {n : Int} (h : (Lit.int .i64 n).wf = true) : isI n := by
  simp [Lit.wf, IntKind.min, IntKind.max, IntKind.signed, IntKind.bits] at h
  unfold isI; omega

theorem u8_wf {n : Int} (h : (Lit.int .u8 n).wf = true) : 0 ≤ n ∧ n < 256 := by
  simp [Lit.wf, IntKind.min, IntKind.max, IntKind.signed, IntKind.bits] at h
  omega

set_option maxRecDepth 100000 in
theorem lifted (os : Os) (started : os.Started) (H : Type) (enc : TypeId × Value → H) :
    ReturnsInHanded {} Try.checked os 3 .any (Rows.controlDoesSpec.pre6 enc Try.prog Try.f3 Rows.controlDoesRow.domain false) (Rows.controlDoesSpec.post enc Try.prog Try.f3 false true false false) := by
  refine returnsInHanded_of_change (C := Try.checked) own started (by kernel_rfl) Try.func3
    (ChangeSpec.witness6 (enc := enc) (C := Try.checked) false ⟨#[], #[.slice none 0 0, .slice none 0 0, .slice none 0 0], []⟩ 8 (by kernel_rfl) (by kernel_rfl) (by kernel_rfl) (by kernel_rfl)) ?_
  intro W base args ds gs before hval0 hW hcnd _
  have hval : ∀ (j : Nat) t v, Try.f3.params[j]? = some t → args[j]? = some v → Value.okWide Try.prog W .any base t v := hval0
  have hW' := hW
  obtain ⟨p, q, hA0, hV, rfl, hfz, hnd⟩ := hW
  have hA : DataW.TrodAll enc Try.prog W 0 (fun _ => true) true Try.f3.params.toList args.toList ds p := hA0
  rw [Try.params3] at hA hval
  obtain ⟨v0, vs0, d0, ds0, p0, q0, hargs, rfl, rfl, h0, r0⟩ := trodAll_cons hA
  obtain ⟨v1, vs1, d1, ds1, p1, q1, rfl, rfl, rfl, h1, r1⟩ := trodAll_cons r0
  obtain ⟨v2, vs2, d2, ds2, p2, q2, rfl, rfl, rfl, h2, r2⟩ := trodAll_cons r1
  obtain ⟨rfl, rfl, rfl⟩ := trodAll_nil r2
  obtain rfl : args = #[v0, v1, v2] := by cases args; simp_all
  obtain ⟨rfl, rfl⟩ := trodVars_none hV
  have k0 := h0
  have lt0 : ∀ x ∈ p0, x.block < W.heap.size := by obtain ⟨m, hm⟩ := k0; exact DataW.trod_lt m _ _ _ hm
  obtain ⟨la0, ll0, lc0, rfl⟩ := okWide_slice Try.underlying22 (hval 0 22 _ rfl rfl)
  obtain ⟨m0, hm0⟩ := h0
  obtain ⟨K0, hK0⟩ : ∃ K, Rb W (.slice la0 ll0 lc0) K := by
    rcases open_ints Try.underlying22 Try.underlying5 (show Try.prog.cellsOf 5 = 1 by kernel_rfl) hm0 with ⟨hcs, _⟩ | ⟨a, len, cap, zs, hcs, hb, hl, hm2, hlen, hx, hcell, hwf⟩
    · exact ⟨[], .inl ⟨by simpa [Value.cells] using hcs, rfl⟩⟩
    · simp at hlen
      refine ⟨(zs.take len).map (fun z => UInt8.ofNat z.toNat), .inr ⟨a, cap, ?_, fun j hj => ?_⟩⟩
      · rw [List.length_map, List.length_take, Nat.min_eq_left (by omega)]; simpa [Value.cells] using hcs
      · have hj2 : j < len ∧ j < zs.length := by simp at hj; omega
        have hz := u8_wf (hwf zs[j] (List.getElem_mem hj2.2))
        rw [hcell j hj2.2, List.getElem_map, List.getElem_take, List.getD_eq_getElem?_getD, List.getElem?_eq_getElem hj2.2, UInt8.toNat_ofNat']
        simp only [Option.getD_some]
        congr 2
        omega
  have k1 := h1
  have lt1 : ∀ x ∈ p1, x.block < W.heap.size := by obtain ⟨m, hm⟩ := k1; exact DataW.trod_lt m _ _ _ hm
  obtain ⟨la1, ll1, lc1, rfl⟩ := okWide_slice Try.underlying23 (hval 1 23 _ rfl rfl)
  obtain ⟨m1, hm1⟩ := h1
  obtain ⟨K1, hl1, hK1, hz1, hn1⟩ := open_rvN (by simpa [Value.cells] using hm1)
  subst hl1
  have k2 := h2
  have lt2 : ∀ x ∈ p2, x.block < W.heap.size := by obtain ⟨m, hm⟩ := k2; exact DataW.trod_lt m _ _ _ hm
  obtain ⟨la2, ll2, lc2, rfl⟩ := okWide_slice Try.underlying24 (hval 2 24 _ rfl rfl)
  obtain ⟨m2, hm2⟩ := h2
  obtain ⟨K2, hl2, hK2, hz2, hn2⟩ := open_rvI (by simpa [Value.cells] using hm2)
  subst hl2
  clear hA0 hval0
  refine (controlDoes _ K0 hK0 _ K1 hK1 hz1 _ K2 hK2 hz2 hn1 hn2).mono fun e W' ⟨he, bel⟩ => ?_
  subst he
  exact ⟨_, rfl, _, _, _, [], _, [], hW', trodAll_mk1 (shut_bool Try.underlying4 _), (trodAll_cons_mk (Below.trod laidOut (by kernel_rfl) (of_decide_eq_true (by kernel_rfl)) k0 bel lt0) (trodAll_cons_mk (Below.trod laidOut (by kernel_rfl) (of_decide_eq_true (by kernel_rfl)) k1 bel lt1) (trodAll_cons_mk (Below.trod laidOut (by kernel_rfl) (of_decide_eq_true (by kernel_rfl)) k2 bel lt2) trodAll_mk0))), rfl, bel.frame _, fun h => by cases h⟩

theorem over : Rows.controlDoesRow.holds Try.pinned (OpenSpec.ofChange Rows.controlDoesSpec) :=
  OpenClaim.holds_of_wide 3 Try.f3 rfl rfl rfl rfl rfl rfl rfl ⟨rfl, rfl, rfl, rfl, rfl⟩ rfl rfl rfl rfl rfl (by kernel_rfl) Try.func3 (by kernel_rfl)
    (of_decide_eq_true (by kernel_rfl)) (by unfold Func.isWrapper; first | (rw [if_pos (by decide +kernel)]; kernel_rfl) | (rw [if_neg (by decide +kernel)]; exact ⟨rfl, rfl⟩))
    (fun os started H enc _ => lifted os started H enc)

theorem proved : Rows.ControlDoesSaid := over
#print axioms proved
end Go.Proofs.Ytkcmphjgflbchaa.controlDoesDone
