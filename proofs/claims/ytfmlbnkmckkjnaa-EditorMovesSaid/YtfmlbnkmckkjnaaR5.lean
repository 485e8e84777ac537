/- 'carrellaw25.EditorMoves' gives true for every input, and leaves the input as it was; no condition. -/
import Derived.Test.YtfmlbnkmckkjnaaE16
import Derived.Test.YtfmlbnkmckkjnaaRows
import Derived.WalkKit
import Derived.ProofKit
import Derived.OpenShut
import Derived.ChangeOld
import Derived.Below
import Derived.Carry
import Derived.Lib.SmallJoins
import Derived.ChangeMaps5
import Derived.ChangeSlices
namespace Go.Proofs.Ytfmlbnkmckkjnaa.editorMovesDone
open Go.ChangeMaps Go.ChangeShapes Go.WideShapes Go.ChangeAt Go.RowKit Go.Joins
set_option linter.unusedVariables false

theorem own : ownKnob Try.prog.godebug = none := by kernel_rfl
theorem laidOut : laidOutB Try.prog = true := by kernel_rfl
theorem i64_wf {n : Int} (h : (Lit.int .i64 n).wf = true) : isI n := by
  simp [Lit.wf, IntKind.min, IntKind.max, IntKind.signed, IntKind.bits] at h
  unfold isI; omega

theorem u8_wf {n : Int} (h : (Lit.int .u8 n).wf = true) : 0 ≤ n ∧ n < 256 := by
  simp [Lit.wf, IntKind.min, IntKind.max, IntKind.signed, IntKind.bits] at h
  omega

set_option maxRecDepth 100000 in
theorem lifted (os : Os) (started : os.Started) (H : Type) (enc : TypeId × Value → H) :
    ReturnsInHanded {} Try.checked os 5 .any (Rows.editorMovesSpec.pre6 enc Try.prog Try.f5 Rows.editorMovesRow.domain false) (Rows.editorMovesSpec.post enc Try.prog Try.f5 false true false false) := by
  refine returnsInHanded_of_change (C := Try.checked) own started (by kernel_rfl) Try.func5
    (ChangeSpec.witness6 (enc := enc) (C := Try.checked) false ⟨#[], #[.agg #[.string ⟨#[]⟩, .int .i64 0, .bool false], .slice none 0 0], []⟩ 8 (by kernel_rfl) (by kernel_rfl) (by kernel_rfl) (by kernel_rfl)) ?_
  intro W base args ds gs before hval0 hW hcnd _
  have hval : ∀ (j : Nat) t v, Try.f5.params[j]? = some t → args[j]? = some v → Value.okWide Try.prog W .any base t v := hval0
  have hW' := hW
  obtain ⟨p, q, hA0, hV, rfl, hfz, hnd⟩ := hW
  have hA : DataW.TrodAll enc Try.prog W 0 (fun _ => true) true Try.f5.params.toList args.toList ds p := hA0
  rw [Try.params5] at hA hval
  obtain ⟨v0, vs0, d0, ds0, p0, q0, hargs, rfl, rfl, h0, r0⟩ := trodAll_cons hA
  obtain ⟨v1, vs1, d1, ds1, p1, q1, rfl, rfl, rfl, h1, r1⟩ := trodAll_cons r0
  obtain ⟨rfl, rfl, rfl⟩ := trodAll_nil r1
  obtain rfl : args = #[v0, v1] := by cases args; simp_all
  obtain ⟨rfl, rfl⟩ := trodVars_none hV
  have k0 := h0
  have lt0 : ∀ x ∈ p0, x.block < W.heap.size := by obtain ⟨m, hm⟩ := k0; exact DataW.trod_lt m _ _ _ hm
  obtain ⟨c0a, c0b, c0c, y0a, y0b, y0c, m0, rfl, hd0, hp0, hy0a, hy0b, hy0c⟩ := open_agg3 Try.underlying23 (by kernel_rfl) (show Try.prog.cellsOf 23 = 3 by kernel_rfl) (hval 0 23 _ rfl rfl) h0
  obtain ⟨s0, hcs0, _, ws0⟩ := DataW.trod_string Try.underlying9 hy0a
  obtain ⟨a0, hca0, _, wa0⟩ := DataW.trod_int Try.underlying3 hy0b
  obtain ⟨b0, hcb0, _⟩ := DataW.trod_bool Try.underlying4 hy0c
  obtain rfl : c0a = .string s0 := by simpa using hcs0
  obtain rfl : c0b = .int .i64 a0 := by simpa using hca0
  obtain rfl : c0c = .bool b0 := by simpa using hcb0
  have k1 := h1
  have lt1 : ∀ x ∈ p1, x.block < W.heap.size := by obtain ⟨m, hm⟩ := k1; exact DataW.trod_lt m _ _ _ hm
  obtain ⟨la1, ll1, lc1, rfl⟩ := okWide_slice Try.underlying32 (hval 1 32 _ rfl rfl)
  obtain ⟨m1, hm1⟩ := h1
  obtain ⟨K1, hK1⟩ : ∃ K, Ints W (.slice la1 ll1 lc1) K := by
    rcases open_ints Try.underlying32 Try.underlying3 (show Try.prog.cellsOf 3 = 1 by kernel_rfl) hm1 with ⟨hcs, _⟩ | ⟨a, len, cap, zs, hcs, hb, hl, hm2, hlen, hx, hcell, hwf⟩
    · exact ⟨[], .inl ⟨by simpa [Value.cells] using hcs, rfl⟩⟩
    · simp at hlen
      refine ⟨zs.take len, .inr ⟨a, cap, ?_, fun j hj => ?_⟩⟩
      · rw [List.length_take, Nat.min_eq_left (by omega)]; simpa [Value.cells] using hcs
      · have hj2 : j < len ∧ j < zs.length := by simp at hj; omega
        rw [hcell j hj2.2, List.getElem_take, List.getD_eq_getElem?_getD, List.getElem?_eq_getElem hj2.2]; rfl
  clear hA0 hval0
  refine (lawMoves s0 a0 b0 _ K1 hK1 ).mono fun e W' ⟨he, bel⟩ => ?_
  subst he
  exact ⟨_, rfl, _, _, _, [], _, [], hW', trodAll_mk1 (shut_bool Try.underlying4 _), (trodAll_cons_mk (Below.trod laidOut (by kernel_rfl) (of_decide_eq_true (by kernel_rfl)) k0 bel lt0) (trodAll_cons_mk (Below.trod laidOut (by kernel_rfl) (of_decide_eq_true (by kernel_rfl)) k1 bel lt1) trodAll_mk0)), rfl, bel.frame _, fun h => by cases h⟩

theorem over : Rows.editorMovesRow.holds Try.pinned (OpenSpec.ofChange Rows.editorMovesSpec) :=
  OpenClaim.holds_of_wide 5 Try.f5 rfl rfl rfl rfl rfl rfl rfl ⟨rfl, rfl, rfl, rfl, rfl⟩ rfl rfl rfl rfl rfl (by kernel_rfl) Try.func5 (by kernel_rfl)
    (of_decide_eq_true (by kernel_rfl)) (by unfold Func.isWrapper; first | (rw [if_pos (by decide +kernel)]; kernel_rfl) | (rw [if_neg (by decide +kernel)]; exact ⟨rfl, rfl⟩))
    (fun os started H enc _ => lifted os started H enc)

theorem proved : Rows.EditorMovesSaid := over
#print axioms proved
end Go.Proofs.Ytfmlbnkmckkjnaa.editorMovesDone
