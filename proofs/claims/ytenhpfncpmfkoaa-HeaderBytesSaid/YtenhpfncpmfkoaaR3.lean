/- 'carrellaw18.HeaderBytes' gives true for every input, and leaves the input as it was; no condition. -/
import Derived.Test.YtenhpfncpmfkoaaO7
import Derived.Test.YtenhpfncpmfkoaaRows
import Derived.WalkKit
import Derived.ProofKit
import Derived.OpenShut
import Derived.ChangeOld
import Derived.Below
import Derived.Carry
import Derived.Lib.SmallJoins
import Derived.ChangeMaps5
import Derived.ChangeSlices
namespace Go.Proofs.Ytenhpfncpmfkoaa.headerBytesDone
open Go.ChangeMaps Go.ChangeShapes Go.WideShapes Go.ChangeAt Go.RowKit Go.Joins
set_option linter.unusedVariables false

theorem own : ownKnob Try.prog.godebug = none := by kernel_rfl
theorem laidOut : laidOutB Try.prog = true := by kernel_rfl
theorem i64_wf {n : Int} (h : (Lit.int .i64 n).wf = true) : isI n := by
  simp [Lit.wf, IntKind.min, IntKind.max, IntKind.signed, IntKind.bits] at h
  unfold isI; omega

theorem u8_wf {n : Int} (h : (Lit.int .u8 n).wf = true) : 0 ≤ n ∧ n < 256 := by
  simp [Lit.wf, IntKind.min, IntKind.max, IntKind.signed, IntKind.bits] at h
  omega

set_option maxRecDepth 100000 in
theorem lifted (os : Os) (started : os.Started) (H : Type) (enc : TypeId × Value → H) :
    ReturnsInHanded {} Try.checked os 3 .any (Rows.headerBytesSpec.pre6 enc Try.prog Try.f3 Rows.headerBytesRow.domain false) (Rows.headerBytesSpec.post enc Try.prog Try.f3 false true false false) := by
  refine returnsInHanded_of_change (C := Try.checked) own started (by kernel_rfl) Try.func3
    (ChangeSpec.witness6 (enc := enc) (C := Try.checked) false ⟨#[], #[.agg #[.int .i64 0, .int .i64 0, .string ⟨#[]⟩, .bool false, .bool false, .int .i64 0]], []⟩ 8 (by kernel_rfl) (by kernel_rfl) (by kernel_rfl) (by kernel_rfl)) ?_
  intro W base args ds gs before hval0 hW hcnd _
  have hval : ∀ (j : Nat) t v, Try.f3.params[j]? = some t → args[j]? = some v → Value.okWide Try.prog W .any base t v := hval0
  have hW' := hW
  obtain ⟨p, q, hA0, hV, rfl, hfz, hnd⟩ := hW
  have hA : DataW.TrodAll enc Try.prog W 0 (fun _ => true) true Try.f3.params.toList args.toList ds p := hA0
  rw [Try.params3] at hA hval
  obtain ⟨v0, vs0, d0, ds0, p0, q0, hargs, rfl, rfl, h0, r0⟩ := trodAll_cons hA
  obtain ⟨rfl, rfl, rfl⟩ := trodAll_nil r0
  obtain rfl : args = #[v0] := by cases args; simp_all
  obtain ⟨rfl, rfl⟩ := trodVars_none hV
  have k0 := h0
  have lt0 : ∀ x ∈ p0, x.block < W.heap.size := by obtain ⟨m, hm⟩ := k0; exact DataW.trod_lt m _ _ _ hm
  obtain ⟨c0a, c0b, c0c, c0d, c0e, c0f, y0a, y0b, y0c, y0d, y0e, y0f, m0, rfl, hd0, hy0a, hy0b, hy0c, hy0d, hy0e, hy0f⟩ := open_agg6 Try.underlying23 (by kernel_rfl) (show Try.prog.cellsOf 23 = 6 by kernel_rfl) (hval 0 23 _ rfl rfl) h0
  obtain ⟨a0a, hc0a, _, w0a⟩ := DataW.trod_int Try.underlying2 hy0a
  obtain rfl : c0a = .int .i64 a0a := by simpa using hc0a
  obtain ⟨a0b, hc0b, _, w0b⟩ := DataW.trod_int Try.underlying2 hy0b
  obtain rfl : c0b = .int .i64 a0b := by simpa using hc0b
  obtain ⟨a0c, hc0c, _, w0c⟩ := DataW.trod_string Try.underlying9 hy0c
  obtain rfl : c0c = .string a0c := by simpa using hc0c
  obtain ⟨a0d, hc0d, _⟩ := DataW.trod_bool Try.underlying4 hy0d
  obtain rfl : c0d = .bool a0d := by simpa using hc0d
  obtain ⟨a0e, hc0e, _⟩ := DataW.trod_bool Try.underlying4 hy0e
  obtain rfl : c0e = .bool a0e := by simpa using hc0e
  obtain ⟨a0f, hc0f, _, w0f⟩ := DataW.trod_int Try.underlying2 hy0f
  obtain rfl : c0f = .int .i64 a0f := by simpa using hc0f
  clear hA0 hval0
  refine (headerBytes a0a a0b a0c a0d a0e a0f (i64_wf w0b) W).mono fun e W' ⟨he, bel⟩ => ?_
  subst he
  exact ⟨_, rfl, _, _, _, [], _, [], hW', trodAll_mk1 (shut_bool Try.underlying4 _), (trodAll_cons_mk (Below.trod laidOut (by kernel_rfl) (of_decide_eq_true (by kernel_rfl)) k0 bel lt0) trodAll_mk0), rfl, bel.frame _, fun h => by cases h⟩

theorem over : Rows.headerBytesRow.holds Try.pinned (OpenSpec.ofChange Rows.headerBytesSpec) :=
  OpenClaim.holds_of_wide 3 Try.f3 rfl rfl rfl rfl rfl rfl rfl ⟨rfl, rfl, rfl, rfl, rfl⟩ rfl rfl rfl rfl rfl (by kernel_rfl) Try.func3 (by kernel_rfl)
    (of_decide_eq_true (by kernel_rfl)) (by unfold Func.isWrapper; first | (rw [if_pos (by decide +kernel)]; kernel_rfl) | (rw [if_neg (by decide +kernel)]; exact ⟨rfl, rfl⟩))
    (fun os started H enc _ => lifted os started H enc)

theorem proved : Rows.HeaderBytesSaid := over
#print axioms proved
end Go.Proofs.Ytenhpfncpmfkoaa.headerBytesDone
