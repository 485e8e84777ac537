/- 'carrellaw25.EditorEnds' gives true for every input, and leaves the input as it was; no condition. -/
import Derived.Test.YtfmlbnkmckkjnaaE15
import Derived.Test.YtfmlbnkmckkjnaaRows
import Derived.WalkKit
import Derived.ProofKit
import Derived.OpenShut
import Derived.ChangeOld
import Derived.Below
import Derived.Carry
import Derived.Lib.SmallJoins
import Derived.ChangeMaps5
import Derived.SizedLaws
import Derived.SliceStrings
import Derived.ChangeSlices
namespace Go.Proofs.Ytfmlbnkmckkjnaa.editorEndsDone
open Go.ChangeMaps Go.ChangeShapes Go.WideShapes Go.ChangeAt Go.RowKit Go.Joins
set_option linter.unusedVariables false

theorem own : ownKnob Try.prog.godebug = none := by kernel_rfl
theorem laidOut : laidOutB Try.prog = true := by kernel_rfl
theorem i64_wf {n : Int} (h : (Lit.int .i64 n).wf = true) : isI n := by
  simp [Lit.wf, IntKind.min, IntKind.max, IntKind.signed, IntKind.bits] at h
  unfold isI; omega

theorem u8_wf {n : Int} (h : (Lit.int .u8 n).wf = true) : 0 ≤ n ∧ n < 256 := by
  simp [Lit.wf, IntKind.min, IntKind.max, IntKind.signed, IntKind.bits] at h
  omega

set_option maxRecDepth 100000 in
theorem lifted (os : Os) (started : os.Started) (H : Type) (enc : TypeId × Value → H) :
    ReturnsInHanded {} Try.checked os 7 .any (Rows.editorEndsSpec.pre6 enc Try.prog Try.f7 Rows.editorEndsRow.domain false) (Rows.editorEndsSpec.post enc Try.prog Try.f7 false true false false) := by
  refine returnsInHanded_of_change_sized (C := Try.checked) own started (by kernel_rfl) Try.func7
    (ChangeSpec.witness6 (enc := enc) (C := Try.checked) false ⟨#[], #[.slice none 0 0, .string ⟨#[]⟩, .string ⟨#[]⟩], []⟩ 8 (by kernel_rfl) (by kernel_rfl) (by kernel_rfl) (by kernel_rfl)) ?_
  intro W base args ds gs before hval0 hW hcnd hsz0 _
  have hval : ∀ (j : Nat) t v, Try.f7.params[j]? = some t → args[j]? = some v → Value.okWide Try.prog W .any base t v := hval0
  have hW' := hW
  obtain ⟨p, q, hA0, hV, rfl, hfz, hnd⟩ := hW
  have hA : DataW.TrodAll enc Try.prog W 0 (fun _ => true) true Try.f7.params.toList args.toList ds p := hA0
  rw [Try.params7] at hA hval
  obtain ⟨v0, vs0, d0, ds0, p0, q0, hargs, rfl, rfl, h0, r0⟩ := trodAll_cons hA
  obtain ⟨v1, vs1, d1, ds1, p1, q1, rfl, rfl, rfl, h1, r1⟩ := trodAll_cons r0
  obtain ⟨v2, vs2, d2, ds2, p2, q2, rfl, rfl, rfl, h2, r2⟩ := trodAll_cons r1
  obtain ⟨rfl, rfl, rfl⟩ := trodAll_nil r2
  obtain rfl : args = #[v0, v1, v2] := by cases args; simp_all
  obtain ⟨rfl, rfl⟩ := trodVars_none hV
  have hsz : (DataW.weightsEach Try.prog [34, 9, 9] [d0, d1, d2]).all (· ≤ reachBytes) = true := by rw [Try.params7] at hsz0; exact hsz0
  have k0 := h0
  have lt0 : ∀ x ∈ p0, x.block < W.heap.size := by obtain ⟨m, hm⟩ := k0; exact DataW.trod_lt m _ _ _ hm
  obtain ⟨la0, ll0, lc0, rfl⟩ := okWide_slice Try.underlying34 (hval 0 34 _ rfl rfl)
  obtain ⟨m0, hm0⟩ := h0
  obtain ⟨K0, hK0, hKx0, hKl0⟩ : ∃ K, Hist W (.slice la0 ll0 lc0) K ∧ (∀ x ∈ K, x.length ≤ 9223372036854775807) ∧ K.length ≤ 1000000000000000 := by
    rcases open_strings Try.underlying34 Try.underlying9 (show Try.prog.cellsOf 9 = 1 by kernel_rfl) hm0 with ⟨hcs, _⟩ | ⟨a, len, cap, zs, hcs, hb, hl, hm2, hlen, hx, hcell, hwf⟩
    · exact ⟨[], .inl ⟨by simpa [Value.cells] using hcs, rfl⟩, by simp, by simp⟩
    · simp at hlen
      have hKl : zs.length ≤ 1000000000000000 := by
        have hr := sized_slice hsz (j := 0) (t := 34) (e := 9) (elems := strs (zs.take len)) (spare := strs (zs.drop len)) rfl (by simp only [Prod.mk.injEq] at hx; rw [← hx.1]; rfl) Try.underlying34
        rw [show Try.prog.bytesOf 9 = 16 by kernel_rfl] at hr
        have h47 := reachBytes_lt
        rw [← List.length_append] at hr
        have e9 : (strs (zs.take len) ++ strs (zs.drop len) : List (DataW H)).length = zs.length := by rw [strs, strs, List.length_append, List.length_map, List.length_map, ← List.length_append, List.take_append_drop]
        omega
      refine ⟨(zs.take len).map (fun s => s.data.toList), .inr ⟨a, cap, ?_, fun j hj => ?_⟩, fun x hx2 => ?_, ?_⟩
      · rw [List.length_map, List.length_take, Nat.min_eq_left (by omega)]; simpa [Value.cells] using hcs
      · have hj2 : j < len ∧ j < zs.length := by simp at hj; omega
        rw [hcell j hj2.2, List.getElem_map, List.getElem_take, List.getD_eq_getElem?_getD, List.getElem?_eq_getElem hj2.2, str_list]; rfl
      · obtain ⟨s, hs, rfl⟩ := List.mem_map.1 hx2
        have h9 := hwf s (List.mem_of_mem_take hs)
        rw [str_len]
        exact h9
      · rw [List.length_map, List.length_take]; omega
  obtain ⟨a1, rfl, rfl, rfl, w1⟩ := open_string Try.underlying9 (hval 1 9 v1 rfl rfl) h1
  have q1 : a1.size ≤ 1000000000000000 := by have h47 := reachBytes_lt; have hr := sized_string hsz (j := 1) (t := 9) (bytes := a1.data.toList) rfl rfl; rw [str_len] at hr; omega
  obtain ⟨a2, rfl, rfl, rfl, w2⟩ := open_string Try.underlying9 (hval 2 9 v2 rfl rfl) h2
  have q2 : a2.size ≤ 1000000000000000 := by have h47 := reachBytes_lt; have hr := sized_string hsz (j := 2) (t := 9) (bytes := a2.data.toList) rfl rfl; rw [str_len] at hr; omega
  clear hA0 hval0
  refine (lawEnds _ K0 hK0 hKx0 hKl0 a1 a2 q1 q2).mono fun e W' ⟨he, bel⟩ => ?_
  subst he
  exact ⟨_, rfl, _, _, _, [], _, [], hW', trodAll_mk1 (shut_bool Try.underlying4 _), (trodAll_cons_mk (Below.trod laidOut (by kernel_rfl) (of_decide_eq_true (by kernel_rfl)) k0 bel lt0) (trodAll_cons_mk (shut_string Try.underlying9 w1) (trodAll_cons_mk (shut_string Try.underlying9 w2) trodAll_mk0))), rfl, bel.frame _, fun h => by cases h⟩

theorem over : Rows.editorEndsRow.holds Try.pinned (OpenSpec.ofChange Rows.editorEndsSpec) :=
  OpenClaim.holds_of_wide 7 Try.f7 rfl rfl rfl rfl rfl rfl rfl ⟨rfl, rfl, rfl, rfl, rfl⟩ rfl rfl rfl rfl rfl (by kernel_rfl) Try.func7 (by kernel_rfl)
    (of_decide_eq_true (by kernel_rfl)) (by unfold Func.isWrapper; first | (rw [if_pos (by decide +kernel)]; kernel_rfl) | (rw [if_neg (by decide +kernel)]; exact ⟨rfl, rfl⟩))
    (fun os started H enc _ => lifted os started H enc)

theorem proved : Rows.EditorEndsSaid := over
#print axioms proved
end Go.Proofs.Ytfmlbnkmckkjnaa.editorEndsDone
