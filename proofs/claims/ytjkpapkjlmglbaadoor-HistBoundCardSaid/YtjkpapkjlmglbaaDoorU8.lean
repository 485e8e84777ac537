/- The loop over lines, at its caller; 'Lines'. -/
import Derived.Test.YtjkpapkjlmglbaaDoorU7
namespace Go.Proofs.YtjkpapkjlmglbaaDoor
open Go.RowKit Go.Shelf
set_option linter.unusedVariables false
set_option linter.unusedSimpArgs false
attribute [local go_sem] Oper.semAt_some cell_set set_set m_undef

theorem wpIn_range_lines {n : Nat} {g : Operand} {ps : Array Tmp} {assign body : Code} {Q : Exit → Act → World → Prop} {a : Act} {w : World} (h1 : 2 ≤ n) {bx : Nat}
    (hg : a.eval g = .func (.func 29) #[] #[.pointer (some ⟨bx, 0, none⟩)]) (hps : ps.size = 1) {J : Obj → Nat → List UInt8 → World → Prop} (I : LoopI bx w.heap.size J)
    (ls : List (List UInt8)) (hl : ∀ l ∈ ls, (10 : UInt8) ∉ l) (hlen : (joinL ls).length ≤ 1000000) (h0 : ∀ o, J o 0 (joinL ls) ((w.alloc (.deferred (some []))).alloc o)) (act : List UInt8 → Act)
    (hassign : ∀ (l : Nat) (x : List UInt8) (W : World) (K : Act → World → Prop), K (act x) W → assign.wpIn (Fence.wide.inRound l) (n - 1 - 1) Tryd.prog (Exit.then K (fun _ _ _ => False)) { tmps := (ps.zip #[.string ⟨x.toArray⟩]).foldl (fun t (p, v) => t.setIfInBounds p v) a.tmps, defers := [] } W)
    (hbody : ∀ (l : Nat) (o : Obj) (k : Nat) (x s : List UInt8) (W : World), ls[k]? = some x → J o k s W → body.wpIn (Fence.wide.inRound l) (n - 1 - 1) Tryd.prog (fun e _ W' => e = .normal ∧ J o (k + 1) s W') (act x) W)
    (hdone : ∀ (o : Obj) (W : World), J o ls.length [] W → Q .normal { a with defers := { target := .collected w.heap.size, args := #[] } :: a.defers } W) :
    (Code.rangeFunc g ps assign body).wpIn Fence.wide n Tryd.prog Q a w := by
  refine wpIn_rangeFunc ?_
  intro fn hfn
  rw [show Fence.wide.round = none from rfl]
  obtain ⟨rec, hrec⟩ : ∃ rec : LoopState → Option Code → Loop, rec = fun st pe => { state := st, pending := pe, fn, tmps := a.tmps, params := ps, assign, body, defers := w.heap.size } := ⟨_, rfl⟩
  obtain ⟨W1, hW1⟩ : ∃ W1, (w.alloc (.deferred (some []))).alloc (.loop (rec .ready none)) = W1 := ⟨_, rfl⟩
  have hJ1 : J (.loop (rec .ready none)) 0 (joinL ls) W1 := by rw [← hW1]; exact h0 _
  refine ⟨w.heap.size + 1, [{ target := .collected w.heap.size, args := #[] }], W1, { target := .fn (.func 29) #[.pointer (some ⟨bx, 0, none⟩)], args := #[.func (.yield (w.heap.size + 1)) #[] #[]] }, W1, 29,
    #[.func (.yield (w.heap.size + 1)) #[] #[]] ++ #[.pointer (some ⟨bx, 0, none⟩)], W1, ?_, ?_, ?_, ?_, fun _ => by omega, ?_⟩
  · rw [← hW1, hrec]; exact run_enterLoop_outer _ _ _ _ _
  · simp only [resolve, hg]
    simp [go_sem]
  · intro f' hf'; simp [Target.leads] at hf'; subst hf'; exact trivial
  · have eg : ∀ args w, (callFunc 29 args).run Tryd.prog w = .ok (.enter 29 args) w := enters_of Tryd.func29 (by kernel_rfl) rfl
    simp [invoke, go_sem, eg]
  · refine (lines_in (n - 1) (by omega) I ls hl hlen (.loop (rec .ready none)) (w.heap.size + 1) W1 hJ1 ?_).mono ?_
    · rintro k x s W hx hJ
      have hlr := I.recd hJ
      have hy := run_yield (P := Tryd.prog) (args := #[.string ⟨x.toArray⟩]) hlr (by rw [hrec]; simp [hps])
      rw [hrec] at hy
      refine ⟨fn, _, assign, body, hy, roundIn_of_wpIn hfn (hassign _ x W _ ⟨_, run_beginRound hlr (by rw [hrec]), ?_⟩)⟩
      refine wpIn_mono (hbody _ _ k x s _ hx (I.putRec hJ (.loop { rec .ready none with state := .busy }))) ?_
      rintro e a3 W3 ⟨rfl, hJ3⟩
      have hl3 := I.recd hJ3
      have hr := run_endRound (P := Tryd.prog) none hl3
      refine ⟨_, _, hr, rfl, ?_⟩
      have h4 := I.putRec hJ3 (.loop (rec .ready none))
      rw [hrec] at h4 ⊢
      exact h4
    · rintro e W2 ⟨⟨v, rfl⟩, hJ⟩
      have hl2 := I.recd hJ
      have hr := run_endLoop (P := Tryd.prog) hl2 (by rw [hrec]; simp)
      refine ⟨none, _, ?_, hdone _ _ (I.putRec hJ (.loop { rec .ready none with state := .exhausted }))⟩
      rw [hr, hrec]
end Go.Proofs.YtjkpapkjlmglbaaDoor
