/- A range over a function, where the iterator and the body hand a memory on: the states, the iterator's contract, the caller's law. -/
import Derived.Test.YtcfblcgdjhpdaaaQ4
import Derived.RangeFuncNested
import Derived.RangeFuncBound
import Derived.RangeFuncCalls
import Derived.RangeFuncLeaves
import Derived.Shelf.Abstract
import Derived.Shelf.RegionOpen
import Derived.OwnWalkIn
import Derived.TacticsInMore
import Derived.LoopNIn
import Derived.LoopIn
namespace Go.Proofs.Ytcfblcgdjhpdaaa
open Go.RowKit Go.Shelf
set_option linter.unusedVariables false
set_option linter.unusedSimpArgs false

def Kp.obj (k : Nat) (o : Obj) : Kp := ⟨fun j => j = k, fun w => w.heap[k]? = some o, fun w1 w2 h hs hp => by
  have := h k rfl (Array.getElem?_eq_some_iff.1 hp).1
  rw [this]; exact hp⟩
/-- States of a walk that a memory is kept in. -/
structure StM (base mb : Nat) (M : List UInt8) (T : World → Kp → Prop) : Prop where
  fact : ∀ {w : World} {K : Kp}, T w K → K.P w
  slt : ∀ {w : World} {K : Kp} {k : Nat}, T w K → K.S k → k < w.heap.size
  size : ∀ {w : World} {K : Kp}, T w K → base ≤ w.heap.size
  keep : ∀ {w : World} {K L : Kp}, T w K → (∀ O, Keep w O K → Keep w O L) → T w L
  newK : ∀ {w w' : World} {K L : Kp}, T w K → Below w.heap.size w w' → L.P w' → (∀ k, L.S k → w.heap.size ≤ k ∧ k < w'.heap.size) → T w' (K.and L)
  put : ∀ {w w' : World} {K L L' : Kp} {b : Nat}, T w (K.and L) → w.grownBy w' (some b) → base ≤ b → ¬ K.S b → L.S b → L'.P w' → (∀ k, L'.S k → L.S k) → T w' (K.and L')
  mem : ∀ {w : World} {K : Kp} {f : Nat} {args : Array Value} {v : Value}, T w K → (∀ B O, MemP w B mb M O → B ≤ w.heap.size → Calls Try.prog f args w fun e w' => MemQ w w' B mb M O v e) → Calls Try.prog f args w fun e w' => e = .returned v ∧ T w' K ∧ w.heap.size ≤ w'.heap.size
section
variable {base mb : Nat} {M : List UInt8} {T : World → Kp → Prop} {w w' : World} {K L : Kp}
theorem StM.below (S : StM base mb M T) (h : T w K) (hb : Below w.heap.size w w') : T w' K := S.keep (S.newK (L := .emp) h hb trivial (fun k hk => hk.elim)) fun _ h => h.left
theorem StM.weak (S : StM base mb M T) (h : T w (K.and L)) : T w K := S.keep h fun _ h => h.left
theorem StM.new (S : StM base mb M T) (h : T w K) (c : Array Value) (t : TypeId) : T (w.alloc (.cells c t)) (K.and (.blk w.heap.size c t)) :=
  S.newK h (bel_alloc (Below.refl _ _) _) (Blk.new _ _ _) (fun k hk => by cases hk; exact ⟨Nat.le_refl _, by simp⟩)
theorem StM.newObj (S : StM base mb M T) (h : T w K) (o : Obj) : T (w.alloc o) (K.and (.obj w.heap.size o)) :=
  S.newK h (bel_alloc (Below.refl _ _) _) (World.alloc_heap_new _ _) (fun k hk => by cases hk; exact ⟨Nat.le_refl _, by simp⟩)
theorem StM.drew (S : StM base mb M T) (h : T w K) : T w.drew K := S.below h (bel_drew (Below.refl _ _))
theorem StM.set (S : StM base mb M T) {b : Nat} {c : Array Value} {t : TypeId} (h : T w (K.and (.blk b c t))) (hb : base ≤ b) (hK : ¬ K.S b) (o : Nat) (v : Value) : T (w.setCell ⟨b, o, none⟩ v) (K.and (.blk b (c.setIfInBounds o v) t)) :=
  S.put h (grownBy_setCell w b o v) hb hK rfl (Blk.set (S.fact h).2 o v) (fun k hk => hk)
theorem StM.putObj (S : StM base mb M T) {b : Nat} {o : Obj} (h : T w (K.and (.obj b o))) (hb : base ≤ b) (hK : ¬ K.S b) (o' : Obj) : T (w.putObj b o') (K.and (.obj b o')) :=
  S.put h (grownBy_putObj' w b o') hb hK rfl (World.putObj_heap_same (Array.getElem?_eq_some_iff.1 (S.fact h).2).1) (fun k hk => hk)
theorem StM.swap {L' : Kp} (S : StM base mb M T) (h : T w ((K.and L).and L')) : T w ((K.and L').and L) := S.keep h fun _ h => (h.left.left.and h.right).and h.left.right
theorem StM.still (S : StM base mb M T) (h : T w K) {f : Nat} {args : Array Value} {Q : Ending → World → Prop} (c : Calls Try.prog f args w fun e w' => Q e w' ∧ Below w.heap.size w w') :
    Calls Try.prog f args w fun e w' => Q e w' ∧ T w' K := c.mono fun e w' ⟨hq, hb⟩ => ⟨hq, S.below h hb⟩
end
theorem One.st {W : World} {B mb : Nat} {M : List UInt8} {O0 : Nat → Prop} : StM W.heap.size mb M (fun w K => One W w B mb M O0 K) := {
  fact := One.fact
  slt := fun h hk => h.slt hk
  size := fun h => h.size
  keep := fun h hL => h.keep hL
  newK := fun h hb hL hS => by
    obtain ⟨O, h1, h2, h3, h4⟩ := h
    exact ⟨O, h1.below hb, h2.trans (Turn.of_below hb O), (h3.turn (Turn.of_below hb O)).and ⟨hL, fun k hk => ⟨(hS k hk).2, fun hO => by have := (h1.lt hO).1; have := (hS k hk).1; omega⟩⟩, h4⟩
  put := fun h hg hb hK hLb hL hSS => by
    obtain ⟨O, h1, h2, h3, h4⟩ := h
    have hO := (h3.2 _ (.inr hLb)).2
    exact ⟨O, h1.kept hg (fun k e => by cases e; exact hO), h2.grownOwn hg (fun k e => by cases e; exact hb), (h3.left.grown hg (fun k e => by cases e; exact hK)).and ⟨hL, fun k hk => ⟨Nat.lt_of_lt_of_le (h3.2 k (.inr (hSS k hk))).1 hg.size, (h3.2 k (.inr (hSS k hk))).2⟩⟩, h4⟩
  mem := fun h c => by
    obtain ⟨O, h1, h2, h3, h4⟩ := h
    exact (c _ O h1 (Nat.le_trans h4 h2.size)).mono fun e w' ⟨he, O', h5, h6⟩ => ⟨he, ⟨O', h5, h2.trans h6, h3.turn h6, h4⟩, h6.size⟩ }
theorem Two.st {W : World} {mb rb : Nat} {M N : List UInt8} : StM W.heap.size mb M (fun w K => Two W w mb rb M N K) := {
  fact := Two.fact
  slt := fun h hk => by obtain ⟨_, _, _, _, _, _, _, _, _, h⟩ := h; exact (h.2 _ hk).1
  size := fun h => h.bel.size
  keep := fun h hL => h.keep hL
  newK := fun h hb hL hS => h.newK hb hL hS
  put := fun h hg hb hK hLb hL hSS => by
    obtain ⟨B, O, R, h1, h2, h3, h4, h5, h6, h7⟩ := h
    have hO := (h7.2 _ (.inr hLb)).2
    exact ⟨B, O, R, h1, Nat.le_trans h2 hg.size, h3.kept hg (fun k e => by cases e; exact fun h => hO (.inl h)), h4.kept hg (fun k e => by cases e; exact fun h => hO (.inr h)), h5, h6.grown hg h6.size (fun k e => by cases e; exact hb),
      (h7.left.grown hg (fun k e => by cases e; exact hK)).and ⟨hL, fun k hk => ⟨Nat.lt_of_lt_of_le (h7.2 k (.inr (hSS k hk))).1 hg.size, (h7.2 k (.inr (hSS k hk))).2⟩⟩⟩
  mem := fun h c => by
    obtain ⟨B, O, R, h1, h2, h3, h4, h5, h6, h7⟩ := h
    exact (c B O h3 h2).mono fun e w' ⟨he, O', h8, h9⟩ => ⟨he, ⟨B, O', R, h1, Nat.le_trans h2 h9.size, h8, h4.turn h9 (fun k hk hO => h5 k hO hk), fun k hk hR => h9.apart (fun hO => h5 k hO hR) (h4.lt hR).1 hk,
      h6.trans ((h9.below (fun k hk => (h3.lt hk).2) h2).mono h1), h7.turn h9.both⟩, h9.size⟩ }
theorem Uno.st {W : World} {mb : Nat} {M : List UInt8} : StM W.heap.size mb M (fun w K => Uno W w mb M K) := {
  fact := Uno.fact
  slt := fun h hk => by obtain ⟨_, _, _, _, _, _, h⟩ := h; exact (h.2 _ hk).1
  size := fun h => h.bel.size
  keep := fun h hL => h.keep hL
  newK := fun h hb hL hS => h.newK hb hL hS
  put := fun h hg hb hK hLb hL hSS => by
    obtain ⟨B, O, h1, h2, h3, h4, h5⟩ := h
    have hO := (h5.2 _ (.inr hLb)).2
    exact ⟨B, O, h1, Nat.le_trans h2 hg.size, h3.kept hg (fun k e => by cases e; exact hO), h4.grown hg h4.size (fun k e => by cases e; exact hb),
      (h5.left.grown hg (fun k e => by cases e; exact hK)).and ⟨hL, fun k hk => ⟨Nat.lt_of_lt_of_le (h5.2 k (.inr (hSS k hk))).1 hg.size, (h5.2 k (.inr (hSS k hk))).2⟩⟩⟩
  mem := fun h c => by
    obtain ⟨B, O, h1, h2, h3, h4, h5⟩ := h
    exact (c B O h3 h2).mono fun e w' ⟨he, O', h8, h9⟩ => ⟨he, ⟨B, O', h1, Nat.le_trans h2 h9.size, h8, h4.trans ((h9.below (fun k hk => (h3.lt hk).2) h2).mono h1), h5.turn h9⟩, h9.size⟩ }

/-- An iterator's contract: it yields xs, one by one, in whatever states its caller keeps. -/
def SeqT {α : Type} (F : Fence) (n : Nat) (g : Nat) (lb : Array Value) (encs : α → Array Value) (xs : List α) (T : World → Kp → Prop) (Q0 : Kp → Prop) : Prop :=
  ∀ (l : Nat) (J : Nat → Kp) (Jx : Nat → World → Prop) (W : World), (∀ k, Q0 (J k)) → T W (J 0) →
    (∀ (k : Nat) (x : α) (L : Kp) (W1 : World), xs[k]? = some x → (∀ j, L.S j → W.heap.size ≤ j) → T W1 ((J k).and L) → YieldAt F (n - 1) Try.prog l (encs x) W1 fun e W' =>
      (e = .returned (.bool true) ∧ T W' ((J (k + 1)).and L)) ∨ (e = .returned (.bool false) ∧ Jx k W')) →
    CallsIn F n Try.prog g (#[.func (.yield l) #[] #[]] ++ lb) W fun e W' => (∃ v, e = .returned v) ∧ (T W' (J xs.length) ∨ ∃ k x, xs[k]? = some x ∧ Jx k W')

theorem wideScope {n : Nat} {P : Program} {c : Code} {Q : Exit → Act → World → Prop} {a : Act} {w : World} (h : c.wpIn Fence.wide n P (Exit.noGoto Q) a w) : (Code.scope c).wpIn Fence.wide n P Q a w :=
  wpIn_wide.2 (wp_scope_straight ((wpIn_wide (n := n)).1 h))
variable {F : Fence} {n : Nat}
/-- How a round's body may be left. -/
def postT (T : World → Kp → Prop) (J : Kp) (Jx : Code → Kp) (L : Kp) : Exit → Act → World → Prop
  | .normal, _, W => T W (J.and L)
  | .ret, _, W => T W ((Jx .ret).and L)
  | .exit id, _, W => T W ((Jx (.exit id)).and L)
  | .goto t, _, W => T W ((Jx (.goto t)).and L)
  | .panic _, _, _ => False
  | .outgrown, _, _ => False
theorem wpIn_rangeFunc_T {α β : Type} {g : Operand} {ps : Array Tmp} {assign body : Code} {Q : Exit → Act → World → Prop} {a : Act} {w : World}
    (hro : F.round = none) (h1 : 1 ≤ n) {gf : Nat} {lb : Array Value} (hg : a.eval g = .func (.func gf) #[] lb) (hFg : F.fn gf) (eg : ∀ args w, (callFunc gf args).run Try.prog w = .ok (.enter gf args) w)
    {encs : α → Array Value} {xs : List α} {base mb : Nat} {M : List UInt8} {T : World → Kp → Prop} (S : StM base mb M T) {Q0 : Kp → Prop} (hseq : SeqT F (n - 1) gf lb encs xs T Q0) (hps : ∀ x, (encs x).size = ps.size)
    (J : Nat → Kp) (hJS : ∀ k j, (J k).S j → j < w.heap.size) (hQ : ∀ K L, Q0 K → Q0 (K.and L)) (hQ0 : ∀ k, Q0 (J k)) (Jx : Code → Nat → Kp) (hJxS : ∀ c k j, (Jx c k).S j → j < w.heap.size) (h0 : T w (J 0))
    (act : α → β → Act) (JA : Nat → α → β → Kp)
    (hassign : ∀ (l k : Nat) (x : α) (L : Kp) (W : World), xs[k]? = some x → (∀ j, L.S j → w.heap.size ≤ j) → w.heap.size + 2 ≤ W.heap.size → T W ((J k).and L) →
      assign.wpIn (F.inRound l) (n - 1 - 1) Try.prog (Exit.then (fun a' W' => ∃ y, a' = act x y ∧ (∀ j, (JA k x y).S j → j < w.heap.size ∨ w.heap.size + 2 ≤ j) ∧ T W' ((JA k x y).and L)) (fun _ _ _ => False)) { tmps := (ps.zip (encs x)).foldl (fun t (p, v) => t.setIfInBounds p v) a.tmps, defers := [] } W)
    (hbody : ∀ (l k : Nat) (x : α) (y : β) (L : Kp) (W : World), xs[k]? = some x → (∀ j, L.S j → w.heap.size ≤ j) → T W ((JA k x y).and L) → body.wpIn (F.inRound l) (n - 1 - 1) Try.prog (postT T (J (k + 1)) (fun c => Jx c k) L) (act x y) W)
    (hdone : ∀ (D : Nat) (W : World), w.heap.size ≤ D → T W ((J xs.length).and (.obj D (.deferred (some [])))) → Q .normal { a with defers := { target := .collected D, args := #[] } :: a.defers } W)
    (hstop : ∀ (D : Nat) (c : Code) (k : Nat) (x : α) (W : World), xs[k]? = some x → w.heap.size ≤ D → T W ((Jx c k).and (.obj D (.deferred (some [])))) → c.wpIn F n Try.prog Q { a with defers := { target := .collected D, args := #[] } :: a.defers } W) :
    (Code.rangeFunc g ps assign body).wpIn F n Try.prog Q a w := by
  have hbase := S.size h0
  refine wpIn_rangeFunc ?_
  intro fn hfn
  rw [hro]
  obtain ⟨rec, hrec⟩ : ∃ rec : LoopState → Option Code → Loop, rec = fun st pe => { state := st, pending := pe, fn, tmps := a.tmps, params := ps, assign, body, defers := w.heap.size } := ⟨_, rfl⟩
  obtain ⟨W1, hW1⟩ : ∃ W1, (w.alloc (.deferred (some []))).alloc (.loop (rec .ready none)) = W1 := ⟨_, rfl⟩
  have hT1 : T W1 (((J 0).and (.obj w.heap.size (.deferred (some [])))).and (.obj (w.heap.size + 1) (.loop (rec .ready none)))) := by
    rw [← hW1]
    have := S.newObj (S.newObj h0 (.deferred (some []))) (.loop (rec .ready none))
    rwa [World.size_alloc] at this
  have hs1 : W1.heap.size = w.heap.size + 2 := by rw [← hW1]; simp
  refine ⟨w.heap.size + 1, [{ target := .collected w.heap.size, args := #[] }], W1, { target := .fn (.func gf) lb, args := #[.func (.yield (w.heap.size + 1)) #[] #[]] }, W1, gf,
    #[.func (.yield (w.heap.size + 1)) #[] #[]] ++ lb, W1, ?_, ?_, ?_, ?_, fun _ => h1, ?_⟩
  · rw [← hW1, hrec]; exact run_enterLoop_outer _ _ _ _ _
  · simp only [resolve, hg]
    simp [go_sem]
  · intro f' hf'; simp [Target.leads] at hf'; subst hf'; exact hFg
  · simp [invoke, go_sem, eg]
  · refine (hseq (w.heap.size + 1) (fun k => ((J k).and (.obj w.heap.size (.deferred (some [])))).and (.obj (w.heap.size + 1) (.loop (rec .ready none))))
      (fun k W => ∃ c, T W (((Jx c k).and (.obj w.heap.size (.deferred (some [])))).and (.obj (w.heap.size + 1) (.loop (rec .done (some c)))))) W1 (fun k => hQ _ _ (hQ _ _ (hQ0 k))) hT1 ?_).mono ?_
    · rintro k x L W hx hL hTW
      have hl : W.heap[w.heap.size + 1]? = some (.loop (rec .ready none)) := (S.fact hTW).1.2
      have hlt : w.heap.size + 1 < W.heap.size := (Array.getElem?_eq_some_iff.1 hl).1
      have hy := run_yield (P := Try.prog) (args := encs x) hl (by rw [hrec]; exact hps x)
      rw [hrec] at hy
      have hLl : ¬ L.S (w.heap.size + 1) := fun h => by have := hL _ h; omega
      have hL1 : ∀ (o : Obj) (j : Nat), (((Kp.obj w.heap.size (.deferred (some []))).and L).and (.obj (w.heap.size + 1) o)).S j → w.heap.size ≤ j := fun o j hj => by
        rcases hj with (hj | hj) | hj
        · have : j = w.heap.size := hj
          omega
        · have := hL j hj; omega
        · have : j = w.heap.size + 1 := hj
          omega
      have hT2 : T W ((J k).and (((Kp.obj w.heap.size (.deferred (some []))).and L).and (.obj (w.heap.size + 1) (.loop (rec .ready none))))) := S.keep hTW fun _ h => h.left.left.left.and ((h.left.left.right.and h.right).and h.left.right)
      refine ⟨fn, _, assign, body, hy, roundIn_of_wpIn hfn (wpIn_mono (hassign _ k x _ W hx (hL1 _) (by omega) hT2) ?_)⟩
      clear hy
      rintro e a' Wa hp
      cases e with
      | normal =>
        obtain ⟨y, rfl, hAS, hTa⟩ := hp
        have hla : Wa.heap[w.heap.size + 1]? = some (.loop (rec .ready none)) := (S.fact hTa).2.2
        refine ⟨_, run_beginRound hla (by rw [hrec]), ?_⟩
        have hTb : T Wa (((JA k x y).and ((Kp.obj w.heap.size (.deferred (some []))).and L)).and (.obj (w.heap.size + 1) (.loop (rec .ready none)))) := S.keep hTa fun _ h => (h.left.and h.right.left).and h.right.right
        have hTc := S.putObj hTb (by omega) (fun h => by
          rcases h with h | h | h
          · have := hAS _ h; omega
          · have : w.heap.size + 1 = w.heap.size := h
            omega
          · exact hLl h) (.loop { rec .ready none with state := .busy })
        have hTd : T (Wa.putObj (w.heap.size + 1) (.loop { rec .ready none with state := .busy })) ((JA k x y).and (((Kp.obj w.heap.size (.deferred (some []))).and L).and (.obj (w.heap.size + 1) (.loop { rec .ready none with state := .busy })))) := S.keep hTc fun _ h => h.left.left.and (h.left.right.and h.right)
        refine wpIn_mono (hbody _ k x y _ _ hx (hL1 _) hTd) ?_
        have fin : ∀ (jump : Option Code) (K : Kp) (W3 : World), (∀ j, K.S j → j < w.heap.size) → T W3 (K.and (((Kp.obj w.heap.size (.deferred (some []))).and L).and (.obj (w.heap.size + 1) (.loop { rec .ready none with state := .busy })))) →
            ∃ W4, (Instr.endRound (w.heap.size + 1) jump).run Try.prog W3 = .ok (.bool jump.isNone) W4 ∧ T W4 (((K.and (.obj w.heap.size (.deferred (some [])))).and (.obj (w.heap.size + 1) (.loop (rec (if jump.isNone then .ready else .done) jump)))).and L) := fun jump K W3 hKS h3 => by
          have hl3 : W3.heap[w.heap.size + 1]? = some (.loop { rec .ready none with state := .busy }) := (S.fact h3).2.2
          have hr := run_endRound (P := Try.prog) jump hl3
          have h4 : T W3 (((K.and (.obj w.heap.size (.deferred (some [])))).and L).and (.obj (w.heap.size + 1) (.loop { rec .ready none with state := .busy }))) := S.keep h3 fun _ h => ((h.left.and h.right.left.left).and h.right.left.right).and h.right.right
          have h5 := S.swap (S.putObj h4 (by omega) (fun h => by
            rcases h with (h | h) | h
            · have := hKS _ h; omega
            · have : w.heap.size + 1 = w.heap.size := h
              omega
            · exact hLl h) (.loop (rec (if jump.isNone then .ready else .done) jump)))
          refine ⟨_, ?_, h5⟩
          rw [hrec] at hr ⊢
          exact hr
        rintro e a3 W3 hp
        cases e with
        | normal =>
          obtain ⟨W4, hr, h4⟩ := fin none _ W3 (hJS _) hp
          exact ⟨_, _, hr, .inl ⟨rfl, h4⟩⟩
        | ret =>
          obtain ⟨W4, hr, h4⟩ := fin (some .ret) _ W3 (hJxS _ _) hp
          exact ⟨_, _, hr, .inr ⟨rfl, .ret, S.weak h4⟩⟩
        | exit id =>
          obtain ⟨W4, hr, h4⟩ := fin (some (.exit id)) _ W3 (hJxS _ _) hp
          exact ⟨_, _, hr, .inr ⟨rfl, .exit id, S.weak h4⟩⟩
        | goto t =>
          obtain ⟨W4, hr, h4⟩ := fin (some (.goto t)) _ W3 (hJxS _ _) hp
          exact ⟨_, _, hr, .inr ⟨rfl, .goto t, S.weak h4⟩⟩
        | panic ch => exact hp.elim
        | outgrown => exact hp.elim
      | ret => exact hp.elim
      | exit id => exact hp.elim
      | goto t => exact hp.elim
      | panic ch => exact hp.elim
      | outgrown => exact hp.elim
    · rintro e W2 ⟨⟨v, rfl⟩, (hp | ⟨k, x, hx, c, hp⟩)⟩
      · have hl2 : W2.heap[w.heap.size + 1]? = some (.loop (rec .ready none)) := (S.fact hp).2
        have hr := run_endLoop (P := Try.prog) hl2 (by rw [hrec]; simp)
        have h3 := S.putObj hp (by omega) (fun h => by
          rcases h with h | h
          · have := hJS _ _ h; omega
          · have : w.heap.size + 1 = w.heap.size := h
            omega) (.loop { rec .ready none with state := .exhausted })
        refine ⟨none, _, ?_, hdone _ _ (Nat.le_refl _) (S.weak h3)⟩
        rw [hr, hrec]
      · have hl2 : W2.heap[w.heap.size + 1]? = some (.loop (rec .done (some c))) := (S.fact hp).2
        have hr := run_endLoop (P := Try.prog) hl2 (by rw [hrec]; simp)
        have h3 := S.putObj hp (by omega) (fun h => by
          rcases h with h | h
          · have := hJxS _ _ _ h; omega
          · have : w.heap.size + 1 = w.heap.size := h
            omega) (.loop { rec .done (some c) with state := .exhausted })
        refine ⟨some c, _, ?_, hstop _ c k x _ hx (Nat.le_refl _) (S.weak h3)⟩
        rw [hr, hrec]
end Go.Proofs.Ytcfblcgdjhpdaaa
