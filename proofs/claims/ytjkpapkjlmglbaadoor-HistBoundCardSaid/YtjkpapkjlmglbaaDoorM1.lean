/- The memory. -/
import Derived.Test.YtjkpapkjlmglbaaDoorL4
import Derived.Maps.OwnSet
import Derived.Maps.Views
import Derived.Laws.CopyRow
import Derived.Laws.MakeOwn
namespace Go.Proofs.YtjkpapkjlmglbaaDoor
open Go.RowKit
set_option linter.unusedVariables false
set_option linter.unusedSimpArgs false

/-- How a page's address reads in the map. -/
def ptrR : Value → Option (DataW Unit × List MemPlace)
  | .pointer (some ⟨b, 0, none⟩) => some (.lit (.int .i64 (b : Int)), [])
  | .pointer none => some (.nil, [])
  | _ => none
theorem ptrR_some {v : Value} {b : Nat} {ps : List MemPlace} (h : ptrR v = some (.lit (.int .i64 (b : Int)), ps)) : v = .pointer (some ⟨b, 0, none⟩) := by
  unfold ptrR at h
  split at h
  · rename_i b'
    have h2 := congrArg Prod.fst (Option.some.inj h)
    simp at h2
    rw [show b' = b by omega]
  · simp at h
  · cases h
theorem ptrR_nil {v : Value} {ps : List MemPlace} (h : ptrR v = some (.nil, ps)) : v = .pointer none := by
  unfold ptrR at h
  split at h
  · simp at h
  · rfl
  · cases h
theorem pagesK : Maps.Keyed Tryd.prog 3 := Maps.int_keyed Tryd.underlying3
theorem zeroP (w : World) : (zeroValue 61).run Tryd.prog w = .ok (.pointer none) w := by kernel_rfl
theorem keyP (k : Nat) (hk : k < 128) : keyOf Tryd.prog 3 (.int .i64 (k : Int)) = some (.int .i64 (k : Int)) :=
  Maps.keyOf_int_mk Tryd.underlying3 (by simp [Lit.wf, IntKind.min, IntKind.max, IntKind.signed, IntKind.bits]; omega)
/-- The 64 bytes of a page. -/
def page (L : List UInt8) (k : Nat) : List UInt8 := (L.drop (64 * k)).take 64
theorem page_len {L : List UInt8} (h : L.length = 8192) {k : Nat} (hk : k < 128) : (page L k).length = 64 := by unfold page; simp; omega
theorem page_at {L : List UInt8} (h : L.length = 8192) {k i : Nat} (hk : k < 128) (hi : i < 64) : (page L k)[i]'(by rw [page_len h hk]; exact hi) = L[64 * k + i]'(by omega) := by
  unfold page
  rw [List.getElem_take, List.getElem_drop]
/-- How many pages there are. -/
def cnt (g : Nat → Option Nat) : Nat := (List.range 128).countP fun k => (g k).isSome
def upd (g : Nat → Option Nat) (k h : Nat) : Nat → Option Nat := fun j => if j = k then some h else g j
theorem countP_upd (g : Nat → Option Nat) (k h : Nat) (hg : g k = none) : ∀ l : List Nat, l.Nodup → (l.countP fun j => (upd g k h j).isSome) = (l.countP fun j => (g j).isSome) + (if k ∈ l then 1 else 0) := by
  intro l
  induction l with
  | nil => intro _; rfl
  | cons x l ih =>
    intro hn
    obtain ⟨h1, h2⟩ := List.nodup_cons.1 hn
    rw [List.countP_cons, List.countP_cons, ih h2]
    by_cases e : x = k
    · subst e
      simp [upd, hg, h1]
    · have e2 : ¬ k = x := fun h => e h.symm
      by_cases hm : k ∈ l <;> simp [upd, e, e2, hm] <;> omega
theorem cnt_upd (g : Nat → Option Nat) (k h : Nat) (hg : g k = none) (hk : k < 128) : cnt (upd g k h) = cnt g + 1 := by
  unfold cnt
  rw [countP_upd g k h hg _ List.nodup_range, if_pos (List.mem_range.2 hk)]
theorem cnt_le (g : Nat → Option Nat) : cnt g ≤ 128 := by
  have := List.countP_le_length (p := fun k => (g k).isSome) (l := List.range 128)
  simpa [cnt] using this
theorem keyLit (k : Nat) : WideAt.IsKeyLit (.int .i64 (k : Int)) := by first | trivial | simp [WideAt.IsKeyLit]
/-- The map holds these pages. -/
def PG (D : DataW Unit) (g : Nat → Option Nat) : Prop := ∀ k, k < 128 → (g k = none → Maps.has D (.int .i64 (k : Int)) = false) ∧ (∀ b, g k = some b → Maps.has D (.int .i64 (k : Int)) = true ∧ D.atKey (.int .i64 (k : Int)) .nil = .lit (.int .i64 (b : Int)))
theorem PG.empty : PG (.map []) (fun _ => none) := fun k hk => ⟨fun _ => rfl, fun b h => by cases h⟩
theorem PG.put {D : DataW Unit} {g : Nat → Option Nat} (h : PG D g) (hD : Maps.IsMap D) (k b : Nat) : PG (D.put (.int .i64 (k : Int)) (.lit (.int .i64 (b : Int)))) (upd g k b) := by
  intro j hj
  by_cases e : j = k
  · subst e
    refine ⟨fun h2 => by simp [upd] at h2, fun c hc => ?_⟩
    simp [upd] at hc
    subst hc
    exact ⟨Maps.has_put_same hD (keyLit _) _, Maps.atKey_put_same hD (keyLit _) _ _⟩
  · have hne : (Lit.int .i64 (j : Int)) ≠ Lit.int .i64 (k : Int) := by intro h2; simp at h2; omega
    have e1 : upd g k b j = g j := by simp [upd, e]
    rw [e1, Maps.has_put_other hne]
    refine ⟨(h j hj).1, fun c hc => ?_⟩
    rw [Maps.atKey_put_other hne]
    exact (h j hj).2 c hc
/-- The memory as it stands: its own block, its map, its first bytes, its pages. -/
structure MemI (w : World) (base mb pb fb : Nat) (F M : List UInt8) (g : Nat → Option Nat) : Prop where
  lenM : M.length = 8192
  lenF : F.length = 8192
  own : Blk w mb #[.pointer none, .map (some pb), .slice (some ⟨fb, 0, none⟩) 8192 8192] 46
  first : Blk w fb (cb F).toArray 5
  map : ∃ D, w.ownsMap Tryd.prog 3 ptrR pb (cnt g) D ∧ PG D g
  low : base ≤ mb ∧ base ≤ pb ∧ base ≤ fb
  ne : mb ≠ fb ∧ mb ≠ pb ∧ fb ≠ pb
  pages : ∀ k, k < 128 → ∀ h, g k = some h → base ≤ h ∧ h ≠ mb ∧ h ≠ fb ∧ h ≠ pb ∧ Blk w h (cb (page F k ++ page M k)).toArray 60 ∧ ∀ j, j < 128 → g j = some h → j = k
  rest : ∀ k, k < 128 → g k = none → page M k = page F k
/-- What a memory's blocks are. -/
def MemO (mb pb fb : Nat) (g : Nat → Option Nat) (k : Nat) : Prop := k = mb ∨ k = pb ∨ k = fb ∨ ∃ j, j < 128 ∧ g j = some k
/-- A memory, its blocks O. -/
def MemP (w : World) (base mb : Nat) (M : List UInt8) (O : Nat → Prop) : Prop := ∃ pb fb F g, MemI w base mb pb fb F M g ∧ ∀ k, O k ↔ MemO mb pb fb g k
/-- Nothing else has turned. -/
structure Turn (w w' : World) (O O' : Nat → Prop) : Prop where
  os : w'.os = w.os
  tape : w'.tape = w.tape
  output : w'.output = w.output
  size : w.heap.size ≤ w'.heap.size
  block : ∀ k, k < w.heap.size → ¬ O k → w'.heap[k]? = w.heap[k]?
  new : ∀ k, O' k → O k ∨ w.heap.size ≤ k
theorem Turn.refl (w : World) (O : Nat → Prop) : Turn w w O O := ⟨rfl, rfl, rfl, Nat.le_refl _, fun _ _ _ => rfl, fun _ h => .inl h⟩
theorem Turn.trans {w w1 w2 : World} {O O1 O2 : Nat → Prop} (h : Turn w w1 O O1) (h2 : Turn w1 w2 O1 O2) : Turn w w2 O O2 :=
  ⟨h2.os.trans h.os, h2.tape.trans h.tape, h2.output.trans h.output, Nat.le_trans h.size h2.size,
    fun k hk hO => (h2.block k (Nat.lt_of_lt_of_le hk h.size) (fun h3 => by
      rcases h.new k h3 with h4 | h4
      · exact hO h4
      · omega)).trans (h.block k hk hO),
    fun k hk => by
      rcases h2.new k hk with h3 | h3
      · exact h.new k h3
      · exact .inr (Nat.le_trans h.size h3)⟩
theorem Turn.below {w w' : World} {O O' : Nat → Prop} {base : Nat} (h : Turn w w' O O') (hO : ∀ k, O k → base ≤ k) (hb : base ≤ w.heap.size) : Below base w w' :=
  ⟨h.os, h.tape, h.output, h.size, fun k hk => h.block k (by omega) (fun h2 => by have := hO k h2; omega)⟩
theorem Turn.of_below {w w' : World} (h : Below w.heap.size w w') (O : Nat → Prop) : Turn w w' O O :=
  ⟨h.os, h.tape, h.output, h.size, fun k hk _ => h.block k hk, fun k hk => .inl hk⟩
end Go.Proofs.YtjkpapkjlmglbaaDoor
