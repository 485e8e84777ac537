/- Bytes in a block. -/
import Derived.Test.YtjkpapkjlmglbaaDoorK
import Derived.Laws.IdiomStrings
namespace Go.Proofs.YtjkpapkjlmglbaaDoor
open Go.RowKit
set_option linter.unusedVariables false

/-- Block b begins with the bytes l, none of them frozen. -/
def Bytes (w : World) (b : Nat) (l : List UInt8) : Prop := ∀ j (hj : j < l.length), w.cell? ⟨b, j, none⟩ = some (.int .u8 (l[j].toNat : Int)) ∧ w.frozen? ⟨b, j, none⟩ = false
theorem Bytes.below {W w : World} {b : Nat} {l : List UInt8} (h : Bytes W b l) (hb : Below W.heap.size W w) (hlt : b < W.heap.size) : Bytes w b l := fun j hj => by
  rw [(bcell hb).1 b j hlt, (bcell hb).2 b j hlt]; exact h j hj
theorem Bytes.set {w : World} {b : Nat} {l : List UInt8} (h : Bytes w b l) (k : Nat) (c : UInt8) (hk : k < l.length) : Bytes (w.setCell ⟨b, k, none⟩ (.int .u8 (c.toNat : Int))) b (l.set k c) := fun j hj => by
  have hj' : j < l.length := by simpa using hj
  have h0 := h j hj'
  have hf : (w.setCell ⟨b, k, none⟩ (.int .u8 (c.toNat : Int))).frozen? ⟨b, j, none⟩ = false := by rw [World.frozen?_setCell]; exact h0.2
  by_cases e : k = j
  · subst e
    refine ⟨?_, hf⟩
    rw [cell_set, (h k hk).1]; simp
  · refine ⟨?_, hf⟩
    rw [List.getElem_set_ne e]
    exact (World.cell?_setCell_other w (a := ⟨b, k, none⟩) (b := ⟨b, j, none⟩) _ (by intro h; cases h; exact e rfl)).trans h0.1
/-- '[]byte(s)': a new block. -/
theorem Bytes.conv (w : World) (s : ByteArray) (cap : Nat) (e : TypeId) (lo hi : Nat) (h : s.size ≤ lo) : Bytes (w.alloc (.cells (bytesRow s cap) e (lo, hi))) w.heap.size s.data.toList := fun j hj => by
  have hj' : j < s.data.size := by simpa using hj
  rw [World.cell?_alloc_mark, World.frozen?_alloc_mark, bytesRow_at s cap j hj']
  refine ⟨by simp, ?_⟩
  have : s.data.size = s.size := rfl
  simp; omega
end Go.Proofs.YtjkpapkjlmglbaaDoor
