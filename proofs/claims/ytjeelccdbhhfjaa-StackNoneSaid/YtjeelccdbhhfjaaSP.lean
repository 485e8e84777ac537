/- The stacks, as lists of bytes have them: plain. -/
import Derived.Test.YtjeelccdbhhfjaaP1
namespace Go.Proofs.Ytjeelccdbhhfjaa
open Go.RowKit
set_option linter.unusedVariables false
set_option linter.unusedSimpArgs false

/-- Where a stack lies. -/
def Sk (a lo hi : Int) : Prop := (a = 32 ∧ lo = 256 ∧ hi = 512) ∨ (a = 40 ∧ lo = 512 ∧ hi = 768)
def topL (M : List UInt8) (a lo hi : Int) : Int := if getM M a % 8 = 0 ∧ lo ≤ getM M a ∧ getM M a ≤ hi then getM M a else hi
theorem topL_bd {M : List UInt8} {a lo hi : Int} (h : Sk a lo hi) : lo ≤ topL M a lo hi ∧ topL M a lo hi ≤ hi ∧ topL M a lo hi % 8 = 0 ∧ 256 ≤ lo ∧ hi ≤ 768 ∧ lo % 8 = 0 ∧ hi = lo + 256 ∧ 0 ≤ a ∧ a ≤ 40 := by
  unfold topL
  generalize getM M a = g
  rcases h with ⟨rfl, rfl, rfl⟩ | ⟨rfl, rfl, rfl⟩ <;> split <;> omega
/-- How many cells there are. -/
def depL (M : List UInt8) (a lo hi : Int) : Int := (hi - topL M a lo hi) / 8
def pushM (M : List UInt8) (a lo hi n : Int) : List UInt8 := if topL M a lo hi - 8 < lo then M else setM (setM M (topL M a lo hi - 8) n) a (topL M a lo hi - 8)
def pushT (M : List UInt8) (a lo hi ov : Int) : Int := if topL M a lo hi - 8 < lo then ov else 0
def peekV (M : List UInt8) (a lo hi n : Int) : Int := if 0 ≤ n ∧ n < depL M a lo hi then getM M (topL M a lo hi + 8 * n) else 0
def peekT (M : List UInt8) (a lo hi un n : Int) : Int := if 0 ≤ n ∧ n < depL M a lo hi then 0 else un
def popM (M : List UInt8) (a lo hi : Int) : List UInt8 := if 0 < depL M a lo hi then setM M a (topL M a lo hi + 8) else M
theorem pushM_len (M : List UInt8) (a lo hi n : Int) (h : M.length = 8192) : (pushM M a lo hi n).length = 8192 := by
  unfold pushM; split
  · exact h
  · rw [setM_len, setM_len]; exact h
theorem popM_len (M : List UInt8) (a lo hi : Int) (h : M.length = 8192) : (popM M a lo hi).length = 8192 := by
  unfold popM; split
  · rw [setM_len]; exact h
  · exact h
theorem depL_bd {M : List UInt8} {a lo hi : Int} (h : Sk a lo hi) : 0 ≤ depL M a lo hi ∧ depL M a lo hi ≤ 32 ∧ depL M a lo hi * 8 = hi - topL M a lo hi := by
  have := topL_bd (M := M) h
  unfold depL
  omega
end Go.Proofs.Ytjeelccdbhhfjaa
