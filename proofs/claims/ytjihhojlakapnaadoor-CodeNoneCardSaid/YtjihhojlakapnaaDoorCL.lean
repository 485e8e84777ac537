/- The listed tables: from the row's premise to the shelf's fact. -/
import Derived.Test.YtjihhojlakapnaaDoorSF
import Derived.Test.YtjihhojlakapnaaDoorTie
import Derived.ProofKit
import Derived.LaidMore
import Derived.OpenShut
import Derived.ChangeArms
import Derived.Stop.Joined
import Derived.Lib.LaidTab
namespace Go.Proofs.YtjihhojlakapnaaDoor
open Go.ChangeShapes Go.WideShapes Go.ChangeAt Go.RowKit
set_option linter.unusedVariables false

abbrev laidL : List (String × DataW Unit) := [("math/bits.deBruijn32tab", Rows.laid_math_bits_deBruijn32tab), ("math/bits.deBruijn64tab", Rows.laid_math_bits_deBruijn64tab), ("internal/strconv.uint64pow10", Rows.laid_internal_strconv_uint64pow10)]
theorem tab_datum : (Rows.laid_internal_strconv_uint64pow10 : DataW Unit) = Lib.tabData .u64 Lib.pow10Tab := by rfl
theorem gTab : Tryd.prog.globalNamed "internal/strconv.uint64pow10" = some 0 := by kernel_rfl
theorem tTab : (Tryd.prog.globals[0]?).map (·.type) = some 109 := by kernel_rfl
abbrev Pow10 (W : World) : Prop := Lib.TabIs Tryd.prog W "internal/strconv.uint64pow10" .u64 Lib.pow10Tab
theorem of_laid {W : World} (h : laidMetH Tryd.prog laidL W) : Pow10 W := by
  rw [MakeChecks.laidMetH_plain _ _ _ (by kernel_rfl)] at h
  obtain ⟨_, ⟨_, _, _, _, _, _, _, _, _, _, ⟨_, _, _, _, _, _, _, _, _, _, ⟨g, t, cs, f, p, q, hg, ht, hv, hd, _, _⟩, _⟩, _⟩, _, _⟩ := h
  obtain rfl := Option.some.inj (gTab.symm.trans hg)
  obtain rfl := Option.some.inj (tTab.symm.trans ht)
  rw [tab_datum] at hd
  show W.var? _ _ = _
  rw [hv, ← Lib.cells_of_tab Tryd.underlying109 Tryd.underlying93 (by kernel_rfl) (by kernel_rfl) hd]
theorem door_met (os : Os) (args : Array Value) : laidMetH Tryd.prog laidL ((World.doorLaid Tryd.prog 400 os).forCall (fun _ _ => 0) ⟨#[], args, []⟩).memory :=
  laidMetH_of_parts3 (fuel := 8) (laidMet_of_run' 8 (by kernel_rfl) (by kernel_rfl)) (by kernel_rfl) (by kernel_rfl)
theorem Pow10.below {W w : World} (h : Pow10 W) (hb : Below W.heap.size W w) : Pow10 w := by
  have hc := h
  simp only [Pow10, Lib.TabIs, World.var?, gTab, Option.bind_some] at hc ⊢
  have hl : 0 < W.heap.size := by
    cases e : W.heap[0]? with
    | none => rw [e] at hc; cases hc
    | some o => exact (Array.getElem?_eq_some_iff.1 e).1
  rw [hb.block 0 hl]
  exact hc
end Go.Proofs.YtjihhojlakapnaaDoor
