/-
  No cell of these rows narrows 'for every input' (looked for: loops, veiled, ifaces, maps, wideKeys, modest, calm, conditions, laid).
  DERIVED. THE GIVEN ROWS OF THIS SEAT. 6 by the template 'for every input the law returns true; each argument reads behind the call as it read before'; 0 by the template 'total and deterministic' (their statements: YtcfblcgdjhpdaaaTotals.lean).
  GIVEN WITH THE SEED: the statements are not yours to turn. If you find one false, say at which input.
  Laid BY PROGRAM, IN A SANDBOX (cutbox-rows.mjs): the forced cells as the released guide's own fill.sh prints them over the translation e4529dc9cdc69251… (all of the seat's roots in one cut). By AI agents, Wed Nov 11 2026. No macro, syntax, notation, axiom, sorry.
-/
import Derived.Test.YtcfblcgdjhpdaaaChecked
import GoSem.Claim
import GoSem.ClaimJoined
import GoSem.ClaimMapViews
import Derived.JoinedTies
import Derived.KernelRfl
namespace Go.Proofs.Ytcfblcgdjhpdaaa
/- THE CELL 'sum', in the pinned program and in every row, IS THE sha256 OF THE DUMP (.gsa) THAT YtcfblcgdjhpdaaaProg.lean LOADS. Nothing in Lean hashes anything: it is a label: what it is worth is what the hold of that sum in a sandbox is worth. -/
noncomputable def Try.pinned : Pinned := { name := "ytcfblcgdjhpdaaa", sum := "e4529dc9cdc6925182a661fb72a928e569cc2eb6ccac3760e12f9d31c064919b", checked := Try.checked }
namespace Rows
def none {H : Type} : Left H := { results := [], args := [] }

/-- 'carrellaw19.DictWords': WHATEVER THE INPUT: true; the input reads as it did. -/
def dictWordsSpec : ChangeSpec := { name := "dictWords", fn := fun _ => fun
  | [d1, d2] => { results := [.lit (.bool true)], args := [d1, d2] }
  | _ => none }
def dictWordsRow : OpenClaim := { program := "ytcfblcgdjhpdaaa", sum := "e4529dc9cdc6925182a661fb72a928e569cc2eb6ccac3760e12f9d31c064919b", func := "carrel/carrellaw19.DictWords", spec := "dictWords", unfollowed := true, recurses := true, apart := false }
def DictWordsSaid : Prop := dictWordsRow.holds Try.pinned (OpenSpec.ofChange dictWordsSpec)

/-- ITS FALSE NEIGHBOUR: 'it returns false'. Refute it at one input. -/
def dictWordsWrong : ChangeSpec := { name := "dictWords", fn := fun _ => fun
  | [d1, d2] => { results := [.lit (.bool false)], args := [d1, d2] }
  | _ => none }
def DictWordsWrongFalsely : Prop := dictWordsRow.holds Try.pinned (OpenSpec.ofChange dictWordsWrong)

/-- 'carrellaw19.DictFinds': WHATEVER THE INPUT: true; the input reads as it did. -/
def dictFindsSpec : ChangeSpec := { name := "dictFinds", fn := fun _ => fun
  | [d1, d2] => { results := [.lit (.bool true)], args := [d1, d2] }
  | _ => none }
def dictFindsRow : OpenClaim := { program := "ytcfblcgdjhpdaaa", sum := "e4529dc9cdc6925182a661fb72a928e569cc2eb6ccac3760e12f9d31c064919b", func := "carrel/carrellaw19.DictFinds", spec := "dictFinds", unfollowed := true, recurses := true, apart := false }
def DictFindsSaid : Prop := dictFindsRow.holds Try.pinned (OpenSpec.ofChange dictFindsSpec)

/-- ITS FALSE NEIGHBOUR: 'it returns false'. Refute it at one input. -/
def dictFindsWrong : ChangeSpec := { name := "dictFinds", fn := fun _ => fun
  | [d1, d2] => { results := [.lit (.bool false)], args := [d1, d2] }
  | _ => none }
def DictFindsWrongFalsely : Prop := dictFindsRow.holds Try.pinned (OpenSpec.ofChange dictFindsWrong)

/-- 'carrellaw19.DictCreates': WHATEVER THE INPUT: true; the input reads as it did. -/
def dictCreatesSpec : ChangeSpec := { name := "dictCreates", fn := fun _ => fun
  | [d1, d2, d3] => { results := [.lit (.bool true)], args := [d1, d2, d3] }
  | _ => none }
def dictCreatesRow : OpenClaim := { program := "ytcfblcgdjhpdaaa", sum := "e4529dc9cdc6925182a661fb72a928e569cc2eb6ccac3760e12f9d31c064919b", func := "carrel/carrellaw19.DictCreates", spec := "dictCreates", unfollowed := true, recurses := true, apart := false }
def DictCreatesSaid : Prop := dictCreatesRow.holds Try.pinned (OpenSpec.ofChange dictCreatesSpec)

/-- ITS FALSE NEIGHBOUR: 'it returns false'. Refute it at one input. -/
def dictCreatesWrong : ChangeSpec := { name := "dictCreates", fn := fun _ => fun
  | [d1, d2, d3] => { results := [.lit (.bool false)], args := [d1, d2, d3] }
  | _ => none }
def DictCreatesWrongFalsely : Prop := dictCreatesRow.holds Try.pinned (OpenSpec.ofChange dictCreatesWrong)

/-- 'carrellaw19.DictHidden': WHATEVER THE INPUT: true; the input reads as it did. -/
def dictHiddenSpec : ChangeSpec := { name := "dictHidden", fn := fun _ => fun
  | [d1, d2] => { results := [.lit (.bool true)], args := [d1, d2] }
  | _ => none }
def dictHiddenRow : OpenClaim := { program := "ytcfblcgdjhpdaaa", sum := "e4529dc9cdc6925182a661fb72a928e569cc2eb6ccac3760e12f9d31c064919b", func := "carrel/carrellaw19.DictHidden", spec := "dictHidden", unfollowed := true, recurses := true, apart := false }
def DictHiddenSaid : Prop := dictHiddenRow.holds Try.pinned (OpenSpec.ofChange dictHiddenSpec)

/-- ITS FALSE NEIGHBOUR: 'it returns false'. Refute it at one input. -/
def dictHiddenWrong : ChangeSpec := { name := "dictHidden", fn := fun _ => fun
  | [d1, d2] => { results := [.lit (.bool false)], args := [d1, d2] }
  | _ => none }
def DictHiddenWrongFalsely : Prop := dictHiddenRow.holds Try.pinned (OpenSpec.ofChange dictHiddenWrong)

/-- 'carrellaw19.DictKinds': WHATEVER THE INPUT: true; the input reads as it did. -/
def dictKindsSpec : ChangeSpec := { name := "dictKinds", fn := fun _ => fun
  | [d1, d2] => { results := [.lit (.bool true)], args := [d1, d2] }
  | _ => none }
def dictKindsRow : OpenClaim := { program := "ytcfblcgdjhpdaaa", sum := "e4529dc9cdc6925182a661fb72a928e569cc2eb6ccac3760e12f9d31c064919b", func := "carrel/carrellaw19.DictKinds", spec := "dictKinds", unfollowed := true, recurses := true, apart := false }
def DictKindsSaid : Prop := dictKindsRow.holds Try.pinned (OpenSpec.ofChange dictKindsSpec)

/-- ITS FALSE NEIGHBOUR: 'it returns false'. Refute it at one input. -/
def dictKindsWrong : ChangeSpec := { name := "dictKinds", fn := fun _ => fun
  | [d1, d2] => { results := [.lit (.bool false)], args := [d1, d2] }
  | _ => none }
def DictKindsWrongFalsely : Prop := dictKindsRow.holds Try.pinned (OpenSpec.ofChange dictKindsWrong)

/-- 'carrellaw19.DictChecks': WHATEVER THE INPUT: true; the input reads as it did. -/
def dictChecksSpec : ChangeSpec := { name := "dictChecks", fn := fun _ => fun
  | [d] => { results := [.lit (.bool true)], args := [d] }
  | _ => none }
def dictChecksRow : OpenClaim := { program := "ytcfblcgdjhpdaaa", sum := "e4529dc9cdc6925182a661fb72a928e569cc2eb6ccac3760e12f9d31c064919b", func := "carrel/carrellaw19.DictChecks", spec := "dictChecks", unfollowed := true, recurses := true, apart := false }
def DictChecksSaid : Prop := dictChecksRow.holds Try.pinned (OpenSpec.ofChange dictChecksSpec)

/-- ITS FALSE NEIGHBOUR: 'it returns false'. Refute it at one input. -/
def dictChecksWrong : ChangeSpec := { name := "dictChecks", fn := fun _ => fun
  | [d] => { results := [.lit (.bool false)], args := [d] }
  | _ => none }
def DictChecksWrongFalsely : Prop := dictChecksRow.holds Try.pinned (OpenSpec.ofChange dictChecksWrong)

/- THE SECOND FORM. 'bulk': how many values and letters a reading holds, each counted each time it is reached (what is shared counts as often as it is met; a slice's spare places count too). A statement '..UptoSaid' is the law's where the arguments, and the package variables that the reading takes, are together of bulk at most 1048576: NARROWER than '..Said'. Prove '..Said' where nothing that the law and all that it calls make is longer than what came in: it says more and counts as full. Else prove '..UptoSaid'. A law counts once. -/
mutual
def uptoBulk {H : Type} : DataW H → Nat
  | .lit (.string bytes) => bytes.length + 1
  | .lit _ => 1
  | .nil => 1
  | .ptr d => uptoBulk d + 1
  | .slice elems spare => uptoBulkAll elems + uptoBulkAll spare + 1
  | .agg parts => uptoBulkAll parts + 1
  | .iface _ d => uptoBulk d + 1
  | .map entries => uptoBulkEntries entries + 1
  | .held _ => 1
def uptoBulkAll {H : Type} : List (DataW H) → Nat
  | [] => 0
  | d :: r => uptoBulk d + uptoBulkAll r
def uptoBulkEntries {H : Type} : List (Lit × DataW H) → Nat
  | [] => 0
  | x :: r => uptoBulkEntry x + uptoBulkEntries r
def uptoBulkEntry {H : Type} : Lit × DataW H → Nat
  | (.string bytes, d) => bytes.length + uptoBulk d + 1
  | (_, d) => uptoBulk d + 1
 end
def uptoSmall : (H : Type) → List (DataW H) → Bool := fun _ ds => decide (uptoBulkAll ds ≤ 1048576)
def OpenSpec.upto (s : _root_.Go.ChangeSpec) : _root_.Go.OpenSpec := { _root_.Go.OpenSpec.ofChange s with cond := some uptoSmall }

/-- 'carrellaw19.DictWords', WHERE WHAT IT READS IS OF BULK AT MOST 1048576: true; the input reads as it did. -/
def dictWordsUptoRow : OpenClaim := { program := "ytcfblcgdjhpdaaa", sum := "e4529dc9cdc6925182a661fb72a928e569cc2eb6ccac3760e12f9d31c064919b", func := "carrel/carrellaw19.DictWords", spec := "dictWords", unfollowed := true, recurses := true, apart := false, narrowed := true }
def DictWordsUptoSaid : Prop := dictWordsUptoRow.holds Try.pinned (OpenSpec.upto dictWordsSpec)

/-- 'carrellaw19.DictFinds', WHERE WHAT IT READS IS OF BULK AT MOST 1048576: true; the input reads as it did. -/
def dictFindsUptoRow : OpenClaim := { program := "ytcfblcgdjhpdaaa", sum := "e4529dc9cdc6925182a661fb72a928e569cc2eb6ccac3760e12f9d31c064919b", func := "carrel/carrellaw19.DictFinds", spec := "dictFinds", unfollowed := true, recurses := true, apart := false, narrowed := true }
def DictFindsUptoSaid : Prop := dictFindsUptoRow.holds Try.pinned (OpenSpec.upto dictFindsSpec)

/-- 'carrellaw19.DictCreates', WHERE WHAT IT READS IS OF BULK AT MOST 1048576: true; the input reads as it did. -/
def dictCreatesUptoRow : OpenClaim := { program := "ytcfblcgdjhpdaaa", sum := "e4529dc9cdc6925182a661fb72a928e569cc2eb6ccac3760e12f9d31c064919b", func := "carrel/carrellaw19.DictCreates", spec := "dictCreates", unfollowed := true, recurses := true, apart := false, narrowed := true }
def DictCreatesUptoSaid : Prop := dictCreatesUptoRow.holds Try.pinned (OpenSpec.upto dictCreatesSpec)

/-- 'carrellaw19.DictHidden', WHERE WHAT IT READS IS OF BULK AT MOST 1048576: true; the input reads as it did. -/
def dictHiddenUptoRow : OpenClaim := { program := "ytcfblcgdjhpdaaa", sum := "e4529dc9cdc6925182a661fb72a928e569cc2eb6ccac3760e12f9d31c064919b", func := "carrel/carrellaw19.DictHidden", spec := "dictHidden", unfollowed := true, recurses := true, apart := false, narrowed := true }
def DictHiddenUptoSaid : Prop := dictHiddenUptoRow.holds Try.pinned (OpenSpec.upto dictHiddenSpec)

/-- 'carrellaw19.DictKinds', WHERE WHAT IT READS IS OF BULK AT MOST 1048576: true; the input reads as it did. -/
def dictKindsUptoRow : OpenClaim := { program := "ytcfblcgdjhpdaaa", sum := "e4529dc9cdc6925182a661fb72a928e569cc2eb6ccac3760e12f9d31c064919b", func := "carrel/carrellaw19.DictKinds", spec := "dictKinds", unfollowed := true, recurses := true, apart := false, narrowed := true }
def DictKindsUptoSaid : Prop := dictKindsUptoRow.holds Try.pinned (OpenSpec.upto dictKindsSpec)

/-- 'carrellaw19.DictChecks', WHERE WHAT IT READS IS OF BULK AT MOST 1048576: true; the input reads as it did. -/
def dictChecksUptoRow : OpenClaim := { program := "ytcfblcgdjhpdaaa", sum := "e4529dc9cdc6925182a661fb72a928e569cc2eb6ccac3760e12f9d31c064919b", func := "carrel/carrellaw19.DictChecks", spec := "dictChecks", unfollowed := true, recurses := true, apart := false, narrowed := true }
def DictChecksUptoSaid : Prop := dictChecksUptoRow.holds Try.pinned (OpenSpec.upto dictChecksSpec)

end Rows
end Go.Proofs.Ytcfblcgdjhpdaaa
