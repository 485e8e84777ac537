/-
  No cell of these rows narrows 'for every input' (looked for: loops, veiled, ifaces, maps, wideKeys, modest, calm, conditions, laid).
  DERIVED. THE GIVEN ROWS OF THIS SEAT. 5 by the template 'for every input the law returns true; each argument reads behind the call as it read before'; 0 by the template 'total and deterministic' (their statements: YtfmlbnkmckkjnaaTotals.lean).
  GIVEN WITH THE SEED: the statements are not yours to turn. If you find one false, say at which input.
  Laid BY PROGRAM, IN A SANDBOX (cutbox-rows.mjs): the forced cells as the released guide's own fill.sh prints them over the translation d19c90f1f9c59862… (all of the seat's roots in one cut). By AI agents, Wed Nov 11 2026. No macro, syntax, notation, axiom, sorry.
-/
import Derived.Test.YtfmlbnkmckkjnaaChecked
import GoSem.Claim
import GoSem.ClaimJoined
import GoSem.ClaimMapViews
import Derived.JoinedTies
import Derived.KernelRfl
namespace Go.Proofs.Ytfmlbnkmckkjnaa
/- THE CELL 'sum', in the pinned program and in every row, IS THE sha256 OF THE DUMP (.gsa) THAT YtfmlbnkmckkjnaaProg.lean LOADS. Nothing in Lean hashes anything: it is a label: what it is worth is what the hold of that sum in a sandbox is worth. -/
noncomputable def Try.pinned : Pinned := { name := "ytfmlbnkmckkjnaa", sum := "d19c90f1f9c59862a5df27950566b814467c47cdd1996b52f5463119582cee59", checked := Try.checked }
namespace Rows
def none {H : Type} : Left H := { results := [], args := [] }

/-- 'carrellaw25.EditorKeys': WHATEVER THE INPUT: true; the input reads as it did. -/
def editorKeysSpec : ChangeSpec := { name := "editorKeys", fn := fun _ => fun
  | [d1, d2] => { results := [.lit (.bool true)], args := [d1, d2] }
  | _ => none }
def editorKeysRow : OpenClaim := { program := "ytfmlbnkmckkjnaa", sum := "d19c90f1f9c59862a5df27950566b814467c47cdd1996b52f5463119582cee59", func := "carrel/carrellaw25.EditorKeys", spec := "editorKeys", apart := false }
def EditorKeysSaid : Prop := editorKeysRow.holds Try.pinned (OpenSpec.ofChange editorKeysSpec)

/-- ITS FALSE NEIGHBOUR: 'it returns false'. Refute it at one input. -/
def editorKeysWrong : ChangeSpec := { name := "editorKeys", fn := fun _ => fun
  | [d1, d2] => { results := [.lit (.bool false)], args := [d1, d2] }
  | _ => none }
def EditorKeysWrongFalsely : Prop := editorKeysRow.holds Try.pinned (OpenSpec.ofChange editorKeysWrong)

/-- 'carrellaw25.EditorTypes': WHATEVER THE INPUT: true; the input reads as it did. -/
def editorTypesSpec : ChangeSpec := { name := "editorTypes", fn := fun _ => fun
  | [d] => { results := [.lit (.bool true)], args := [d] }
  | _ => none }
def editorTypesRow : OpenClaim := { program := "ytfmlbnkmckkjnaa", sum := "d19c90f1f9c59862a5df27950566b814467c47cdd1996b52f5463119582cee59", func := "carrel/carrellaw25.EditorTypes", spec := "editorTypes", apart := false }
def EditorTypesSaid : Prop := editorTypesRow.holds Try.pinned (OpenSpec.ofChange editorTypesSpec)

/-- ITS FALSE NEIGHBOUR: 'it returns false'. Refute it at one input. -/
def editorTypesWrong : ChangeSpec := { name := "editorTypes", fn := fun _ => fun
  | [d] => { results := [.lit (.bool false)], args := [d] }
  | _ => none }
def EditorTypesWrongFalsely : Prop := editorTypesRow.holds Try.pinned (OpenSpec.ofChange editorTypesWrong)

/-- 'carrellaw25.EditorMoves': WHATEVER THE INPUT: true; the input reads as it did. -/
def editorMovesSpec : ChangeSpec := { name := "editorMoves", fn := fun _ => fun
  | [d1, d2] => { results := [.lit (.bool true)], args := [d1, d2] }
  | _ => none }
def editorMovesRow : OpenClaim := { program := "ytfmlbnkmckkjnaa", sum := "d19c90f1f9c59862a5df27950566b814467c47cdd1996b52f5463119582cee59", func := "carrel/carrellaw25.EditorMoves", spec := "editorMoves", apart := false }
def EditorMovesSaid : Prop := editorMovesRow.holds Try.pinned (OpenSpec.ofChange editorMovesSpec)

/-- ITS FALSE NEIGHBOUR: 'it returns false'. Refute it at one input. -/
def editorMovesWrong : ChangeSpec := { name := "editorMoves", fn := fun _ => fun
  | [d1, d2] => { results := [.lit (.bool false)], args := [d1, d2] }
  | _ => none }
def EditorMovesWrongFalsely : Prop := editorMovesRow.holds Try.pinned (OpenSpec.ofChange editorMovesWrong)

/-- 'carrellaw25.EditorBack': WHATEVER THE INPUT: true; the input reads as it did. -/
def editorBackSpec : ChangeSpec := { name := "editorBack", fn := fun _ => fun
  | [d1, d2] => { results := [.lit (.bool true)], args := [d1, d2] }
  | _ => none }
def editorBackRow : OpenClaim := { program := "ytfmlbnkmckkjnaa", sum := "d19c90f1f9c59862a5df27950566b814467c47cdd1996b52f5463119582cee59", func := "carrel/carrellaw25.EditorBack", spec := "editorBack", apart := false }
def EditorBackSaid : Prop := editorBackRow.holds Try.pinned (OpenSpec.ofChange editorBackSpec)

/-- ITS FALSE NEIGHBOUR: 'it returns false'. Refute it at one input. -/
def editorBackWrong : ChangeSpec := { name := "editorBack", fn := fun _ => fun
  | [d1, d2] => { results := [.lit (.bool false)], args := [d1, d2] }
  | _ => none }
def EditorBackWrongFalsely : Prop := editorBackRow.holds Try.pinned (OpenSpec.ofChange editorBackWrong)

/-- 'carrellaw25.EditorEnds': WHATEVER THE INPUT: true; the input reads as it did. -/
def editorEndsSpec : ChangeSpec := { name := "editorEnds", fn := fun _ => fun
  | [d1, d2, d3] => { results := [.lit (.bool true)], args := [d1, d2, d3] }
  | _ => none }
def editorEndsRow : OpenClaim := { program := "ytfmlbnkmckkjnaa", sum := "d19c90f1f9c59862a5df27950566b814467c47cdd1996b52f5463119582cee59", func := "carrel/carrellaw25.EditorEnds", spec := "editorEnds", apart := false }
def EditorEndsSaid : Prop := editorEndsRow.holds Try.pinned (OpenSpec.ofChange editorEndsSpec)

/-- ITS FALSE NEIGHBOUR: 'it returns false'. Refute it at one input. -/
def editorEndsWrong : ChangeSpec := { name := "editorEnds", fn := fun _ => fun
  | [d1, d2, d3] => { results := [.lit (.bool false)], args := [d1, d2, d3] }
  | _ => none }
def EditorEndsWrongFalsely : Prop := editorEndsRow.holds Try.pinned (OpenSpec.ofChange editorEndsWrong)

/- THE SECOND FORM. 'bulk': how many values and letters a reading holds, each counted each time it is reached (what is shared counts as often as it is met; a slice's spare places count too). A statement '..UptoSaid' is the law's where the arguments, and the package variables that the reading takes, are together of bulk at most 1048576: NARROWER than '..Said'. Prove '..Said' where nothing that the law and all that it calls make is longer than what came in: it says more and counts as full. Else prove '..UptoSaid'. A law counts once. -/
mutual
def uptoBulk {H : Type} : DataW H → Nat
  | .lit (.string bytes) => bytes.length + 1
  | .lit _ => 1
  | .nil => 1
  | .ptr d => uptoBulk d + 1
  | .slice elems spare => uptoBulkAll elems + uptoBulkAll spare + 1
  | .agg parts => uptoBulkAll parts + 1
  | .iface _ d => uptoBulk d + 1
  | .map entries => uptoBulkEntries entries + 1
  | .held _ => 1
def uptoBulkAll {H : Type} : List (DataW H) → Nat
  | [] => 0
  | d :: r => uptoBulk d + uptoBulkAll r
def uptoBulkEntries {H : Type} : List (Lit × DataW H) → Nat
  | [] => 0
  | x :: r => uptoBulkEntry x + uptoBulkEntries r
def uptoBulkEntry {H : Type} : Lit × DataW H → Nat
  | (.string bytes, d) => bytes.length + uptoBulk d + 1
  | (_, d) => uptoBulk d + 1
 end
def uptoSmall : (H : Type) → List (DataW H) → Bool := fun _ ds => decide (uptoBulkAll ds ≤ 1048576)
def OpenSpec.upto (s : _root_.Go.ChangeSpec) : _root_.Go.OpenSpec := { _root_.Go.OpenSpec.ofChange s with cond := some uptoSmall }

/-- 'carrellaw25.EditorKeys', WHERE WHAT IT READS IS OF BULK AT MOST 1048576: true; the input reads as it did. -/
def editorKeysUptoRow : OpenClaim := { program := "ytfmlbnkmckkjnaa", sum := "d19c90f1f9c59862a5df27950566b814467c47cdd1996b52f5463119582cee59", func := "carrel/carrellaw25.EditorKeys", spec := "editorKeys", apart := false, narrowed := true }
def EditorKeysUptoSaid : Prop := editorKeysUptoRow.holds Try.pinned (OpenSpec.upto editorKeysSpec)

/-- 'carrellaw25.EditorTypes', WHERE WHAT IT READS IS OF BULK AT MOST 1048576: true; the input reads as it did. -/
def editorTypesUptoRow : OpenClaim := { program := "ytfmlbnkmckkjnaa", sum := "d19c90f1f9c59862a5df27950566b814467c47cdd1996b52f5463119582cee59", func := "carrel/carrellaw25.EditorTypes", spec := "editorTypes", apart := false, narrowed := true }
def EditorTypesUptoSaid : Prop := editorTypesUptoRow.holds Try.pinned (OpenSpec.upto editorTypesSpec)

/-- 'carrellaw25.EditorMoves', WHERE WHAT IT READS IS OF BULK AT MOST 1048576: true; the input reads as it did. -/
def editorMovesUptoRow : OpenClaim := { program := "ytfmlbnkmckkjnaa", sum := "d19c90f1f9c59862a5df27950566b814467c47cdd1996b52f5463119582cee59", func := "carrel/carrellaw25.EditorMoves", spec := "editorMoves", apart := false, narrowed := true }
def EditorMovesUptoSaid : Prop := editorMovesUptoRow.holds Try.pinned (OpenSpec.upto editorMovesSpec)

/-- 'carrellaw25.EditorBack', WHERE WHAT IT READS IS OF BULK AT MOST 1048576: true; the input reads as it did. -/
def editorBackUptoRow : OpenClaim := { program := "ytfmlbnkmckkjnaa", sum := "d19c90f1f9c59862a5df27950566b814467c47cdd1996b52f5463119582cee59", func := "carrel/carrellaw25.EditorBack", spec := "editorBack", apart := false, narrowed := true }
def EditorBackUptoSaid : Prop := editorBackUptoRow.holds Try.pinned (OpenSpec.upto editorBackSpec)

/-- 'carrellaw25.EditorEnds', WHERE WHAT IT READS IS OF BULK AT MOST 1048576: true; the input reads as it did. -/
def editorEndsUptoRow : OpenClaim := { program := "ytfmlbnkmckkjnaa", sum := "d19c90f1f9c59862a5df27950566b814467c47cdd1996b52f5463119582cee59", func := "carrel/carrellaw25.EditorEnds", spec := "editorEnds", apart := false, narrowed := true }
def EditorEndsUptoSaid : Prop := editorEndsUptoRow.holds Try.pinned (OpenSpec.upto editorEndsSpec)

end Rows
end Go.Proofs.Ytfmlbnkmckkjnaa
