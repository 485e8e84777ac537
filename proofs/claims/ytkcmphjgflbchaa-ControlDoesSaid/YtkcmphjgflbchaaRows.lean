/-
  No cell of these rows narrows 'for every input' (looked for: loops, veiled, ifaces, maps, wideKeys, modest, calm, conditions, laid).
  DERIVED. THE GIVEN ROWS OF THIS SEAT. 3 by the template 'for every input the law returns true; each argument reads behind the call as it read before'; 0 by the template 'total and deterministic' (their statements: YtkcmphjgflbchaaTotals.lean).
  GIVEN WITH THE SEED: the statements are not yours to turn. If you find one false, say at which input.
  Laid BY PROGRAM, IN A SANDBOX (cutbox-rows.mjs): the forced cells as the released guide's own fill.sh prints them over the translation c6de96595636f4b6… (all of the seat's roots in one cut). By AI agents, Wed Nov 11 2026. No macro, syntax, notation, axiom, sorry.
-/
import Derived.Test.YtkcmphjgflbchaaChecked
import GoSem.Claim
import GoSem.ClaimJoined
import GoSem.ClaimMapViews
import Derived.JoinedTies
import Derived.KernelRfl
namespace Go.Proofs.Ytkcmphjgflbchaa
/- THE CELL 'sum', in the pinned program and in every row, IS THE sha256 OF THE DUMP (.gsa) THAT YtkcmphjgflbchaaProg.lean LOADS. Nothing in Lean hashes anything: it is a label: what it is worth is what the hold of that sum in a sandbox is worth. -/
noncomputable def Try.pinned : Pinned := { name := "ytkcmphjgflbchaa", sum := "c6de96595636f4b6c5eddd8bbd9a5fe720b72605987361eb6e03b43b08e691fd", checked := Try.checked }
namespace Rows
def none {H : Type} : Left H := { results := [], args := [] }

/-- 'carrellaw22.ControlDoes': WHATEVER THE INPUT: true; the input reads as it did. -/
def controlDoesSpec : ChangeSpec := { name := "controlDoes", fn := fun _ => fun
  | [d1, d2, d3] => { results := [.lit (.bool true)], args := [d1, d2, d3] }
  | _ => none }
def controlDoesRow : OpenClaim := { program := "ytkcmphjgflbchaa", sum := "c6de96595636f4b6c5eddd8bbd9a5fe720b72605987361eb6e03b43b08e691fd", func := "carrel/carrellaw22.ControlDoes", spec := "controlDoes", unfollowed := true, recurses := true, apart := false }
def ControlDoesSaid : Prop := controlDoesRow.holds Try.pinned (OpenSpec.ofChange controlDoesSpec)

/-- ITS FALSE NEIGHBOUR: 'it returns false'. Refute it at one input. -/
def controlDoesWrong : ChangeSpec := { name := "controlDoes", fn := fun _ => fun
  | [d1, d2, d3] => { results := [.lit (.bool false)], args := [d1, d2, d3] }
  | _ => none }
def ControlDoesWrongFalsely : Prop := controlDoesRow.holds Try.pinned (OpenSpec.ofChange controlDoesWrong)

/-- 'carrellaw22.ControlClosed': WHATEVER THE INPUT: true; the input reads as it did. -/
def controlClosedSpec : ChangeSpec := { name := "controlClosed", fn := fun _ => fun
  | [d1, d2] => { results := [.lit (.bool true)], args := [d1, d2] }
  | _ => none }
def controlClosedRow : OpenClaim := { program := "ytkcmphjgflbchaa", sum := "c6de96595636f4b6c5eddd8bbd9a5fe720b72605987361eb6e03b43b08e691fd", func := "carrel/carrellaw22.ControlClosed", spec := "controlClosed", unfollowed := true, recurses := true, apart := false }
def ControlClosedSaid : Prop := controlClosedRow.holds Try.pinned (OpenSpec.ofChange controlClosedSpec)

/-- ITS FALSE NEIGHBOUR: 'it returns false'. Refute it at one input. -/
def controlClosedWrong : ChangeSpec := { name := "controlClosed", fn := fun _ => fun
  | [d1, d2] => { results := [.lit (.bool false)], args := [d1, d2] }
  | _ => none }
def ControlClosedWrongFalsely : Prop := controlClosedRow.holds Try.pinned (OpenSpec.ofChange controlClosedWrong)

/-- 'carrellaw22.ControlFails': WHATEVER THE INPUT: true; the input reads as it did. -/
def controlFailsSpec : ChangeSpec := { name := "controlFails", fn := fun _ => fun
  | [d1, d2] => { results := [.lit (.bool true)], args := [d1, d2] }
  | _ => none }
def controlFailsRow : OpenClaim := { program := "ytkcmphjgflbchaa", sum := "c6de96595636f4b6c5eddd8bbd9a5fe720b72605987361eb6e03b43b08e691fd", func := "carrel/carrellaw22.ControlFails", spec := "controlFails", unfollowed := true, recurses := true, apart := false }
def ControlFailsSaid : Prop := controlFailsRow.holds Try.pinned (OpenSpec.ofChange controlFailsSpec)

/-- ITS FALSE NEIGHBOUR: 'it returns false'. Refute it at one input. -/
def controlFailsWrong : ChangeSpec := { name := "controlFails", fn := fun _ => fun
  | [d1, d2] => { results := [.lit (.bool false)], args := [d1, d2] }
  | _ => none }
def ControlFailsWrongFalsely : Prop := controlFailsRow.holds Try.pinned (OpenSpec.ofChange controlFailsWrong)

/- THE SECOND FORM. 'bulk': how many values and letters a reading holds, each counted each time it is reached (what is shared counts as often as it is met; a slice's spare places count too). A statement '..UptoSaid' is the law's where the arguments, and the package variables that the reading takes, are together of bulk at most 1048576: NARROWER than '..Said'. Prove '..Said' where nothing that the law and all that it calls make is longer than what came in: it says more and counts as full. Else prove '..UptoSaid'. A law counts once. -/
mutual
def uptoBulk {H : Type} : DataW H → Nat
  | .lit (.string bytes) => bytes.length + 1
  | .lit _ => 1
  | .nil => 1
  | .ptr d => uptoBulk d + 1
  | .slice elems spare => uptoBulkAll elems + uptoBulkAll spare + 1
  | .agg parts => uptoBulkAll parts + 1
  | .iface _ d => uptoBulk d + 1
  | .map entries => uptoBulkEntries entries + 1
  | .held _ => 1
def uptoBulkAll {H : Type} : List (DataW H) → Nat
  | [] => 0
  | d :: r => uptoBulk d + uptoBulkAll r
def uptoBulkEntries {H : Type} : List (Lit × DataW H) → Nat
  | [] => 0
  | x :: r => uptoBulkEntry x + uptoBulkEntries r
def uptoBulkEntry {H : Type} : Lit × DataW H → Nat
  | (.string bytes, d) => bytes.length + uptoBulk d + 1
  | (_, d) => uptoBulk d + 1
 end
def uptoSmall : (H : Type) → List (DataW H) → Bool := fun _ ds => decide (uptoBulkAll ds ≤ 1048576)
def OpenSpec.upto (s : _root_.Go.ChangeSpec) : _root_.Go.OpenSpec := { _root_.Go.OpenSpec.ofChange s with cond := some uptoSmall }

/-- 'carrellaw22.ControlDoes', WHERE WHAT IT READS IS OF BULK AT MOST 1048576: true; the input reads as it did. -/
def controlDoesUptoRow : OpenClaim := { program := "ytkcmphjgflbchaa", sum := "c6de96595636f4b6c5eddd8bbd9a5fe720b72605987361eb6e03b43b08e691fd", func := "carrel/carrellaw22.ControlDoes", spec := "controlDoes", unfollowed := true, recurses := true, apart := false, narrowed := true }
def ControlDoesUptoSaid : Prop := controlDoesUptoRow.holds Try.pinned (OpenSpec.upto controlDoesSpec)

/-- 'carrellaw22.ControlClosed', WHERE WHAT IT READS IS OF BULK AT MOST 1048576: true; the input reads as it did. -/
def controlClosedUptoRow : OpenClaim := { program := "ytkcmphjgflbchaa", sum := "c6de96595636f4b6c5eddd8bbd9a5fe720b72605987361eb6e03b43b08e691fd", func := "carrel/carrellaw22.ControlClosed", spec := "controlClosed", unfollowed := true, recurses := true, apart := false, narrowed := true }
def ControlClosedUptoSaid : Prop := controlClosedUptoRow.holds Try.pinned (OpenSpec.upto controlClosedSpec)

/-- 'carrellaw22.ControlFails', WHERE WHAT IT READS IS OF BULK AT MOST 1048576: true; the input reads as it did. -/
def controlFailsUptoRow : OpenClaim := { program := "ytkcmphjgflbchaa", sum := "c6de96595636f4b6c5eddd8bbd9a5fe720b72605987361eb6e03b43b08e691fd", func := "carrel/carrellaw22.ControlFails", spec := "controlFails", unfollowed := true, recurses := true, apart := false, narrowed := true }
def ControlFailsUptoSaid : Prop := controlFailsUptoRow.holds Try.pinned (OpenSpec.upto controlFailsSpec)

end Rows
end Go.Proofs.Ytkcmphjgflbchaa
