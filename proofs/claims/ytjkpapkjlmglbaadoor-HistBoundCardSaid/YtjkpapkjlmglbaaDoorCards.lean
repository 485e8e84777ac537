/-
  DERIVED. GIVEN WITH THE SEED: THE CARDS: each row of YtjkpapkjlmglbaaDoorRows.lean that lists a variable, with what it lists TIED to the program's text (the seventh form; the later family's looks); each row that meets fmt, with fmt's text TOLD by the authors' own Lean function (tested against real Go, not proved from fmt's source: count such statements apart). THE CARD IS WHAT COUNTS. Prove the row's statement (the work); the ties are given (YtjkpapkjlmglbaaDoorTie.lean); close each card by the builder's one call (the guide's Derived/Test/ToyasCard.lean, 'card_holds'). Laid BY PROGRAM, IN A SANDBOX (cutbox-door.mjs). By AI agents, Wed Nov 11 2026. No macro, syntax, notation, axiom, sorry.
-/
import Derived.Test.YtjkpapkjlmglbaaDoorRows
import GoSem.ClaimSeven
namespace Go.Proofs.YtjkpapkjlmglbaaDoor
namespace Rows

/-- THE TIED CARD OF 'carrellaw26.HistShows'. -/
def histShowsCard : Claim7 := { stood := { row := histShowsRow, standIns := [], harness := (true, "49dc3cbe94c2e98c54362ef87cb371daf067c201af3985feb497d118405efd2b"), looks := false }, kinds := [], alts := [], laidByText := true, laidKinds := [.data, .data, .data, .data, .pinned], laidTests := true, laidLooks := .later }
def HistShowsCardSaid : Prop := Claim7.holds Tryd.pinned (.plain (OpenSpec.ofChange histShowsSpec)) histShowsCard

/-- THE TIED CARD OF 'carrellaw26.HistLast'. -/
def histLastCard : Claim7 := { stood := { row := histLastRow, standIns := [], harness := (true, "49dc3cbe94c2e98c54362ef87cb371daf067c201af3985feb497d118405efd2b"), looks := false }, kinds := [], alts := [], laidByText := true, laidKinds := [.data, .data, .data, .data, .pinned], laidTests := true, laidLooks := .later }
def HistLastCardSaid : Prop := Claim7.holds Tryd.pinned (.plain (OpenSpec.ofChange histLastSpec)) histLastCard

/-- THE TIED CARD OF 'carrellaw26.HistBound'. -/
def histBoundCard : Claim7 := { stood := { row := histBoundRow, standIns := [], harness := (true, "49dc3cbe94c2e98c54362ef87cb371daf067c201af3985feb497d118405efd2b"), looks := false }, kinds := [], alts := [], laidByText := true, laidKinds := [.data, .data, .data, .data, .pinned], laidTests := true, laidLooks := .later }
def HistBoundCardSaid : Prop := Claim7.holds Tryd.pinned (.plain (OpenSpec.ofChange histBoundSpec)) histBoundCard

/-- THE SECOND FORM's CARD OF 'carrellaw26.HistShows'. -/
def histShowsUptoCard : Claim7 := { stood := { row := histShowsUptoRow, standIns := [], harness := (true, "49dc3cbe94c2e98c54362ef87cb371daf067c201af3985feb497d118405efd2b"), looks := false }, kinds := [], alts := [], laidByText := true, laidKinds := [.data, .data, .data, .data, .pinned], laidTests := true, laidLooks := .later }
def HistShowsUptoCardSaid : Prop := Claim7.holds Tryd.pinned (.plain (OpenSpec.upto histShowsSpec)) histShowsUptoCard

/-- THE SECOND FORM's CARD OF 'carrellaw26.HistLast'. -/
def histLastUptoCard : Claim7 := { stood := { row := histLastUptoRow, standIns := [], harness := (true, "49dc3cbe94c2e98c54362ef87cb371daf067c201af3985feb497d118405efd2b"), looks := false }, kinds := [], alts := [], laidByText := true, laidKinds := [.data, .data, .data, .data, .pinned], laidTests := true, laidLooks := .later }
def HistLastUptoCardSaid : Prop := Claim7.holds Tryd.pinned (.plain (OpenSpec.upto histLastSpec)) histLastUptoCard

/-- THE SECOND FORM's CARD OF 'carrellaw26.HistBound'. -/
def histBoundUptoCard : Claim7 := { stood := { row := histBoundUptoRow, standIns := [], harness := (true, "49dc3cbe94c2e98c54362ef87cb371daf067c201af3985feb497d118405efd2b"), looks := false }, kinds := [], alts := [], laidByText := true, laidKinds := [.data, .data, .data, .data, .pinned], laidTests := true, laidLooks := .later }
def HistBoundUptoCardSaid : Prop := Claim7.holds Tryd.pinned (.plain (OpenSpec.upto histBoundSpec)) histBoundUptoCard
end Rows
end Go.Proofs.YtjkpapkjlmglbaaDoor
