/-
  DERIVED. GIVEN WITH THE SEED: THE CARDS: each row of YtjihhojlakapnaaDoorRows.lean that lists a variable, with what it lists TIED to the program's text (the seventh form; the later family's looks); each row that meets fmt, with fmt's text TOLD by the authors' own Lean function (tested against real Go, not proved from fmt's source: count such statements apart). THE CARD IS WHAT COUNTS. Prove the row's statement (the work); the ties are given (YtjihhojlakapnaaDoorTie.lean); close each card by the builder's one call (the guide's Derived/Test/ToyasCard.lean, 'card_holds'). Laid BY PROGRAM, IN A SANDBOX (cutbox-door.mjs). By AI agents, Wed Nov 11 2026. No macro, syntax, notation, axiom, sorry.
-/
import Derived.Test.YtjihhojlakapnaaDoorRows
import GoSem.ClaimSeven
namespace Go.Proofs.YtjihhojlakapnaaDoor
namespace Rows

/-- THE TIED CARD OF 'carrellaw21.CodeLooks'. -/
def codeLooksCard : Claim7 := { stood := { row := codeLooksRow, standIns := [], harness := (true, "467bd4fe880832688b37cf40664c5ac90983e7199c8bc341b479200f9f689c75"), looks := false }, kinds := [], alts := [], laidByText := true, laidKinds := [.data, .data, .data], laidTests := true, laidLooks := .later }
def CodeLooksCardSaid : Prop := Claim7.holds Tryd.pinned (.plain (OpenSpec.ofChange codeLooksSpec)) codeLooksCard

/-- THE TIED CARD OF 'carrellaw21.CodeLiterals'. -/
def codeLiteralsCard : Claim7 := { stood := { row := codeLiteralsRow, standIns := [], harness := (true, "467bd4fe880832688b37cf40664c5ac90983e7199c8bc341b479200f9f689c75"), looks := false }, kinds := [], alts := [], laidByText := true, laidKinds := [.data, .data, .data], laidTests := true, laidLooks := .later }
def CodeLiteralsCardSaid : Prop := Claim7.holds Tryd.pinned (.plain (OpenSpec.ofChange codeLiteralsSpec)) codeLiteralsCard

/-- THE TIED CARD OF 'carrellaw21.CodeTexts'. -/
def codeTextsCard : Claim7 := { stood := { row := codeTextsRow, standIns := [], harness := (true, "467bd4fe880832688b37cf40664c5ac90983e7199c8bc341b479200f9f689c75"), looks := false }, kinds := [], alts := [], laidByText := true, laidKinds := [.data, .data, .data], laidTests := true, laidLooks := .later }
def CodeTextsCardSaid : Prop := Claim7.holds Tryd.pinned (.plain (OpenSpec.ofChange codeTextsSpec)) codeTextsCard

/-- THE TIED CARD OF 'carrellaw21.CodeNone'. -/
def codeNoneCard : Claim7 := { stood := { row := codeNoneRow, standIns := [], harness := (true, "467bd4fe880832688b37cf40664c5ac90983e7199c8bc341b479200f9f689c75"), looks := false }, kinds := [], alts := [], laidByText := true, laidKinds := [.data, .data, .data], laidTests := true, laidLooks := .later }
def CodeNoneCardSaid : Prop := Claim7.holds Tryd.pinned (.plain (OpenSpec.ofChange codeNoneSpec)) codeNoneCard

/-- THE SECOND FORM's CARD OF 'carrellaw21.CodeLooks'. -/
def codeLooksUptoCard : Claim7 := { stood := { row := codeLooksUptoRow, standIns := [], harness := (true, "467bd4fe880832688b37cf40664c5ac90983e7199c8bc341b479200f9f689c75"), looks := false }, kinds := [], alts := [], laidByText := true, laidKinds := [.data, .data, .data], laidTests := true, laidLooks := .later }
def CodeLooksUptoCardSaid : Prop := Claim7.holds Tryd.pinned (.plain (OpenSpec.upto codeLooksSpec)) codeLooksUptoCard

/-- THE SECOND FORM's CARD OF 'carrellaw21.CodeLiterals'. -/
def codeLiteralsUptoCard : Claim7 := { stood := { row := codeLiteralsUptoRow, standIns := [], harness := (true, "467bd4fe880832688b37cf40664c5ac90983e7199c8bc341b479200f9f689c75"), looks := false }, kinds := [], alts := [], laidByText := true, laidKinds := [.data, .data, .data], laidTests := true, laidLooks := .later }
def CodeLiteralsUptoCardSaid : Prop := Claim7.holds Tryd.pinned (.plain (OpenSpec.upto codeLiteralsSpec)) codeLiteralsUptoCard

/-- THE SECOND FORM's CARD OF 'carrellaw21.CodeTexts'. -/
def codeTextsUptoCard : Claim7 := { stood := { row := codeTextsUptoRow, standIns := [], harness := (true, "467bd4fe880832688b37cf40664c5ac90983e7199c8bc341b479200f9f689c75"), looks := false }, kinds := [], alts := [], laidByText := true, laidKinds := [.data, .data, .data], laidTests := true, laidLooks := .later }
def CodeTextsUptoCardSaid : Prop := Claim7.holds Tryd.pinned (.plain (OpenSpec.upto codeTextsSpec)) codeTextsUptoCard

/-- THE SECOND FORM's CARD OF 'carrellaw21.CodeNone'. -/
def codeNoneUptoCard : Claim7 := { stood := { row := codeNoneUptoRow, standIns := [], harness := (true, "467bd4fe880832688b37cf40664c5ac90983e7199c8bc341b479200f9f689c75"), looks := false }, kinds := [], alts := [], laidByText := true, laidKinds := [.data, .data, .data], laidTests := true, laidLooks := .later }
def CodeNoneUptoCardSaid : Prop := Claim7.holds Tryd.pinned (.plain (OpenSpec.upto codeNoneSpec)) codeNoneUptoCard
end Rows
end Go.Proofs.YtjihhojlakapnaaDoor
