/-
  DERIVED. GIVEN WITH THE SEED: THE CARDS: each row of YtekfceolignihaaDoorRows.lean that lists a variable, with what it lists TIED to the program's text (the seventh form; the later family's looks); each row that meets fmt, with fmt's text TOLD by the authors' own Lean function (tested against real Go, not proved from fmt's source: count such statements apart). THE CARD IS WHAT COUNTS. Prove the row's statement (the work); the ties are given (YtekfceolignihaaDoorTie.lean); close each card by the builder's one call (the guide's Derived/Test/ToyasCard.lean, 'card_holds'). Laid BY PROGRAM, IN A SANDBOX (cutbox-door.mjs). By AI agents, Wed Nov 11 2026. No macro, syntax, notation, axiom, sorry.
-/
import Derived.Test.YtekfceolignihaaDoorRows
import GoSem.ClaimSeven
namespace Go.Proofs.YtekfceolignihaaDoor
namespace Rows

/-- THE TIED CARD OF 'carrellaw05.SpaceEach'. -/
def spaceEachCard : Claim7 := { stood := { row := spaceEachRow, standIns := [], harness := (true, "c9ccb97ab40b8c937e7dcfca83111f9262c0f57be0355c05f03aec797f654689"), looks := false }, kinds := [], alts := [], laidByText := true, laidKinds := [.data], laidTests := true, laidLooks := .later }
def SpaceEachCardSaid : Prop := Claim7.holds Tryd.pinned (.plain (OpenSpec.ofChange spaceEachSpec)) spaceEachCard

/-- THE TIED CARD OF 'carrellaw05.SpaceActs'. -/
def spaceActsCard : Claim7 := { stood := { row := spaceActsRow, standIns := [], harness := (true, "c9ccb97ab40b8c937e7dcfca83111f9262c0f57be0355c05f03aec797f654689"), looks := false }, kinds := [], alts := [], laidByText := true, laidKinds := [.data], laidTests := true, laidLooks := .later }
def SpaceActsCardSaid : Prop := Claim7.holds Tryd.pinned (.plain (OpenSpec.ofChange spaceActsSpec)) spaceActsCard

/-- THE TIED CARD OF 'carrellaw05.SpaceCopies'. -/
def spaceCopiesCard : Claim7 := { stood := { row := spaceCopiesRow, standIns := [], harness := (true, "c9ccb97ab40b8c937e7dcfca83111f9262c0f57be0355c05f03aec797f654689"), looks := false }, kinds := [], alts := [], laidByText := true, laidKinds := [.data], laidTests := true, laidLooks := .later }
def SpaceCopiesCardSaid : Prop := Claim7.holds Tryd.pinned (.plain (OpenSpec.ofChange spaceCopiesSpec)) spaceCopiesCard

/-- THE TIED CARD OF 'carrellaw05.SpaceNone'. -/
def spaceNoneCard : Claim7 := { stood := { row := spaceNoneRow, standIns := [], harness := (true, "c9ccb97ab40b8c937e7dcfca83111f9262c0f57be0355c05f03aec797f654689"), looks := false }, kinds := [], alts := [], laidByText := true, laidKinds := [.data], laidTests := true, laidLooks := .later }
def SpaceNoneCardSaid : Prop := Claim7.holds Tryd.pinned (.plain (OpenSpec.ofChange spaceNoneSpec)) spaceNoneCard

/-- THE SECOND FORM's CARD OF 'carrellaw05.SpaceEach'. -/
def spaceEachUptoCard : Claim7 := { stood := { row := spaceEachUptoRow, standIns := [], harness := (true, "c9ccb97ab40b8c937e7dcfca83111f9262c0f57be0355c05f03aec797f654689"), looks := false }, kinds := [], alts := [], laidByText := true, laidKinds := [.data], laidTests := true, laidLooks := .later }
def SpaceEachUptoCardSaid : Prop := Claim7.holds Tryd.pinned (.plain (OpenSpec.upto spaceEachSpec)) spaceEachUptoCard

/-- THE SECOND FORM's CARD OF 'carrellaw05.SpaceActs'. -/
def spaceActsUptoCard : Claim7 := { stood := { row := spaceActsUptoRow, standIns := [], harness := (true, "c9ccb97ab40b8c937e7dcfca83111f9262c0f57be0355c05f03aec797f654689"), looks := false }, kinds := [], alts := [], laidByText := true, laidKinds := [.data], laidTests := true, laidLooks := .later }
def SpaceActsUptoCardSaid : Prop := Claim7.holds Tryd.pinned (.plain (OpenSpec.upto spaceActsSpec)) spaceActsUptoCard

/-- THE SECOND FORM's CARD OF 'carrellaw05.SpaceCopies'. -/
def spaceCopiesUptoCard : Claim7 := { stood := { row := spaceCopiesUptoRow, standIns := [], harness := (true, "c9ccb97ab40b8c937e7dcfca83111f9262c0f57be0355c05f03aec797f654689"), looks := false }, kinds := [], alts := [], laidByText := true, laidKinds := [.data], laidTests := true, laidLooks := .later }
def SpaceCopiesUptoCardSaid : Prop := Claim7.holds Tryd.pinned (.plain (OpenSpec.upto spaceCopiesSpec)) spaceCopiesUptoCard

/-- THE SECOND FORM's CARD OF 'carrellaw05.SpaceNone'. -/
def spaceNoneUptoCard : Claim7 := { stood := { row := spaceNoneUptoRow, standIns := [], harness := (true, "c9ccb97ab40b8c937e7dcfca83111f9262c0f57be0355c05f03aec797f654689"), looks := false }, kinds := [], alts := [], laidByText := true, laidKinds := [.data], laidTests := true, laidLooks := .later }
def SpaceNoneUptoCardSaid : Prop := Claim7.holds Tryd.pinned (.plain (OpenSpec.upto spaceNoneSpec)) spaceNoneUptoCard
end Rows
end Go.Proofs.YtekfceolignihaaDoor
