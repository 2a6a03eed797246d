/-
  DERIVED. GIVEN WITH THE SEED: THE CARDS: each row of YteggopolokblhaaGreatDoorRows.lean that lists a variable, with what it lists TIED to the program's text (the seventh form; the later family's looks); each row that meets fmt, with fmt's text TOLD by the authors' own Lean function (tested against real Go, not proved from fmt's source: count such statements apart). THE CARD IS WHAT COUNTS. Prove the row's statement (the work); the ties are given (YteggopolokblhaaGreatDoorTie.lean); close each card by the builder's one call (the guide's Derived/Test/ToyasCard.lean, 'card_holds'). Laid BY PROGRAM, IN A SANDBOX (cutbox-door.mjs). By AI agents, Wed Nov 11 2026. No macro, syntax, notation, axiom, sorry.
-/
import Derived.Test.YteggopolokblhaaGreatDoorRows
import GoSem.ClaimSeven
namespace Go.Proofs.YteggopolokblhaaGreatDoor
namespace Rows

/-- THE TIED CARD OF 'tollhouselaw10.UriParses'. -/
def uriParsesCard : Claim7 := { stood := { row := uriParsesRow, standIns := [], harness := (true, "e5a56e4e226f1651d4c4fcef5c5d046c9f47598801b9a04106e0a278ff275427"), looks := true }, kinds := [], alts := [], laidByText := true, laidKinds := [.data, .data, .data, .data, .sentinel, .sentinel, .pinned], laidTests := true, laidLooks := .later }
def UriParsesCardSaid : Prop := Claim7.holds Tryz.pinned (.plain (OpenSpec.ofChange uriParsesSpec)) uriParsesCard

/-- THE TIED CARD OF 'tollhouselaw10.UriTexts'. -/
def uriTextsCard : Claim7 := { stood := { row := uriTextsRow, standIns := [], harness := (true, "e5a56e4e226f1651d4c4fcef5c5d046c9f47598801b9a04106e0a278ff275427"), looks := true }, kinds := [], alts := [], laidByText := true, laidKinds := [.data, .data, .data, .data, .sentinel, .sentinel, .pinned], laidTests := true, laidLooks := .later }
def UriTextsCardSaid : Prop := Claim7.holds Tryz.pinned (.plain (OpenSpec.ofChange uriTextsSpec)) uriTextsCard

/-- THE SECOND FORM's CARD OF 'tollhouselaw10.UriParses'. -/
def uriParsesUptoCard : Claim7 := { stood := { row := uriParsesUptoRow, standIns := [], harness := (true, "e5a56e4e226f1651d4c4fcef5c5d046c9f47598801b9a04106e0a278ff275427"), looks := true }, kinds := [], alts := [], laidByText := true, laidKinds := [.data, .data, .data, .data, .sentinel, .sentinel, .pinned], laidTests := true, laidLooks := .later }
def UriParsesUptoCardSaid : Prop := Claim7.holds Tryz.pinned (.plain (OpenSpec.upto uriParsesSpec)) uriParsesUptoCard

/-- THE SECOND FORM's CARD OF 'tollhouselaw10.UriTexts'. -/
def uriTextsUptoCard : Claim7 := { stood := { row := uriTextsUptoRow, standIns := [], harness := (true, "e5a56e4e226f1651d4c4fcef5c5d046c9f47598801b9a04106e0a278ff275427"), looks := true }, kinds := [], alts := [], laidByText := true, laidKinds := [.data, .data, .data, .data, .sentinel, .sentinel, .pinned], laidTests := true, laidLooks := .later }
def UriTextsUptoCardSaid : Prop := Claim7.holds Tryz.pinned (.plain (OpenSpec.upto uriTextsSpec)) uriTextsUptoCard
end Rows
end Go.Proofs.YteggopolokblhaaGreatDoor
