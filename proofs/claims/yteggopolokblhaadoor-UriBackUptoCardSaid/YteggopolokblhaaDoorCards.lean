/-
  DERIVED. GIVEN WITH THE SEED: THE CARDS: each row of YteggopolokblhaaDoorRows.lean that lists a variable, with what it lists TIED to the program's text (the seventh form; the later family's looks); each row that meets fmt, with fmt's text TOLD by the authors' own Lean function (tested against real Go, not proved from fmt's source: count such statements apart). THE CARD IS WHAT COUNTS. Prove the row's statement (the work); the ties are given (YteggopolokblhaaDoorTie.lean); close each card by the builder's one call (the guide's Derived/Test/ToyasCard.lean, 'card_holds'). Laid BY PROGRAM, IN A SANDBOX (cutbox-door.mjs). By AI agents, Wed Nov 11 2026. No macro, syntax, notation, axiom, sorry.
-/
import Derived.Test.YteggopolokblhaaDoorRows
import GoSem.ClaimSeven
namespace Go.Proofs.YteggopolokblhaaDoor
namespace Rows

/-- THE TIED CARD OF 'tollhouselaw10.UriBack'. -/
def uriBackCard : Claim7 := { stood := { row := uriBackRow, standIns := [], harness := (true, "ee75366790419194128bb1a6c05ffcaf0c0c149891d02982b5421f4c143c63f6"), looks := true }, kinds := [], alts := [], laidByText := true, laidKinds := [.data, .data, .data, .data, .sentinel, .sentinel, .pinned], laidTests := true, laidLooks := .later }
def UriBackCardSaid : Prop := Claim7.holds Tryd.pinned (.plain (OpenSpec.ofChange uriBackSpec)) uriBackCard

/-- THE TIED CARD OF 'tollhouselaw10.UriJoins'. -/
def uriJoinsCard : Claim7 := { stood := { row := uriJoinsRow, standIns := [], harness := (true, "ee75366790419194128bb1a6c05ffcaf0c0c149891d02982b5421f4c143c63f6"), looks := true }, kinds := [], alts := [], laidByText := true, laidKinds := [.data, .data, .data, .data, .sentinel, .sentinel, .pinned], laidTests := true, laidLooks := .later }
def UriJoinsCardSaid : Prop := Claim7.holds Tryd.pinned (.plain (OpenSpec.ofChange uriJoinsSpec)) uriJoinsCard

/-- THE TIED CARD OF 'tollhouselaw10.UriOne'. -/
def uriOneCard : Claim7 := { stood := { row := uriOneRow, standIns := [], harness := (true, "ee75366790419194128bb1a6c05ffcaf0c0c149891d02982b5421f4c143c63f6"), looks := true }, kinds := [], alts := [], laidByText := true, laidKinds := [.data, .data, .data, .data, .sentinel, .sentinel, .pinned], laidTests := true, laidLooks := .later }
def UriOneCardSaid : Prop := Claim7.holds Tryd.pinned (.plain (OpenSpec.ofChange uriOneSpec)) uriOneCard

/-- THE TIED CARD OF 'tollhouselaw10.UriKnown'. -/
def uriKnownCard : Claim7 := { stood := { row := uriKnownRow, standIns := [], harness := (true, "ee75366790419194128bb1a6c05ffcaf0c0c149891d02982b5421f4c143c63f6"), looks := true }, kinds := [], alts := [], laidByText := true, laidKinds := [.data, .data, .data, .data, .sentinel, .sentinel, .pinned], laidTests := true, laidLooks := .later }
def UriKnownCardSaid : Prop := Claim7.holds Tryd.pinned (.plain (OpenSpec.ofChange uriKnownSpec)) uriKnownCard

/-- THE SECOND FORM's CARD OF 'tollhouselaw10.UriBack'. -/
def uriBackUptoCard : Claim7 := { stood := { row := uriBackUptoRow, standIns := [], harness := (true, "ee75366790419194128bb1a6c05ffcaf0c0c149891d02982b5421f4c143c63f6"), looks := true }, kinds := [], alts := [], laidByText := true, laidKinds := [.data, .data, .data, .data, .sentinel, .sentinel, .pinned], laidTests := true, laidLooks := .later }
def UriBackUptoCardSaid : Prop := Claim7.holds Tryd.pinned (.plain (OpenSpec.upto uriBackSpec)) uriBackUptoCard

/-- THE SECOND FORM's CARD OF 'tollhouselaw10.UriJoins'. -/
def uriJoinsUptoCard : Claim7 := { stood := { row := uriJoinsUptoRow, standIns := [], harness := (true, "ee75366790419194128bb1a6c05ffcaf0c0c149891d02982b5421f4c143c63f6"), looks := true }, kinds := [], alts := [], laidByText := true, laidKinds := [.data, .data, .data, .data, .sentinel, .sentinel, .pinned], laidTests := true, laidLooks := .later }
def UriJoinsUptoCardSaid : Prop := Claim7.holds Tryd.pinned (.plain (OpenSpec.upto uriJoinsSpec)) uriJoinsUptoCard

/-- THE SECOND FORM's CARD OF 'tollhouselaw10.UriOne'. -/
def uriOneUptoCard : Claim7 := { stood := { row := uriOneUptoRow, standIns := [], harness := (true, "ee75366790419194128bb1a6c05ffcaf0c0c149891d02982b5421f4c143c63f6"), looks := true }, kinds := [], alts := [], laidByText := true, laidKinds := [.data, .data, .data, .data, .sentinel, .sentinel, .pinned], laidTests := true, laidLooks := .later }
def UriOneUptoCardSaid : Prop := Claim7.holds Tryd.pinned (.plain (OpenSpec.upto uriOneSpec)) uriOneUptoCard

/-- THE SECOND FORM's CARD OF 'tollhouselaw10.UriKnown'. -/
def uriKnownUptoCard : Claim7 := { stood := { row := uriKnownUptoRow, standIns := [], harness := (true, "ee75366790419194128bb1a6c05ffcaf0c0c149891d02982b5421f4c143c63f6"), looks := true }, kinds := [], alts := [], laidByText := true, laidKinds := [.data, .data, .data, .data, .sentinel, .sentinel, .pinned], laidTests := true, laidLooks := .later }
def UriKnownUptoCardSaid : Prop := Claim7.holds Tryd.pinned (.plain (OpenSpec.upto uriKnownSpec)) uriKnownUptoCard
end Rows
end Go.Proofs.YteggopolokblhaaDoor
