/-
  DERIVED. GIVEN WITH THE SEED: THE CARDS: each row of YtjiiahiglpcpmaaDoorRows.lean that lists a variable, with what it lists TIED to the program's text (the seventh form; the later family's looks); each row that meets fmt, with fmt's text TOLD by the authors' own Lean function (tested against real Go, not proved from fmt's source: count such statements apart). THE CARD IS WHAT COUNTS. Prove the row's statement (the work); the ties are given (YtjiiahiglpcpmaaDoorTie.lean); close each card by the builder's one call (the guide's Derived/Test/ToyasCard.lean, 'card_holds'). Laid BY PROGRAM, IN A SANDBOX (cutbox-door.mjs). By AI agents, Wed Nov 11 2026. No macro, syntax, notation, axiom, sorry.
-/
import Derived.Test.YtjiiahiglpcpmaaDoorRows
import GoSem.ClaimSeven
namespace Go.Proofs.YtjiiahiglpcpmaaDoor
namespace Rows

/-- THE TIED CARD OF 'tollhouselaw03.NumReads'. -/
def numReadsCard : Claim7 := { stood := { row := numReadsRow, standIns := [], harness := (true, "6453d2ea511a18ec2a74e2fc9810e2ed147d8cfaafd39f74f568f1d3773ad56d"), looks := false }, kinds := [], alts := [], laidByText := true, laidKinds := [.data, .data, .data], laidTests := true, laidLooks := .later }
def NumReadsCardSaid : Prop := Claim7.holds Tryd.pinned (.plain (OpenSpec.ofChange numReadsSpec)) numReadsCard

/-- THE TIED CARD OF 'tollhouselaw03.NumWrites'. -/
def numWritesCard : Claim7 := { stood := { row := numWritesRow, standIns := [], harness := (true, "6453d2ea511a18ec2a74e2fc9810e2ed147d8cfaafd39f74f568f1d3773ad56d"), looks := false }, kinds := [], alts := [], laidByText := true, laidKinds := [.data, .data, .data], laidTests := true, laidLooks := .later }
def NumWritesCardSaid : Prop := Claim7.holds Tryd.pinned (.plain (OpenSpec.ofChange numWritesSpec)) numWritesCard

/-- THE TIED CARD OF 'tollhouselaw03.NumKnown'. -/
def numKnownCard : Claim7 := { stood := { row := numKnownRow, standIns := [], harness := (true, "6453d2ea511a18ec2a74e2fc9810e2ed147d8cfaafd39f74f568f1d3773ad56d"), looks := false }, kinds := [], alts := [], laidByText := true, laidKinds := [.data, .data, .data], laidTests := true, laidLooks := .later }
def NumKnownCardSaid : Prop := Claim7.holds Tryd.pinned (.plain (OpenSpec.ofChange numKnownSpec)) numKnownCard

/-- THE TIED CARD OF 'tollhouselaw03.NumBack'. -/
def numBackCard : Claim7 := { stood := { row := numBackRow, standIns := [], harness := (true, "6453d2ea511a18ec2a74e2fc9810e2ed147d8cfaafd39f74f568f1d3773ad56d"), looks := false }, kinds := [], alts := [], laidByText := true, laidKinds := [.data, .data, .data, .data, .pinned, .pinned], laidTests := true, laidLooks := .later }
def NumBackCardSaid : Prop := Claim7.holds Tryd.pinned (.plain (OpenSpec.ofChange numBackSpec)) numBackCard

/-- THE TIED CARD OF 'tollhouselaw03.NumTrims'. -/
def numTrimsCard : Claim7 := { stood := { row := numTrimsRow, standIns := [], harness := (true, "6453d2ea511a18ec2a74e2fc9810e2ed147d8cfaafd39f74f568f1d3773ad56d"), looks := false }, kinds := [], alts := [], laidByText := true, laidKinds := [.data, .data, .data, .data, .pinned, .pinned], laidTests := true, laidLooks := .later }
def NumTrimsCardSaid : Prop := Claim7.holds Tryd.pinned (.plain (OpenSpec.ofChange numTrimsSpec)) numTrimsCard

/-- THE SECOND FORM's CARD OF 'tollhouselaw03.NumReads'. -/
def numReadsUptoCard : Claim7 := { stood := { row := numReadsUptoRow, standIns := [], harness := (true, "6453d2ea511a18ec2a74e2fc9810e2ed147d8cfaafd39f74f568f1d3773ad56d"), looks := false }, kinds := [], alts := [], laidByText := true, laidKinds := [.data, .data, .data], laidTests := true, laidLooks := .later }
def NumReadsUptoCardSaid : Prop := Claim7.holds Tryd.pinned (.plain (OpenSpec.upto numReadsSpec)) numReadsUptoCard

/-- THE SECOND FORM's CARD OF 'tollhouselaw03.NumWrites'. -/
def numWritesUptoCard : Claim7 := { stood := { row := numWritesUptoRow, standIns := [], harness := (true, "6453d2ea511a18ec2a74e2fc9810e2ed147d8cfaafd39f74f568f1d3773ad56d"), looks := false }, kinds := [], alts := [], laidByText := true, laidKinds := [.data, .data, .data], laidTests := true, laidLooks := .later }
def NumWritesUptoCardSaid : Prop := Claim7.holds Tryd.pinned (.plain (OpenSpec.upto numWritesSpec)) numWritesUptoCard

/-- THE SECOND FORM's CARD OF 'tollhouselaw03.NumKnown'. -/
def numKnownUptoCard : Claim7 := { stood := { row := numKnownUptoRow, standIns := [], harness := (true, "6453d2ea511a18ec2a74e2fc9810e2ed147d8cfaafd39f74f568f1d3773ad56d"), looks := false }, kinds := [], alts := [], laidByText := true, laidKinds := [.data, .data, .data], laidTests := true, laidLooks := .later }
def NumKnownUptoCardSaid : Prop := Claim7.holds Tryd.pinned (.plain (OpenSpec.upto numKnownSpec)) numKnownUptoCard

/-- THE SECOND FORM's CARD OF 'tollhouselaw03.NumBack'. -/
def numBackUptoCard : Claim7 := { stood := { row := numBackUptoRow, standIns := [], harness := (true, "6453d2ea511a18ec2a74e2fc9810e2ed147d8cfaafd39f74f568f1d3773ad56d"), looks := false }, kinds := [], alts := [], laidByText := true, laidKinds := [.data, .data, .data, .data, .pinned, .pinned], laidTests := true, laidLooks := .later }
def NumBackUptoCardSaid : Prop := Claim7.holds Tryd.pinned (.plain (OpenSpec.upto numBackSpec)) numBackUptoCard

/-- THE SECOND FORM's CARD OF 'tollhouselaw03.NumTrims'. -/
def numTrimsUptoCard : Claim7 := { stood := { row := numTrimsUptoRow, standIns := [], harness := (true, "6453d2ea511a18ec2a74e2fc9810e2ed147d8cfaafd39f74f568f1d3773ad56d"), looks := false }, kinds := [], alts := [], laidByText := true, laidKinds := [.data, .data, .data, .data, .pinned, .pinned], laidTests := true, laidLooks := .later }
def NumTrimsUptoCardSaid : Prop := Claim7.holds Tryd.pinned (.plain (OpenSpec.upto numTrimsSpec)) numTrimsUptoCard
end Rows
end Go.Proofs.YtjiiahiglpcpmaaDoor
