/-
  DERIVED. GIVEN WITH THE SEED: THE CARDS: each row of YtdofgilfmgdpkaaDoorRows.lean that lists a variable, with what it lists TIED to the program's text (the seventh form; the later family's looks); each row that meets fmt, with fmt's text TOLD by the authors' own Lean function (tested against real Go, not proved from fmt's source: count such statements apart). THE CARD IS WHAT COUNTS. Prove the row's statement (the work); the ties are given (YtdofgilfmgdpkaaDoorTie.lean); close each card by the builder's one call (the guide's Derived/Test/ToyasCard.lean, 'card_holds'). Laid BY PROGRAM, IN A SANDBOX (cutbox-door.mjs). By AI agents, Wed Nov 11 2026. No macro, syntax, notation, axiom, sorry.
-/
import Derived.Test.YtdofgilfmgdpkaaDoorRows
import GoSem.ClaimSeven
namespace Go.Proofs.YtdofgilfmgdpkaaDoor
namespace Rows

/-- THE TIED CARD OF 'tollhouselaw05.HeadParses'. -/
def headParsesCard : Claim7 := { stood := { row := headParsesRow, standIns := [], harness := (true, "6c7e009c51b1f4f249ec86c690a3a4d3dafee5b2a2512bfd87e44d1b394f0a16"), looks := false }, kinds := [], alts := [], laidByText := true, laidKinds := [.data, .pinned], laidTests := true, laidLooks := .later }
def HeadParsesCardSaid : Prop := Claim7.holds Tryd.pinned (.plain (OpenSpec.ofChange headParsesSpec)) headParsesCard

/-- THE TIED CARD OF 'tollhouselaw05.HeadFields'. -/
def headFieldsCard : Claim7 := { stood := { row := headFieldsRow, standIns := [], harness := (true, "6c7e009c51b1f4f249ec86c690a3a4d3dafee5b2a2512bfd87e44d1b394f0a16"), looks := false }, kinds := [], alts := [], laidByText := true, laidKinds := [.data, .pinned], laidTests := true, laidLooks := .later }
def HeadFieldsCardSaid : Prop := Claim7.holds Tryd.pinned (.plain (OpenSpec.ofChange headFieldsSpec)) headFieldsCard

/-- THE TIED CARD OF 'tollhouselaw05.HeadBack'. -/
def headBackCard : Claim7 := { stood := { row := headBackRow, standIns := [], harness := (true, "6c7e009c51b1f4f249ec86c690a3a4d3dafee5b2a2512bfd87e44d1b394f0a16"), looks := false }, kinds := [], alts := [], laidByText := true, laidKinds := [.data, .pinned], laidTests := true, laidLooks := .later }
def HeadBackCardSaid : Prop := Claim7.holds Tryd.pinned (.plain (OpenSpec.ofChange headBackSpec)) headBackCard

/-- THE TIED CARD OF 'tollhouselaw05.HeadStands'. -/
def headStandsCard : Claim7 := { stood := { row := headStandsRow, standIns := [], harness := (true, "6c7e009c51b1f4f249ec86c690a3a4d3dafee5b2a2512bfd87e44d1b394f0a16"), looks := false }, kinds := [], alts := [], laidByText := true, laidKinds := [.data, .pinned], laidTests := true, laidLooks := .later }
def HeadStandsCardSaid : Prop := Claim7.holds Tryd.pinned (.plain (OpenSpec.ofChange headStandsSpec)) headStandsCard

/-- THE TIED CARD OF 'tollhouselaw05.HeadSets'. -/
def headSetsCard : Claim7 := { stood := { row := headSetsRow, standIns := [], harness := (true, "6c7e009c51b1f4f249ec86c690a3a4d3dafee5b2a2512bfd87e44d1b394f0a16"), looks := false }, kinds := [], alts := [], laidByText := true, laidKinds := [.data, .pinned], laidTests := true, laidLooks := .later }
def HeadSetsCardSaid : Prop := Claim7.holds Tryd.pinned (.plain (OpenSpec.ofChange headSetsSpec)) headSetsCard

/-- THE TIED CARD OF 'tollhouselaw05.HeadKnown'. -/
def headKnownCard : Claim7 := { stood := { row := headKnownRow, standIns := [], harness := (true, "6c7e009c51b1f4f249ec86c690a3a4d3dafee5b2a2512bfd87e44d1b394f0a16"), looks := false }, kinds := [], alts := [], laidByText := true, laidKinds := [.data, .pinned], laidTests := true, laidLooks := .later }
def HeadKnownCardSaid : Prop := Claim7.holds Tryd.pinned (.plain (OpenSpec.ofChange headKnownSpec)) headKnownCard

/-- THE SECOND FORM's CARD OF 'tollhouselaw05.HeadParses'. -/
def headParsesUptoCard : Claim7 := { stood := { row := headParsesUptoRow, standIns := [], harness := (true, "6c7e009c51b1f4f249ec86c690a3a4d3dafee5b2a2512bfd87e44d1b394f0a16"), looks := false }, kinds := [], alts := [], laidByText := true, laidKinds := [.data, .pinned], laidTests := true, laidLooks := .later }
def HeadParsesUptoCardSaid : Prop := Claim7.holds Tryd.pinned (.plain (OpenSpec.upto headParsesSpec)) headParsesUptoCard

/-- THE SECOND FORM's CARD OF 'tollhouselaw05.HeadFields'. -/
def headFieldsUptoCard : Claim7 := { stood := { row := headFieldsUptoRow, standIns := [], harness := (true, "6c7e009c51b1f4f249ec86c690a3a4d3dafee5b2a2512bfd87e44d1b394f0a16"), looks := false }, kinds := [], alts := [], laidByText := true, laidKinds := [.data, .pinned], laidTests := true, laidLooks := .later }
def HeadFieldsUptoCardSaid : Prop := Claim7.holds Tryd.pinned (.plain (OpenSpec.upto headFieldsSpec)) headFieldsUptoCard

/-- THE SECOND FORM's CARD OF 'tollhouselaw05.HeadBack'. -/
def headBackUptoCard : Claim7 := { stood := { row := headBackUptoRow, standIns := [], harness := (true, "6c7e009c51b1f4f249ec86c690a3a4d3dafee5b2a2512bfd87e44d1b394f0a16"), looks := false }, kinds := [], alts := [], laidByText := true, laidKinds := [.data, .pinned], laidTests := true, laidLooks := .later }
def HeadBackUptoCardSaid : Prop := Claim7.holds Tryd.pinned (.plain (OpenSpec.upto headBackSpec)) headBackUptoCard

/-- THE SECOND FORM's CARD OF 'tollhouselaw05.HeadStands'. -/
def headStandsUptoCard : Claim7 := { stood := { row := headStandsUptoRow, standIns := [], harness := (true, "6c7e009c51b1f4f249ec86c690a3a4d3dafee5b2a2512bfd87e44d1b394f0a16"), looks := false }, kinds := [], alts := [], laidByText := true, laidKinds := [.data, .pinned], laidTests := true, laidLooks := .later }
def HeadStandsUptoCardSaid : Prop := Claim7.holds Tryd.pinned (.plain (OpenSpec.upto headStandsSpec)) headStandsUptoCard

/-- THE SECOND FORM's CARD OF 'tollhouselaw05.HeadSets'. -/
def headSetsUptoCard : Claim7 := { stood := { row := headSetsUptoRow, standIns := [], harness := (true, "6c7e009c51b1f4f249ec86c690a3a4d3dafee5b2a2512bfd87e44d1b394f0a16"), looks := false }, kinds := [], alts := [], laidByText := true, laidKinds := [.data, .pinned], laidTests := true, laidLooks := .later }
def HeadSetsUptoCardSaid : Prop := Claim7.holds Tryd.pinned (.plain (OpenSpec.upto headSetsSpec)) headSetsUptoCard

/-- THE SECOND FORM's CARD OF 'tollhouselaw05.HeadKnown'. -/
def headKnownUptoCard : Claim7 := { stood := { row := headKnownUptoRow, standIns := [], harness := (true, "6c7e009c51b1f4f249ec86c690a3a4d3dafee5b2a2512bfd87e44d1b394f0a16"), looks := false }, kinds := [], alts := [], laidByText := true, laidKinds := [.data, .pinned], laidTests := true, laidLooks := .later }
def HeadKnownUptoCardSaid : Prop := Claim7.holds Tryd.pinned (.plain (OpenSpec.upto headKnownSpec)) headKnownUptoCard
end Rows
end Go.Proofs.YtdofgilfmgdpkaaDoor
