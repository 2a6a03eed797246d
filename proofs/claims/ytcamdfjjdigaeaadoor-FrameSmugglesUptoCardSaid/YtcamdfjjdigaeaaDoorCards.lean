/-
  DERIVED. GIVEN WITH THE SEED: THE CARDS: each row of YtcamdfjjdigaeaaDoorRows.lean that lists a variable, with what it lists TIED to the program's text (the seventh form; the later family's looks); each row that meets fmt, with fmt's text TOLD by the authors' own Lean function (tested against real Go, not proved from fmt's source: count such statements apart). THE CARD IS WHAT COUNTS. Prove the row's statement (the work); the ties are given (YtcamdfjjdigaeaaDoorTie.lean); close each card by the builder's one call (the guide's Derived/Test/ToyasCard.lean, 'card_holds'). Laid BY PROGRAM, IN A SANDBOX (cutbox-door.mjs). By AI agents, Wed Nov 11 2026. No macro, syntax, notation, axiom, sorry.
-/
import Derived.Test.YtcamdfjjdigaeaaDoorRows
import GoSem.ClaimSeven
namespace Go.Proofs.YtcamdfjjdigaeaaDoor
namespace Rows

/-- THE TIED CARD OF 'tollhouselaw07.FrameTells'. -/
def frameTellsCard : Claim7 := { stood := { row := frameTellsRow, standIns := [], harness := (true, "d504fbd1886882315be5e8cba4ae1fc5ff65aa6dcbcda7c57b0de8baecd2eed0"), looks := false }, kinds := [], alts := [], laidByText := true, laidKinds := [.data, .pinned], laidTests := true, laidLooks := .later }
def FrameTellsCardSaid : Prop := Claim7.holds Tryd.pinned (.plain (OpenSpec.ofChange frameTellsSpec)) frameTellsCard

/-- THE TIED CARD OF 'tollhouselaw07.FrameOthers'. -/
def frameOthersCard : Claim7 := { stood := { row := frameOthersRow, standIns := [], harness := (true, "d504fbd1886882315be5e8cba4ae1fc5ff65aa6dcbcda7c57b0de8baecd2eed0"), looks := false }, kinds := [], alts := [], laidByText := true, laidKinds := [.data, .pinned], laidTests := true, laidLooks := .later }
def FrameOthersCardSaid : Prop := Claim7.holds Tryd.pinned (.plain (OpenSpec.ofChange frameOthersSpec)) frameOthersCard

/-- THE TIED CARD OF 'tollhouselaw07.FrameBodiless'. -/
def frameBodilessCard : Claim7 := { stood := { row := frameBodilessRow, standIns := [], harness := (true, "d504fbd1886882315be5e8cba4ae1fc5ff65aa6dcbcda7c57b0de8baecd2eed0"), looks := false }, kinds := [], alts := [], laidByText := true, laidKinds := [.data, .pinned], laidTests := true, laidLooks := .later }
def FrameBodilessCardSaid : Prop := Claim7.holds Tryd.pinned (.plain (OpenSpec.ofChange frameBodilessSpec)) frameBodilessCard

/-- THE TIED CARD OF 'tollhouselaw07.FrameKnown'. -/
def frameKnownCard : Claim7 := { stood := { row := frameKnownRow, standIns := [], harness := (true, "d504fbd1886882315be5e8cba4ae1fc5ff65aa6dcbcda7c57b0de8baecd2eed0"), looks := false }, kinds := [], alts := [], laidByText := true, laidKinds := [.data, .pinned], laidTests := true, laidLooks := .later }
def FrameKnownCardSaid : Prop := Claim7.holds Tryd.pinned (.plain (OpenSpec.ofChange frameKnownSpec)) frameKnownCard

/-- THE TIED CARD OF 'tollhouselaw07.FrameSmuggles'. -/
def frameSmugglesCard : Claim7 := { stood := { row := frameSmugglesRow, standIns := [], harness := (true, "d504fbd1886882315be5e8cba4ae1fc5ff65aa6dcbcda7c57b0de8baecd2eed0"), looks := false }, kinds := [], alts := [], laidByText := true, laidKinds := [.data, .pinned, .pinned], laidTests := true, laidLooks := .later }
def FrameSmugglesCardSaid : Prop := Claim7.holds Tryd.pinned (.plain (OpenSpec.ofChange frameSmugglesSpec)) frameSmugglesCard

/-- THE SECOND FORM's CARD OF 'tollhouselaw07.FrameTells'. -/
def frameTellsUptoCard : Claim7 := { stood := { row := frameTellsUptoRow, standIns := [], harness := (true, "d504fbd1886882315be5e8cba4ae1fc5ff65aa6dcbcda7c57b0de8baecd2eed0"), looks := false }, kinds := [], alts := [], laidByText := true, laidKinds := [.data, .pinned], laidTests := true, laidLooks := .later }
def FrameTellsUptoCardSaid : Prop := Claim7.holds Tryd.pinned (.plain (OpenSpec.upto frameTellsSpec)) frameTellsUptoCard

/-- THE SECOND FORM's CARD OF 'tollhouselaw07.FrameOthers'. -/
def frameOthersUptoCard : Claim7 := { stood := { row := frameOthersUptoRow, standIns := [], harness := (true, "d504fbd1886882315be5e8cba4ae1fc5ff65aa6dcbcda7c57b0de8baecd2eed0"), looks := false }, kinds := [], alts := [], laidByText := true, laidKinds := [.data, .pinned], laidTests := true, laidLooks := .later }
def FrameOthersUptoCardSaid : Prop := Claim7.holds Tryd.pinned (.plain (OpenSpec.upto frameOthersSpec)) frameOthersUptoCard

/-- THE SECOND FORM's CARD OF 'tollhouselaw07.FrameBodiless'. -/
def frameBodilessUptoCard : Claim7 := { stood := { row := frameBodilessUptoRow, standIns := [], harness := (true, "d504fbd1886882315be5e8cba4ae1fc5ff65aa6dcbcda7c57b0de8baecd2eed0"), looks := false }, kinds := [], alts := [], laidByText := true, laidKinds := [.data, .pinned], laidTests := true, laidLooks := .later }
def FrameBodilessUptoCardSaid : Prop := Claim7.holds Tryd.pinned (.plain (OpenSpec.upto frameBodilessSpec)) frameBodilessUptoCard

/-- THE SECOND FORM's CARD OF 'tollhouselaw07.FrameKnown'. -/
def frameKnownUptoCard : Claim7 := { stood := { row := frameKnownUptoRow, standIns := [], harness := (true, "d504fbd1886882315be5e8cba4ae1fc5ff65aa6dcbcda7c57b0de8baecd2eed0"), looks := false }, kinds := [], alts := [], laidByText := true, laidKinds := [.data, .pinned], laidTests := true, laidLooks := .later }
def FrameKnownUptoCardSaid : Prop := Claim7.holds Tryd.pinned (.plain (OpenSpec.upto frameKnownSpec)) frameKnownUptoCard

/-- THE SECOND FORM's CARD OF 'tollhouselaw07.FrameSmuggles'. -/
def frameSmugglesUptoCard : Claim7 := { stood := { row := frameSmugglesUptoRow, standIns := [], harness := (true, "d504fbd1886882315be5e8cba4ae1fc5ff65aa6dcbcda7c57b0de8baecd2eed0"), looks := false }, kinds := [], alts := [], laidByText := true, laidKinds := [.data, .pinned, .pinned], laidTests := true, laidLooks := .later }
def FrameSmugglesUptoCardSaid : Prop := Claim7.holds Tryd.pinned (.plain (OpenSpec.upto frameSmugglesSpec)) frameSmugglesUptoCard
end Rows
end Go.Proofs.YtcamdfjjdigaeaaDoor
