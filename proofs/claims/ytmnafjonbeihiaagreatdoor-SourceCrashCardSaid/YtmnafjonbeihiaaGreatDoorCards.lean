/-
  DERIVED. GIVEN WITH THE SEED: THE CARDS: each row of YtmnafjonbeihiaaGreatDoorRows.lean that lists a variable, with what it lists TIED to the program's text (the seventh form; the later family's looks); each row that meets fmt, with fmt's text TOLD by the authors' own Lean function (tested against real Go, not proved from fmt's source: count such statements apart). THE CARD IS WHAT COUNTS. Prove the row's statement (the work); the ties are given (YtmnafjonbeihiaaGreatDoorTie.lean); close each card by the builder's one call (the guide's Derived/Test/ToyasCard.lean, 'card_holds'). Laid BY PROGRAM, IN A SANDBOX (cutbox-door.mjs). By AI agents, Wed Nov 11 2026. No macro, syntax, notation, axiom, sorry.
-/
import Derived.Test.YtmnafjonbeihiaaGreatDoorRows
import GoSem.ClaimSeven
namespace Go.Proofs.YtmnafjonbeihiaaGreatDoor
namespace Rows

/-- THE TIED CARD OF 'fasciclelaw17.SourceNil'. -/
def sourceNilCard : Claim7 := { stood := { row := sourceNilRow, standIns := [], harness := (true, "6f7b99379e6bfd6a3e673efffecd01951de99ea9e2c27d1a89f01b90400cb314"), looks := true }, kinds := [], alts := [], laidByText := true, laidKinds := [.data, .pinned], laidTests := true, laidLooks := .later }
def SourceNilCardSaid : Prop := Claim7.holds Tryz.pinned (.plain (OpenSpec.ofChange sourceNilSpec)) sourceNilCard

/-- THE TIED CARD OF 'fasciclelaw17.SourceStates'. -/
def sourceStatesCard : Claim7 := { stood := { row := sourceStatesRow, standIns := [], harness := (true, "6f7b99379e6bfd6a3e673efffecd01951de99ea9e2c27d1a89f01b90400cb314"), looks := true }, kinds := [], alts := [], laidByText := true, laidKinds := [.data, .pinned], laidTests := true, laidLooks := .later }
def SourceStatesCardSaid : Prop := Claim7.holds Tryz.pinned (.plain (OpenSpec.ofChange sourceStatesSpec)) sourceStatesCard

/-- THE TIED CARD OF 'fasciclelaw17.SourceCrash'. -/
def sourceCrashCard : Claim7 := { stood := { row := sourceCrashRow, standIns := [], harness := (true, "6f7b99379e6bfd6a3e673efffecd01951de99ea9e2c27d1a89f01b90400cb314"), looks := true }, kinds := [], alts := [], laidByText := true, laidKinds := [.data, .pinned], laidTests := true, laidLooks := .later }
def SourceCrashCardSaid : Prop := Claim7.holds Tryz.pinned (.plain (OpenSpec.ofChange sourceCrashSpec)) sourceCrashCard

/-- THE TIED CARD OF 'fasciclelaw17.SourcePlays'. -/
def sourcePlaysCard : Claim7 := { stood := { row := sourcePlaysRow, standIns := [], harness := (true, "6f7b99379e6bfd6a3e673efffecd01951de99ea9e2c27d1a89f01b90400cb314"), looks := true }, kinds := [], alts := [], laidByText := true, laidKinds := [.data, .pinned], laidTests := true, laidLooks := .later }
def SourcePlaysCardSaid : Prop := Claim7.holds Tryz.pinned (.plain (OpenSpec.ofChange sourcePlaysSpec)) sourcePlaysCard

/-- THE SECOND FORM's CARD OF 'fasciclelaw17.SourceNil'. -/
def sourceNilUptoCard : Claim7 := { stood := { row := sourceNilUptoRow, standIns := [], harness := (true, "6f7b99379e6bfd6a3e673efffecd01951de99ea9e2c27d1a89f01b90400cb314"), looks := true }, kinds := [], alts := [], laidByText := true, laidKinds := [.data, .pinned], laidTests := true, laidLooks := .later }
def SourceNilUptoCardSaid : Prop := Claim7.holds Tryz.pinned (.plain (OpenSpec.upto sourceNilSpec)) sourceNilUptoCard

/-- THE SECOND FORM's CARD OF 'fasciclelaw17.SourceStates'. -/
def sourceStatesUptoCard : Claim7 := { stood := { row := sourceStatesUptoRow, standIns := [], harness := (true, "6f7b99379e6bfd6a3e673efffecd01951de99ea9e2c27d1a89f01b90400cb314"), looks := true }, kinds := [], alts := [], laidByText := true, laidKinds := [.data, .pinned], laidTests := true, laidLooks := .later }
def SourceStatesUptoCardSaid : Prop := Claim7.holds Tryz.pinned (.plain (OpenSpec.upto sourceStatesSpec)) sourceStatesUptoCard

/-- THE SECOND FORM's CARD OF 'fasciclelaw17.SourceCrash'. -/
def sourceCrashUptoCard : Claim7 := { stood := { row := sourceCrashUptoRow, standIns := [], harness := (true, "6f7b99379e6bfd6a3e673efffecd01951de99ea9e2c27d1a89f01b90400cb314"), looks := true }, kinds := [], alts := [], laidByText := true, laidKinds := [.data, .pinned], laidTests := true, laidLooks := .later }
def SourceCrashUptoCardSaid : Prop := Claim7.holds Tryz.pinned (.plain (OpenSpec.upto sourceCrashSpec)) sourceCrashUptoCard

/-- THE SECOND FORM's CARD OF 'fasciclelaw17.SourcePlays'. -/
def sourcePlaysUptoCard : Claim7 := { stood := { row := sourcePlaysUptoRow, standIns := [], harness := (true, "6f7b99379e6bfd6a3e673efffecd01951de99ea9e2c27d1a89f01b90400cb314"), looks := true }, kinds := [], alts := [], laidByText := true, laidKinds := [.data, .pinned], laidTests := true, laidLooks := .later }
def SourcePlaysUptoCardSaid : Prop := Claim7.holds Tryz.pinned (.plain (OpenSpec.upto sourcePlaysSpec)) sourcePlaysUptoCard
end Rows
end Go.Proofs.YtmnafjonbeihiaaGreatDoor
