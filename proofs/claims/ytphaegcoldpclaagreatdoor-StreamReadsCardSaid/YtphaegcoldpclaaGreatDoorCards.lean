/-
  DERIVED. GIVEN WITH THE SEED: THE CARDS: each row of YtphaegcoldpclaaGreatDoorRows.lean that lists a variable, with what it lists TIED to the program's text (the seventh form; the later family's looks); each row that meets fmt, with fmt's text TOLD by the authors' own Lean function (tested against real Go, not proved from fmt's source: count such statements apart). THE CARD IS WHAT COUNTS. Prove the row's statement (the work); the ties are given (YtphaegcoldpclaaGreatDoorTie.lean); close each card by the builder's one call (the guide's Derived/Test/ToyasCard.lean, 'card_holds'). Laid BY PROGRAM, IN A SANDBOX (cutbox-door.mjs). By AI agents, Wed Nov 11 2026. No macro, syntax, notation, axiom, sorry.
-/
import Derived.Test.YtphaegcoldpclaaGreatDoorRows
import GoSem.ClaimSeven
namespace Go.Proofs.YtphaegcoldpclaaGreatDoor
namespace Rows

/-- THE TIED CARD OF 'fasciclelaw24.AggTells'. -/
def aggTellsCard : Claim7 := { stood := { row := aggTellsRow, standIns := [], harness := (true, "6baa9b5b9f063661e78d2a5f6f8108be0e4e129bb05ffb3b7a0833cd45bffb77"), looks := true }, kinds := [], alts := [], laidByText := true, laidKinds := [.data, .pinned], laidTests := true, laidLooks := .later }
def AggTellsCardSaid : Prop := Claim7.holds Tryz.pinned (.plain (OpenSpec.ofChange aggTellsSpec)) aggTellsCard

/-- THE TIED CARD OF 'fasciclelaw24.AggOnce'. -/
def aggOnceCard : Claim7 := { stood := { row := aggOnceRow, standIns := [], harness := (true, "6baa9b5b9f063661e78d2a5f6f8108be0e4e129bb05ffb3b7a0833cd45bffb77"), looks := true }, kinds := [], alts := [], laidByText := true, laidKinds := [.data, .pinned], laidTests := true, laidLooks := .later }
def AggOnceCardSaid : Prop := Claim7.holds Tryz.pinned (.plain (OpenSpec.ofChange aggOnceSpec)) aggOnceCard

/-- THE TIED CARD OF 'fasciclelaw24.AggLocal'. -/
def aggLocalCard : Claim7 := { stood := { row := aggLocalRow, standIns := [], harness := (true, "6baa9b5b9f063661e78d2a5f6f8108be0e4e129bb05ffb3b7a0833cd45bffb77"), looks := true }, kinds := [], alts := [], laidByText := true, laidKinds := [.data, .pinned], laidTests := true, laidLooks := .later }
def AggLocalCardSaid : Prop := Claim7.holds Tryz.pinned (.plain (OpenSpec.ofChange aggLocalSpec)) aggLocalCard

/-- THE TIED CARD OF 'fasciclelaw20.StreamReads'. -/
def streamReadsCard : Claim7 := { stood := { row := streamReadsRow, standIns := [], harness := (true, "6baa9b5b9f063661e78d2a5f6f8108be0e4e129bb05ffb3b7a0833cd45bffb77"), looks := true }, kinds := [], alts := [], laidByText := true, laidKinds := [.data, .pinned], laidTests := true, laidLooks := .later }
def StreamReadsCardSaid : Prop := Claim7.holds Tryz.pinned (.plain (OpenSpec.ofChange streamReadsSpec)) streamReadsCard

/-- THE SECOND FORM's CARD OF 'fasciclelaw24.AggTells'. -/
def aggTellsUptoCard : Claim7 := { stood := { row := aggTellsUptoRow, standIns := [], harness := (true, "6baa9b5b9f063661e78d2a5f6f8108be0e4e129bb05ffb3b7a0833cd45bffb77"), looks := true }, kinds := [], alts := [], laidByText := true, laidKinds := [.data, .pinned], laidTests := true, laidLooks := .later }
def AggTellsUptoCardSaid : Prop := Claim7.holds Tryz.pinned (.plain (OpenSpec.upto aggTellsSpec)) aggTellsUptoCard

/-- THE SECOND FORM's CARD OF 'fasciclelaw24.AggOnce'. -/
def aggOnceUptoCard : Claim7 := { stood := { row := aggOnceUptoRow, standIns := [], harness := (true, "6baa9b5b9f063661e78d2a5f6f8108be0e4e129bb05ffb3b7a0833cd45bffb77"), looks := true }, kinds := [], alts := [], laidByText := true, laidKinds := [.data, .pinned], laidTests := true, laidLooks := .later }
def AggOnceUptoCardSaid : Prop := Claim7.holds Tryz.pinned (.plain (OpenSpec.upto aggOnceSpec)) aggOnceUptoCard

/-- THE SECOND FORM's CARD OF 'fasciclelaw24.AggLocal'. -/
def aggLocalUptoCard : Claim7 := { stood := { row := aggLocalUptoRow, standIns := [], harness := (true, "6baa9b5b9f063661e78d2a5f6f8108be0e4e129bb05ffb3b7a0833cd45bffb77"), looks := true }, kinds := [], alts := [], laidByText := true, laidKinds := [.data, .pinned], laidTests := true, laidLooks := .later }
def AggLocalUptoCardSaid : Prop := Claim7.holds Tryz.pinned (.plain (OpenSpec.upto aggLocalSpec)) aggLocalUptoCard

/-- THE SECOND FORM's CARD OF 'fasciclelaw20.StreamReads'. -/
def streamReadsUptoCard : Claim7 := { stood := { row := streamReadsUptoRow, standIns := [], harness := (true, "6baa9b5b9f063661e78d2a5f6f8108be0e4e129bb05ffb3b7a0833cd45bffb77"), looks := true }, kinds := [], alts := [], laidByText := true, laidKinds := [.data, .pinned], laidTests := true, laidLooks := .later }
def StreamReadsUptoCardSaid : Prop := Claim7.holds Tryz.pinned (.plain (OpenSpec.upto streamReadsSpec)) streamReadsUptoCard
end Rows
end Go.Proofs.YtphaegcoldpclaaGreatDoor
