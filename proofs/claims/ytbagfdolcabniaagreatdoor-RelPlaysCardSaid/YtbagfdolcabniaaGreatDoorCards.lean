/-
  DERIVED. GIVEN WITH THE SEED: THE CARDS: each row of YtbagfdolcabniaaGreatDoorRows.lean that lists a variable, with what it lists TIED to the program's text (the seventh form; the later family's looks); each row that meets fmt, with fmt's text TOLD by the authors' own Lean function (tested against real Go, not proved from fmt's source: count such statements apart). THE CARD IS WHAT COUNTS. Prove the row's statement (the work); the ties are given (YtbagfdolcabniaaGreatDoorTie.lean); close each card by the builder's one call (the guide's Derived/Test/ToyasCard.lean, 'card_holds'). Laid BY PROGRAM, IN A SANDBOX (cutbox-door.mjs). By AI agents, Wed Nov 11 2026. No macro, syntax, notation, axiom, sorry.
-/
import Derived.Test.YtbagfdolcabniaaGreatDoorRows
import GoSem.ClaimSeven
namespace Go.Proofs.YtbagfdolcabniaaGreatDoor
namespace Rows

/-- THE TIED CARD OF 'fasciclelaw14.RelCopies'. -/
def relCopiesCard : Claim7 := { stood := { row := relCopiesRow, standIns := [], harness := (true, "cfdc2540f442f919b61976b468bdc3b2b9976912236a1fc2b3dc5bcbcd2deb74"), looks := true }, kinds := [], alts := [], laidByText := true, laidKinds := [.data, .pinned], laidTests := true, laidLooks := .later }
def RelCopiesCardSaid : Prop := Claim7.holds Tryz.pinned (.plain (OpenSpec.ofChange relCopiesSpec)) relCopiesCard

/-- THE TIED CARD OF 'fasciclelaw14.RelPlays'. -/
def relPlaysCard : Claim7 := { stood := { row := relPlaysRow, standIns := [], harness := (true, "cfdc2540f442f919b61976b468bdc3b2b9976912236a1fc2b3dc5bcbcd2deb74"), looks := true }, kinds := [], alts := [], laidByText := true, laidKinds := [.data, .pinned], laidTests := true, laidLooks := .later }
def RelPlaysCardSaid : Prop := Claim7.holds Tryz.pinned (.plain (OpenSpec.ofChange relPlaysSpec)) relPlaysCard

/-- THE TIED CARD OF 'fasciclelaw15.TxnPlays'. -/
def txnPlaysCard : Claim7 := { stood := { row := txnPlaysRow, standIns := [], harness := (true, "cfdc2540f442f919b61976b468bdc3b2b9976912236a1fc2b3dc5bcbcd2deb74"), looks := true }, kinds := [], alts := [], laidByText := true, laidKinds := [.data, .pinned], laidTests := true, laidLooks := .later }
def TxnPlaysCardSaid : Prop := Claim7.holds Tryz.pinned (.plain (OpenSpec.ofChange txnPlaysSpec)) txnPlaysCard

/-- THE TIED CARD OF 'fasciclelaw20.StreamReads'. -/
def streamReadsCard : Claim7 := { stood := { row := streamReadsRow, standIns := [], harness := (true, "cfdc2540f442f919b61976b468bdc3b2b9976912236a1fc2b3dc5bcbcd2deb74"), looks := true }, kinds := [], alts := [], laidByText := true, laidKinds := [.data, .pinned], laidTests := true, laidLooks := .later }
def StreamReadsCardSaid : Prop := Claim7.holds Tryz.pinned (.plain (OpenSpec.ofChange streamReadsSpec)) streamReadsCard

/-- THE SECOND FORM's CARD OF 'fasciclelaw14.RelCopies'. -/
def relCopiesUptoCard : Claim7 := { stood := { row := relCopiesUptoRow, standIns := [], harness := (true, "cfdc2540f442f919b61976b468bdc3b2b9976912236a1fc2b3dc5bcbcd2deb74"), looks := true }, kinds := [], alts := [], laidByText := true, laidKinds := [.data, .pinned], laidTests := true, laidLooks := .later }
def RelCopiesUptoCardSaid : Prop := Claim7.holds Tryz.pinned (.plain (OpenSpec.upto relCopiesSpec)) relCopiesUptoCard

/-- THE SECOND FORM's CARD OF 'fasciclelaw14.RelPlays'. -/
def relPlaysUptoCard : Claim7 := { stood := { row := relPlaysUptoRow, standIns := [], harness := (true, "cfdc2540f442f919b61976b468bdc3b2b9976912236a1fc2b3dc5bcbcd2deb74"), looks := true }, kinds := [], alts := [], laidByText := true, laidKinds := [.data, .pinned], laidTests := true, laidLooks := .later }
def RelPlaysUptoCardSaid : Prop := Claim7.holds Tryz.pinned (.plain (OpenSpec.upto relPlaysSpec)) relPlaysUptoCard

/-- THE SECOND FORM's CARD OF 'fasciclelaw15.TxnPlays'. -/
def txnPlaysUptoCard : Claim7 := { stood := { row := txnPlaysUptoRow, standIns := [], harness := (true, "cfdc2540f442f919b61976b468bdc3b2b9976912236a1fc2b3dc5bcbcd2deb74"), looks := true }, kinds := [], alts := [], laidByText := true, laidKinds := [.data, .pinned], laidTests := true, laidLooks := .later }
def TxnPlaysUptoCardSaid : Prop := Claim7.holds Tryz.pinned (.plain (OpenSpec.upto txnPlaysSpec)) txnPlaysUptoCard

/-- THE SECOND FORM's CARD OF 'fasciclelaw20.StreamReads'. -/
def streamReadsUptoCard : Claim7 := { stood := { row := streamReadsUptoRow, standIns := [], harness := (true, "cfdc2540f442f919b61976b468bdc3b2b9976912236a1fc2b3dc5bcbcd2deb74"), looks := true }, kinds := [], alts := [], laidByText := true, laidKinds := [.data, .pinned], laidTests := true, laidLooks := .later }
def StreamReadsUptoCardSaid : Prop := Claim7.holds Tryz.pinned (.plain (OpenSpec.upto streamReadsSpec)) streamReadsUptoCard
end Rows
end Go.Proofs.YtbagfdolcabniaaGreatDoor
