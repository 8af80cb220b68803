/-
  DERIVED. GIVEN WITH THE SEED: THE CARDS: each row of YtbagfdolcabniaaDoorRows.lean that lists a variable, with what it lists TIED to the program's text (the seventh form; the later family's looks); each row that meets fmt, with fmt's text TOLD by the authors' own Lean function (tested against real Go, not proved from fmt's source: count such statements apart). THE CARD IS WHAT COUNTS. Prove the row's statement (the work); the ties are given (YtbagfdolcabniaaDoorTie.lean); close each card by the builder's one call (the guide's Derived/Test/ToyasCard.lean, 'card_holds'). Laid BY PROGRAM, IN A SANDBOX (cutbox-door.mjs). By AI agents, Wed Nov 11 2026. No macro, syntax, notation, axiom, sorry.
-/
import Derived.Test.YtbagfdolcabniaaDoorRows
import GoSem.ClaimSeven
namespace Go.Proofs.YtbagfdolcabniaaDoor
namespace Rows

/-- THE TIED CARD OF 'fasciclelaw14.RelKeeps'. -/
def relKeepsCard : Claim7 := { stood := { row := relKeepsRow, standIns := [], harness := (true, "7eac4a0bc3c0ded612ed25998ab755a3327ba784e98e55db88f5100d24827eb4"), looks := true }, kinds := [], alts := [], laidByText := true, laidKinds := [.data, .pinned], laidTests := true, laidLooks := .later }
def RelKeepsCardSaid : Prop := Claim7.holds Tryd.pinned (.plain (OpenSpec.ofChange relKeepsSpec)) relKeepsCard

/-- THE TIED CARD OF 'fasciclelaw15.TxnGets'. -/
def txnGetsCard : Claim7 := { stood := { row := txnGetsRow, standIns := [], harness := (true, "7eac4a0bc3c0ded612ed25998ab755a3327ba784e98e55db88f5100d24827eb4"), looks := true }, kinds := [], alts := [], laidByText := true, laidKinds := [.data, .pinned], laidTests := true, laidLooks := .later }
def TxnGetsCardSaid : Prop := Claim7.holds Tryd.pinned (.plain (OpenSpec.ofChange txnGetsSpec)) txnGetsCard

/-- THE TIED CARD OF 'fasciclelaw20.StreamOuts'. -/
def streamOutsCard : Claim7 := { stood := { row := streamOutsRow, standIns := [], harness := (true, "7eac4a0bc3c0ded612ed25998ab755a3327ba784e98e55db88f5100d24827eb4"), looks := true }, kinds := [], alts := [], laidByText := true, laidKinds := [.data, .pinned], laidTests := true, laidLooks := .later }
def StreamOutsCardSaid : Prop := Claim7.holds Tryd.pinned (.plain (OpenSpec.ofChange streamOutsSpec)) streamOutsCard

/-- THE TIED CARD OF 'fasciclelaw15.TxnNil'. -/
def txnNilCard : Claim7 := { stood := { row := txnNilRow, standIns := [], harness := (true, "7eac4a0bc3c0ded612ed25998ab755a3327ba784e98e55db88f5100d24827eb4"), looks := true }, kinds := [], alts := [], laidByText := true, laidKinds := [.data, .pinned], laidTests := true, laidLooks := .later }
def TxnNilCardSaid : Prop := Claim7.holds Tryd.pinned (.plain (OpenSpec.ofChange txnNilSpec)) txnNilCard

/-- THE TIED CARD OF 'fasciclelaw20.StreamBack'. -/
def streamBackCard : Claim7 := { stood := { row := streamBackRow, standIns := [], harness := (true, "7eac4a0bc3c0ded612ed25998ab755a3327ba784e98e55db88f5100d24827eb4"), looks := true }, kinds := [], alts := [], laidByText := true, laidKinds := [.data, .pinned], laidTests := true, laidLooks := .later }
def StreamBackCardSaid : Prop := Claim7.holds Tryd.pinned (.plain (OpenSpec.ofChange streamBackSpec)) streamBackCard

/-- THE TIED CARD OF 'fasciclelaw14.RelNil'. -/
def relNilCard : Claim7 := { stood := { row := relNilRow, standIns := [], harness := (true, "7eac4a0bc3c0ded612ed25998ab755a3327ba784e98e55db88f5100d24827eb4"), looks := true }, kinds := [], alts := [], laidByText := true, laidKinds := [.data, .pinned], laidTests := true, laidLooks := .later }
def RelNilCardSaid : Prop := Claim7.holds Tryd.pinned (.plain (OpenSpec.ofChange relNilSpec)) relNilCard

/-- THE TIED CARD OF 'fasciclelaw15.TxnWhole'. -/
def txnWholeCard : Claim7 := { stood := { row := txnWholeRow, standIns := [], harness := (true, "7eac4a0bc3c0ded612ed25998ab755a3327ba784e98e55db88f5100d24827eb4"), looks := true }, kinds := [], alts := [], laidByText := true, laidKinds := [.data, .pinned], laidTests := true, laidLooks := .later }
def TxnWholeCardSaid : Prop := Claim7.holds Tryd.pinned (.plain (OpenSpec.ofChange txnWholeSpec)) txnWholeCard

/-- THE SECOND FORM's CARD OF 'fasciclelaw14.RelKeeps'. -/
def relKeepsUptoCard : Claim7 := { stood := { row := relKeepsUptoRow, standIns := [], harness := (true, "7eac4a0bc3c0ded612ed25998ab755a3327ba784e98e55db88f5100d24827eb4"), looks := true }, kinds := [], alts := [], laidByText := true, laidKinds := [.data, .pinned], laidTests := true, laidLooks := .later }
def RelKeepsUptoCardSaid : Prop := Claim7.holds Tryd.pinned (.plain (OpenSpec.upto relKeepsSpec)) relKeepsUptoCard

/-- THE SECOND FORM's CARD OF 'fasciclelaw15.TxnGets'. -/
def txnGetsUptoCard : Claim7 := { stood := { row := txnGetsUptoRow, standIns := [], harness := (true, "7eac4a0bc3c0ded612ed25998ab755a3327ba784e98e55db88f5100d24827eb4"), looks := true }, kinds := [], alts := [], laidByText := true, laidKinds := [.data, .pinned], laidTests := true, laidLooks := .later }
def TxnGetsUptoCardSaid : Prop := Claim7.holds Tryd.pinned (.plain (OpenSpec.upto txnGetsSpec)) txnGetsUptoCard

/-- THE SECOND FORM's CARD OF 'fasciclelaw20.StreamOuts'. -/
def streamOutsUptoCard : Claim7 := { stood := { row := streamOutsUptoRow, standIns := [], harness := (true, "7eac4a0bc3c0ded612ed25998ab755a3327ba784e98e55db88f5100d24827eb4"), looks := true }, kinds := [], alts := [], laidByText := true, laidKinds := [.data, .pinned], laidTests := true, laidLooks := .later }
def StreamOutsUptoCardSaid : Prop := Claim7.holds Tryd.pinned (.plain (OpenSpec.upto streamOutsSpec)) streamOutsUptoCard

/-- THE SECOND FORM's CARD OF 'fasciclelaw15.TxnNil'. -/
def txnNilUptoCard : Claim7 := { stood := { row := txnNilUptoRow, standIns := [], harness := (true, "7eac4a0bc3c0ded612ed25998ab755a3327ba784e98e55db88f5100d24827eb4"), looks := true }, kinds := [], alts := [], laidByText := true, laidKinds := [.data, .pinned], laidTests := true, laidLooks := .later }
def TxnNilUptoCardSaid : Prop := Claim7.holds Tryd.pinned (.plain (OpenSpec.upto txnNilSpec)) txnNilUptoCard

/-- THE SECOND FORM's CARD OF 'fasciclelaw20.StreamBack'. -/
def streamBackUptoCard : Claim7 := { stood := { row := streamBackUptoRow, standIns := [], harness := (true, "7eac4a0bc3c0ded612ed25998ab755a3327ba784e98e55db88f5100d24827eb4"), looks := true }, kinds := [], alts := [], laidByText := true, laidKinds := [.data, .pinned], laidTests := true, laidLooks := .later }
def StreamBackUptoCardSaid : Prop := Claim7.holds Tryd.pinned (.plain (OpenSpec.upto streamBackSpec)) streamBackUptoCard

/-- THE SECOND FORM's CARD OF 'fasciclelaw14.RelNil'. -/
def relNilUptoCard : Claim7 := { stood := { row := relNilUptoRow, standIns := [], harness := (true, "7eac4a0bc3c0ded612ed25998ab755a3327ba784e98e55db88f5100d24827eb4"), looks := true }, kinds := [], alts := [], laidByText := true, laidKinds := [.data, .pinned], laidTests := true, laidLooks := .later }
def RelNilUptoCardSaid : Prop := Claim7.holds Tryd.pinned (.plain (OpenSpec.upto relNilSpec)) relNilUptoCard

/-- THE SECOND FORM's CARD OF 'fasciclelaw15.TxnWhole'. -/
def txnWholeUptoCard : Claim7 := { stood := { row := txnWholeUptoRow, standIns := [], harness := (true, "7eac4a0bc3c0ded612ed25998ab755a3327ba784e98e55db88f5100d24827eb4"), looks := true }, kinds := [], alts := [], laidByText := true, laidKinds := [.data, .pinned], laidTests := true, laidLooks := .later }
def TxnWholeUptoCardSaid : Prop := Claim7.holds Tryd.pinned (.plain (OpenSpec.upto txnWholeSpec)) txnWholeUptoCard
end Rows
end Go.Proofs.YtbagfdolcabniaaDoor
