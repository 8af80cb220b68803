/-
  DERIVED. GIVEN WITH THE SEED: THE CARDS: each row of YtphaegcoldpclaaDoorRows.lean that lists a variable, with what it lists TIED to the program's text (the seventh form; the later family's looks); each row that meets fmt, with fmt's text TOLD by the authors' own Lean function (tested against real Go, not proved from fmt's source: count such statements apart). THE CARD IS WHAT COUNTS. Prove the row's statement (the work); the ties are given (YtphaegcoldpclaaDoorTie.lean); close each card by the builder's one call (the guide's Derived/Test/ToyasCard.lean, 'card_holds'). Laid BY PROGRAM, IN A SANDBOX (cutbox-door.mjs). By AI agents, Wed Nov 11 2026. No macro, syntax, notation, axiom, sorry.
-/
import Derived.Test.YtphaegcoldpclaaDoorRows
import GoSem.ClaimSeven
namespace Go.Proofs.YtphaegcoldpclaaDoor
namespace Rows

/-- THE TIED CARD OF 'fasciclelaw20.StreamOuts'. -/
def streamOutsCard : Claim7 := { stood := { row := streamOutsRow, standIns := [], harness := (true, "a5c83cb9ad3cda7e1ac44449c2c7c4e2b8453582ebf38c872134e7aa8361ecf2"), looks := true }, kinds := [], alts := [], laidByText := true, laidKinds := [.data, .pinned], laidTests := true, laidLooks := .later }
def StreamOutsCardSaid : Prop := Claim7.holds Tryd.pinned (.plain (OpenSpec.ofChange streamOutsSpec)) streamOutsCard

/-- THE TIED CARD OF 'fasciclelaw20.StreamBack'. -/
def streamBackCard : Claim7 := { stood := { row := streamBackRow, standIns := [], harness := (true, "a5c83cb9ad3cda7e1ac44449c2c7c4e2b8453582ebf38c872134e7aa8361ecf2"), looks := true }, kinds := [], alts := [], laidByText := true, laidKinds := [.data, .pinned], laidTests := true, laidLooks := .later }
def StreamBackCardSaid : Prop := Claim7.holds Tryd.pinned (.plain (OpenSpec.ofChange streamBackSpec)) streamBackCard

/-- THE TIED CARD OF 'fasciclelaw24.AggSizes'. -/
def aggSizesCard : Claim7 := { stood := { row := aggSizesRow, standIns := [], harness := (true, "a5c83cb9ad3cda7e1ac44449c2c7c4e2b8453582ebf38c872134e7aa8361ecf2"), looks := true }, kinds := [], alts := [], laidByText := true, laidKinds := [.data, .pinned], laidTests := true, laidLooks := .later }
def AggSizesCardSaid : Prop := Claim7.holds Tryd.pinned (.plain (OpenSpec.ofChange aggSizesSpec)) aggSizesCard

/-- THE SECOND FORM's CARD OF 'fasciclelaw20.StreamOuts'. -/
def streamOutsUptoCard : Claim7 := { stood := { row := streamOutsUptoRow, standIns := [], harness := (true, "a5c83cb9ad3cda7e1ac44449c2c7c4e2b8453582ebf38c872134e7aa8361ecf2"), looks := true }, kinds := [], alts := [], laidByText := true, laidKinds := [.data, .pinned], laidTests := true, laidLooks := .later }
def StreamOutsUptoCardSaid : Prop := Claim7.holds Tryd.pinned (.plain (OpenSpec.upto streamOutsSpec)) streamOutsUptoCard

/-- THE SECOND FORM's CARD OF 'fasciclelaw20.StreamBack'. -/
def streamBackUptoCard : Claim7 := { stood := { row := streamBackUptoRow, standIns := [], harness := (true, "a5c83cb9ad3cda7e1ac44449c2c7c4e2b8453582ebf38c872134e7aa8361ecf2"), looks := true }, kinds := [], alts := [], laidByText := true, laidKinds := [.data, .pinned], laidTests := true, laidLooks := .later }
def StreamBackUptoCardSaid : Prop := Claim7.holds Tryd.pinned (.plain (OpenSpec.upto streamBackSpec)) streamBackUptoCard

/-- THE SECOND FORM's CARD OF 'fasciclelaw24.AggSizes'. -/
def aggSizesUptoCard : Claim7 := { stood := { row := aggSizesUptoRow, standIns := [], harness := (true, "a5c83cb9ad3cda7e1ac44449c2c7c4e2b8453582ebf38c872134e7aa8361ecf2"), looks := true }, kinds := [], alts := [], laidByText := true, laidKinds := [.data, .pinned], laidTests := true, laidLooks := .later }
def AggSizesUptoCardSaid : Prop := Claim7.holds Tryd.pinned (.plain (OpenSpec.upto aggSizesSpec)) aggSizesUptoCard
end Rows
end Go.Proofs.YtphaegcoldpclaaDoor
