/-
  DERIVED. GIVEN WITH THE SEED: THE CARDS: each row of YtmmahkckemclaaaGreatDoorRows.lean that lists a variable, with what it lists TIED to the program's text (the seventh form; the later family's looks); each row that meets fmt, with fmt's text TOLD by the authors' own Lean function (tested against real Go, not proved from fmt's source: count such statements apart). THE CARD IS WHAT COUNTS. Prove the row's statement (the work); the ties are given (YtmmahkckemclaaaGreatDoorTie.lean); close each card by the builder's one call (the guide's Derived/Test/ToyasCard.lean, 'card_holds'). Laid BY PROGRAM, IN A SANDBOX (cutbox-door.mjs). By AI agents, Wed Nov 11 2026. No macro, syntax, notation, axiom, sorry.
-/
import Derived.Test.YtmmahkckemclaaaGreatDoorRows
import GoSem.ClaimSeven
namespace Go.Proofs.YtmmahkckemclaaaGreatDoor
namespace Rows

/-- THE TIED CARD OF 'towncrierlaw06.PropIs'. -/
def propIsCard : Claim7 := { stood := { row := propIsRow, standIns := [], harness := (true, "d96f64770fba2abfd23ce4564bad67c9f7c472b81b6c27cee76d0f3638456ae3"), looks := true }, kinds := [], alts := [], laidByText := true, laidKinds := [.handle, .sentinel, .sentinel, .sentinel, .sentinel, .sentinel, .sentinel, .sentinel], laidTests := true, laidLooks := .later }
def PropIsCardSaid : Prop := Claim7.holds Tryz.pinned (.plain (OpenSpec.ofChange propIsSpec)) propIsCard

/-- THE TIED CARD OF 'towncrierlaw10.PublishEncodes'. -/
def publishEncodesCard : Claim7 := { stood := { row := publishEncodesRow, standIns := [], harness := (true, "d96f64770fba2abfd23ce4564bad67c9f7c472b81b6c27cee76d0f3638456ae3"), looks := true }, kinds := [], alts := [], laidByText := true, laidKinds := [.handle, .sentinel, .sentinel, .sentinel, .sentinel, .sentinel, .sentinel, .sentinel], laidTests := true, laidLooks := .later }
def PublishEncodesCardSaid : Prop := Claim7.holds Tryz.pinned (.plain (OpenSpec.ofChange publishEncodesSpec)) publishEncodesCard

/-- THE TIED CARD OF 'towncrierlaw10.PublishBack'. -/
def publishBackCard : Claim7 := { stood := { row := publishBackRow, standIns := [], harness := (true, "d96f64770fba2abfd23ce4564bad67c9f7c472b81b6c27cee76d0f3638456ae3"), looks := true }, kinds := [], alts := [], laidByText := true, laidKinds := [.handle, .sentinel, .sentinel, .sentinel, .sentinel, .sentinel, .sentinel, .sentinel], laidTests := true, laidLooks := .later }
def PublishBackCardSaid : Prop := Claim7.holds Tryz.pinned (.plain (OpenSpec.ofChange publishBackSpec)) publishBackCard

/-- THE TIED CARD OF 'towncrierlaw08.ConnectBack'. -/
def connectBackCard : Claim7 := { stood := { row := connectBackRow, standIns := [], harness := (true, "d96f64770fba2abfd23ce4564bad67c9f7c472b81b6c27cee76d0f3638456ae3"), looks := true }, kinds := [], alts := [], laidByText := true, laidKinds := [.handle, .sentinel, .sentinel, .sentinel, .sentinel], laidTests := true, laidLooks := .later }
def ConnectBackCardSaid : Prop := Claim7.holds Tryz.pinned (.plain (OpenSpec.ofChange connectBackSpec)) connectBackCard

/-- THE TIED CARD OF 'towncrierlaw34.StoreReplays'. -/
def storeReplaysCard : Claim7 := { stood := { row := storeReplaysRow, standIns := [], harness := (true, "d96f64770fba2abfd23ce4564bad67c9f7c472b81b6c27cee76d0f3638456ae3"), looks := true }, kinds := [], alts := [], laidByText := true, laidKinds := [.handle, .sentinel, .sentinel, .sentinel, .sentinel, .sentinel], laidTests := true, laidLooks := .later }
def StoreReplaysCardSaid : Prop := Claim7.holds Tryz.pinned (.plain (OpenSpec.ofChange storeReplaysSpec)) storeReplaysCard

/-- THE TIED CARD OF 'towncrierlaw11.AckBack'. -/
def ackBackCard : Claim7 := { stood := { row := ackBackRow, standIns := [], harness := (true, "d96f64770fba2abfd23ce4564bad67c9f7c472b81b6c27cee76d0f3638456ae3"), looks := true }, kinds := [], alts := [], laidByText := true, laidKinds := [.handle, .sentinel, .sentinel, .sentinel, .sentinel, .sentinel], laidTests := true, laidLooks := .later }
def AckBackCardSaid : Prop := Claim7.holds Tryz.pinned (.plain (OpenSpec.ofChange ackBackSpec)) ackBackCard

/-- THE TIED CARD OF 'towncrierlaw13.UnsubBack'. -/
def unsubBackCard : Claim7 := { stood := { row := unsubBackRow, standIns := [], harness := (true, "d96f64770fba2abfd23ce4564bad67c9f7c472b81b6c27cee76d0f3638456ae3"), looks := true }, kinds := [], alts := [], laidByText := true, laidKinds := [.handle, .sentinel, .sentinel, .sentinel, .sentinel, .sentinel], laidTests := true, laidLooks := .later }
def UnsubBackCardSaid : Prop := Claim7.holds Tryz.pinned (.plain (OpenSpec.ofChange unsubBackSpec)) unsubBackCard

/-- THE TIED CARD OF 'towncrierlaw08.ConnectEncodes'. -/
def connectEncodesCard : Claim7 := { stood := { row := connectEncodesRow, standIns := [], harness := (true, "d96f64770fba2abfd23ce4564bad67c9f7c472b81b6c27cee76d0f3638456ae3"), looks := true }, kinds := [], alts := [], laidByText := true, laidKinds := [.handle, .sentinel, .sentinel, .sentinel, .sentinel, .sentinel, .sentinel, .sentinel], laidTests := true, laidLooks := .later }
def ConnectEncodesCardSaid : Prop := Claim7.holds Tryz.pinned (.plain (OpenSpec.ofChange connectEncodesSpec)) connectEncodesCard

/-- THE SECOND FORM's CARD OF 'towncrierlaw06.PropIs'. -/
def propIsUptoCard : Claim7 := { stood := { row := propIsUptoRow, standIns := [], harness := (true, "d96f64770fba2abfd23ce4564bad67c9f7c472b81b6c27cee76d0f3638456ae3"), looks := true }, kinds := [], alts := [], laidByText := true, laidKinds := [.handle, .sentinel, .sentinel, .sentinel, .sentinel, .sentinel, .sentinel, .sentinel], laidTests := true, laidLooks := .later }
def PropIsUptoCardSaid : Prop := Claim7.holds Tryz.pinned (.plain (OpenSpec.upto propIsSpec)) propIsUptoCard

/-- THE SECOND FORM's CARD OF 'towncrierlaw10.PublishEncodes'. -/
def publishEncodesUptoCard : Claim7 := { stood := { row := publishEncodesUptoRow, standIns := [], harness := (true, "d96f64770fba2abfd23ce4564bad67c9f7c472b81b6c27cee76d0f3638456ae3"), looks := true }, kinds := [], alts := [], laidByText := true, laidKinds := [.handle, .sentinel, .sentinel, .sentinel, .sentinel, .sentinel, .sentinel, .sentinel], laidTests := true, laidLooks := .later }
def PublishEncodesUptoCardSaid : Prop := Claim7.holds Tryz.pinned (.plain (OpenSpec.upto publishEncodesSpec)) publishEncodesUptoCard

/-- THE SECOND FORM's CARD OF 'towncrierlaw10.PublishBack'. -/
def publishBackUptoCard : Claim7 := { stood := { row := publishBackUptoRow, standIns := [], harness := (true, "d96f64770fba2abfd23ce4564bad67c9f7c472b81b6c27cee76d0f3638456ae3"), looks := true }, kinds := [], alts := [], laidByText := true, laidKinds := [.handle, .sentinel, .sentinel, .sentinel, .sentinel, .sentinel, .sentinel, .sentinel], laidTests := true, laidLooks := .later }
def PublishBackUptoCardSaid : Prop := Claim7.holds Tryz.pinned (.plain (OpenSpec.upto publishBackSpec)) publishBackUptoCard

/-- THE SECOND FORM's CARD OF 'towncrierlaw08.ConnectBack'. -/
def connectBackUptoCard : Claim7 := { stood := { row := connectBackUptoRow, standIns := [], harness := (true, "d96f64770fba2abfd23ce4564bad67c9f7c472b81b6c27cee76d0f3638456ae3"), looks := true }, kinds := [], alts := [], laidByText := true, laidKinds := [.handle, .sentinel, .sentinel, .sentinel, .sentinel], laidTests := true, laidLooks := .later }
def ConnectBackUptoCardSaid : Prop := Claim7.holds Tryz.pinned (.plain (OpenSpec.upto connectBackSpec)) connectBackUptoCard

/-- THE SECOND FORM's CARD OF 'towncrierlaw34.StoreReplays'. -/
def storeReplaysUptoCard : Claim7 := { stood := { row := storeReplaysUptoRow, standIns := [], harness := (true, "d96f64770fba2abfd23ce4564bad67c9f7c472b81b6c27cee76d0f3638456ae3"), looks := true }, kinds := [], alts := [], laidByText := true, laidKinds := [.handle, .sentinel, .sentinel, .sentinel, .sentinel, .sentinel], laidTests := true, laidLooks := .later }
def StoreReplaysUptoCardSaid : Prop := Claim7.holds Tryz.pinned (.plain (OpenSpec.upto storeReplaysSpec)) storeReplaysUptoCard

/-- THE SECOND FORM's CARD OF 'towncrierlaw11.AckBack'. -/
def ackBackUptoCard : Claim7 := { stood := { row := ackBackUptoRow, standIns := [], harness := (true, "d96f64770fba2abfd23ce4564bad67c9f7c472b81b6c27cee76d0f3638456ae3"), looks := true }, kinds := [], alts := [], laidByText := true, laidKinds := [.handle, .sentinel, .sentinel, .sentinel, .sentinel, .sentinel], laidTests := true, laidLooks := .later }
def AckBackUptoCardSaid : Prop := Claim7.holds Tryz.pinned (.plain (OpenSpec.upto ackBackSpec)) ackBackUptoCard

/-- THE SECOND FORM's CARD OF 'towncrierlaw13.UnsubBack'. -/
def unsubBackUptoCard : Claim7 := { stood := { row := unsubBackUptoRow, standIns := [], harness := (true, "d96f64770fba2abfd23ce4564bad67c9f7c472b81b6c27cee76d0f3638456ae3"), looks := true }, kinds := [], alts := [], laidByText := true, laidKinds := [.handle, .sentinel, .sentinel, .sentinel, .sentinel, .sentinel], laidTests := true, laidLooks := .later }
def UnsubBackUptoCardSaid : Prop := Claim7.holds Tryz.pinned (.plain (OpenSpec.upto unsubBackSpec)) unsubBackUptoCard

/-- THE SECOND FORM's CARD OF 'towncrierlaw08.ConnectEncodes'. -/
def connectEncodesUptoCard : Claim7 := { stood := { row := connectEncodesUptoRow, standIns := [], harness := (true, "d96f64770fba2abfd23ce4564bad67c9f7c472b81b6c27cee76d0f3638456ae3"), looks := true }, kinds := [], alts := [], laidByText := true, laidKinds := [.handle, .sentinel, .sentinel, .sentinel, .sentinel, .sentinel, .sentinel, .sentinel], laidTests := true, laidLooks := .later }
def ConnectEncodesUptoCardSaid : Prop := Claim7.holds Tryz.pinned (.plain (OpenSpec.upto connectEncodesSpec)) connectEncodesUptoCard
end Rows
end Go.Proofs.YtmmahkckemclaaaGreatDoor
