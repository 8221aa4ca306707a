/-
  DERIVED. GIVEN WITH THE SEED: THE CARDS: each row of YtmmahkckemclaaaDoorRows.lean that lists a variable, with what it lists TIED to the program's text (the seventh form; the later family's looks); each row that meets fmt, with fmt's text TOLD by the authors' own Lean function (tested against real Go, not proved from fmt's source: count such statements apart). THE CARD IS WHAT COUNTS. Prove the row's statement (the work); the ties are given (YtmmahkckemclaaaDoorTie.lean); close each card by the builder's one call (the guide's Derived/Test/ToyasCard.lean, 'card_holds'). Laid BY PROGRAM, IN A SANDBOX (cutbox-door.mjs). By AI agents, Wed Nov 11 2026. No macro, syntax, notation, axiom, sorry.
-/
import Derived.Test.YtmmahkckemclaaaDoorRows
import GoSem.ClaimSeven
namespace Go.Proofs.YtmmahkckemclaaaDoor
namespace Rows

/-- THE TIED CARD OF 'towncrierlaw43.ScriptBack'. -/
def scriptBackCard : Claim7 := { stood := { row := scriptBackRow, standIns := [], harness := (true, "887dc904ae3190ba2f81c67aab57118a21f22b07ed519d3c18b6af7d35f7fdbb"), looks := true }, kinds := [], alts := [], laidByText := true, laidKinds := [.sentinel, .sentinel, .sentinel, .sentinel, .sentinel, .sentinel, .sentinel], laidTests := true, laidLooks := .later }
def ScriptBackCardSaid : Prop := Claim7.holds Tryd.pinned (.plain (OpenSpec.ofChange scriptBackSpec)) scriptBackCard

/-- THE TIED CARD OF 'towncrierlaw34.StorePrefix'. -/
def storePrefixCard : Claim7 := { stood := { row := storePrefixRow, standIns := [], harness := (true, "887dc904ae3190ba2f81c67aab57118a21f22b07ed519d3c18b6af7d35f7fdbb"), looks := true }, kinds := [], alts := [], laidByText := true, laidKinds := [.handle, .sentinel, .sentinel, .sentinel, .sentinel, .sentinel], laidTests := true, laidLooks := .later }
def StorePrefixCardSaid : Prop := Claim7.holds Tryd.pinned (.plain (OpenSpec.ofChange storePrefixSpec)) storePrefixCard

/-- THE SECOND FORM's CARD OF 'towncrierlaw43.ScriptBack'. -/
def scriptBackUptoCard : Claim7 := { stood := { row := scriptBackUptoRow, standIns := [], harness := (true, "887dc904ae3190ba2f81c67aab57118a21f22b07ed519d3c18b6af7d35f7fdbb"), looks := true }, kinds := [], alts := [], laidByText := true, laidKinds := [.sentinel, .sentinel, .sentinel, .sentinel, .sentinel, .sentinel, .sentinel], laidTests := true, laidLooks := .later }
def ScriptBackUptoCardSaid : Prop := Claim7.holds Tryd.pinned (.plain (OpenSpec.upto scriptBackSpec)) scriptBackUptoCard

/-- THE SECOND FORM's CARD OF 'towncrierlaw34.StorePrefix'. -/
def storePrefixUptoCard : Claim7 := { stood := { row := storePrefixUptoRow, standIns := [], harness := (true, "887dc904ae3190ba2f81c67aab57118a21f22b07ed519d3c18b6af7d35f7fdbb"), looks := true }, kinds := [], alts := [], laidByText := true, laidKinds := [.handle, .sentinel, .sentinel, .sentinel, .sentinel, .sentinel], laidTests := true, laidLooks := .later }
def StorePrefixUptoCardSaid : Prop := Claim7.holds Tryd.pinned (.plain (OpenSpec.upto storePrefixSpec)) storePrefixUptoCard
end Rows
end Go.Proofs.YtmmahkckemclaaaDoor
