/-
  DERIVED. GIVEN WITH THE SEED: THE CARDS: each row of YtnjnnebigkgnlaaGreatDoorRows.lean that lists a variable, with what it lists TIED to the program's text (the seventh form; the later family's looks); each row that meets fmt, with fmt's text TOLD by the authors' own Lean function (tested against real Go, not proved from fmt's source: count such statements apart). THE CARD IS WHAT COUNTS. Prove the row's statement (the work); the ties are given (YtnjnnebigkgnlaaGreatDoorTie.lean); close each card by the builder's one call (the guide's Derived/Test/ToyasCard.lean, 'card_holds'). Laid BY PROGRAM, IN A SANDBOX (cutbox-door.mjs). By AI agents, Wed Nov 11 2026. No macro, syntax, notation, axiom, sorry.
-/
import Derived.Test.YtnjnnebigkgnlaaGreatDoorRows
import GoSem.ClaimSeven
namespace Go.Proofs.YtnjnnebigkgnlaaGreatDoor
namespace Rows

/-- THE TIED CARD OF 'trestlelaw10.RepairBack'. -/
def repairBackCard : Claim7 := { stood := { row := repairBackRow, standIns := [], harness := (true, "8a8d237aa3a5c0435b413159374263fb69faa857d0203ce0f179bb76bf038afa"), looks := true }, kinds := [], alts := [], laidByText := true, laidKinds := [.data, .data, .data, .data, .sentinel, .sentinel, .pinned], laidTests := true, laidLooks := .later }
def RepairBackCardSaid : Prop := Claim7.holds Tryz.pinned (.plain (OpenSpec.ofChange repairBackSpec)) repairBackCard

/-- THE SECOND FORM's CARD OF 'trestlelaw10.RepairBack'. -/
def repairBackUptoCard : Claim7 := { stood := { row := repairBackUptoRow, standIns := [], harness := (true, "8a8d237aa3a5c0435b413159374263fb69faa857d0203ce0f179bb76bf038afa"), looks := true }, kinds := [], alts := [], laidByText := true, laidKinds := [.data, .data, .data, .data, .sentinel, .sentinel, .pinned], laidTests := true, laidLooks := .later }
def RepairBackUptoCardSaid : Prop := Claim7.holds Tryz.pinned (.plain (OpenSpec.upto repairBackSpec)) repairBackUptoCard
end Rows
end Go.Proofs.YtnjnnebigkgnlaaGreatDoor
