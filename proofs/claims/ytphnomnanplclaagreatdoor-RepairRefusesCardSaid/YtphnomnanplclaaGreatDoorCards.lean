/-
  DERIVED. GIVEN WITH THE SEED: THE CARDS: each row of YtphnomnanplclaaGreatDoorRows.lean that lists a variable, with what it lists TIED to the program's text (the seventh form; the later family's looks); each row that meets fmt, with fmt's text TOLD by the authors' own Lean function (tested against real Go, not proved from fmt's source: count such statements apart). THE CARD IS WHAT COUNTS. Prove the row's statement (the work); the ties are given (YtphnomnanplclaaGreatDoorTie.lean); close each card by the builder's one call (the guide's Derived/Test/ToyasCard.lean, 'card_holds'). Laid BY PROGRAM, IN A SANDBOX (cutbox-door.mjs). By AI agents, Wed Nov 11 2026. No macro, syntax, notation, axiom, sorry.
-/
import Derived.Test.YtphnomnanplclaaGreatDoorRows
import GoSem.ClaimSeven
namespace Go.Proofs.YtphnomnanplclaaGreatDoor
namespace Rows

/-- THE TIED CARD OF 'trestlelaw10.RepairRefuses'. -/
def repairRefusesCard : Claim7 := { stood := { row := repairRefusesRow, standIns := [], harness := (true, "7447b89809c90ea20fe95cc8cc368a61313bfa4c071b3cb70408e69608e7dda8"), looks := true }, kinds := [], alts := [], laidByText := true, laidKinds := [.data, .data, .data, .data, .sentinel, .sentinel, .pinned], laidTests := true, laidLooks := .later }
def RepairRefusesCardSaid : Prop := Claim7.holds Tryz.pinned (.plain (OpenSpec.ofChange repairRefusesSpec)) repairRefusesCard

/-- THE SECOND FORM's CARD OF 'trestlelaw10.RepairRefuses'. -/
def repairRefusesUptoCard : Claim7 := { stood := { row := repairRefusesUptoRow, standIns := [], harness := (true, "7447b89809c90ea20fe95cc8cc368a61313bfa4c071b3cb70408e69608e7dda8"), looks := true }, kinds := [], alts := [], laidByText := true, laidKinds := [.data, .data, .data, .data, .sentinel, .sentinel, .pinned], laidTests := true, laidLooks := .later }
def RepairRefusesUptoCardSaid : Prop := Claim7.holds Tryz.pinned (.plain (OpenSpec.upto repairRefusesSpec)) repairRefusesUptoCard
end Rows
end Go.Proofs.YtphnomnanplclaaGreatDoor
