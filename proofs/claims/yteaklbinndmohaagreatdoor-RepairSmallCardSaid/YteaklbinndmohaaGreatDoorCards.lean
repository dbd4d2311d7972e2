/-
  DERIVED. GIVEN WITH THE SEED: THE CARDS: each row of YteaklbinndmohaaGreatDoorRows.lean that lists a variable, with what it lists TIED to the program's text (the seventh form; the later family's looks); each row that meets fmt, with fmt's text TOLD by the authors' own Lean function (tested against real Go, not proved from fmt's source: count such statements apart). THE CARD IS WHAT COUNTS. Prove the row's statement (the work); the ties are given (YteaklbinndmohaaGreatDoorTie.lean); close each card by the builder's one call (the guide's Derived/Test/ToyasCard.lean, 'card_holds'). Laid BY PROGRAM, IN A SANDBOX (cutbox-door.mjs). By AI agents, Wed Nov 11 2026. No macro, syntax, notation, axiom, sorry.
-/
import Derived.Test.YteaklbinndmohaaGreatDoorRows
import GoSem.ClaimSeven
namespace Go.Proofs.YteaklbinndmohaaGreatDoor
namespace Rows

/-- THE TIED CARD OF 'trestlelaw10.RepairSmall'. -/
def repairSmallCard : Claim7 := { stood := { row := repairSmallRow, standIns := [], harness := (true, "610bb17cec351a661a6bd3d43b2183e25b31b7d880841d88547063fee109c8f4"), looks := true }, kinds := [], alts := [], laidByText := true, laidKinds := [.data, .data, .data, .data, .sentinel, .sentinel, .pinned], laidTests := true, laidLooks := .later }
def RepairSmallCardSaid : Prop := Claim7.holds Tryz.pinned (.plain (OpenSpec.ofChange repairSmallSpec)) repairSmallCard

/-- THE SECOND FORM's CARD OF 'trestlelaw10.RepairSmall'. -/
def repairSmallUptoCard : Claim7 := { stood := { row := repairSmallUptoRow, standIns := [], harness := (true, "610bb17cec351a661a6bd3d43b2183e25b31b7d880841d88547063fee109c8f4"), looks := true }, kinds := [], alts := [], laidByText := true, laidKinds := [.data, .data, .data, .data, .sentinel, .sentinel, .pinned], laidTests := true, laidLooks := .later }
def RepairSmallUptoCardSaid : Prop := Claim7.holds Tryz.pinned (.plain (OpenSpec.upto repairSmallSpec)) repairSmallUptoCard
end Rows
end Go.Proofs.YteaklbinndmohaaGreatDoor
