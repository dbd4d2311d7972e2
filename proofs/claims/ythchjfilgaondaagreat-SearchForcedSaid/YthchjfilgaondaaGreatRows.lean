/-
  No cell of these rows narrows 'for every input' (looked for: loops, veiled, ifaces, maps, wideKeys, modest, calm, conditions, laid).
  DERIVED. THE GIVEN ROWS OF THIS SEAT. 3 by the template 'for every input the law returns true; each argument reads behind the call as it read before'; 0 by the template 'total and deterministic' (their statements: YthchjfilgaondaaGreatTotals.lean).
  GIVEN WITH THE SEED: the statements are not yours to turn. If you find one false, say at which input.
  Laid BY PROGRAM, IN A SANDBOX (cutbox-rows.mjs): the forced cells as the released guide's own fill.sh prints them over the translation 5ecee15a49425d58… (all of the seat's roots in one cut). By AI agents, Wed Nov 11 2026. No macro, syntax, notation, axiom, sorry.
-/
import Derived.Test.YthchjfilgaondaaGreatChecked
import GoSem.Claim
import GoSem.ClaimJoined
import GoSem.ClaimMapViews
import Derived.JoinedTies
import Derived.KernelRfl
namespace Go.Proofs.YthchjfilgaondaaGreat
/- THE CELL 'sum', in the pinned program and in every row, IS THE sha256 OF THE DUMP (.gsa) THAT YthchjfilgaondaaGreatProg.lean LOADS. Nothing in Lean hashes anything: it is a label: what it is worth is what the hold of that sum in a sandbox is worth. -/
noncomputable def Tryz.pinned : Pinned := { name := "ythchjfilgaondaagreat", sum := "5ecee15a49425d588ed9d997666d213c6fe79342256fcd937fd784242b5f92f2", checked := Tryz.checked }
namespace Rows
def none {H : Type} : Left H := { results := [], args := [] }

/-- 'trestlelaw06.SearchLess': WHATEVER THE INPUT: true; the input reads as it did. -/
def searchLessSpec : ChangeSpec := { name := "searchLess", fn := fun _ => fun
  | [d1, d2] => { results := [.lit (.bool true)], args := [d1, d2] }
  | _ => none }
def searchLessRow : OpenClaim := { program := "ythchjfilgaondaagreat", sum := "5ecee15a49425d588ed9d997666d213c6fe79342256fcd937fd784242b5f92f2", func := "trestle/trestlelaw06.SearchLess", spec := "searchLess", inPlace := ["internal/bytealg.abigen_runtime_cmpstring", "slices.overlaps[trestle/api.Tie]"], unfollowed := true, recurses := true, apart := false }
def SearchLessSaid : Prop := searchLessRow.holds Tryz.pinned (OpenSpec.ofChange searchLessSpec)

/-- ITS FALSE NEIGHBOUR: 'it returns false'. Refute it at one input. -/
def searchLessWrong : ChangeSpec := { name := "searchLess", fn := fun _ => fun
  | [d1, d2] => { results := [.lit (.bool false)], args := [d1, d2] }
  | _ => none }
def SearchLessWrongFalsely : Prop := searchLessRow.holds Tryz.pinned (OpenSpec.ofChange searchLessWrong)

/-- 'trestlelaw06.SearchExtends': WHATEVER THE INPUT: true; the input reads as it did. -/
def searchExtendsSpec : ChangeSpec := { name := "searchExtends", fn := fun _ => fun
  | [d1, d2, d3] => { results := [.lit (.bool true)], args := [d1, d2, d3] }
  | _ => none }
def searchExtendsRow : OpenClaim := { program := "ythchjfilgaondaagreat", sum := "5ecee15a49425d588ed9d997666d213c6fe79342256fcd937fd784242b5f92f2", func := "trestle/trestlelaw06.SearchExtends", spec := "searchExtends", inPlace := ["internal/bytealg.abigen_runtime_cmpstring", "slices.overlaps[trestle/api.Tie]"], unfollowed := true, recurses := true, apart := false }
def SearchExtendsSaid : Prop := searchExtendsRow.holds Tryz.pinned (OpenSpec.ofChange searchExtendsSpec)

/-- ITS FALSE NEIGHBOUR: 'it returns false'. Refute it at one input. -/
def searchExtendsWrong : ChangeSpec := { name := "searchExtends", fn := fun _ => fun
  | [d1, d2, d3] => { results := [.lit (.bool false)], args := [d1, d2, d3] }
  | _ => none }
def SearchExtendsWrongFalsely : Prop := searchExtendsRow.holds Tryz.pinned (OpenSpec.ofChange searchExtendsWrong)

/-- 'trestlelaw06.SearchForced': WHATEVER THE INPUT: true; the input reads as it did. -/
def searchForcedSpec : ChangeSpec := { name := "searchForced", fn := fun _ => fun
  | [d1, d2] => { results := [.lit (.bool true)], args := [d1, d2] }
  | _ => none }
def searchForcedRow : OpenClaim := { program := "ythchjfilgaondaagreat", sum := "5ecee15a49425d588ed9d997666d213c6fe79342256fcd937fd784242b5f92f2", func := "trestle/trestlelaw06.SearchForced", spec := "searchForced", inPlace := ["internal/bytealg.abigen_runtime_cmpstring", "slices.overlaps[trestle/api.Tie]"], unfollowed := true, recurses := true, apart := false }
def SearchForcedSaid : Prop := searchForcedRow.holds Tryz.pinned (OpenSpec.ofChange searchForcedSpec)

/-- ITS FALSE NEIGHBOUR: 'it returns false'. Refute it at one input. -/
def searchForcedWrong : ChangeSpec := { name := "searchForced", fn := fun _ => fun
  | [d1, d2] => { results := [.lit (.bool false)], args := [d1, d2] }
  | _ => none }
def SearchForcedWrongFalsely : Prop := searchForcedRow.holds Tryz.pinned (OpenSpec.ofChange searchForcedWrong)

/- THE SECOND FORM. 'bulk': how many values and letters a reading holds, each counted each time it is reached (what is shared counts as often as it is met; a slice's spare places count too). A statement '..UptoSaid' is the law's where the arguments, and the package variables that the reading takes, are together of bulk at most 1048576: NARROWER than '..Said'. Prove '..Said' where nothing that the law and all that it calls make is longer than what came in: it says more and counts as full. Else prove '..UptoSaid'. A law counts once. -/
mutual
def uptoBulk {H : Type} : DataW H → Nat
  | .lit (.string bytes) => bytes.length + 1
  | .lit _ => 1
  | .nil => 1
  | .ptr d => uptoBulk d + 1
  | .slice elems spare => uptoBulkAll elems + uptoBulkAll spare + 1
  | .agg parts => uptoBulkAll parts + 1
  | .iface _ d => uptoBulk d + 1
  | .map entries => uptoBulkEntries entries + 1
  | .held _ => 1
def uptoBulkAll {H : Type} : List (DataW H) → Nat
  | [] => 0
  | d :: r => uptoBulk d + uptoBulkAll r
def uptoBulkEntries {H : Type} : List (Lit × DataW H) → Nat
  | [] => 0
  | x :: r => uptoBulkEntry x + uptoBulkEntries r
def uptoBulkEntry {H : Type} : Lit × DataW H → Nat
  | (.string bytes, d) => bytes.length + uptoBulk d + 1
  | (_, d) => uptoBulk d + 1
 end
def uptoSmall : (H : Type) → List (DataW H) → Bool := fun _ ds => decide (uptoBulkAll ds ≤ 1048576)
def OpenSpec.upto (s : _root_.Go.ChangeSpec) : _root_.Go.OpenSpec := { _root_.Go.OpenSpec.ofChange s with cond := some uptoSmall }

/-- 'trestlelaw06.SearchLess', WHERE WHAT IT READS IS OF BULK AT MOST 1048576: true; the input reads as it did. -/
def searchLessUptoRow : OpenClaim := { program := "ythchjfilgaondaagreat", sum := "5ecee15a49425d588ed9d997666d213c6fe79342256fcd937fd784242b5f92f2", func := "trestle/trestlelaw06.SearchLess", spec := "searchLess", inPlace := ["internal/bytealg.abigen_runtime_cmpstring", "slices.overlaps[trestle/api.Tie]"], unfollowed := true, recurses := true, apart := false, narrowed := true }
def SearchLessUptoSaid : Prop := searchLessUptoRow.holds Tryz.pinned (OpenSpec.upto searchLessSpec)

/-- 'trestlelaw06.SearchExtends', WHERE WHAT IT READS IS OF BULK AT MOST 1048576: true; the input reads as it did. -/
def searchExtendsUptoRow : OpenClaim := { program := "ythchjfilgaondaagreat", sum := "5ecee15a49425d588ed9d997666d213c6fe79342256fcd937fd784242b5f92f2", func := "trestle/trestlelaw06.SearchExtends", spec := "searchExtends", inPlace := ["internal/bytealg.abigen_runtime_cmpstring", "slices.overlaps[trestle/api.Tie]"], unfollowed := true, recurses := true, apart := false, narrowed := true }
def SearchExtendsUptoSaid : Prop := searchExtendsUptoRow.holds Tryz.pinned (OpenSpec.upto searchExtendsSpec)

/-- 'trestlelaw06.SearchForced', WHERE WHAT IT READS IS OF BULK AT MOST 1048576: true; the input reads as it did. -/
def searchForcedUptoRow : OpenClaim := { program := "ythchjfilgaondaagreat", sum := "5ecee15a49425d588ed9d997666d213c6fe79342256fcd937fd784242b5f92f2", func := "trestle/trestlelaw06.SearchForced", spec := "searchForced", inPlace := ["internal/bytealg.abigen_runtime_cmpstring", "slices.overlaps[trestle/api.Tie]"], unfollowed := true, recurses := true, apart := false, narrowed := true }
def SearchForcedUptoSaid : Prop := searchForcedUptoRow.holds Tryz.pinned (OpenSpec.upto searchForcedSpec)

end Rows
end Go.Proofs.YthchjfilgaondaaGreat
