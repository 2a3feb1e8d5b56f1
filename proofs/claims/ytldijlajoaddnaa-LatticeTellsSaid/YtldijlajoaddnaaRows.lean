/-
  No cell of these rows narrows 'for every input' (looked for: loops, veiled, ifaces, maps, wideKeys, modest, calm, conditions, laid).
  DERIVED. THE GIVEN ROWS OF THIS SEAT. 5 by the template 'for every input the law returns true; each argument reads behind the call as it read before'; 0 by the template 'total and deterministic' (their statements: YtldijlajoaddnaaTotals.lean).
  GIVEN WITH THE SEED: the statements are not yours to turn. If you find one false, say at which input.
  Laid BY PROGRAM, IN A SANDBOX (cutbox-rows.mjs): the forced cells as the released guide's own fill.sh prints them over the translation a2708d16a572fde3… (all of the seat's roots in one cut). By AI agents, Wed Nov 11 2026. No macro, syntax, notation, axiom, sorry.
-/
import Derived.Test.YtldijlajoaddnaaChecked
import GoSem.Claim
import GoSem.ClaimJoined
import GoSem.ClaimMapViews
import Derived.JoinedTies
import Derived.KernelRfl
namespace Go.Proofs.Ytldijlajoaddnaa
/- THE CELL 'sum', in the pinned program and in every row, IS THE sha256 OF THE DUMP (.gsa) THAT YtldijlajoaddnaaProg.lean LOADS. Nothing in Lean hashes anything: it is a label: what it is worth is what the hold of that sum in a sandbox is worth. -/
noncomputable def Try.pinned : Pinned := { name := "ytldijlajoaddnaa", sum := "a2708d16a572fde3146a4cacf7ec9950b424b0550ad6b6e7efadb0c6fe3e897e", checked := Try.checked }
namespace Rows
def none {H : Type} : Left H := { results := [], args := [] }

/-- 'cuboidlaw05.LatticeAll': WHATEVER THE INPUT: true; the input reads as it did. -/
def latticeAllSpec : ChangeSpec := { name := "latticeAll", fn := fun _ => fun
  | [d1, d2] => { results := [.lit (.bool true)], args := [d1, d2] }
  | _ => none }
def latticeAllRow : OpenClaim := { program := "ytldijlajoaddnaa", sum := "a2708d16a572fde3146a4cacf7ec9950b424b0550ad6b6e7efadb0c6fe3e897e", func := "cuboid/cuboidlaw05.LatticeAll", spec := "latticeAll", apart := false }
def LatticeAllSaid : Prop := latticeAllRow.holds Try.pinned (OpenSpec.ofChange latticeAllSpec)

/-- ITS FALSE NEIGHBOUR: 'it returns false'. Refute it at one input. -/
def latticeAllWrong : ChangeSpec := { name := "latticeAll", fn := fun _ => fun
  | [d1, d2] => { results := [.lit (.bool false)], args := [d1, d2] }
  | _ => none }
def LatticeAllWrongFalsely : Prop := latticeAllRow.holds Try.pinned (OpenSpec.ofChange latticeAllWrong)

/-- 'cuboidlaw05.LatticeMeets': WHATEVER THE INPUT: true; the input reads as it did. -/
def latticeMeetsSpec : ChangeSpec := { name := "latticeMeets", fn := fun _ => fun
  | [d1, d2, d3] => { results := [.lit (.bool true)], args := [d1, d2, d3] }
  | _ => none }
def latticeMeetsRow : OpenClaim := { program := "ytldijlajoaddnaa", sum := "a2708d16a572fde3146a4cacf7ec9950b424b0550ad6b6e7efadb0c6fe3e897e", func := "cuboid/cuboidlaw05.LatticeMeets", spec := "latticeMeets", apart := false }
def LatticeMeetsSaid : Prop := latticeMeetsRow.holds Try.pinned (OpenSpec.ofChange latticeMeetsSpec)

/-- ITS FALSE NEIGHBOUR: 'it returns false'. Refute it at one input. -/
def latticeMeetsWrong : ChangeSpec := { name := "latticeMeets", fn := fun _ => fun
  | [d1, d2, d3] => { results := [.lit (.bool false)], args := [d1, d2, d3] }
  | _ => none }
def LatticeMeetsWrongFalsely : Prop := latticeMeetsRow.holds Try.pinned (OpenSpec.ofChange latticeMeetsWrong)

/-- 'cuboidlaw05.LatticeCost': WHATEVER THE INPUT: true; the input reads as it did. -/
def latticeCostSpec : ChangeSpec := { name := "latticeCost", fn := fun _ => fun
  | [d1, d2, d3] => { results := [.lit (.bool true)], args := [d1, d2, d3] }
  | _ => none }
def latticeCostRow : OpenClaim := { program := "ytldijlajoaddnaa", sum := "a2708d16a572fde3146a4cacf7ec9950b424b0550ad6b6e7efadb0c6fe3e897e", func := "cuboid/cuboidlaw05.LatticeCost", spec := "latticeCost", apart := false }
def LatticeCostSaid : Prop := latticeCostRow.holds Try.pinned (OpenSpec.ofChange latticeCostSpec)

/-- ITS FALSE NEIGHBOUR: 'it returns false'. Refute it at one input. -/
def latticeCostWrong : ChangeSpec := { name := "latticeCost", fn := fun _ => fun
  | [d1, d2, d3] => { results := [.lit (.bool false)], args := [d1, d2, d3] }
  | _ => none }
def LatticeCostWrongFalsely : Prop := latticeCostRow.holds Try.pinned (OpenSpec.ofChange latticeCostWrong)

/-- 'cuboidlaw05.LatticeCovers': WHATEVER THE INPUT: true; the input reads as it did. -/
def latticeCoversSpec : ChangeSpec := { name := "latticeCovers", fn := fun _ => fun
  | [d1, d2] => { results := [.lit (.bool true)], args := [d1, d2] }
  | _ => none }
def latticeCoversRow : OpenClaim := { program := "ytldijlajoaddnaa", sum := "a2708d16a572fde3146a4cacf7ec9950b424b0550ad6b6e7efadb0c6fe3e897e", func := "cuboid/cuboidlaw05.LatticeCovers", spec := "latticeCovers", apart := false }
def LatticeCoversSaid : Prop := latticeCoversRow.holds Try.pinned (OpenSpec.ofChange latticeCoversSpec)

/-- ITS FALSE NEIGHBOUR: 'it returns false'. Refute it at one input. -/
def latticeCoversWrong : ChangeSpec := { name := "latticeCovers", fn := fun _ => fun
  | [d1, d2] => { results := [.lit (.bool false)], args := [d1, d2] }
  | _ => none }
def LatticeCoversWrongFalsely : Prop := latticeCoversRow.holds Try.pinned (OpenSpec.ofChange latticeCoversWrong)

/-- 'cuboidlaw05.LatticeTells': WHATEVER THE INPUT: true; the input reads as it did. -/
def latticeTellsSpec : ChangeSpec := { name := "latticeTells", fn := fun _ => fun
  | [d1, d2, d3] => { results := [.lit (.bool true)], args := [d1, d2, d3] }
  | _ => none }
def latticeTellsRow : OpenClaim := { program := "ytldijlajoaddnaa", sum := "a2708d16a572fde3146a4cacf7ec9950b424b0550ad6b6e7efadb0c6fe3e897e", func := "cuboid/cuboidlaw05.LatticeTells", spec := "latticeTells", apart := false }
def LatticeTellsSaid : Prop := latticeTellsRow.holds Try.pinned (OpenSpec.ofChange latticeTellsSpec)

/-- ITS FALSE NEIGHBOUR: 'it returns false'. Refute it at one input. -/
def latticeTellsWrong : ChangeSpec := { name := "latticeTells", fn := fun _ => fun
  | [d1, d2, d3] => { results := [.lit (.bool false)], args := [d1, d2, d3] }
  | _ => none }
def LatticeTellsWrongFalsely : Prop := latticeTellsRow.holds Try.pinned (OpenSpec.ofChange latticeTellsWrong)

/- THE SECOND FORM. 'bulk': how many values and letters a reading holds, each counted each time it is reached (what is shared counts as often as it is met; a slice's spare places count too). A statement '..UptoSaid' is the law's where the arguments, and the package variables that the reading takes, are together of bulk at most 1048576: NARROWER than '..Said'. Prove '..Said' where nothing that the law and all that it calls make is longer than what came in: it says more and counts as full. Else prove '..UptoSaid'. A law counts once. -/
mutual
def uptoBulk {H : Type} : DataW H → Nat
  | .lit (.string bytes) => bytes.length + 1
  | .lit _ => 1
  | .nil => 1
  | .ptr d => uptoBulk d + 1
  | .slice elems spare => uptoBulkAll elems + uptoBulkAll spare + 1
  | .agg parts => uptoBulkAll parts + 1
  | .iface _ d => uptoBulk d + 1
  | .map entries => uptoBulkEntries entries + 1
  | .held _ => 1
def uptoBulkAll {H : Type} : List (DataW H) → Nat
  | [] => 0
  | d :: r => uptoBulk d + uptoBulkAll r
def uptoBulkEntries {H : Type} : List (Lit × DataW H) → Nat
  | [] => 0
  | x :: r => uptoBulkEntry x + uptoBulkEntries r
def uptoBulkEntry {H : Type} : Lit × DataW H → Nat
  | (.string bytes, d) => bytes.length + uptoBulk d + 1
  | (_, d) => uptoBulk d + 1
 end
def uptoSmall : (H : Type) → List (DataW H) → Bool := fun _ ds => decide (uptoBulkAll ds ≤ 1048576)
def OpenSpec.upto (s : _root_.Go.ChangeSpec) : _root_.Go.OpenSpec := { _root_.Go.OpenSpec.ofChange s with cond := some uptoSmall }

/-- 'cuboidlaw05.LatticeAll', WHERE WHAT IT READS IS OF BULK AT MOST 1048576: true; the input reads as it did. -/
def latticeAllUptoRow : OpenClaim := { program := "ytldijlajoaddnaa", sum := "a2708d16a572fde3146a4cacf7ec9950b424b0550ad6b6e7efadb0c6fe3e897e", func := "cuboid/cuboidlaw05.LatticeAll", spec := "latticeAll", apart := false, narrowed := true }
def LatticeAllUptoSaid : Prop := latticeAllUptoRow.holds Try.pinned (OpenSpec.upto latticeAllSpec)

/-- 'cuboidlaw05.LatticeMeets', WHERE WHAT IT READS IS OF BULK AT MOST 1048576: true; the input reads as it did. -/
def latticeMeetsUptoRow : OpenClaim := { program := "ytldijlajoaddnaa", sum := "a2708d16a572fde3146a4cacf7ec9950b424b0550ad6b6e7efadb0c6fe3e897e", func := "cuboid/cuboidlaw05.LatticeMeets", spec := "latticeMeets", apart := false, narrowed := true }
def LatticeMeetsUptoSaid : Prop := latticeMeetsUptoRow.holds Try.pinned (OpenSpec.upto latticeMeetsSpec)

/-- 'cuboidlaw05.LatticeCost', WHERE WHAT IT READS IS OF BULK AT MOST 1048576: true; the input reads as it did. -/
def latticeCostUptoRow : OpenClaim := { program := "ytldijlajoaddnaa", sum := "a2708d16a572fde3146a4cacf7ec9950b424b0550ad6b6e7efadb0c6fe3e897e", func := "cuboid/cuboidlaw05.LatticeCost", spec := "latticeCost", apart := false, narrowed := true }
def LatticeCostUptoSaid : Prop := latticeCostUptoRow.holds Try.pinned (OpenSpec.upto latticeCostSpec)

/-- 'cuboidlaw05.LatticeCovers', WHERE WHAT IT READS IS OF BULK AT MOST 1048576: true; the input reads as it did. -/
def latticeCoversUptoRow : OpenClaim := { program := "ytldijlajoaddnaa", sum := "a2708d16a572fde3146a4cacf7ec9950b424b0550ad6b6e7efadb0c6fe3e897e", func := "cuboid/cuboidlaw05.LatticeCovers", spec := "latticeCovers", apart := false, narrowed := true }
def LatticeCoversUptoSaid : Prop := latticeCoversUptoRow.holds Try.pinned (OpenSpec.upto latticeCoversSpec)

/-- 'cuboidlaw05.LatticeTells', WHERE WHAT IT READS IS OF BULK AT MOST 1048576: true; the input reads as it did. -/
def latticeTellsUptoRow : OpenClaim := { program := "ytldijlajoaddnaa", sum := "a2708d16a572fde3146a4cacf7ec9950b424b0550ad6b6e7efadb0c6fe3e897e", func := "cuboid/cuboidlaw05.LatticeTells", spec := "latticeTells", apart := false, narrowed := true }
def LatticeTellsUptoSaid : Prop := latticeTellsUptoRow.holds Try.pinned (OpenSpec.upto latticeTellsSpec)

end Rows
end Go.Proofs.Ytldijlajoaddnaa
