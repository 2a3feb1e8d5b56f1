/-
  No cell of these rows narrows 'for every input' (looked for: loops, veiled, ifaces, maps, wideKeys, modest, calm, conditions, laid).
  DERIVED. THE GIVEN ROWS OF THIS SEAT. 6 by the template 'for every input the law returns true; each argument reads behind the call as it read before'; 0 by the template 'total and deterministic' (their statements: YtambpbcdnhekbaaTotals.lean).
  GIVEN WITH THE SEED: the statements are not yours to turn. If you find one false, say at which input.
  Laid BY PROGRAM, IN A SANDBOX (cutbox-rows.mjs): the forced cells as the released guide's own fill.sh prints them over the translation a5db53dfca142c32… (all of the seat's roots in one cut). By AI agents, Wed Nov 11 2026. No macro, syntax, notation, axiom, sorry.
-/
import Derived.Test.YtambpbcdnhekbaaChecked
import GoSem.Claim
import GoSem.ClaimJoined
import GoSem.ClaimMapViews
import Derived.JoinedTies
import Derived.KernelRfl
namespace Go.Proofs.Ytambpbcdnhekbaa
/- THE CELL 'sum', in the pinned program and in every row, IS THE sha256 OF THE DUMP (.gsa) THAT YtambpbcdnhekbaaProg.lean LOADS. Nothing in Lean hashes anything: it is a label: what it is worth is what the hold of that sum in a sandbox is worth. -/
noncomputable def Try.pinned : Pinned := { name := "ytambpbcdnhekbaa", sum := "a5db53dfca142c329bd24f96c1e02f6680ce33adb436b2be0b1bb018806a5ad2", checked := Try.checked }
namespace Rows
def none {H : Type} : Left H := { results := [], args := [] }

/-- 'cuboidlaw25.QueryTells': WHATEVER THE INPUT: true; the input reads as it did. -/
def queryTellsSpec : ChangeSpec := { name := "queryTells", fn := fun _ => fun
  | [d1, d2] => { results := [.lit (.bool true)], args := [d1, d2] }
  | _ => none }
def queryTellsRow : OpenClaim := { program := "ytambpbcdnhekbaa", sum := "a5db53dfca142c329bd24f96c1e02f6680ce33adb436b2be0b1bb018806a5ad2", func := "cuboid/cuboidlaw25.QueryTells", spec := "queryTells", unfollowed := true, recurses := true, apart := false }
def QueryTellsSaid : Prop := queryTellsRow.holds Try.pinned (OpenSpec.ofChange queryTellsSpec)

/-- ITS FALSE NEIGHBOUR: 'it returns false'. Refute it at one input. -/
def queryTellsWrong : ChangeSpec := { name := "queryTells", fn := fun _ => fun
  | [d1, d2] => { results := [.lit (.bool false)], args := [d1, d2] }
  | _ => none }
def QueryTellsWrongFalsely : Prop := queryTellsRow.holds Try.pinned (OpenSpec.ofChange queryTellsWrong)

/-- 'cuboidlaw25.QueryTurns': WHATEVER THE INPUT: true; the input reads as it did. -/
def queryTurnsSpec : ChangeSpec := { name := "queryTurns", fn := fun _ => fun
  | [d1, d2] => { results := [.lit (.bool true)], args := [d1, d2] }
  | _ => none }
def queryTurnsRow : OpenClaim := { program := "ytambpbcdnhekbaa", sum := "a5db53dfca142c329bd24f96c1e02f6680ce33adb436b2be0b1bb018806a5ad2", func := "cuboid/cuboidlaw25.QueryTurns", spec := "queryTurns", unfollowed := true, recurses := true, apart := false }
def QueryTurnsSaid : Prop := queryTurnsRow.holds Try.pinned (OpenSpec.ofChange queryTurnsSpec)

/-- ITS FALSE NEIGHBOUR: 'it returns false'. Refute it at one input. -/
def queryTurnsWrong : ChangeSpec := { name := "queryTurns", fn := fun _ => fun
  | [d1, d2] => { results := [.lit (.bool false)], args := [d1, d2] }
  | _ => none }
def QueryTurnsWrongFalsely : Prop := queryTurnsRow.holds Try.pinned (OpenSpec.ofChange queryTurnsWrong)

/-- 'cuboidlaw25.QueryBack': WHATEVER THE INPUT: true; the input reads as it did. -/
def queryBackSpec : ChangeSpec := { name := "queryBack", fn := fun _ => fun
  | [d1, d2, d3] => { results := [.lit (.bool true)], args := [d1, d2, d3] }
  | _ => none }
def queryBackRow : OpenClaim := { program := "ytambpbcdnhekbaa", sum := "a5db53dfca142c329bd24f96c1e02f6680ce33adb436b2be0b1bb018806a5ad2", func := "cuboid/cuboidlaw25.QueryBack", spec := "queryBack", unfollowed := true, recurses := true, apart := false }
def QueryBackSaid : Prop := queryBackRow.holds Try.pinned (OpenSpec.ofChange queryBackSpec)

/-- ITS FALSE NEIGHBOUR: 'it returns false'. Refute it at one input. -/
def queryBackWrong : ChangeSpec := { name := "queryBack", fn := fun _ => fun
  | [d1, d2, d3] => { results := [.lit (.bool false)], args := [d1, d2, d3] }
  | _ => none }
def QueryBackWrongFalsely : Prop := queryBackRow.holds Try.pinned (OpenSpec.ofChange queryBackWrong)

/-- 'cuboidlaw25.QueryReads': WHATEVER THE INPUT: true; the input reads as it did. -/
def queryReadsSpec : ChangeSpec := { name := "queryReads", fn := fun _ => fun
  | [d1, d2, d3] => { results := [.lit (.bool true)], args := [d1, d2, d3] }
  | _ => none }
def queryReadsRow : OpenClaim := { program := "ytambpbcdnhekbaa", sum := "a5db53dfca142c329bd24f96c1e02f6680ce33adb436b2be0b1bb018806a5ad2", func := "cuboid/cuboidlaw25.QueryReads", spec := "queryReads", unfollowed := true, recurses := true, apart := false }
def QueryReadsSaid : Prop := queryReadsRow.holds Try.pinned (OpenSpec.ofChange queryReadsSpec)

/-- ITS FALSE NEIGHBOUR: 'it returns false'. Refute it at one input. -/
def queryReadsWrong : ChangeSpec := { name := "queryReads", fn := fun _ => fun
  | [d1, d2, d3] => { results := [.lit (.bool false)], args := [d1, d2, d3] }
  | _ => none }
def QueryReadsWrongFalsely : Prop := queryReadsRow.holds Try.pinned (OpenSpec.ofChange queryReadsWrong)

/-- 'cuboidlaw25.QueryRolls': WHATEVER THE INPUT: true; the input reads as it did. -/
def queryRollsSpec : ChangeSpec := { name := "queryRolls", fn := fun _ => fun
  | [d] => { results := [.lit (.bool true)], args := [d] }
  | _ => none }
def queryRollsRow : OpenClaim := { program := "ytambpbcdnhekbaa", sum := "a5db53dfca142c329bd24f96c1e02f6680ce33adb436b2be0b1bb018806a5ad2", func := "cuboid/cuboidlaw25.QueryRolls", spec := "queryRolls", unfollowed := true, recurses := true, apart := false }
def QueryRollsSaid : Prop := queryRollsRow.holds Try.pinned (OpenSpec.ofChange queryRollsSpec)

/-- ITS FALSE NEIGHBOUR: 'it returns false'. Refute it at one input. -/
def queryRollsWrong : ChangeSpec := { name := "queryRolls", fn := fun _ => fun
  | [d] => { results := [.lit (.bool false)], args := [d] }
  | _ => none }
def QueryRollsWrongFalsely : Prop := queryRollsRow.holds Try.pinned (OpenSpec.ofChange queryRollsWrong)

/-- 'cuboidlaw25.QueryNeeds': WHATEVER THE INPUT: true; the input reads as it did. -/
def queryNeedsSpec : ChangeSpec := { name := "queryNeeds", fn := fun _ => fun
  | [d] => { results := [.lit (.bool true)], args := [d] }
  | _ => none }
def queryNeedsRow : OpenClaim := { program := "ytambpbcdnhekbaa", sum := "a5db53dfca142c329bd24f96c1e02f6680ce33adb436b2be0b1bb018806a5ad2", func := "cuboid/cuboidlaw25.QueryNeeds", spec := "queryNeeds", unfollowed := true, recurses := true, apart := false }
def QueryNeedsSaid : Prop := queryNeedsRow.holds Try.pinned (OpenSpec.ofChange queryNeedsSpec)

/-- ITS FALSE NEIGHBOUR: 'it returns false'. Refute it at one input. -/
def queryNeedsWrong : ChangeSpec := { name := "queryNeeds", fn := fun _ => fun
  | [d] => { results := [.lit (.bool false)], args := [d] }
  | _ => none }
def QueryNeedsWrongFalsely : Prop := queryNeedsRow.holds Try.pinned (OpenSpec.ofChange queryNeedsWrong)

/- THE SECOND FORM. 'bulk': how many values and letters a reading holds, each counted each time it is reached (what is shared counts as often as it is met; a slice's spare places count too). A statement '..UptoSaid' is the law's where the arguments, and the package variables that the reading takes, are together of bulk at most 1048576: NARROWER than '..Said'. Prove '..Said' where nothing that the law and all that it calls make is longer than what came in: it says more and counts as full. Else prove '..UptoSaid'. A law counts once. -/
mutual
def uptoBulk {H : Type} : DataW H → Nat
  | .lit (.string bytes) => bytes.length + 1
  | .lit _ => 1
  | .nil => 1
  | .ptr d => uptoBulk d + 1
  | .slice elems spare => uptoBulkAll elems + uptoBulkAll spare + 1
  | .agg parts => uptoBulkAll parts + 1
  | .iface _ d => uptoBulk d + 1
  | .map entries => uptoBulkEntries entries + 1
  | .held _ => 1
def uptoBulkAll {H : Type} : List (DataW H) → Nat
  | [] => 0
  | d :: r => uptoBulk d + uptoBulkAll r
def uptoBulkEntries {H : Type} : List (Lit × DataW H) → Nat
  | [] => 0
  | x :: r => uptoBulkEntry x + uptoBulkEntries r
def uptoBulkEntry {H : Type} : Lit × DataW H → Nat
  | (.string bytes, d) => bytes.length + uptoBulk d + 1
  | (_, d) => uptoBulk d + 1
 end
def uptoSmall : (H : Type) → List (DataW H) → Bool := fun _ ds => decide (uptoBulkAll ds ≤ 1048576)
def OpenSpec.upto (s : _root_.Go.ChangeSpec) : _root_.Go.OpenSpec := { _root_.Go.OpenSpec.ofChange s with cond := some uptoSmall }

/-- 'cuboidlaw25.QueryTells', WHERE WHAT IT READS IS OF BULK AT MOST 1048576: true; the input reads as it did. -/
def queryTellsUptoRow : OpenClaim := { program := "ytambpbcdnhekbaa", sum := "a5db53dfca142c329bd24f96c1e02f6680ce33adb436b2be0b1bb018806a5ad2", func := "cuboid/cuboidlaw25.QueryTells", spec := "queryTells", unfollowed := true, recurses := true, apart := false, narrowed := true }
def QueryTellsUptoSaid : Prop := queryTellsUptoRow.holds Try.pinned (OpenSpec.upto queryTellsSpec)

/-- 'cuboidlaw25.QueryTurns', WHERE WHAT IT READS IS OF BULK AT MOST 1048576: true; the input reads as it did. -/
def queryTurnsUptoRow : OpenClaim := { program := "ytambpbcdnhekbaa", sum := "a5db53dfca142c329bd24f96c1e02f6680ce33adb436b2be0b1bb018806a5ad2", func := "cuboid/cuboidlaw25.QueryTurns", spec := "queryTurns", unfollowed := true, recurses := true, apart := false, narrowed := true }
def QueryTurnsUptoSaid : Prop := queryTurnsUptoRow.holds Try.pinned (OpenSpec.upto queryTurnsSpec)

/-- 'cuboidlaw25.QueryBack', WHERE WHAT IT READS IS OF BULK AT MOST 1048576: true; the input reads as it did. -/
def queryBackUptoRow : OpenClaim := { program := "ytambpbcdnhekbaa", sum := "a5db53dfca142c329bd24f96c1e02f6680ce33adb436b2be0b1bb018806a5ad2", func := "cuboid/cuboidlaw25.QueryBack", spec := "queryBack", unfollowed := true, recurses := true, apart := false, narrowed := true }
def QueryBackUptoSaid : Prop := queryBackUptoRow.holds Try.pinned (OpenSpec.upto queryBackSpec)

/-- 'cuboidlaw25.QueryReads', WHERE WHAT IT READS IS OF BULK AT MOST 1048576: true; the input reads as it did. -/
def queryReadsUptoRow : OpenClaim := { program := "ytambpbcdnhekbaa", sum := "a5db53dfca142c329bd24f96c1e02f6680ce33adb436b2be0b1bb018806a5ad2", func := "cuboid/cuboidlaw25.QueryReads", spec := "queryReads", unfollowed := true, recurses := true, apart := false, narrowed := true }
def QueryReadsUptoSaid : Prop := queryReadsUptoRow.holds Try.pinned (OpenSpec.upto queryReadsSpec)

/-- 'cuboidlaw25.QueryRolls', WHERE WHAT IT READS IS OF BULK AT MOST 1048576: true; the input reads as it did. -/
def queryRollsUptoRow : OpenClaim := { program := "ytambpbcdnhekbaa", sum := "a5db53dfca142c329bd24f96c1e02f6680ce33adb436b2be0b1bb018806a5ad2", func := "cuboid/cuboidlaw25.QueryRolls", spec := "queryRolls", unfollowed := true, recurses := true, apart := false, narrowed := true }
def QueryRollsUptoSaid : Prop := queryRollsUptoRow.holds Try.pinned (OpenSpec.upto queryRollsSpec)

/-- 'cuboidlaw25.QueryNeeds', WHERE WHAT IT READS IS OF BULK AT MOST 1048576: true; the input reads as it did. -/
def queryNeedsUptoRow : OpenClaim := { program := "ytambpbcdnhekbaa", sum := "a5db53dfca142c329bd24f96c1e02f6680ce33adb436b2be0b1bb018806a5ad2", func := "cuboid/cuboidlaw25.QueryNeeds", spec := "queryNeeds", unfollowed := true, recurses := true, apart := false, narrowed := true }
def QueryNeedsUptoSaid : Prop := queryNeedsUptoRow.holds Try.pinned (OpenSpec.upto queryNeedsSpec)

end Rows
end Go.Proofs.Ytambpbcdnhekbaa
