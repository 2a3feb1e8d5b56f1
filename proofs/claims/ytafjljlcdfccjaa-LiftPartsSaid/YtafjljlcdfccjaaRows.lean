/-
  No cell of these rows narrows 'for every input' (looked for: loops, veiled, ifaces, maps, wideKeys, modest, calm, conditions, laid).
  DERIVED. THE GIVEN ROWS OF THIS SEAT. 5 by the template 'for every input the law returns true; each argument reads behind the call as it read before'; 0 by the template 'total and deterministic' (their statements: YtafjljlcdfccjaaTotals.lean).
  GIVEN WITH THE SEED: the statements are not yours to turn. If you find one false, say at which input.
  Laid BY PROGRAM, IN A SANDBOX (cutbox-rows.mjs): the forced cells as the released guide's own fill.sh prints them over the translation 4fac6f22b6ca1387… (all of the seat's roots in one cut). By AI agents, Wed Nov 11 2026. No macro, syntax, notation, axiom, sorry.
-/
import Derived.Test.YtafjljlcdfccjaaChecked
import GoSem.Claim
import GoSem.ClaimJoined
import GoSem.ClaimMapViews
import Derived.JoinedTies
import Derived.KernelRfl
namespace Go.Proofs.Ytafjljlcdfccjaa
/- THE CELL 'sum', in the pinned program and in every row, IS THE sha256 OF THE DUMP (.gsa) THAT YtafjljlcdfccjaaProg.lean LOADS. Nothing in Lean hashes anything: it is a label: what it is worth is what the hold of that sum in a sandbox is worth. -/
noncomputable def Try.pinned : Pinned := { name := "ytafjljlcdfccjaa", sum := "4fac6f22b6ca1387e3af44c23f014202ad9c3da5d5e5dc24648145b8a1f43e1b", checked := Try.checked }
namespace Rows
def none {H : Type} : Left H := { results := [], args := [] }

/-- 'cuboidlaw06.LiftTells': WHATEVER THE INPUT: true; the input reads as it did. -/
def liftTellsSpec : ChangeSpec := { name := "liftTells", fn := fun _ => fun
  | [d] => { results := [.lit (.bool true)], args := [d] }
  | _ => none }
def liftTellsRow : OpenClaim := { program := "ytafjljlcdfccjaa", sum := "4fac6f22b6ca1387e3af44c23f014202ad9c3da5d5e5dc24648145b8a1f43e1b", func := "cuboid/cuboidlaw06.LiftTells", spec := "liftTells", apart := false }
def LiftTellsSaid : Prop := liftTellsRow.holds Try.pinned (OpenSpec.ofChange liftTellsSpec)

/-- ITS FALSE NEIGHBOUR: 'it returns false'. Refute it at one input. -/
def liftTellsWrong : ChangeSpec := { name := "liftTells", fn := fun _ => fun
  | [d] => { results := [.lit (.bool false)], args := [d] }
  | _ => none }
def LiftTellsWrongFalsely : Prop := liftTellsRow.holds Try.pinned (OpenSpec.ofChange liftTellsWrong)

/-- 'cuboidlaw06.LiftTwice': WHATEVER THE INPUT: true; the input reads as it did. -/
def liftTwiceSpec : ChangeSpec := { name := "liftTwice", fn := fun _ => fun
  | [d] => { results := [.lit (.bool true)], args := [d] }
  | _ => none }
def liftTwiceRow : OpenClaim := { program := "ytafjljlcdfccjaa", sum := "4fac6f22b6ca1387e3af44c23f014202ad9c3da5d5e5dc24648145b8a1f43e1b", func := "cuboid/cuboidlaw06.LiftTwice", spec := "liftTwice", apart := false }
def LiftTwiceSaid : Prop := liftTwiceRow.holds Try.pinned (OpenSpec.ofChange liftTwiceSpec)

/-- ITS FALSE NEIGHBOUR: 'it returns false'. Refute it at one input. -/
def liftTwiceWrong : ChangeSpec := { name := "liftTwice", fn := fun _ => fun
  | [d] => { results := [.lit (.bool false)], args := [d] }
  | _ => none }
def LiftTwiceWrongFalsely : Prop := liftTwiceRow.holds Try.pinned (OpenSpec.ofChange liftTwiceWrong)

/-- 'cuboidlaw06.LiftParts': WHATEVER THE INPUT: true; the input reads as it did. -/
def liftPartsSpec : ChangeSpec := { name := "liftParts", fn := fun _ => fun
  | [d1, d2, d3] => { results := [.lit (.bool true)], args := [d1, d2, d3] }
  | _ => none }
def liftPartsRow : OpenClaim := { program := "ytafjljlcdfccjaa", sum := "4fac6f22b6ca1387e3af44c23f014202ad9c3da5d5e5dc24648145b8a1f43e1b", func := "cuboid/cuboidlaw06.LiftParts", spec := "liftParts", apart := false }
def LiftPartsSaid : Prop := liftPartsRow.holds Try.pinned (OpenSpec.ofChange liftPartsSpec)

/-- ITS FALSE NEIGHBOUR: 'it returns false'. Refute it at one input. -/
def liftPartsWrong : ChangeSpec := { name := "liftParts", fn := fun _ => fun
  | [d1, d2, d3] => { results := [.lit (.bool false)], args := [d1, d2, d3] }
  | _ => none }
def LiftPartsWrongFalsely : Prop := liftPartsRow.holds Try.pinned (OpenSpec.ofChange liftPartsWrong)

/-- 'cuboidlaw06.LiftWithin': WHATEVER THE INPUT: true; the input reads as it did. -/
def liftWithinSpec : ChangeSpec := { name := "liftWithin", fn := fun _ => fun
  | [d1, d2, d3] => { results := [.lit (.bool true)], args := [d1, d2, d3] }
  | _ => none }
def liftWithinRow : OpenClaim := { program := "ytafjljlcdfccjaa", sum := "4fac6f22b6ca1387e3af44c23f014202ad9c3da5d5e5dc24648145b8a1f43e1b", func := "cuboid/cuboidlaw06.LiftWithin", spec := "liftWithin", apart := false }
def LiftWithinSaid : Prop := liftWithinRow.holds Try.pinned (OpenSpec.ofChange liftWithinSpec)

/-- ITS FALSE NEIGHBOUR: 'it returns false'. Refute it at one input. -/
def liftWithinWrong : ChangeSpec := { name := "liftWithin", fn := fun _ => fun
  | [d1, d2, d3] => { results := [.lit (.bool false)], args := [d1, d2, d3] }
  | _ => none }
def LiftWithinWrongFalsely : Prop := liftWithinRow.holds Try.pinned (OpenSpec.ofChange liftWithinWrong)

/-- 'cuboidlaw06.LiftNone': WHATEVER THE INPUT: true; the input reads as it did. -/
def liftNoneSpec : ChangeSpec := { name := "liftNone", fn := fun _ => fun
  | [d1, d2] => { results := [.lit (.bool true)], args := [d1, d2] }
  | _ => none }
def liftNoneRow : OpenClaim := { program := "ytafjljlcdfccjaa", sum := "4fac6f22b6ca1387e3af44c23f014202ad9c3da5d5e5dc24648145b8a1f43e1b", func := "cuboid/cuboidlaw06.LiftNone", spec := "liftNone", apart := false }
def LiftNoneSaid : Prop := liftNoneRow.holds Try.pinned (OpenSpec.ofChange liftNoneSpec)

/-- ITS FALSE NEIGHBOUR: 'it returns false'. Refute it at one input. -/
def liftNoneWrong : ChangeSpec := { name := "liftNone", fn := fun _ => fun
  | [d1, d2] => { results := [.lit (.bool false)], args := [d1, d2] }
  | _ => none }
def LiftNoneWrongFalsely : Prop := liftNoneRow.holds Try.pinned (OpenSpec.ofChange liftNoneWrong)

/- THE SECOND FORM. 'bulk': how many values and letters a reading holds, each counted each time it is reached (what is shared counts as often as it is met; a slice's spare places count too). A statement '..UptoSaid' is the law's where the arguments, and the package variables that the reading takes, are together of bulk at most 1048576: NARROWER than '..Said'. Prove '..Said' where nothing that the law and all that it calls make is longer than what came in: it says more and counts as full. Else prove '..UptoSaid'. A law counts once. -/
mutual
def uptoBulk {H : Type} : DataW H → Nat
  | .lit (.string bytes) => bytes.length + 1
  | .lit _ => 1
  | .nil => 1
  | .ptr d => uptoBulk d + 1
  | .slice elems spare => uptoBulkAll elems + uptoBulkAll spare + 1
  | .agg parts => uptoBulkAll parts + 1
  | .iface _ d => uptoBulk d + 1
  | .map entries => uptoBulkEntries entries + 1
  | .held _ => 1
def uptoBulkAll {H : Type} : List (DataW H) → Nat
  | [] => 0
  | d :: r => uptoBulk d + uptoBulkAll r
def uptoBulkEntries {H : Type} : List (Lit × DataW H) → Nat
  | [] => 0
  | x :: r => uptoBulkEntry x + uptoBulkEntries r
def uptoBulkEntry {H : Type} : Lit × DataW H → Nat
  | (.string bytes, d) => bytes.length + uptoBulk d + 1
  | (_, d) => uptoBulk d + 1
 end
def uptoSmall : (H : Type) → List (DataW H) → Bool := fun _ ds => decide (uptoBulkAll ds ≤ 1048576)
def OpenSpec.upto (s : _root_.Go.ChangeSpec) : _root_.Go.OpenSpec := { _root_.Go.OpenSpec.ofChange s with cond := some uptoSmall }

/-- 'cuboidlaw06.LiftTells', WHERE WHAT IT READS IS OF BULK AT MOST 1048576: true; the input reads as it did. -/
def liftTellsUptoRow : OpenClaim := { program := "ytafjljlcdfccjaa", sum := "4fac6f22b6ca1387e3af44c23f014202ad9c3da5d5e5dc24648145b8a1f43e1b", func := "cuboid/cuboidlaw06.LiftTells", spec := "liftTells", apart := false, narrowed := true }
def LiftTellsUptoSaid : Prop := liftTellsUptoRow.holds Try.pinned (OpenSpec.upto liftTellsSpec)

/-- 'cuboidlaw06.LiftTwice', WHERE WHAT IT READS IS OF BULK AT MOST 1048576: true; the input reads as it did. -/
def liftTwiceUptoRow : OpenClaim := { program := "ytafjljlcdfccjaa", sum := "4fac6f22b6ca1387e3af44c23f014202ad9c3da5d5e5dc24648145b8a1f43e1b", func := "cuboid/cuboidlaw06.LiftTwice", spec := "liftTwice", apart := false, narrowed := true }
def LiftTwiceUptoSaid : Prop := liftTwiceUptoRow.holds Try.pinned (OpenSpec.upto liftTwiceSpec)

/-- 'cuboidlaw06.LiftParts', WHERE WHAT IT READS IS OF BULK AT MOST 1048576: true; the input reads as it did. -/
def liftPartsUptoRow : OpenClaim := { program := "ytafjljlcdfccjaa", sum := "4fac6f22b6ca1387e3af44c23f014202ad9c3da5d5e5dc24648145b8a1f43e1b", func := "cuboid/cuboidlaw06.LiftParts", spec := "liftParts", apart := false, narrowed := true }
def LiftPartsUptoSaid : Prop := liftPartsUptoRow.holds Try.pinned (OpenSpec.upto liftPartsSpec)

/-- 'cuboidlaw06.LiftWithin', WHERE WHAT IT READS IS OF BULK AT MOST 1048576: true; the input reads as it did. -/
def liftWithinUptoRow : OpenClaim := { program := "ytafjljlcdfccjaa", sum := "4fac6f22b6ca1387e3af44c23f014202ad9c3da5d5e5dc24648145b8a1f43e1b", func := "cuboid/cuboidlaw06.LiftWithin", spec := "liftWithin", apart := false, narrowed := true }
def LiftWithinUptoSaid : Prop := liftWithinUptoRow.holds Try.pinned (OpenSpec.upto liftWithinSpec)

/-- 'cuboidlaw06.LiftNone', WHERE WHAT IT READS IS OF BULK AT MOST 1048576: true; the input reads as it did. -/
def liftNoneUptoRow : OpenClaim := { program := "ytafjljlcdfccjaa", sum := "4fac6f22b6ca1387e3af44c23f014202ad9c3da5d5e5dc24648145b8a1f43e1b", func := "cuboid/cuboidlaw06.LiftNone", spec := "liftNone", apart := false, narrowed := true }
def LiftNoneUptoSaid : Prop := liftNoneUptoRow.holds Try.pinned (OpenSpec.upto liftNoneSpec)

end Rows
end Go.Proofs.Ytafjljlcdfccjaa
