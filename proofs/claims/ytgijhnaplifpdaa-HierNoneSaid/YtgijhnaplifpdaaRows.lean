/-
  No cell of these rows narrows 'for every input' (looked for: loops, veiled, ifaces, maps, wideKeys, modest, calm, conditions, laid).
  DERIVED. THE GIVEN ROWS OF THIS SEAT. 5 by the template 'for every input the law returns true; each argument reads behind the call as it read before'; 0 by the template 'total and deterministic' (their statements: YtgijhnaplifpdaaTotals.lean).
  GIVEN WITH THE SEED: the statements are not yours to turn. If you find one false, say at which input.
  Laid BY PROGRAM, IN A SANDBOX (cutbox-rows.mjs): the forced cells as the released guide's own fill.sh prints them over the translation b5f768c18f1e6aef… (all of the seat's roots in one cut). By AI agents, Wed Nov 11 2026. No macro, syntax, notation, axiom, sorry.
-/
import Derived.Test.YtgijhnaplifpdaaChecked
import GoSem.Claim
import GoSem.ClaimJoined
import GoSem.ClaimMapViews
import Derived.JoinedTies
import Derived.KernelRfl
namespace Go.Proofs.Ytgijhnaplifpdaa
/- THE CELL 'sum', in the pinned program and in every row, IS THE sha256 OF THE DUMP (.gsa) THAT YtgijhnaplifpdaaProg.lean LOADS. Nothing in Lean hashes anything: it is a label: what it is worth is what the hold of that sum in a sandbox is worth. -/
noncomputable def Try.pinned : Pinned := { name := "ytgijhnaplifpdaa", sum := "b5f768c18f1e6aefa40b43fde2c19d380d2e6e63aa0103b1e5480c0fe11024c0", checked := Try.checked }
namespace Rows
def none {H : Type} : Left H := { results := [], args := [] }

/-- 'cuboidlaw03.HierTells': WHATEVER THE INPUT: true; the input reads as it did. -/
def hierTellsSpec : ChangeSpec := { name := "hierTells", fn := fun _ => fun
  | [d] => { results := [.lit (.bool true)], args := [d] }
  | _ => none }
def hierTellsRow : OpenClaim := { program := "ytgijhnaplifpdaa", sum := "b5f768c18f1e6aefa40b43fde2c19d380d2e6e63aa0103b1e5480c0fe11024c0", func := "cuboid/cuboidlaw03.HierTells", spec := "hierTells", apart := false }
def HierTellsSaid : Prop := hierTellsRow.holds Try.pinned (OpenSpec.ofChange hierTellsSpec)

/-- ITS FALSE NEIGHBOUR: 'it returns false'. Refute it at one input. -/
def hierTellsWrong : ChangeSpec := { name := "hierTells", fn := fun _ => fun
  | [d] => { results := [.lit (.bool false)], args := [d] }
  | _ => none }
def HierTellsWrongFalsely : Prop := hierTellsRow.holds Try.pinned (OpenSpec.ofChange hierTellsWrong)

/-- 'cuboidlaw03.HierTwice': WHATEVER THE INPUT: true; the input reads as it did. -/
def hierTwiceSpec : ChangeSpec := { name := "hierTwice", fn := fun _ => fun
  | [d1, d2, d3] => { results := [.lit (.bool true)], args := [d1, d2, d3] }
  | _ => none }
def hierTwiceRow : OpenClaim := { program := "ytgijhnaplifpdaa", sum := "b5f768c18f1e6aefa40b43fde2c19d380d2e6e63aa0103b1e5480c0fe11024c0", func := "cuboid/cuboidlaw03.HierTwice", spec := "hierTwice", apart := false }
def HierTwiceSaid : Prop := hierTwiceRow.holds Try.pinned (OpenSpec.ofChange hierTwiceSpec)

/-- ITS FALSE NEIGHBOUR: 'it returns false'. Refute it at one input. -/
def hierTwiceWrong : ChangeSpec := { name := "hierTwice", fn := fun _ => fun
  | [d1, d2, d3] => { results := [.lit (.bool false)], args := [d1, d2, d3] }
  | _ => none }
def HierTwiceWrongFalsely : Prop := hierTwiceRow.holds Try.pinned (OpenSpec.ofChange hierTwiceWrong)

/-- 'cuboidlaw03.HierParts': WHATEVER THE INPUT: true; the input reads as it did. -/
def hierPartsSpec : ChangeSpec := { name := "hierParts", fn := fun _ => fun
  | [d1, d2, d3] => { results := [.lit (.bool true)], args := [d1, d2, d3] }
  | _ => none }
def hierPartsRow : OpenClaim := { program := "ytgijhnaplifpdaa", sum := "b5f768c18f1e6aefa40b43fde2c19d380d2e6e63aa0103b1e5480c0fe11024c0", func := "cuboid/cuboidlaw03.HierParts", spec := "hierParts", apart := false }
def HierPartsSaid : Prop := hierPartsRow.holds Try.pinned (OpenSpec.ofChange hierPartsSpec)

/-- ITS FALSE NEIGHBOUR: 'it returns false'. Refute it at one input. -/
def hierPartsWrong : ChangeSpec := { name := "hierParts", fn := fun _ => fun
  | [d1, d2, d3] => { results := [.lit (.bool false)], args := [d1, d2, d3] }
  | _ => none }
def HierPartsWrongFalsely : Prop := hierPartsRow.holds Try.pinned (OpenSpec.ofChange hierPartsWrong)

/-- 'cuboidlaw03.HierKids': WHATEVER THE INPUT: true; the input reads as it did. -/
def hierKidsSpec : ChangeSpec := { name := "hierKids", fn := fun _ => fun
  | [d1, d2, d3] => { results := [.lit (.bool true)], args := [d1, d2, d3] }
  | _ => none }
def hierKidsRow : OpenClaim := { program := "ytgijhnaplifpdaa", sum := "b5f768c18f1e6aefa40b43fde2c19d380d2e6e63aa0103b1e5480c0fe11024c0", func := "cuboid/cuboidlaw03.HierKids", spec := "hierKids", apart := false }
def HierKidsSaid : Prop := hierKidsRow.holds Try.pinned (OpenSpec.ofChange hierKidsSpec)

/-- ITS FALSE NEIGHBOUR: 'it returns false'. Refute it at one input. -/
def hierKidsWrong : ChangeSpec := { name := "hierKids", fn := fun _ => fun
  | [d1, d2, d3] => { results := [.lit (.bool false)], args := [d1, d2, d3] }
  | _ => none }
def HierKidsWrongFalsely : Prop := hierKidsRow.holds Try.pinned (OpenSpec.ofChange hierKidsWrong)

/-- 'cuboidlaw03.HierNone': WHATEVER THE INPUT: true; the input reads as it did. -/
def hierNoneSpec : ChangeSpec := { name := "hierNone", fn := fun _ => fun
  | [d1, d2, d3] => { results := [.lit (.bool true)], args := [d1, d2, d3] }
  | _ => none }
def hierNoneRow : OpenClaim := { program := "ytgijhnaplifpdaa", sum := "b5f768c18f1e6aefa40b43fde2c19d380d2e6e63aa0103b1e5480c0fe11024c0", func := "cuboid/cuboidlaw03.HierNone", spec := "hierNone", apart := false }
def HierNoneSaid : Prop := hierNoneRow.holds Try.pinned (OpenSpec.ofChange hierNoneSpec)

/-- ITS FALSE NEIGHBOUR: 'it returns false'. Refute it at one input. -/
def hierNoneWrong : ChangeSpec := { name := "hierNone", fn := fun _ => fun
  | [d1, d2, d3] => { results := [.lit (.bool false)], args := [d1, d2, d3] }
  | _ => none }
def HierNoneWrongFalsely : Prop := hierNoneRow.holds Try.pinned (OpenSpec.ofChange hierNoneWrong)

/- THE SECOND FORM. 'bulk': how many values and letters a reading holds, each counted each time it is reached (what is shared counts as often as it is met; a slice's spare places count too). A statement '..UptoSaid' is the law's where the arguments, and the package variables that the reading takes, are together of bulk at most 1048576: NARROWER than '..Said'. Prove '..Said' where nothing that the law and all that it calls make is longer than what came in: it says more and counts as full. Else prove '..UptoSaid'. A law counts once. -/
mutual
def uptoBulk {H : Type} : DataW H → Nat
  | .lit (.string bytes) => bytes.length + 1
  | .lit _ => 1
  | .nil => 1
  | .ptr d => uptoBulk d + 1
  | .slice elems spare => uptoBulkAll elems + uptoBulkAll spare + 1
  | .agg parts => uptoBulkAll parts + 1
  | .iface _ d => uptoBulk d + 1
  | .map entries => uptoBulkEntries entries + 1
  | .held _ => 1
def uptoBulkAll {H : Type} : List (DataW H) → Nat
  | [] => 0
  | d :: r => uptoBulk d + uptoBulkAll r
def uptoBulkEntries {H : Type} : List (Lit × DataW H) → Nat
  | [] => 0
  | x :: r => uptoBulkEntry x + uptoBulkEntries r
def uptoBulkEntry {H : Type} : Lit × DataW H → Nat
  | (.string bytes, d) => bytes.length + uptoBulk d + 1
  | (_, d) => uptoBulk d + 1
 end
def uptoSmall : (H : Type) → List (DataW H) → Bool := fun _ ds => decide (uptoBulkAll ds ≤ 1048576)
def OpenSpec.upto (s : _root_.Go.ChangeSpec) : _root_.Go.OpenSpec := { _root_.Go.OpenSpec.ofChange s with cond := some uptoSmall }

/-- 'cuboidlaw03.HierTells', WHERE WHAT IT READS IS OF BULK AT MOST 1048576: true; the input reads as it did. -/
def hierTellsUptoRow : OpenClaim := { program := "ytgijhnaplifpdaa", sum := "b5f768c18f1e6aefa40b43fde2c19d380d2e6e63aa0103b1e5480c0fe11024c0", func := "cuboid/cuboidlaw03.HierTells", spec := "hierTells", apart := false, narrowed := true }
def HierTellsUptoSaid : Prop := hierTellsUptoRow.holds Try.pinned (OpenSpec.upto hierTellsSpec)

/-- 'cuboidlaw03.HierTwice', WHERE WHAT IT READS IS OF BULK AT MOST 1048576: true; the input reads as it did. -/
def hierTwiceUptoRow : OpenClaim := { program := "ytgijhnaplifpdaa", sum := "b5f768c18f1e6aefa40b43fde2c19d380d2e6e63aa0103b1e5480c0fe11024c0", func := "cuboid/cuboidlaw03.HierTwice", spec := "hierTwice", apart := false, narrowed := true }
def HierTwiceUptoSaid : Prop := hierTwiceUptoRow.holds Try.pinned (OpenSpec.upto hierTwiceSpec)

/-- 'cuboidlaw03.HierParts', WHERE WHAT IT READS IS OF BULK AT MOST 1048576: true; the input reads as it did. -/
def hierPartsUptoRow : OpenClaim := { program := "ytgijhnaplifpdaa", sum := "b5f768c18f1e6aefa40b43fde2c19d380d2e6e63aa0103b1e5480c0fe11024c0", func := "cuboid/cuboidlaw03.HierParts", spec := "hierParts", apart := false, narrowed := true }
def HierPartsUptoSaid : Prop := hierPartsUptoRow.holds Try.pinned (OpenSpec.upto hierPartsSpec)

/-- 'cuboidlaw03.HierKids', WHERE WHAT IT READS IS OF BULK AT MOST 1048576: true; the input reads as it did. -/
def hierKidsUptoRow : OpenClaim := { program := "ytgijhnaplifpdaa", sum := "b5f768c18f1e6aefa40b43fde2c19d380d2e6e63aa0103b1e5480c0fe11024c0", func := "cuboid/cuboidlaw03.HierKids", spec := "hierKids", apart := false, narrowed := true }
def HierKidsUptoSaid : Prop := hierKidsUptoRow.holds Try.pinned (OpenSpec.upto hierKidsSpec)

/-- 'cuboidlaw03.HierNone', WHERE WHAT IT READS IS OF BULK AT MOST 1048576: true; the input reads as it did. -/
def hierNoneUptoRow : OpenClaim := { program := "ytgijhnaplifpdaa", sum := "b5f768c18f1e6aefa40b43fde2c19d380d2e6e63aa0103b1e5480c0fe11024c0", func := "cuboid/cuboidlaw03.HierNone", spec := "hierNone", apart := false, narrowed := true }
def HierNoneUptoSaid : Prop := hierNoneUptoRow.holds Try.pinned (OpenSpec.upto hierNoneSpec)

end Rows
end Go.Proofs.Ytgijhnaplifpdaa
