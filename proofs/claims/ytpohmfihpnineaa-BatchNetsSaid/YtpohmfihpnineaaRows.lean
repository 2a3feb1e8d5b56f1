/-
  No cell of these rows narrows 'for every input' (looked for: loops, veiled, ifaces, maps, wideKeys, modest, calm, conditions, laid).
  DERIVED. THE GIVEN ROWS OF THIS SEAT. 5 by the template 'for every input the law returns true; each argument reads behind the call as it read before'; 0 by the template 'total and deterministic' (their statements: YtpohmfihpnineaaTotals.lean).
  GIVEN WITH THE SEED: the statements are not yours to turn. If you find one false, say at which input.
  Laid BY PROGRAM, IN A SANDBOX (cutbox-rows.mjs): the forced cells as the released guide's own fill.sh prints them over the translation b175dea5642f7457… (all of the seat's roots in one cut). By AI agents, Wed Nov 11 2026. No macro, syntax, notation, axiom, sorry.
-/
import Derived.Test.YtpohmfihpnineaaChecked
import GoSem.Claim
import GoSem.ClaimJoined
import GoSem.ClaimMapViews
import Derived.JoinedTies
import Derived.KernelRfl
namespace Go.Proofs.Ytpohmfihpnineaa
/- THE CELL 'sum', in the pinned program and in every row, IS THE sha256 OF THE DUMP (.gsa) THAT YtpohmfihpnineaaProg.lean LOADS. Nothing in Lean hashes anything: it is a label: what it is worth is what the hold of that sum in a sandbox is worth. -/
noncomputable def Try.pinned : Pinned := { name := "ytpohmfihpnineaa", sum := "b175dea5642f74570fe9b0f8ec69363a1fb5c274785e428ec5cd53123e16f19a", checked := Try.checked }
namespace Rows
def none {H : Type} : Left H := { results := [], args := [] }

/-- 'cuboidlaw21.BatchTells': WHATEVER THE INPUT: true; the input reads as it did. -/
def batchTellsSpec : ChangeSpec := { name := "batchTells", fn := fun _ => fun
  | [d] => { results := [.lit (.bool true)], args := [d] }
  | _ => none }
def batchTellsRow : OpenClaim := { program := "ytpohmfihpnineaa", sum := "b175dea5642f74570fe9b0f8ec69363a1fb5c274785e428ec5cd53123e16f19a", func := "cuboid/cuboidlaw21.BatchTells", spec := "batchTells", unfollowed := true, recurses := true, plainKeys := false, apart := false }
def BatchTellsSaid : Prop := batchTellsRow.holds Try.pinned (OpenSpec.ofChange batchTellsSpec)

/-- ITS FALSE NEIGHBOUR: 'it returns false'. Refute it at one input. -/
def batchTellsWrong : ChangeSpec := { name := "batchTells", fn := fun _ => fun
  | [d] => { results := [.lit (.bool false)], args := [d] }
  | _ => none }
def BatchTellsWrongFalsely : Prop := batchTellsRow.holds Try.pinned (OpenSpec.ofChange batchTellsWrong)

/-- 'cuboidlaw21.BatchNets': WHATEVER THE INPUT: true; the input reads as it did. -/
def batchNetsSpec : ChangeSpec := { name := "batchNets", fn := fun _ => fun
  | [d] => { results := [.lit (.bool true)], args := [d] }
  | _ => none }
def batchNetsRow : OpenClaim := { program := "ytpohmfihpnineaa", sum := "b175dea5642f74570fe9b0f8ec69363a1fb5c274785e428ec5cd53123e16f19a", func := "cuboid/cuboidlaw21.BatchNets", spec := "batchNets", unfollowed := true, recurses := true, plainKeys := false, apart := false }
def BatchNetsSaid : Prop := batchNetsRow.holds Try.pinned (OpenSpec.ofChange batchNetsSpec)

/-- ITS FALSE NEIGHBOUR: 'it returns false'. Refute it at one input. -/
def batchNetsWrong : ChangeSpec := { name := "batchNets", fn := fun _ => fun
  | [d] => { results := [.lit (.bool false)], args := [d] }
  | _ => none }
def BatchNetsWrongFalsely : Prop := batchNetsRow.holds Try.pinned (OpenSpec.ofChange batchNetsWrong)

/-- 'cuboidlaw21.BatchBack': WHATEVER THE INPUT: true; the input reads as it did. -/
def batchBackSpec : ChangeSpec := { name := "batchBack", fn := fun _ => fun
  | [d1, d2, d3] => { results := [.lit (.bool true)], args := [d1, d2, d3] }
  | _ => none }
def batchBackRow : OpenClaim := { program := "ytpohmfihpnineaa", sum := "b175dea5642f74570fe9b0f8ec69363a1fb5c274785e428ec5cd53123e16f19a", func := "cuboid/cuboidlaw21.BatchBack", spec := "batchBack", unfollowed := true, recurses := true, plainKeys := false, apart := false }
def BatchBackSaid : Prop := batchBackRow.holds Try.pinned (OpenSpec.ofChange batchBackSpec)

/-- ITS FALSE NEIGHBOUR: 'it returns false'. Refute it at one input. -/
def batchBackWrong : ChangeSpec := { name := "batchBack", fn := fun _ => fun
  | [d1, d2, d3] => { results := [.lit (.bool false)], args := [d1, d2, d3] }
  | _ => none }
def BatchBackWrongFalsely : Prop := batchBackRow.holds Try.pinned (OpenSpec.ofChange batchBackWrong)

/-- 'cuboidlaw21.BatchReads': WHATEVER THE INPUT: true; the input reads as it did. -/
def batchReadsSpec : ChangeSpec := { name := "batchReads", fn := fun _ => fun
  | [d1, d2, d3] => { results := [.lit (.bool true)], args := [d1, d2, d3] }
  | _ => none }
def batchReadsRow : OpenClaim := { program := "ytpohmfihpnineaa", sum := "b175dea5642f74570fe9b0f8ec69363a1fb5c274785e428ec5cd53123e16f19a", func := "cuboid/cuboidlaw21.BatchReads", spec := "batchReads", unfollowed := true, recurses := true, plainKeys := false, apart := false }
def BatchReadsSaid : Prop := batchReadsRow.holds Try.pinned (OpenSpec.ofChange batchReadsSpec)

/-- ITS FALSE NEIGHBOUR: 'it returns false'. Refute it at one input. -/
def batchReadsWrong : ChangeSpec := { name := "batchReads", fn := fun _ => fun
  | [d1, d2, d3] => { results := [.lit (.bool false)], args := [d1, d2, d3] }
  | _ => none }
def BatchReadsWrongFalsely : Prop := batchReadsRow.holds Try.pinned (OpenSpec.ofChange batchReadsWrong)

/-- 'cuboidlaw21.BatchParts': WHATEVER THE INPUT: true; the input reads as it did. -/
def batchPartsSpec : ChangeSpec := { name := "batchParts", fn := fun _ => fun
  | [d1, d2] => { results := [.lit (.bool true)], args := [d1, d2] }
  | _ => none }
def batchPartsRow : OpenClaim := { program := "ytpohmfihpnineaa", sum := "b175dea5642f74570fe9b0f8ec69363a1fb5c274785e428ec5cd53123e16f19a", func := "cuboid/cuboidlaw21.BatchParts", spec := "batchParts", unfollowed := true, recurses := true, plainKeys := false, apart := false }
def BatchPartsSaid : Prop := batchPartsRow.holds Try.pinned (OpenSpec.ofChange batchPartsSpec)

/-- ITS FALSE NEIGHBOUR: 'it returns false'. Refute it at one input. -/
def batchPartsWrong : ChangeSpec := { name := "batchParts", fn := fun _ => fun
  | [d1, d2] => { results := [.lit (.bool false)], args := [d1, d2] }
  | _ => none }
def BatchPartsWrongFalsely : Prop := batchPartsRow.holds Try.pinned (OpenSpec.ofChange batchPartsWrong)

/- THE SECOND FORM. 'bulk': how many values and letters a reading holds, each counted each time it is reached (what is shared counts as often as it is met; a slice's spare places count too). A statement '..UptoSaid' is the law's where the arguments, and the package variables that the reading takes, are together of bulk at most 1048576: NARROWER than '..Said'. Prove '..Said' where nothing that the law and all that it calls make is longer than what came in: it says more and counts as full. Else prove '..UptoSaid'. A law counts once. -/
mutual
def uptoBulk {H : Type} : DataW H → Nat
  | .lit (.string bytes) => bytes.length + 1
  | .lit _ => 1
  | .nil => 1
  | .ptr d => uptoBulk d + 1
  | .slice elems spare => uptoBulkAll elems + uptoBulkAll spare + 1
  | .agg parts => uptoBulkAll parts + 1
  | .iface _ d => uptoBulk d + 1
  | .map entries => uptoBulkEntries entries + 1
  | .held _ => 1
def uptoBulkAll {H : Type} : List (DataW H) → Nat
  | [] => 0
  | d :: r => uptoBulk d + uptoBulkAll r
def uptoBulkEntries {H : Type} : List (Lit × DataW H) → Nat
  | [] => 0
  | x :: r => uptoBulkEntry x + uptoBulkEntries r
def uptoBulkEntry {H : Type} : Lit × DataW H → Nat
  | (.string bytes, d) => bytes.length + uptoBulk d + 1
  | (_, d) => uptoBulk d + 1
 end
def uptoSmall : (H : Type) → List (DataW H) → Bool := fun _ ds => decide (uptoBulkAll ds ≤ 1048576)
def OpenSpec.upto (s : _root_.Go.ChangeSpec) : _root_.Go.OpenSpec := { _root_.Go.OpenSpec.ofChange s with cond := some uptoSmall }

/-- 'cuboidlaw21.BatchTells', WHERE WHAT IT READS IS OF BULK AT MOST 1048576: true; the input reads as it did. -/
def batchTellsUptoRow : OpenClaim := { program := "ytpohmfihpnineaa", sum := "b175dea5642f74570fe9b0f8ec69363a1fb5c274785e428ec5cd53123e16f19a", func := "cuboid/cuboidlaw21.BatchTells", spec := "batchTells", unfollowed := true, recurses := true, plainKeys := false, apart := false, narrowed := true }
def BatchTellsUptoSaid : Prop := batchTellsUptoRow.holds Try.pinned (OpenSpec.upto batchTellsSpec)

/-- 'cuboidlaw21.BatchNets', WHERE WHAT IT READS IS OF BULK AT MOST 1048576: true; the input reads as it did. -/
def batchNetsUptoRow : OpenClaim := { program := "ytpohmfihpnineaa", sum := "b175dea5642f74570fe9b0f8ec69363a1fb5c274785e428ec5cd53123e16f19a", func := "cuboid/cuboidlaw21.BatchNets", spec := "batchNets", unfollowed := true, recurses := true, plainKeys := false, apart := false, narrowed := true }
def BatchNetsUptoSaid : Prop := batchNetsUptoRow.holds Try.pinned (OpenSpec.upto batchNetsSpec)

/-- 'cuboidlaw21.BatchBack', WHERE WHAT IT READS IS OF BULK AT MOST 1048576: true; the input reads as it did. -/
def batchBackUptoRow : OpenClaim := { program := "ytpohmfihpnineaa", sum := "b175dea5642f74570fe9b0f8ec69363a1fb5c274785e428ec5cd53123e16f19a", func := "cuboid/cuboidlaw21.BatchBack", spec := "batchBack", unfollowed := true, recurses := true, plainKeys := false, apart := false, narrowed := true }
def BatchBackUptoSaid : Prop := batchBackUptoRow.holds Try.pinned (OpenSpec.upto batchBackSpec)

/-- 'cuboidlaw21.BatchReads', WHERE WHAT IT READS IS OF BULK AT MOST 1048576: true; the input reads as it did. -/
def batchReadsUptoRow : OpenClaim := { program := "ytpohmfihpnineaa", sum := "b175dea5642f74570fe9b0f8ec69363a1fb5c274785e428ec5cd53123e16f19a", func := "cuboid/cuboidlaw21.BatchReads", spec := "batchReads", unfollowed := true, recurses := true, plainKeys := false, apart := false, narrowed := true }
def BatchReadsUptoSaid : Prop := batchReadsUptoRow.holds Try.pinned (OpenSpec.upto batchReadsSpec)

/-- 'cuboidlaw21.BatchParts', WHERE WHAT IT READS IS OF BULK AT MOST 1048576: true; the input reads as it did. -/
def batchPartsUptoRow : OpenClaim := { program := "ytpohmfihpnineaa", sum := "b175dea5642f74570fe9b0f8ec69363a1fb5c274785e428ec5cd53123e16f19a", func := "cuboid/cuboidlaw21.BatchParts", spec := "batchParts", unfollowed := true, recurses := true, plainKeys := false, apart := false, narrowed := true }
def BatchPartsUptoSaid : Prop := batchPartsUptoRow.holds Try.pinned (OpenSpec.upto batchPartsSpec)

end Rows
end Go.Proofs.Ytpohmfihpnineaa
