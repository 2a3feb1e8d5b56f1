/-
  No cell of these rows narrows 'for every input' (looked for: loops, veiled, ifaces, maps, wideKeys, modest, calm, conditions, laid).
  DERIVED. THE GIVEN ROWS OF THIS SEAT. 5 by the template 'for every input the law returns true; each argument reads behind the call as it read before'; 0 by the template 'total and deterministic' (their statements: YtmnafjgkhhdidaaTotals.lean).
  GIVEN WITH THE SEED: the statements are not yours to turn. If you find one false, say at which input.
  Laid BY PROGRAM, IN A SANDBOX (cutbox-rows.mjs): the forced cells as the released guide's own fill.sh prints them over the translation deba559a42269226… (all of the seat's roots in one cut). By AI agents, Wed Nov 11 2026. No macro, syntax, notation, axiom, sorry.
-/
import Derived.Test.YtmnafjgkhhdidaaChecked
import GoSem.Claim
import GoSem.ClaimJoined
import GoSem.ClaimMapViews
import Derived.JoinedTies
import Derived.KernelRfl
namespace Go.Proofs.Ytmnafjgkhhdidaa
/- THE CELL 'sum', in the pinned program and in every row, IS THE sha256 OF THE DUMP (.gsa) THAT YtmnafjgkhhdidaaProg.lean LOADS. Nothing in Lean hashes anything: it is a label: what it is worth is what the hold of that sum in a sandbox is worth. -/
noncomputable def Try.pinned : Pinned := { name := "ytmnafjgkhhdidaa", sum := "deba559a42269226738c1bfc897d02f8a2d35d4c54a6ae8e79863c6a4be92c5f", checked := Try.checked }
namespace Rows
def none {H : Type} : Left H := { results := [], args := [] }

/-- 'cuboidlaw20.BasePlays': WHATEVER THE INPUT: true; the input reads as it did. -/
def basePlaysSpec : ChangeSpec := { name := "basePlays", fn := fun _ => fun
  | [d] => { results := [.lit (.bool true)], args := [d] }
  | _ => none }
def basePlaysRow : OpenClaim := { program := "ytmnafjgkhhdidaa", sum := "deba559a42269226738c1bfc897d02f8a2d35d4c54a6ae8e79863c6a4be92c5f", func := "cuboid/cuboidlaw20.BasePlays", spec := "basePlays", unfollowed := true, recurses := true, plainKeys := false, apart := false }
def BasePlaysSaid : Prop := basePlaysRow.holds Try.pinned (OpenSpec.ofChange basePlaysSpec)

/-- ITS FALSE NEIGHBOUR: 'it returns false'. Refute it at one input. -/
def basePlaysWrong : ChangeSpec := { name := "basePlays", fn := fun _ => fun
  | [d] => { results := [.lit (.bool false)], args := [d] }
  | _ => none }
def BasePlaysWrongFalsely : Prop := basePlaysRow.holds Try.pinned (OpenSpec.ofChange basePlaysWrong)

/-- 'cuboidlaw20.BaseBack': WHATEVER THE INPUT: true; the input reads as it did. -/
def baseBackSpec : ChangeSpec := { name := "baseBack", fn := fun _ => fun
  | [d1, d2] => { results := [.lit (.bool true)], args := [d1, d2] }
  | _ => none }
def baseBackRow : OpenClaim := { program := "ytmnafjgkhhdidaa", sum := "deba559a42269226738c1bfc897d02f8a2d35d4c54a6ae8e79863c6a4be92c5f", func := "cuboid/cuboidlaw20.BaseBack", spec := "baseBack", unfollowed := true, recurses := true, plainKeys := false, apart := false }
def BaseBackSaid : Prop := baseBackRow.holds Try.pinned (OpenSpec.ofChange baseBackSpec)

/-- ITS FALSE NEIGHBOUR: 'it returns false'. Refute it at one input. -/
def baseBackWrong : ChangeSpec := { name := "baseBack", fn := fun _ => fun
  | [d1, d2] => { results := [.lit (.bool false)], args := [d1, d2] }
  | _ => none }
def BaseBackWrongFalsely : Prop := baseBackRow.holds Try.pinned (OpenSpec.ofChange baseBackWrong)

/-- 'cuboidlaw20.BaseBound': WHATEVER THE INPUT: true; the input reads as it did. -/
def baseBoundSpec : ChangeSpec := { name := "baseBound", fn := fun _ => fun
  | [d1, d2, d3] => { results := [.lit (.bool true)], args := [d1, d2, d3] }
  | _ => none }
def baseBoundRow : OpenClaim := { program := "ytmnafjgkhhdidaa", sum := "deba559a42269226738c1bfc897d02f8a2d35d4c54a6ae8e79863c6a4be92c5f", func := "cuboid/cuboidlaw20.BaseBound", spec := "baseBound", unfollowed := true, recurses := true, plainKeys := false, apart := false }
def BaseBoundSaid : Prop := baseBoundRow.holds Try.pinned (OpenSpec.ofChange baseBoundSpec)

/-- ITS FALSE NEIGHBOUR: 'it returns false'. Refute it at one input. -/
def baseBoundWrong : ChangeSpec := { name := "baseBound", fn := fun _ => fun
  | [d1, d2, d3] => { results := [.lit (.bool false)], args := [d1, d2, d3] }
  | _ => none }
def BaseBoundWrongFalsely : Prop := baseBoundRow.holds Try.pinned (OpenSpec.ofChange baseBoundWrong)

/-- 'cuboidlaw20.BaseMany': WHATEVER THE INPUT: true; the input reads as it did. -/
def baseManySpec : ChangeSpec := { name := "baseMany", fn := fun _ => fun
  | [d1, d2, d3] => { results := [.lit (.bool true)], args := [d1, d2, d3] }
  | _ => none }
def baseManyRow : OpenClaim := { program := "ytmnafjgkhhdidaa", sum := "deba559a42269226738c1bfc897d02f8a2d35d4c54a6ae8e79863c6a4be92c5f", func := "cuboid/cuboidlaw20.BaseMany", spec := "baseMany", unfollowed := true, recurses := true, plainKeys := false, apart := false }
def BaseManySaid : Prop := baseManyRow.holds Try.pinned (OpenSpec.ofChange baseManySpec)

/-- ITS FALSE NEIGHBOUR: 'it returns false'. Refute it at one input. -/
def baseManyWrong : ChangeSpec := { name := "baseMany", fn := fun _ => fun
  | [d1, d2, d3] => { results := [.lit (.bool false)], args := [d1, d2, d3] }
  | _ => none }
def BaseManyWrongFalsely : Prop := baseManyRow.holds Try.pinned (OpenSpec.ofChange baseManyWrong)

/-- 'cuboidlaw20.BaseRows': WHATEVER THE INPUT: true; the input reads as it did. -/
def baseRowsSpec : ChangeSpec := { name := "baseRows", fn := fun _ => fun
  | [d1, d2] => { results := [.lit (.bool true)], args := [d1, d2] }
  | _ => none }
def baseRowsRow : OpenClaim := { program := "ytmnafjgkhhdidaa", sum := "deba559a42269226738c1bfc897d02f8a2d35d4c54a6ae8e79863c6a4be92c5f", func := "cuboid/cuboidlaw20.BaseRows", spec := "baseRows", unfollowed := true, recurses := true, plainKeys := false, apart := false }
def BaseRowsSaid : Prop := baseRowsRow.holds Try.pinned (OpenSpec.ofChange baseRowsSpec)

/-- ITS FALSE NEIGHBOUR: 'it returns false'. Refute it at one input. -/
def baseRowsWrong : ChangeSpec := { name := "baseRows", fn := fun _ => fun
  | [d1, d2] => { results := [.lit (.bool false)], args := [d1, d2] }
  | _ => none }
def BaseRowsWrongFalsely : Prop := baseRowsRow.holds Try.pinned (OpenSpec.ofChange baseRowsWrong)

/- THE SECOND FORM. 'bulk': how many values and letters a reading holds, each counted each time it is reached (what is shared counts as often as it is met; a slice's spare places count too). A statement '..UptoSaid' is the law's where the arguments, and the package variables that the reading takes, are together of bulk at most 1048576: NARROWER than '..Said'. Prove '..Said' where nothing that the law and all that it calls make is longer than what came in: it says more and counts as full. Else prove '..UptoSaid'. A law counts once. -/
mutual
def uptoBulk {H : Type} : DataW H → Nat
  | .lit (.string bytes) => bytes.length + 1
  | .lit _ => 1
  | .nil => 1
  | .ptr d => uptoBulk d + 1
  | .slice elems spare => uptoBulkAll elems + uptoBulkAll spare + 1
  | .agg parts => uptoBulkAll parts + 1
  | .iface _ d => uptoBulk d + 1
  | .map entries => uptoBulkEntries entries + 1
  | .held _ => 1
def uptoBulkAll {H : Type} : List (DataW H) → Nat
  | [] => 0
  | d :: r => uptoBulk d + uptoBulkAll r
def uptoBulkEntries {H : Type} : List (Lit × DataW H) → Nat
  | [] => 0
  | x :: r => uptoBulkEntry x + uptoBulkEntries r
def uptoBulkEntry {H : Type} : Lit × DataW H → Nat
  | (.string bytes, d) => bytes.length + uptoBulk d + 1
  | (_, d) => uptoBulk d + 1
 end
def uptoSmall : (H : Type) → List (DataW H) → Bool := fun _ ds => decide (uptoBulkAll ds ≤ 1048576)
def OpenSpec.upto (s : _root_.Go.ChangeSpec) : _root_.Go.OpenSpec := { _root_.Go.OpenSpec.ofChange s with cond := some uptoSmall }

/-- 'cuboidlaw20.BasePlays', WHERE WHAT IT READS IS OF BULK AT MOST 1048576: true; the input reads as it did. -/
def basePlaysUptoRow : OpenClaim := { program := "ytmnafjgkhhdidaa", sum := "deba559a42269226738c1bfc897d02f8a2d35d4c54a6ae8e79863c6a4be92c5f", func := "cuboid/cuboidlaw20.BasePlays", spec := "basePlays", unfollowed := true, recurses := true, plainKeys := false, apart := false, narrowed := true }
def BasePlaysUptoSaid : Prop := basePlaysUptoRow.holds Try.pinned (OpenSpec.upto basePlaysSpec)

/-- 'cuboidlaw20.BaseBack', WHERE WHAT IT READS IS OF BULK AT MOST 1048576: true; the input reads as it did. -/
def baseBackUptoRow : OpenClaim := { program := "ytmnafjgkhhdidaa", sum := "deba559a42269226738c1bfc897d02f8a2d35d4c54a6ae8e79863c6a4be92c5f", func := "cuboid/cuboidlaw20.BaseBack", spec := "baseBack", unfollowed := true, recurses := true, plainKeys := false, apart := false, narrowed := true }
def BaseBackUptoSaid : Prop := baseBackUptoRow.holds Try.pinned (OpenSpec.upto baseBackSpec)

/-- 'cuboidlaw20.BaseBound', WHERE WHAT IT READS IS OF BULK AT MOST 1048576: true; the input reads as it did. -/
def baseBoundUptoRow : OpenClaim := { program := "ytmnafjgkhhdidaa", sum := "deba559a42269226738c1bfc897d02f8a2d35d4c54a6ae8e79863c6a4be92c5f", func := "cuboid/cuboidlaw20.BaseBound", spec := "baseBound", unfollowed := true, recurses := true, plainKeys := false, apart := false, narrowed := true }
def BaseBoundUptoSaid : Prop := baseBoundUptoRow.holds Try.pinned (OpenSpec.upto baseBoundSpec)

/-- 'cuboidlaw20.BaseMany', WHERE WHAT IT READS IS OF BULK AT MOST 1048576: true; the input reads as it did. -/
def baseManyUptoRow : OpenClaim := { program := "ytmnafjgkhhdidaa", sum := "deba559a42269226738c1bfc897d02f8a2d35d4c54a6ae8e79863c6a4be92c5f", func := "cuboid/cuboidlaw20.BaseMany", spec := "baseMany", unfollowed := true, recurses := true, plainKeys := false, apart := false, narrowed := true }
def BaseManyUptoSaid : Prop := baseManyUptoRow.holds Try.pinned (OpenSpec.upto baseManySpec)

/-- 'cuboidlaw20.BaseRows', WHERE WHAT IT READS IS OF BULK AT MOST 1048576: true; the input reads as it did. -/
def baseRowsUptoRow : OpenClaim := { program := "ytmnafjgkhhdidaa", sum := "deba559a42269226738c1bfc897d02f8a2d35d4c54a6ae8e79863c6a4be92c5f", func := "cuboid/cuboidlaw20.BaseRows", spec := "baseRows", unfollowed := true, recurses := true, plainKeys := false, apart := false, narrowed := true }
def BaseRowsUptoSaid : Prop := baseRowsUptoRow.holds Try.pinned (OpenSpec.upto baseRowsSpec)

end Rows
end Go.Proofs.Ytmnafjgkhhdidaa
