/-
  No cell of these rows narrows 'for every input' (looked for: loops, veiled, ifaces, maps, wideKeys, modest, calm, conditions, laid).
  DERIVED. THE GIVEN ROWS OF THIS SEAT. 5 by the template 'for every input the law returns true; each argument reads behind the call as it read before'; 0 by the template 'total and deterministic' (their statements: YtaflkcaebecpfaaTotals.lean).
  GIVEN WITH THE SEED: the statements are not yours to turn. If you find one false, say at which input.
  Laid BY PROGRAM, IN A SANDBOX (cutbox-rows.mjs): the forced cells as the released guide's own fill.sh prints them over the translation facb985e254106f0… (all of the seat's roots in one cut). By AI agents, Wed Nov 11 2026. No macro, syntax, notation, axiom, sorry.
-/
import Derived.Test.YtaflkcaebecpfaaChecked
import GoSem.Claim
import GoSem.ClaimJoined
import GoSem.ClaimMapViews
import Derived.JoinedTies
import Derived.KernelRfl
namespace Go.Proofs.Ytaflkcaebecpfaa
/- THE CELL 'sum', in the pinned program and in every row, IS THE sha256 OF THE DUMP (.gsa) THAT YtaflkcaebecpfaaProg.lean LOADS. Nothing in Lean hashes anything: it is a label: what it is worth is what the hold of that sum in a sandbox is worth. -/
noncomputable def Try.pinned : Pinned := { name := "ytaflkcaebecpfaa", sum := "facb985e254106f080eb0fa34edd29f2e5bec565e4d72eb9348dbc96cba50b65", checked := Try.checked }
namespace Rows
def none {H : Type} : Left H := { results := [], args := [] }

/-- 'cuboidlaw17.RouteTells': WHATEVER THE INPUT: true; the input reads as it did. -/
def routeTellsSpec : ChangeSpec := { name := "routeTells", fn := fun _ => fun
  | [d] => { results := [.lit (.bool true)], args := [d] }
  | _ => none }
def routeTellsRow : OpenClaim := { program := "ytaflkcaebecpfaa", sum := "facb985e254106f080eb0fa34edd29f2e5bec565e4d72eb9348dbc96cba50b65", func := "cuboid/cuboidlaw17.RouteTells", spec := "routeTells", unfollowed := true, recurses := true, apart := false }
def RouteTellsSaid : Prop := routeTellsRow.holds Try.pinned (OpenSpec.ofChange routeTellsSpec)

/-- ITS FALSE NEIGHBOUR: 'it returns false'. Refute it at one input. -/
def routeTellsWrong : ChangeSpec := { name := "routeTells", fn := fun _ => fun
  | [d] => { results := [.lit (.bool false)], args := [d] }
  | _ => none }
def RouteTellsWrongFalsely : Prop := routeTellsRow.holds Try.pinned (OpenSpec.ofChange routeTellsWrong)

/-- 'cuboidlaw17.RouteOrder': WHATEVER THE INPUT: true; the input reads as it did. -/
def routeOrderSpec : ChangeSpec := { name := "routeOrder", fn := fun _ => fun
  | [d1, d2] => { results := [.lit (.bool true)], args := [d1, d2] }
  | _ => none }
def routeOrderRow : OpenClaim := { program := "ytaflkcaebecpfaa", sum := "facb985e254106f080eb0fa34edd29f2e5bec565e4d72eb9348dbc96cba50b65", func := "cuboid/cuboidlaw17.RouteOrder", spec := "routeOrder", unfollowed := true, recurses := true, apart := false }
def RouteOrderSaid : Prop := routeOrderRow.holds Try.pinned (OpenSpec.ofChange routeOrderSpec)

/-- ITS FALSE NEIGHBOUR: 'it returns false'. Refute it at one input. -/
def routeOrderWrong : ChangeSpec := { name := "routeOrder", fn := fun _ => fun
  | [d1, d2] => { results := [.lit (.bool false)], args := [d1, d2] }
  | _ => none }
def RouteOrderWrongFalsely : Prop := routeOrderRow.holds Try.pinned (OpenSpec.ofChange routeOrderWrong)

/-- 'cuboidlaw17.RouteReach': WHATEVER THE INPUT: true; the input reads as it did. -/
def routeReachSpec : ChangeSpec := { name := "routeReach", fn := fun _ => fun
  | [d1, d2] => { results := [.lit (.bool true)], args := [d1, d2] }
  | _ => none }
def routeReachRow : OpenClaim := { program := "ytaflkcaebecpfaa", sum := "facb985e254106f080eb0fa34edd29f2e5bec565e4d72eb9348dbc96cba50b65", func := "cuboid/cuboidlaw17.RouteReach", spec := "routeReach", unfollowed := true, recurses := true, apart := false }
def RouteReachSaid : Prop := routeReachRow.holds Try.pinned (OpenSpec.ofChange routeReachSpec)

/-- ITS FALSE NEIGHBOUR: 'it returns false'. Refute it at one input. -/
def routeReachWrong : ChangeSpec := { name := "routeReach", fn := fun _ => fun
  | [d1, d2] => { results := [.lit (.bool false)], args := [d1, d2] }
  | _ => none }
def RouteReachWrongFalsely : Prop := routeReachRow.holds Try.pinned (OpenSpec.ofChange routeReachWrong)

/-- 'cuboidlaw17.RoutePick': WHATEVER THE INPUT: true; the input reads as it did. -/
def routePickSpec : ChangeSpec := { name := "routePick", fn := fun _ => fun
  | [d1, d2, d3] => { results := [.lit (.bool true)], args := [d1, d2, d3] }
  | _ => none }
def routePickRow : OpenClaim := { program := "ytaflkcaebecpfaa", sum := "facb985e254106f080eb0fa34edd29f2e5bec565e4d72eb9348dbc96cba50b65", func := "cuboid/cuboidlaw17.RoutePick", spec := "routePick", unfollowed := true, recurses := true, apart := false }
def RoutePickSaid : Prop := routePickRow.holds Try.pinned (OpenSpec.ofChange routePickSpec)

/-- ITS FALSE NEIGHBOUR: 'it returns false'. Refute it at one input. -/
def routePickWrong : ChangeSpec := { name := "routePick", fn := fun _ => fun
  | [d1, d2, d3] => { results := [.lit (.bool false)], args := [d1, d2, d3] }
  | _ => none }
def RoutePickWrongFalsely : Prop := routePickRow.holds Try.pinned (OpenSpec.ofChange routePickWrong)

/-- 'cuboidlaw17.RouteLess': WHATEVER THE INPUT: true; the input reads as it did. -/
def routeLessSpec : ChangeSpec := { name := "routeLess", fn := fun _ => fun
  | [d1, d2, d3] => { results := [.lit (.bool true)], args := [d1, d2, d3] }
  | _ => none }
def routeLessRow : OpenClaim := { program := "ytaflkcaebecpfaa", sum := "facb985e254106f080eb0fa34edd29f2e5bec565e4d72eb9348dbc96cba50b65", func := "cuboid/cuboidlaw17.RouteLess", spec := "routeLess", unfollowed := true, recurses := true, apart := false }
def RouteLessSaid : Prop := routeLessRow.holds Try.pinned (OpenSpec.ofChange routeLessSpec)

/-- ITS FALSE NEIGHBOUR: 'it returns false'. Refute it at one input. -/
def routeLessWrong : ChangeSpec := { name := "routeLess", fn := fun _ => fun
  | [d1, d2, d3] => { results := [.lit (.bool false)], args := [d1, d2, d3] }
  | _ => none }
def RouteLessWrongFalsely : Prop := routeLessRow.holds Try.pinned (OpenSpec.ofChange routeLessWrong)

/- THE SECOND FORM. 'bulk': how many values and letters a reading holds, each counted each time it is reached (what is shared counts as often as it is met; a slice's spare places count too). A statement '..UptoSaid' is the law's where the arguments, and the package variables that the reading takes, are together of bulk at most 1048576: NARROWER than '..Said'. Prove '..Said' where nothing that the law and all that it calls make is longer than what came in: it says more and counts as full. Else prove '..UptoSaid'. A law counts once. -/
mutual
def uptoBulk {H : Type} : DataW H → Nat
  | .lit (.string bytes) => bytes.length + 1
  | .lit _ => 1
  | .nil => 1
  | .ptr d => uptoBulk d + 1
  | .slice elems spare => uptoBulkAll elems + uptoBulkAll spare + 1
  | .agg parts => uptoBulkAll parts + 1
  | .iface _ d => uptoBulk d + 1
  | .map entries => uptoBulkEntries entries + 1
  | .held _ => 1
def uptoBulkAll {H : Type} : List (DataW H) → Nat
  | [] => 0
  | d :: r => uptoBulk d + uptoBulkAll r
def uptoBulkEntries {H : Type} : List (Lit × DataW H) → Nat
  | [] => 0
  | x :: r => uptoBulkEntry x + uptoBulkEntries r
def uptoBulkEntry {H : Type} : Lit × DataW H → Nat
  | (.string bytes, d) => bytes.length + uptoBulk d + 1
  | (_, d) => uptoBulk d + 1
 end
def uptoSmall : (H : Type) → List (DataW H) → Bool := fun _ ds => decide (uptoBulkAll ds ≤ 1048576)
def OpenSpec.upto (s : _root_.Go.ChangeSpec) : _root_.Go.OpenSpec := { _root_.Go.OpenSpec.ofChange s with cond := some uptoSmall }

/-- 'cuboidlaw17.RouteTells', WHERE WHAT IT READS IS OF BULK AT MOST 1048576: true; the input reads as it did. -/
def routeTellsUptoRow : OpenClaim := { program := "ytaflkcaebecpfaa", sum := "facb985e254106f080eb0fa34edd29f2e5bec565e4d72eb9348dbc96cba50b65", func := "cuboid/cuboidlaw17.RouteTells", spec := "routeTells", unfollowed := true, recurses := true, apart := false, narrowed := true }
def RouteTellsUptoSaid : Prop := routeTellsUptoRow.holds Try.pinned (OpenSpec.upto routeTellsSpec)

/-- 'cuboidlaw17.RouteOrder', WHERE WHAT IT READS IS OF BULK AT MOST 1048576: true; the input reads as it did. -/
def routeOrderUptoRow : OpenClaim := { program := "ytaflkcaebecpfaa", sum := "facb985e254106f080eb0fa34edd29f2e5bec565e4d72eb9348dbc96cba50b65", func := "cuboid/cuboidlaw17.RouteOrder", spec := "routeOrder", unfollowed := true, recurses := true, apart := false, narrowed := true }
def RouteOrderUptoSaid : Prop := routeOrderUptoRow.holds Try.pinned (OpenSpec.upto routeOrderSpec)

/-- 'cuboidlaw17.RouteReach', WHERE WHAT IT READS IS OF BULK AT MOST 1048576: true; the input reads as it did. -/
def routeReachUptoRow : OpenClaim := { program := "ytaflkcaebecpfaa", sum := "facb985e254106f080eb0fa34edd29f2e5bec565e4d72eb9348dbc96cba50b65", func := "cuboid/cuboidlaw17.RouteReach", spec := "routeReach", unfollowed := true, recurses := true, apart := false, narrowed := true }
def RouteReachUptoSaid : Prop := routeReachUptoRow.holds Try.pinned (OpenSpec.upto routeReachSpec)

/-- 'cuboidlaw17.RoutePick', WHERE WHAT IT READS IS OF BULK AT MOST 1048576: true; the input reads as it did. -/
def routePickUptoRow : OpenClaim := { program := "ytaflkcaebecpfaa", sum := "facb985e254106f080eb0fa34edd29f2e5bec565e4d72eb9348dbc96cba50b65", func := "cuboid/cuboidlaw17.RoutePick", spec := "routePick", unfollowed := true, recurses := true, apart := false, narrowed := true }
def RoutePickUptoSaid : Prop := routePickUptoRow.holds Try.pinned (OpenSpec.upto routePickSpec)

/-- 'cuboidlaw17.RouteLess', WHERE WHAT IT READS IS OF BULK AT MOST 1048576: true; the input reads as it did. -/
def routeLessUptoRow : OpenClaim := { program := "ytaflkcaebecpfaa", sum := "facb985e254106f080eb0fa34edd29f2e5bec565e4d72eb9348dbc96cba50b65", func := "cuboid/cuboidlaw17.RouteLess", spec := "routeLess", unfollowed := true, recurses := true, apart := false, narrowed := true }
def RouteLessUptoSaid : Prop := routeLessUptoRow.holds Try.pinned (OpenSpec.upto routeLessSpec)

end Rows
end Go.Proofs.Ytaflkcaebecpfaa
