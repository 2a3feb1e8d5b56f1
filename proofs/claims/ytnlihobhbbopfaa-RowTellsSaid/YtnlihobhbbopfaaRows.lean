/-
  No cell of these rows narrows 'for every input' (looked for: loops, veiled, ifaces, maps, wideKeys, modest, calm, conditions, laid).
  DERIVED. THE GIVEN ROWS OF THIS SEAT. 6 by the template 'for every input the law returns true; each argument reads behind the call as it read before'; 0 by the template 'total and deterministic' (their statements: YtnlihobhbbopfaaTotals.lean).
  GIVEN WITH THE SEED: the statements are not yours to turn. If you find one false, say at which input.
  Laid BY PROGRAM, IN A SANDBOX (cutbox-rows.mjs): the forced cells as the released guide's own fill.sh prints them over the translation fa6f25066469fd6e… (all of the seat's roots in one cut). By AI agents, Wed Nov 11 2026. No macro, syntax, notation, axiom, sorry.
-/
import Derived.Test.YtnlihobhbbopfaaChecked
import GoSem.Claim
import GoSem.ClaimJoined
import GoSem.ClaimMapViews
import Derived.JoinedTies
import Derived.KernelRfl
namespace Go.Proofs.Ytnlihobhbbopfaa
/- THE CELL 'sum', in the pinned program and in every row, IS THE sha256 OF THE DUMP (.gsa) THAT YtnlihobhbbopfaaProg.lean LOADS. Nothing in Lean hashes anything: it is a label: what it is worth is what the hold of that sum in a sandbox is worth. -/
noncomputable def Try.pinned : Pinned := { name := "ytnlihobhbbopfaa", sum := "fa6f25066469fd6edc5f7ab615817fee6d664e3b558eed3c042c15483afd5263", checked := Try.checked }
namespace Rows
def none {H : Type} : Left H := { results := [], args := [] }

/-- 'cuboidlaw07.RowLess': WHATEVER THE INPUT: true; the input reads as it did. -/
def rowLessSpec : ChangeSpec := { name := "rowLess", fn := fun _ => fun
  | [d1, d2, d3] => { results := [.lit (.bool true)], args := [d1, d2, d3] }
  | _ => none }
def rowLessRow : OpenClaim := { program := "ytnlihobhbbopfaa", sum := "fa6f25066469fd6edc5f7ab615817fee6d664e3b558eed3c042c15483afd5263", func := "cuboid/cuboidlaw07.RowLess", spec := "rowLess", apart := false }
def RowLessSaid : Prop := rowLessRow.holds Try.pinned (OpenSpec.ofChange rowLessSpec)

/-- ITS FALSE NEIGHBOUR: 'it returns false'. Refute it at one input. -/
def rowLessWrong : ChangeSpec := { name := "rowLess", fn := fun _ => fun
  | [d1, d2, d3] => { results := [.lit (.bool false)], args := [d1, d2, d3] }
  | _ => none }
def RowLessWrongFalsely : Prop := rowLessRow.holds Try.pinned (OpenSpec.ofChange rowLessWrong)

/-- 'cuboidlaw07.RowMass': WHATEVER THE INPUT: true; the input reads as it did. -/
def rowMassSpec : ChangeSpec := { name := "rowMass", fn := fun _ => fun
  | [d1, d2] => { results := [.lit (.bool true)], args := [d1, d2] }
  | _ => none }
def rowMassRow : OpenClaim := { program := "ytnlihobhbbopfaa", sum := "fa6f25066469fd6edc5f7ab615817fee6d664e3b558eed3c042c15483afd5263", func := "cuboid/cuboidlaw07.RowMass", spec := "rowMass", apart := false }
def RowMassSaid : Prop := rowMassRow.holds Try.pinned (OpenSpec.ofChange rowMassSpec)

/-- ITS FALSE NEIGHBOUR: 'it returns false'. Refute it at one input. -/
def rowMassWrong : ChangeSpec := { name := "rowMass", fn := fun _ => fun
  | [d1, d2] => { results := [.lit (.bool false)], args := [d1, d2] }
  | _ => none }
def RowMassWrongFalsely : Prop := rowMassRow.holds Try.pinned (OpenSpec.ofChange rowMassWrong)

/-- 'cuboidlaw07.RowSums': WHATEVER THE INPUT: true; the input reads as it did. -/
def rowSumsSpec : ChangeSpec := { name := "rowSums", fn := fun _ => fun
  | [d1, d2] => { results := [.lit (.bool true)], args := [d1, d2] }
  | _ => none }
def rowSumsRow : OpenClaim := { program := "ytnlihobhbbopfaa", sum := "fa6f25066469fd6edc5f7ab615817fee6d664e3b558eed3c042c15483afd5263", func := "cuboid/cuboidlaw07.RowSums", spec := "rowSums", apart := false }
def RowSumsSaid : Prop := rowSumsRow.holds Try.pinned (OpenSpec.ofChange rowSumsSpec)

/-- ITS FALSE NEIGHBOUR: 'it returns false'. Refute it at one input. -/
def rowSumsWrong : ChangeSpec := { name := "rowSums", fn := fun _ => fun
  | [d1, d2] => { results := [.lit (.bool false)], args := [d1, d2] }
  | _ => none }
def RowSumsWrongFalsely : Prop := rowSumsRow.holds Try.pinned (OpenSpec.ofChange rowSumsWrong)

/-- 'cuboidlaw07.RowBack': WHATEVER THE INPUT: true; the input reads as it did. -/
def rowBackSpec : ChangeSpec := { name := "rowBack", fn := fun _ => fun
  | [d1, d2, d3] => { results := [.lit (.bool true)], args := [d1, d2, d3] }
  | _ => none }
def rowBackRow : OpenClaim := { program := "ytnlihobhbbopfaa", sum := "fa6f25066469fd6edc5f7ab615817fee6d664e3b558eed3c042c15483afd5263", func := "cuboid/cuboidlaw07.RowBack", spec := "rowBack", apart := false }
def RowBackSaid : Prop := rowBackRow.holds Try.pinned (OpenSpec.ofChange rowBackSpec)

/-- ITS FALSE NEIGHBOUR: 'it returns false'. Refute it at one input. -/
def rowBackWrong : ChangeSpec := { name := "rowBack", fn := fun _ => fun
  | [d1, d2, d3] => { results := [.lit (.bool false)], args := [d1, d2, d3] }
  | _ => none }
def RowBackWrongFalsely : Prop := rowBackRow.holds Try.pinned (OpenSpec.ofChange rowBackWrong)

/-- 'cuboidlaw07.RowTells': WHATEVER THE INPUT: true; the input reads as it did. -/
def rowTellsSpec : ChangeSpec := { name := "rowTells", fn := fun _ => fun
  | [d1, d2] => { results := [.lit (.bool true)], args := [d1, d2] }
  | _ => none }
def rowTellsRow : OpenClaim := { program := "ytnlihobhbbopfaa", sum := "fa6f25066469fd6edc5f7ab615817fee6d664e3b558eed3c042c15483afd5263", func := "cuboid/cuboidlaw07.RowTells", spec := "rowTells", unfollowed := true, recurses := true, apart := false }
def RowTellsSaid : Prop := rowTellsRow.holds Try.pinned (OpenSpec.ofChange rowTellsSpec)

/-- ITS FALSE NEIGHBOUR: 'it returns false'. Refute it at one input. -/
def rowTellsWrong : ChangeSpec := { name := "rowTells", fn := fun _ => fun
  | [d1, d2] => { results := [.lit (.bool false)], args := [d1, d2] }
  | _ => none }
def RowTellsWrongFalsely : Prop := rowTellsRow.holds Try.pinned (OpenSpec.ofChange rowTellsWrong)

/-- 'cuboidlaw07.RowSorts': WHATEVER THE INPUT: true; the input reads as it did. -/
def rowSortsSpec : ChangeSpec := { name := "rowSorts", fn := fun _ => fun
  | [d1, d2] => { results := [.lit (.bool true)], args := [d1, d2] }
  | _ => none }
def rowSortsRow : OpenClaim := { program := "ytnlihobhbbopfaa", sum := "fa6f25066469fd6edc5f7ab615817fee6d664e3b558eed3c042c15483afd5263", func := "cuboid/cuboidlaw07.RowSorts", spec := "rowSorts", unfollowed := true, recurses := true, apart := false }
def RowSortsSaid : Prop := rowSortsRow.holds Try.pinned (OpenSpec.ofChange rowSortsSpec)

/-- ITS FALSE NEIGHBOUR: 'it returns false'. Refute it at one input. -/
def rowSortsWrong : ChangeSpec := { name := "rowSorts", fn := fun _ => fun
  | [d1, d2] => { results := [.lit (.bool false)], args := [d1, d2] }
  | _ => none }
def RowSortsWrongFalsely : Prop := rowSortsRow.holds Try.pinned (OpenSpec.ofChange rowSortsWrong)

/- THE SECOND FORM. 'bulk': how many values and letters a reading holds, each counted each time it is reached (what is shared counts as often as it is met; a slice's spare places count too). A statement '..UptoSaid' is the law's where the arguments, and the package variables that the reading takes, are together of bulk at most 1048576: NARROWER than '..Said'. Prove '..Said' where nothing that the law and all that it calls make is longer than what came in: it says more and counts as full. Else prove '..UptoSaid'. A law counts once. -/
mutual
def uptoBulk {H : Type} : DataW H → Nat
  | .lit (.string bytes) => bytes.length + 1
  | .lit _ => 1
  | .nil => 1
  | .ptr d => uptoBulk d + 1
  | .slice elems spare => uptoBulkAll elems + uptoBulkAll spare + 1
  | .agg parts => uptoBulkAll parts + 1
  | .iface _ d => uptoBulk d + 1
  | .map entries => uptoBulkEntries entries + 1
  | .held _ => 1
def uptoBulkAll {H : Type} : List (DataW H) → Nat
  | [] => 0
  | d :: r => uptoBulk d + uptoBulkAll r
def uptoBulkEntries {H : Type} : List (Lit × DataW H) → Nat
  | [] => 0
  | x :: r => uptoBulkEntry x + uptoBulkEntries r
def uptoBulkEntry {H : Type} : Lit × DataW H → Nat
  | (.string bytes, d) => bytes.length + uptoBulk d + 1
  | (_, d) => uptoBulk d + 1
 end
def uptoSmall : (H : Type) → List (DataW H) → Bool := fun _ ds => decide (uptoBulkAll ds ≤ 1048576)
def OpenSpec.upto (s : _root_.Go.ChangeSpec) : _root_.Go.OpenSpec := { _root_.Go.OpenSpec.ofChange s with cond := some uptoSmall }

/-- 'cuboidlaw07.RowLess', WHERE WHAT IT READS IS OF BULK AT MOST 1048576: true; the input reads as it did. -/
def rowLessUptoRow : OpenClaim := { program := "ytnlihobhbbopfaa", sum := "fa6f25066469fd6edc5f7ab615817fee6d664e3b558eed3c042c15483afd5263", func := "cuboid/cuboidlaw07.RowLess", spec := "rowLess", apart := false, narrowed := true }
def RowLessUptoSaid : Prop := rowLessUptoRow.holds Try.pinned (OpenSpec.upto rowLessSpec)

/-- 'cuboidlaw07.RowMass', WHERE WHAT IT READS IS OF BULK AT MOST 1048576: true; the input reads as it did. -/
def rowMassUptoRow : OpenClaim := { program := "ytnlihobhbbopfaa", sum := "fa6f25066469fd6edc5f7ab615817fee6d664e3b558eed3c042c15483afd5263", func := "cuboid/cuboidlaw07.RowMass", spec := "rowMass", apart := false, narrowed := true }
def RowMassUptoSaid : Prop := rowMassUptoRow.holds Try.pinned (OpenSpec.upto rowMassSpec)

/-- 'cuboidlaw07.RowSums', WHERE WHAT IT READS IS OF BULK AT MOST 1048576: true; the input reads as it did. -/
def rowSumsUptoRow : OpenClaim := { program := "ytnlihobhbbopfaa", sum := "fa6f25066469fd6edc5f7ab615817fee6d664e3b558eed3c042c15483afd5263", func := "cuboid/cuboidlaw07.RowSums", spec := "rowSums", apart := false, narrowed := true }
def RowSumsUptoSaid : Prop := rowSumsUptoRow.holds Try.pinned (OpenSpec.upto rowSumsSpec)

/-- 'cuboidlaw07.RowBack', WHERE WHAT IT READS IS OF BULK AT MOST 1048576: true; the input reads as it did. -/
def rowBackUptoRow : OpenClaim := { program := "ytnlihobhbbopfaa", sum := "fa6f25066469fd6edc5f7ab615817fee6d664e3b558eed3c042c15483afd5263", func := "cuboid/cuboidlaw07.RowBack", spec := "rowBack", apart := false, narrowed := true }
def RowBackUptoSaid : Prop := rowBackUptoRow.holds Try.pinned (OpenSpec.upto rowBackSpec)

/-- 'cuboidlaw07.RowTells', WHERE WHAT IT READS IS OF BULK AT MOST 1048576: true; the input reads as it did. -/
def rowTellsUptoRow : OpenClaim := { program := "ytnlihobhbbopfaa", sum := "fa6f25066469fd6edc5f7ab615817fee6d664e3b558eed3c042c15483afd5263", func := "cuboid/cuboidlaw07.RowTells", spec := "rowTells", unfollowed := true, recurses := true, apart := false, narrowed := true }
def RowTellsUptoSaid : Prop := rowTellsUptoRow.holds Try.pinned (OpenSpec.upto rowTellsSpec)

/-- 'cuboidlaw07.RowSorts', WHERE WHAT IT READS IS OF BULK AT MOST 1048576: true; the input reads as it did. -/
def rowSortsUptoRow : OpenClaim := { program := "ytnlihobhbbopfaa", sum := "fa6f25066469fd6edc5f7ab615817fee6d664e3b558eed3c042c15483afd5263", func := "cuboid/cuboidlaw07.RowSorts", spec := "rowSorts", unfollowed := true, recurses := true, apart := false, narrowed := true }
def RowSortsUptoSaid : Prop := rowSortsUptoRow.holds Try.pinned (OpenSpec.upto rowSortsSpec)

end Rows
end Go.Proofs.Ytnlihobhbbopfaa
