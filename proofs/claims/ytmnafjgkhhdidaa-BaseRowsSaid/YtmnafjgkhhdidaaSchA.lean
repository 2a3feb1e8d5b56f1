/- Catalogs held against each other. -/
import Derived.Test.YtmnafjgkhhdidaaCatRef
import Derived.Test.YtmnafjgkhhdidaaLight
set_option linter.unusedSimpArgs false
set_option linter.unusedVariables false
set_option maxHeartbeats 4000000
set_option maxRecDepth 100000
namespace Go.Proofs.Ytmnafjgkhhdidaa
open Go.Ev
deriving instance DecidableEq for Dm
theorem take_succ_eq {α : Type} (a b : List α) (i : Nat) (ha : i < a.length) (hb : i < b.length) (h : a.take i = b.take i) (he : a[i] = b[i]) : a.take (i + 1) = b.take (i + 1) := by
  rw [List.take_succ_eq_append_getElem ha, List.take_succ_eq_append_getElem hb, h, he]
theorem dm_eq (x y : Dm) : x = y ↔ x.S = y.S ∧ x.U = y.U := by
  cases x; cases y; simp
def sameC (a : List Dm) (m : Int) (b : List Dm) (n : Int) : Bool := decide (m = n ∧ a = b)
end Go.Proofs.Ytmnafjgkhhdidaa
