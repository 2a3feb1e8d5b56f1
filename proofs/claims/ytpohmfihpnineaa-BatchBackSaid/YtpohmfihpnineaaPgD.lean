/- Plain texts put together: SchP SchQ SchR SchT SchCom SchBack. -/
import Derived.Test.YtpohmfihpnineaaPgC
section
set_option linter.unusedSimpArgs false
set_option linter.unusedVariables false
set_option maxHeartbeats 4000000
set_option maxRecDepth 100000
namespace Go.Proofs.Ytpohmfihpnineaa
open Go.Ev
abbrev RS := List Int × Bool
structure NumP (nm : Nat → RS → Int × RS) (lim : Nat → Nat) : Prop where
  sound : ∀ (most : Nat) (b : List Int) (bad : Bool), (nm most (b, bad)).2.2 = false → bad = false ∧ ∃ u n, gv b 0 0 = some (u, n) ∧ u ≤ lim most ∧ nm most (b, bad) = (u, b.drop n, false)
  full : ∀ (most : Nat) (b : List Int) (u : Int) (n : Nat), most ≤ 40 → gv b 0 0 = some (u, n) → u ≤ most → nm most (b, false) = (u, b.drop n, false)
  le : ∀ most : Nat, lim most ≤ 40
section
variable {nm : Nat → RS → Int × RS} {st : Bool → Bool} {lim : Nat → Nat} (hn : NumP nm lim) (hst : st false = false)
include hn
end
end Go.Proofs.Ytpohmfihpnineaa
end
section
set_option linter.unusedSimpArgs false
set_option linter.unusedVariables false
set_option maxHeartbeats 4000000
set_option maxRecDepth 100000
namespace Go.Proofs.Ytpohmfihpnineaa
open Go.Ev
def okS (s : RS) : Prop := okB s.1 ∧ s.1.length ≤ 1000000
theorem okS.drop {b : List Int} {bad : Bool} (h : okS (b, bad)) (n : Nat) (bad' : Bool) : okS (b.drop n, bad') := ⟨fun x hx => h.1 x (List.mem_of_mem_drop hx), by have := h.2; simp only [List.length_drop] at *; omega⟩
theorem okS.same {b : List Int} {bad : Bool} (h : okS (b, bad)) (bad' : Bool) : okS (b, bad') := ⟨h.1, h.2⟩
structure NumI (nm : Nat → RS → Int × RS) : Prop where
  s : ∀ most s, okS s → okS (nm most s).2
  v : ∀ most s, okS s → most ≤ 40 → 0 ≤ (nm most s).1 ∧ (nm most s).1 ≤ 40
section
variable {nm : Nat → RS → Int × RS} (st : Bool → Bool) (hI : NumI nm)
include hI
end
end Go.Proofs.Ytpohmfihpnineaa
end
section
set_option linter.unusedSimpArgs false
set_option linter.unusedVariables false
set_option maxHeartbeats 4000000
set_option maxRecDepth 100000
namespace Go.Proofs.Ytpohmfihpnineaa
open Go.Ev
end Go.Proofs.Ytpohmfihpnineaa
end
section
set_option linter.unusedSimpArgs false
set_option linter.unusedVariables false
set_option maxHeartbeats 4000000
set_option maxRecDepth 100000
namespace Go.Proofs.Ytpohmfihpnineaa
open Go.Ev
end Go.Proofs.Ytpohmfihpnineaa
end
section
set_option linter.unusedSimpArgs false
set_option linter.unusedVariables false
set_option maxHeartbeats 4000000
set_option maxRecDepth 100000
namespace Go.Proofs.Ytpohmfihpnineaa
open Go.Ev
end Go.Proofs.Ytpohmfihpnineaa
end
section
set_option linter.unusedSimpArgs false
set_option linter.unusedVariables false
set_option maxHeartbeats 4000000
set_option maxRecDepth 100000
namespace Go.Proofs.Ytpohmfihpnineaa
open Go.Ev
end Go.Proofs.Ytpohmfihpnineaa
end
