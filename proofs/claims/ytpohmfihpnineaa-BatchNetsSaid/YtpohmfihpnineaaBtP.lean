/- What changes come to: the document's walk. -/
import Derived.Test.YtpohmfihpnineaaBtO
import Derived.Test.YtpohmfihpnineaaRowY
set_option linter.unusedSimpArgs false
set_option linter.unusedVariables false
set_option maxHeartbeats 16000000
set_option maxRecDepth 100000
namespace Go.Proofs.Ytpohmfihpnineaa
open Go.Ev
theorem insN_succ (l : List Ch) (i : Nat) (h : i < l.length) : insN (l.take (i + 1)) = insN (l.take i) ++ (if l[i].1 = true then [] else [l[i].2]) := by
  unfold insN
  rw [List.take_succ_eq_append_getElem h, List.filter_append, List.map_append]
  congr 1
  generalize l[i] = p
  obtain ⟨d, r⟩ := p
  cases d <;> rfl
theorem flatW_snoc (l : List Rw) (r : Rw) : flatW (l ++ [r]) = flatW l ++ rowC r := by rw [flatW_append]; simp [flatW]
end Go.Proofs.Ytpohmfihpnineaa
