/- The base's laws: how much it may hold. -/
import Derived.Test.YtpohmfihpnineaaBaH
import Derived.Test.YtpohmfihpnineaaBaW
set_option linter.unusedSimpArgs false
set_option linter.unusedVariables false
set_option maxHeartbeats 16000000
set_option maxRecDepth 100000
namespace Go.Proofs.Ytpohmfihpnineaa
open Go.Ev
structure RB (S : Bs) (L : List Rw) : Prop where
  ib : IB S
  p : (expand S.es).Perm L
theorem RB.mx {S : Bs} {L : List Rw} (h : RB S L) : S.mx = sumX L := h.ib.mx.trans (sumX_perm h.p)
theorem RB.my {S : Bs} {L : List Rw} (h : RB S L) : S.my = sumY L := h.ib.my.trans (sumY_perm h.p)
theorem RB.n {S : Bs} {L : List Rw} (h : RB S L) : S.n = L.length := by rw [h.ib.n, h.p.length_eq]
end Go.Proofs.Ytpohmfihpnineaa
