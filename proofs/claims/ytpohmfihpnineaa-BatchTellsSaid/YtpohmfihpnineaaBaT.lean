/- The base's laws: what is told of a row. -/
import Derived.Test.YtpohmfihpnineaaBaS
set_option linter.unusedSimpArgs false
set_option linter.unusedVariables false
set_option maxHeartbeats 16000000
set_option maxRecDepth 100000
namespace Go.Proofs.Ytpohmfihpnineaa
open Go.Ev
theorem rdo_R (ds : List Dm) (m : Int) (L : List Rw) (del : Bool) (r : Rw) (hC : okC ds) (hk : okL L) (hr : okW r) (hl : L.length ≤ 900) : ∃ X H, cfT tabB 45 [.ptr 0 0 0, .agg (chC del r)] [wV 0 ds m L] =
    some (.int .i64 (errL ds m L del r), ⟨0, .var [.ro ds.length (flatD ds), .int .i64 m, X]⟩ :: H) ∧ (X = rW (nxtW ds m L del r) ∨ ∃ n cs b, X = .own 2 3 0 n 6 ∧ H = [b, ⟨3, .row true 6 cs⟩] ∧ rW (nxtW ds m L del r) = .ro n cs ∧ cs.length = n * 6) := by
  obtain ⟨X, H, e, h⟩ := rdo_cf ds m L del r hC hk hr hl
  exact ⟨X, H, cfB (cfS e), h⟩
theorem nxtW_ok {ds : List Dm} {m : Int} {L : List Rw} {d : Bool} {r : Rw} (h : okL L) (hr : okW r) : okL (nxtW ds m L d r) := fun x hx => by
  have hx := (nxtW_perm ds m L d r).mem_iff.1 hx
  unfold nxtL at hx
  split at hx
  · split at hx
    · exact h x (List.mem_of_mem_erase hx)
    · rcases List.mem_cons.1 hx with rfl | hx
      · exact hr
      · exact h x hx
  · exact h x hx
end Go.Proofs.Ytpohmfihpnineaa
