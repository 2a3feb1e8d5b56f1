/- What the laws of queries share. -/
import Derived.Test.YtambpbcdnhekbaaQH
set_option linter.unusedSimpArgs false
set_option linter.unusedVariables false
set_option maxHeartbeats 8000000
set_option maxRecDepth 100000
namespace Go.Proofs.Ytambpbcdnhekbaa
open Go.Ev
theorem wakes_ev : cvF tab 11 [] = some (.bool true) := by
  have h : (evalFun tab 4000 11 [] []).map (fun p => match p.1 with | .bool b => b | _ => false) = some true := by kernel_rfl
  obtain ⟨⟨r, H1⟩, h1, h2⟩ := Option.map_eq_some_iff.1 h
  have h3 := cfT_of h1
  unfold cvF
  rw [h3]
  cases r <;> simp at h2
  subst h2
  rfl
def gAsk : GT := .pair gCat (.pair gQy .unit)
theorem rdarg_ask {x : AV} (h : RDarg gAsk x) : ∃ ds m q, x = .agg (.ro ds.length (flatD ds) :: .int .i64 m :: qyC q) ∧ okC ds ∧ inI m ∧ okQ q := by
  simp only [RDarg, gAsk, isAggG, if_true] at h
  obtain ⟨cs, rfl, p, r, rfl, hp, s, t, rfl, hs, rfl⟩ := h
  obtain ⟨ds, m, rfl, hC, hm⟩ := rd_cat hp
  obtain ⟨q, rfl, hq⟩ := rd_qy hs
  exact ⟨ds, m, q, by simp, hC, hm, hq⟩
end Go.Proofs.Ytambpbcdnhekbaa
