/- A batch may be folded in two parts. -/
import Derived.Test.YtpohmfihpnineaaBtM
import Derived.Test.YtpohmfihpnineaaPgB
set_option linter.unusedSimpArgs false
set_option linter.unusedVariables false
set_option maxHeartbeats 16000000
set_option maxRecDepth 100000
namespace Go.Proofs.Ytpohmfihpnineaa
open Go.Ev
def gAsk21 : GT := .pair gCat (.pair (.slice gRow) (.pair (.slice gCh) .unit))
theorem rd_ask21 {x : AV} (h : RDarg gAsk21 x) : ∃ ds m rows l, x = .agg [.ro ds.length (flatD ds), .int .i64 m, rW rows, rH l] ∧ okC ds ∧ okL rows ∧ okH l := by
  simp only [RDarg, gAsk21, isAggG, if_true] at h
  obtain ⟨cs, rfl, a, b, rfl, ha, c, d, rfl, hc, e, f, rfl, he, rfl⟩ := h
  obtain ⟨ds, m, rfl, hC, hm⟩ := rd_cat ha
  obtain ⟨rows, hr1, hr⟩ := rdarg_rows (a := c.headD .undef) (by
    obtain ⟨L, rfl, h2, h3⟩ := hc
    exact ⟨L, rfl, h2, h3⟩)
  obtain ⟨l, hl1, hl⟩ := rdarg_chs (a := e.headD .undef) (by
    obtain ⟨L, rfl, h2, h3⟩ := he
    exact ⟨L, rfl, h2, h3⟩)
  obtain ⟨L, rfl, h2, h3⟩ := hc
  obtain ⟨L, rfl, h4, h5⟩ := he
  simp only [List.headD_cons] at hl1 hr1
  exact ⟨ds, m, rows, l, by rw [hr1, hl1]; rfl, hC, hr, hl⟩
theorem rwsameC (l : List Rw) (hn : l.length ≤ 1000) : cvF tabC 15 [rW l, rW l] = some (.bool true) := cvFC (cvFB (cvFS (rwsame_ev l hn)))
theorem goF_len {ds : List Dm} {m : Int} (l : List Ch) : ∀ (rows : List Rw) (i : Nat), (goF ds m rows l i).1.length ≤ rows.length + l.length := by
  induction l with
  | nil => intro rows i; simp [goF]
  | cons c l ih =>
    intro rows i
    rw [goF_cons]
    split
    · have := ih (nxtL ds m rows c.1 c.2) (i + 1)
      have := nxtL_len ds m rows c.1 c.2
      simp only [List.length_cons]
      omega
    · simp
theorem fold_len (ds : List Dm) (m : Int) (rows : List Rw) (l : List Ch) : (foldB ds m rows l).1.length ≤ rows.length + l.length := by
  unfold foldB
  split
  · simp
  · split
    · simp
    · simp only [srt_len]
      exact goF_len l rows 0
end Go.Proofs.Ytpohmfihpnineaa
