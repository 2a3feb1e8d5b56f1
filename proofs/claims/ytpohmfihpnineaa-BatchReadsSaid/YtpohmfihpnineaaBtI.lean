/- Batches of bytes: are changes alike? -/
import Derived.Test.YtpohmfihpnineaaBtH
set_option linter.unusedSimpArgs false
set_option linter.unusedVariables false
set_option maxHeartbeats 16000000
set_option maxRecDepth 100000
namespace Go.Proofs.Ytpohmfihpnineaa
open Go.Ev
theorem eq_chC (p q : Ch) : eqCells [none, some .u8, some .u8, some .u8, some .u8, some .i64, some .i64] (chC p.1 p.2) (chC q.1 q.2) = some (decide (p = q)) := by
  have h := eq_rowC p.2 q.2
  obtain ⟨a, r⟩ := p
  obtain ⟨b, s⟩ := q
  unfold chC
  simp only [eqCells, h, Option.map_some, Prod.mk.injEq, Bool.decide_and]
  cases a <;> cases b <;> rfl
theorem batB_ok {l : List Ch} (h : okH l) : okB (batB l) := fun x hx => by
  rcases List.mem_append.1 hx with hx | hx
  · exact digN_ok l.length x hx
  · exact chsB_ok h x hx
theorem batB_len {l : List Ch} (h : okH l) (hn : l.length ≤ 1000) : 1 ≤ (batB l).length ∧ (batB l).length ≤ 10 + l.length * 25 := by
  have h1 := digN_pos l.length
  have h2 : (digN l.length).length ≤ 10 := digN_ten (by omega)
  have h3 := (chsB_len h).1
  unfold batB
  rw [List.length_append]
  omega
end Go.Proofs.Ytpohmfihpnineaa
