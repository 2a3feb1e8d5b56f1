/- Sorted rows are the same rows, none less than the one ahead; in whatever order they came. -/
import Derived.Test.YtpohmfihpnineaaRowU
import Derived.Test.YtpohmfihpnineaaRowCom
set_option linter.unusedSimpArgs false
set_option linter.unusedVariables false
set_option maxHeartbeats 16000000
set_option maxRecDepth 100000
namespace Go.Proofs.Ytpohmfihpnineaa
open Go.Ev
theorem ltD_swo {l : List Rw} (h : okL l) : (srt l).Pairwise fun a b => ltD b a = false := by
  obtain ⟨L, rfl⟩ := ofL h
  unfold srt
  rw [← insS_val]
  have hp := insS_sorted swoW L
  generalize insS ltW L = M at *
  clear h
  induction M with
  | nil => simp
  | cons x M ih =>
    obtain ⟨h1, h2⟩ := List.pairwise_cons.1 hp
    rw [List.map_cons]
    refine List.pairwise_cons.2 ⟨fun y hy => ?_, ih h2⟩
    obtain ⟨z, hz, rfl⟩ := List.mem_map.1 hy
    exact h1 z hz
theorem srt_same {a b : List Rw} (ha : okL a) (h : a.Perm b) : srt a = srt b := by
  have hb : okL b := fun r hr => ha r (h.mem_iff.2 hr)
  refine List.Perm.eq_of_pairwise (le := fun x y => ltD y x = false) (fun x y hx hy h1 h2 => ?_) (ltD_swo ha) (ltD_swo hb) ((srt_perm a).trans (h.trans (srt_perm b).symm))
  by_cases c : x = y
  · exact c
  · rcases ltR_tri (srt_ok ha x hx) (srt_ok hb y hy) c with c | c
    · exact absurd c (of_decide_eq_false h2)
    · exact absurd c (of_decide_eq_false h1)
end Go.Proofs.Ytpohmfihpnineaa
