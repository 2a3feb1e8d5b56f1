/- What the laws of routes share. -/
import Derived.Test.YtaflkcaebecpfaaRouF
set_option linter.unusedSimpArgs false
set_option linter.unusedVariables false
set_option maxHeartbeats 4000000
set_option maxRecDepth 100000
namespace Go.Proofs.Ytaflkcaebecpfaa
open Go.Ev
theorem wakes_ev : cvF tab 9 [] = some (.bool true) := by
  have h : (evalFun tab 4000 9 [] []).map (fun p => match p.1 with | .bool b => b | _ => false) = some true := by kernel_rfl
  obtain ⟨⟨r, H1⟩, h1, h2⟩ := Option.map_eq_some_iff.1 h
  have h3 := cfT_of h1
  unfold cvF
  rw [h3]
  cases r <;> simp at h2
  subst h2
  rfl
theorem rd_n {cs : List AV} (h : RD gN cs) : ∃ v, cs = v.map (.int .u8) ∧ okN v := by
  obtain ⟨L, hL, rfl, hx⟩ := h
  obtain ⟨l, h1, h2, h3⟩ := rd_map (f := AV.int .u8) (P := byte) (fun cs h => rd_u8 h) hx
  exact ⟨l, h2, by rw [← h1, hL], h3⟩
theorem rd_nodes {cs : List AV} (h : RD (.slice gN) cs) : ∃ l : List (List Int), cs = [rN l] ∧ okNs l ∧ l.length ≤ 9223372036854775807 := by
  obtain ⟨L, rfl, h2, h3⟩ := h
  have key : ∀ (L : List (List AV)), (∀ x ∈ L, RD gN x) → ∃ l : List (List Int), L.length = l.length ∧ L.flatten = flatN l ∧ okNs l := by
    intro L
    induction L with
    | nil => intro _; exact ⟨[], rfl, rfl, fun d hd => by cases hd⟩
    | cons c L ih =>
      intro h
      obtain ⟨v, rfl, hv⟩ := rd_n (h c (by simp))
      obtain ⟨l, h1, h2, h3⟩ := ih fun x hx => h x (by simp [hx])
      refine ⟨v :: l, by simp [h1], by simp [h2, flatN], fun d hd => ?_⟩
      rcases List.mem_cons.1 hd with rfl | hd
      · exact hv
      · exact h3 d hd
  obtain ⟨l, h4, h5, h6⟩ := key L h3
  refine ⟨l, by rw [h4, h5]; rfl, h6, ?_⟩
  rw [← h4]
  exact Nat.le_trans h2 (by decide)
theorem rdarg_nodes {a : AV} (h : RDarg (.slice gN) a) : ∃ l, a = rN l ∧ okNs l ∧ l.length ≤ 9223372036854775807 := by
  simp only [RDarg, isAggG] at h
  obtain ⟨l, h1, h2⟩ := rd_nodes h
  simp at h1
  exact ⟨l, h1, h2⟩
end Go.Proofs.Ytaflkcaebecpfaa
