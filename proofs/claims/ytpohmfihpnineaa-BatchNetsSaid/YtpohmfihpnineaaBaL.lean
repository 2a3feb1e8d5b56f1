/- The base's laws: changes, one behind the other. -/
import Derived.Test.YtpohmfihpnineaaBaI
import Derived.Test.YtpohmfihpnineaaPgB
set_option linter.unusedSimpArgs false
set_option linter.unusedVariables false
set_option maxHeartbeats 4000000
set_option maxRecDepth 100000
namespace Go.Proofs.Ytpohmfihpnineaa
open Go.Ev
abbrev Ch := Bool × Rw
def flatH (l : List Ch) : List AV := l.flatMap fun c => chC c.1 c.2
def rH (l : List Ch) : AV := .ro l.length (flatH l)
def okH (l : List Ch) : Prop := ∀ c ∈ l, okW c.2
def gCh : GT := .pair .bool (.pair gRow .unit)
theorem rd_ch {cs : List AV} (h : RD gCh cs) : ∃ c : Ch, cs = chC c.1 c.2 ∧ okW c.2 := by
  obtain ⟨p, q, rfl, ⟨b, rfl⟩, s, t, rfl, hr, rfl⟩ := h
  obtain ⟨r, rfl, hw⟩ := rd_row hr
  exact ⟨(b, r), by simp [chC], hw⟩
theorem rdarg_chs {a : AV} (h : RDarg (.slice gCh) a) : ∃ l, a = rH l ∧ okH l := by
  simp only [RDarg, isAggG] at h
  obtain ⟨L, h1, h2, h3⟩ := h
  simp at h1
  subst h1
  have key : ∀ (L : List (List AV)), (∀ x ∈ L, RD gCh x) → ∃ l : List Ch, L.length = l.length ∧ L.flatten = flatH l ∧ okH l := by
    intro L
    induction L with
    | nil => intro _; exact ⟨[], rfl, rfl, fun d hd => by cases hd⟩
    | cons c L ih =>
      intro h
      obtain ⟨r, rfl, hr⟩ := rd_ch (h c (by simp))
      obtain ⟨l, h1, h2, h3⟩ := ih fun x hx => h x (by simp [hx])
      refine ⟨r :: l, by simp [h1], by simp [h2, flatH], fun d hd => ?_⟩
      rcases List.mem_cons.1 hd with rfl | hd
      · exact hr
      · exact h3 d hd
  obtain ⟨l, h4, h5, h6⟩ := key L h3
  exact ⟨l, by rw [h4, h5]; rfl, h6⟩
theorem flatH_len (l : List Ch) : (flatH l).length = l.length * 7 := by
  induction l with
  | nil => rfl
  | cons r l ih =>
    simp only [flatH, List.flatMap_cons, List.length_append] at *
    rw [ih]
    simp [chC, rowC]; omega
theorem flatH_append (a b : List Ch) : flatH (a ++ b) = flatH a ++ flatH b := List.flatMap_append ..
theorem flatH_drop (l : List Ch) (i : Nat) : (flatH l).drop (i * 7) = flatH (l.drop i) := by
  induction l generalizing i with
  | nil => simp [flatH]
  | cons r l ih =>
    cases i with
    | zero => simp
    | succ i =>
      rw [show (i + 1) * 7 = i * 7 + 7 from by omega]
      simp only [flatH, List.flatMap_cons, chC, rowC, List.cons_append, List.nil_append, List.drop_succ_cons]
      exact ih i
theorem dropH (l : List Ch) (i : Nat) (h : i < l.length) : (flatH l).drop (i * 7) = chC l[i].1 l[i].2 ++ flatH (l.drop (i + 1)) := by
  rw [flatH_drop, List.drop_eq_getElem_cons h]
  rfl
theorem nxtL_len (ds : List Dm) (m : Int) (L : List Rw) (d : Bool) (r : Rw) : (nxtL ds m L d r).length ≤ L.length + 1 := by
  unfold nxtL
  split
  · split
    · have := List.length_erase_le (a := r) (l := L); omega
    · simp
  · omega
theorem nxtL_good {ds : List Dm} {m : Int} {L : List Rw} {d : Bool} {r : Rw} (h : ∀ x ∈ L, goodW ds m x = true ∧ okW x) (hr : okW r) : ∀ x ∈ nxtL ds m L d r, goodW ds m x = true ∧ okW x := by
  unfold nxtL
  intro x hx
  split at hx
  · rename_i he
    split at hx
    · exact h x (List.mem_of_mem_erase hx)
    · rcases List.mem_cons.1 hx with rfl | hx
      · refine ⟨?_, hr⟩
        cases hg : goodW ds m x with
        | true => rfl
        | false => unfold errL at he; rw [hg] at he; simp at he
      · exact h x hx
  · exact h x hx
theorem do_E (ds : List Dm) (m : Int) {S : Bs} {L : List Rw} (del : Bool) {r : Rw} (hC : okC ds) (h : RB S L) (hr : okW r) (hl : L.length ≤ 1000000) : ∃ H,
    cfT tabB 30 [.ptr 0 0 0, .agg (chC del r)] [bV 0 1 0 ds m S, bM 0 S] = some (.int .i64 (errL ds m L del r), [bV 0 1 0 ds m (doS ds m S del r).2, bM 0 (doS ds m S del r).2] ++ H) := by
  obtain ⟨H, e⟩ := do_cf ds m S del r hC h.ib.toM (h.toE hl) hr
  obtain ⟨h1, _⟩ := doS_R ds m del h hr
  exact ⟨H, by rw [← h1]; exact cfB (cfS e)⟩
end Go.Proofs.Ytpohmfihpnineaa
