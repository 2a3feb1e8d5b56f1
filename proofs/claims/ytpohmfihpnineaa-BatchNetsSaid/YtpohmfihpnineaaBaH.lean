/- The base as a bag of rows: what Do comes to. -/
import Derived.Test.YtpohmfihpnineaaBaG
set_option linter.unusedSimpArgs false
set_option linter.unusedVariables false
set_option maxHeartbeats 4000000
set_option maxRecDepth 100000
namespace Go.Proofs.Ytpohmfihpnineaa
open Go.Ev
def errL (ds : List Dm) (m : Int) (L : List Rw) (del : Bool) (r : Rw) : Int :=
  if goodW ds m r = false then 7 else if del = true then (if r ∈ L then 0 else 8) else if massG (r :: L) = true then 0 else 9
def nxtL (ds : List Dm) (m : Int) (L : List Rw) (del : Bool) (r : Rw) : List Rw :=
  if errL ds m L del r = 0 then (if del = true then L.erase r else r :: L) else L
structure IE (clk : Nat) (es : List Me) : Prop where
  nd : (es.map (·.2.2)).Nodup
  lt : ∀ e ∈ es, e.2.2 < clk
  ke : (es.map (·.1)).Nodup
  po : ∀ e ∈ es, 1 ≤ e.2.1
  ro : ∀ e ∈ es, okW e.1
theorem upd_inv {r : Rw} {t : Int} {clk : Nat} {es : List Me} (h : IE clk es) (hr : okW r) (ht : t = 1 ∨ (t = -1 ∧ cntE r es ≠ 0)) : IE (updE r t clk es).1 (updE r t clk es).2 := by
  unfold updE
  cases hf : findE r es 0 with
  | none =>
    have ht : t = 1 := by
      rcases ht with h | ⟨_, h⟩
      · exact h
      · unfold cntE at h; rw [hf] at h; exact absurd rfl h
    subst ht
    have hno := findE_none hf
    refine ⟨?_, ?_, ?_, ?_, ?_⟩
    · simp only [List.map_append, List.map_cons, List.map_nil, List.nodup_append, List.nodup_cons]
      refine ⟨h.nd, by simp, fun a ha b hb => ?_⟩
      obtain ⟨e, he, rfl⟩ := List.mem_map.1 ha
      have := h.lt e he
      simp at hb
      omega
    · intro e he
      rcases List.mem_append.1 he with he | he
      · have := h.lt e he; simp only; omega
      · simp at he; subst he; simp
    · simp only [List.map_append, List.map_cons, List.map_nil, List.nodup_append, List.nodup_cons]
      refine ⟨h.ke, by simp, fun a ha b hb => ?_⟩
      obtain ⟨e, he, rfl⟩ := List.mem_map.1 ha
      simp at hb
      rw [hb]
      exact hno e he
    · intro e he
      rcases List.mem_append.1 he with he | he
      · exact h.po e he
      · simp at he; subst he; simp
    · intro e he
      rcases List.mem_append.1 he with he | he
      · exact h.ro e he
      · simp at he; subst he; exact hr
  | some p =>
    obtain ⟨i, e⟩ := p
    obtain ⟨_, hg, rfl⟩ := findE_get hf
    simp only [Nat.sub_zero] at hg
    have hv := h.po e (List.mem_of_getElem? hg)
    simp only
    split
    · have hsub : (es.eraseIdx i).Sublist es := List.eraseIdx_sublist _ _
      exact ⟨h.nd.sublist (hsub.map _), fun x hx => h.lt x (hsub.subset hx), h.ke.sublist (hsub.map _), fun x hx => h.po x (hsub.subset hx), fun x hx => h.ro x (hsub.subset hx)⟩
    · rename_i hz
      have hs := split_at hg
      have hm := mod_split (e.2.1 + t) hg
      have m1 : (modM es i (e.2.1 + t)).map (·.2.2) = es.map (·.2.2) := by
        rw [hm]
        conv => rhs; rw [hs]
        simp
      have m2 : (modM es i (e.2.1 + t)).map (·.1) = es.map (·.1) := by
        rw [hm]
        conv => rhs; rw [hs]
        simp
      have mem : ∀ x ∈ modM es i (e.2.1 + t), x ∈ es ∨ x = (e.1, e.2.1 + t, e.2.2) := by
        intro x hx
        rw [hm] at hx
        rcases List.mem_append.1 hx with hx | hx
        · exact .inl (List.mem_of_mem_take hx)
        · rcases List.mem_cons.1 hx with hx | hx
          · exact .inr hx
          · exact .inl (List.mem_of_mem_drop hx)
      have hem := List.mem_of_getElem? hg
      refine ⟨by simp only; rw [m1]; exact h.nd, fun x hx => ?_, by simp only; rw [m2]; exact h.ke, fun x hx => ?_, fun x hx => ?_⟩
      · rcases mem x hx with hx | rfl
        · exact h.lt x hx
        · exact h.lt e hem
      · rcases mem x hx with hx | rfl
        · exact h.po x hx
        · simp only; rcases ht with h | ⟨h, _⟩ <;> omega
      · rcases mem x hx with hx | rfl
        · exact h.ro x hx
        · exact h.ro e hem
theorem doS_spec (ds : List Dm) (m : Int) {S : Bs} (del : Bool) {r : Rw} (h : IB S) (hr : okW r) :
    (doS ds m S del r).1 = errL ds m (expand S.es) del r ∧ IB (doS ds m S del r).2 ∧ (expand (doS ds m S del r).2.es).Perm (nxtL ds m (expand S.es) del r) := by
  have hc := cntE_count (r := r) h.ke h.po
  have hIE : IE S.clk S.es := ⟨h.nd, h.lt, h.ke, h.po, h.ro⟩
  have hM := h.toM
  have n1 := absI_nn r.x
  have n2 := absI_nn r.y
  have s1 := sumX_nn (expand S.es)
  have s2 := sumY_nn (expand S.es)
  have hx := h.mx
  have hy := h.my
  have hg := h.g
  unfold doS nxtL errL
  by_cases c1 : goodW ds m r = false
  · simp only [c1, if_true]
    exact ⟨trivial, h, .refl _⟩
  · rw [if_neg c1, if_neg c1]
    cases del with
    | true =>
      by_cases c2 : r ∈ expand S.es
      · have hcn : cntE r S.es ≠ 0 := by
          rw [hc]; have := List.count_pos_iff.2 c2; omega
        have e2 : ¬ (true = true ∧ cntE r S.es = 0) := by simp [hcn]
        rw [if_neg e2]
        have hp := upd_del (clk := S.clk) h.po hcn
        have hX := sumX_perm hp
        have hY := sumY_perm hp
        rw [sumX_cons] at hX
        rw [sumY_cons] at hY
        have s3 := sumX_nn (expand (updE r (-1) S.clk S.es).2)
        have s4 := sumY_nn (expand (updE r (-1) S.clk S.es).2)
        have hw : weighV S r (sgn true) = (S.mx + -1 * absI r.x, S.my + -1 * absI r.y, true) := by
          obtain ⟨a1, a2, a3, a4⟩ := hM
          unfold weighV
          simp only [sgn, if_true]
          rw [if_neg (by omega), if_neg (by omega), if_neg (by omega), if_neg (by omega)]
        rw [hw]
        simp only [sgn, if_true, c2, Bool.true_eq_false, if_false]
        have hI := upd_inv hIE hr (.inr ⟨rfl, hcn⟩)
        have hlen := hp.length_eq
        simp only [List.length_cons] at hlen
        refine ⟨trivial, ⟨hI.nd, hI.lt, hI.ke, hI.po, hI.ro, ?_, ?_, ?_, ?_⟩, ?_⟩
        · simp only; rw [h.n]; omega
        · simp only; omega
        · simp only; omega
        · unfold massG at hg ⊢
          simp only [Bool.and_eq_true, decide_eq_true_eq] at hg ⊢
          omega
        · have := hp.erase r
          simp only [List.erase_cons_head] at this
          exact this
      · have hcn : cntE r S.es = 0 := by
          rw [hc, List.count_eq_zero.2 c2]; rfl
        rw [if_pos ⟨rfl, hcn⟩]
        simp only [c2, if_true, if_false]
        exact ⟨trivial, h, .refl _⟩
    | false =>
      rw [if_neg (by simp)]
      have hp := upd_add (r := r) (clk := S.clk) h.po
      have hX := sumX_perm hp
      have hY := sumY_perm hp
      rw [sumX_cons] at hX
      rw [sumY_cons] at hY
      have hgm : massG (r :: expand S.es) = (decide (absI r.x + S.mx ≤ MM) && decide (absI r.y + S.my ≤ MM)) := by
        unfold massG; rw [sumX_cons, sumY_cons, hx, hy]
      simp only [Bool.false_eq_true, if_false, sgn]
      obtain ⟨a1, a2, a3, a4⟩ := hM
      by_cases c2 : massG (r :: expand S.es) = true
      · have c2' := c2
        rw [hgm] at c2'
        simp only [Bool.and_eq_true, decide_eq_true_eq] at c2'
        have hw : weighV S r 1 = (S.mx + 1 * absI r.x, S.my + 1 * absI r.y, true) := by
          unfold weighV
          rw [if_neg (by omega), if_neg (by omega), if_neg (by omega), if_neg (by omega)]
        rw [hw]
        simp only [c2, if_true, Bool.true_eq_false, if_false]
        have hI := upd_inv hIE hr (.inl rfl)
        have hlen := hp.length_eq
        simp only [List.length_cons] at hlen
        refine ⟨trivial, ⟨hI.nd, hI.lt, hI.ke, hI.po, hI.ro, ?_, ?_, ?_, ?_⟩, hp⟩
        · simp only; rw [h.n]; omega
        · simp only; omega
        · simp only; omega
        · simp only; rw [massG_perm hp]; exact c2
      · have hw : (weighV S r 1).2.2 = false := by
          have c2' : ¬ (absI r.x + S.mx ≤ MM ∧ absI r.y + S.my ≤ MM) := by
            intro q; apply c2; rw [hgm]; simp [q.1, q.2]
          unfold weighV
          split
          · rfl
          · split
            · rfl
            · split
              · rfl
              · split
                · rfl
                · exfalso; apply c2'; omega
        rw [hw]
        have c3 : massG (r :: expand S.es) = false := by simpa using c2
        simp [c3, h]
end Go.Proofs.Ytpohmfihpnineaa
