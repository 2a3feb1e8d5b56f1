/- The base's laws: what was done, and what it was done to. -/
import Derived.Test.YtmnafjgkhhdidaaBaL
import Derived.Test.YtmnafjgkhhdidaaRowY
set_option linter.unusedSimpArgs false
set_option linter.unusedVariables false
set_option maxHeartbeats 16000000
set_option maxRecDepth 100000
namespace Go.Proofs.Ytmnafjgkhhdidaa
open Go.Ev
abbrev Past := List (Ch × List Rw)
def stepB (ds : List Dm) (m : Int) (s : List Rw × Past) (c : Ch) : List Rw × Past := (nxtL ds m s.1 c.1 c.2, if errL ds m s.1 c.1 c.2 = 0 then s.2 ++ [(c, s.1)] else s.2)
def seqP (ds : List Dm) (m : Int) (l : List Ch) (i : Nat) : List Rw × Past := (l.take i).foldl (stepB ds m) ([], [])
theorem seqP_succ (ds : List Dm) (m : Int) (l : List Ch) (i : Nat) (h : i < l.length) : seqP ds m l (i + 1) = stepB ds m (seqP ds m l i) l[i] := by
  unfold seqP; rw [List.take_succ_eq_append_getElem h, List.foldl_append]; rfl
theorem seqP_fst (ds : List Dm) (m : Int) (l : List Ch) (i : Nat) (h : i ≤ l.length) : (seqP ds m l i).1 = seqL ds m l i := by
  induction i with
  | zero => rfl
  | succ i ih => rw [seqP_succ ds m l i (by omega), seqL_succ ds m l i (by omega), ← ih (by omega)]; rfl
def bagAt (acc : Past) (L : List Rw) (k : Nat) : List Rw := (acc[k]?.map (·.2)).getD L
structure okPast (ds : List Dm) (m : Int) (acc : Past) (L : List Rw) : Prop where
  st : ∀ k (h : k < acc.length), errL ds m acc[k].2 acc[k].1.1 acc[k].1.2 = 0 ∧ bagAt acc L (k + 1) = nxtL ds m acc[k].2 acc[k].1.1 acc[k].1.2
  z : bagAt acc L 0 = []
  g : ∀ p ∈ acc, massG p.2 = true ∧ okW p.1.2
  le : ∀ p ∈ acc, p.2.length ≤ 60
theorem okPast_snoc {ds : List Dm} {m : Int} {acc : Past} {L : List Rw} {c : Ch} (h : okPast ds m acc L) (he : errL ds m L c.1 c.2 = 0) (hg : massG L = true) (hc : okW c.2) (hn : L.length ≤ 60) : okPast ds m (acc ++ [(c, L)]) (nxtL ds m L c.1 c.2) where
  st k hk := by
    rw [List.length_append, List.length_singleton] at hk
    by_cases c1 : k < acc.length
    · obtain ⟨h1, h2⟩ := h.st k c1
      rw [List.getElem_append_left c1]
      refine ⟨h1, ?_⟩
      rw [← h2]
      unfold bagAt
      by_cases c2 : k + 1 < acc.length
      · rw [List.getElem?_append_left c2, List.getElem?_eq_getElem c2]; rfl
      · rw [List.getElem?_append_right (by omega), show k + 1 - acc.length = 0 by omega, List.getElem?_eq_none (l := acc) (by omega)]; rfl
    · have : k = acc.length := by omega
      subst this
      simp only [List.getElem_concat_length]
      refine ⟨he, ?_⟩
      unfold bagAt
      rw [List.getElem?_eq_none (by simp)]; rfl
  z := by
    have := h.z
    unfold bagAt at this ⊢
    cases acc with
    | nil => simpa using this
    | cons p acc => simpa using this
  g p hp := by
    rcases List.mem_append.1 hp with hp | hp
    · exact h.g p hp
    · simp at hp; subst hp; exact ⟨hg, hc⟩
  le p hp := by
    rcases List.mem_append.1 hp with hp | hp
    · exact h.le p hp
    · simp at hp; subst hp; exact hn
theorem seqP_ok (ds : List Dm) (m : Int) (l : List Ch) (hl : okH l) (hn : l.length ≤ 60) (i : Nat) (h : i ≤ l.length) : okPast ds m (seqP ds m l i).2 (seqL ds m l i) ∧ (seqP ds m l i).2.length ≤ i := by
  induction i with
  | zero => exact ⟨⟨fun k hk => by simp [seqP] at hk, rfl, fun p hp => by simp [seqP] at hp, fun p hp => by simp [seqP] at hp⟩, by simp [seqP]⟩
  | succ i ih =>
    obtain ⟨h1, h2⟩ := ih (by omega)
    have hf := seqP_fst ds m l i (by omega)
    rw [seqP_succ ds m l i (by omega), seqL_succ ds m l i (by omega)]
    unfold stepB
    rw [hf]
    simp only
    have hRB := (seq_RB ds m l hl i (by omega)).1
    have hg : massG (seqL ds m l i) = true := by rw [← massG_perm hRB.p]; exact hRB.ib.g
    by_cases c : errL ds m (seqL ds m l i) l[i].1 l[i].2 = 0
    · rw [if_pos c]
      exact ⟨okPast_snoc h1 c hg (hl _ (List.getElem_mem (show i < l.length by omega))) (by have := (seq_RB ds m l hl i (by omega)).2.1; omega), by simp; omega⟩
    · rw [if_neg c]
      have : nxtL ds m (seqL ds m l i) l[i].1 l[i].2 = seqL ds m l i := by unfold nxtL; rw [if_neg c]
      rw [this]
      exact ⟨h1, by omega⟩
/-- What was done is undone. -/
theorem undo_back {ds : List Dm} {m : Int} {L : List Rw} {d : Bool} {r : Rw} (he : errL ds m L d r = 0) (hg : massG L = true) : errL ds m (nxtL ds m L d r) (!d) r = 0 ∧ (nxtL ds m (nxtL ds m L d r) (!d) r).Perm L := by
  have hgw : goodW ds m r = true := by
    cases h : goodW ds m r with
    | true => rfl
    | false => unfold errL at he; rw [h] at he; simp at he
  have hn : nxtL ds m L d r = if d = true then L.erase r else r :: L := by unfold nxtL; rw [if_pos he]
  rw [hn]
  cases d with
  | true =>
    simp only [if_true]
    have hm : r ∈ L := by
      unfold errL at he
      rw [hgw] at he
      simp only [Bool.true_eq_false, if_false, if_true] at he
      split at he
      · assumption
      · omega
    have hp : L.Perm (r :: L.erase r) := List.perm_cons_erase hm
    have e2 : errL ds m (L.erase r) false r = 0 := by
      unfold errL
      rw [hgw, massG_perm hp.symm, hg]
      simp
    refine ⟨e2, ?_⟩
    unfold nxtL
    rw [Bool.not_true, if_pos e2]
    exact hp.symm
  | false =>
    simp only [Bool.false_eq_true, if_false, Bool.not_false]
    have e2 : errL ds m (r :: L) true r = 0 := by unfold errL; rw [hgw]; simp
    refine ⟨e2, ?_⟩
    unfold nxtL
    rw [if_pos e2]
    simp
end Go.Proofs.Ytmnafjgkhhdidaa
