/- Batches: what a run of changes comes to, in lists. -/
import Derived.Test.YtpohmfihpnineaaBaT
import Derived.Test.YtpohmfihpnineaaBtA
set_option linter.unusedSimpArgs false
set_option linter.unusedVariables false
set_option maxHeartbeats 4000000
set_option maxRecDepth 100000
namespace Go.Proofs.Ytpohmfihpnineaa
open Go.Ev
def runL (ds : List Dm) (m : Int) (L : List Rw) (l : List Ch) : List Rw := l.foldl (fun L c => nxtL ds m L c.1 c.2) L
def runC (ds : List Dm) (m : Int) (S : Bs) (l : List Ch) : Bs := l.foldl (fun S c => (doS ds m S c.1 c.2).2) S
theorem runL_succ (ds : List Dm) (m : Int) (L : List Rw) (l : List Ch) (i : Nat) (h : i < l.length) : runL ds m L (l.take (i + 1)) = nxtL ds m (runL ds m L (l.take i)) l[i].1 l[i].2 := by
  unfold runL; rw [List.take_succ_eq_append_getElem h, List.foldl_append]; rfl
theorem runC_succ (ds : List Dm) (m : Int) (S : Bs) (l : List Ch) (i : Nat) (h : i < l.length) : runC ds m S (l.take (i + 1)) = (doS ds m (runC ds m S (l.take i)) l[i].1 l[i].2).2 := by
  unfold runC; rw [List.take_succ_eq_append_getElem h, List.foldl_append]; rfl
theorem run_RB (ds : List Dm) (m : Int) {S : Bs} {L : List Rw} (hS : RB S L) (l : List Ch) (hl : okH l) (i : Nat) (h : i ≤ l.length) : RB (runC ds m S (l.take i)) (runL ds m L (l.take i)) ∧ (runL ds m L (l.take i)).length ≤ L.length + i := by
  induction i with
  | zero => exact ⟨hS, Nat.le_refl _⟩
  | succ i ih =>
    obtain ⟨h1, h2⟩ := ih (by omega)
    rw [runC_succ ds m S l i (by omega), runL_succ ds m L l i (by omega)]
    have hw := hl _ (List.getElem_mem (show i < l.length by omega))
    refine ⟨(doS_R ds m _ h1 hw).2, ?_⟩
    have := nxtL_len ds m (runL ds m L (l.take i)) l[i].1 l[i].2
    omega
def goF (ds : List Dm) (m : Int) : List Rw → List Ch → Nat → List Rw × Nat × Int
  | L, [], _ => (L, 0, 0)
  | L, c :: l, i => if errL ds m L c.1 c.2 = 0 then goF ds m (nxtL ds m L c.1 c.2) l (i + 1) else ([], i, errL ds m L c.1 c.2)
theorem goF_cons (ds : List Dm) (m : Int) (L : List Rw) (c : Ch) (l : List Ch) (i : Nat) : goF ds m L (c :: l) i = if errL ds m L c.1 c.2 = 0 then goF ds m (nxtL ds m L c.1 c.2) l (i + 1) else ([], i, errL ds m L c.1 c.2) := rfl
theorem goF_cases (ds : List Dm) (m : Int) (l : List Ch) : ∀ (L : List Rw) (i : Nat),
    (∃ k, ∃ h : k < l.length, (∀ j (hj : j < l.length), j < k → errL ds m (runL ds m L (l.take j)) l[j].1 l[j].2 = 0) ∧ errL ds m (runL ds m L (l.take k)) l[k].1 l[k].2 ≠ 0 ∧
      goF ds m L l i = ([], i + k, errL ds m (runL ds m L (l.take k)) l[k].1 l[k].2)) ∨
    ((∀ j (hj : j < l.length), errL ds m (runL ds m L (l.take j)) l[j].1 l[j].2 = 0) ∧ goF ds m L l i = (runL ds m L l, 0, 0)) := by
  induction l with
  | nil => intro L i; exact .inr ⟨fun j hj => by simp at hj, rfl⟩
  | cons c l ih =>
    intro L i
    by_cases h : errL ds m L c.1 c.2 = 0
    · have e : goF ds m L (c :: l) i = goF ds m (nxtL ds m L c.1 c.2) l (i + 1) := by rw [goF_cons, if_pos h]
      rw [e]
      rcases ih (nxtL ds m L c.1 c.2) (i + 1) with ⟨k, hk, h1, h2, h3⟩ | ⟨h1, h2⟩
      · refine .inl ⟨k + 1, by simpa using hk, fun j hj hjk => ?_, by simpa [runL] using h2, by rw [h3]; simp [runL]; omega⟩
        cases j with
        | zero => simpa [runL] using h
        | succ j => simpa [runL] using h1 j (by simpa using hj) (by omega)
      · refine .inr ⟨fun j hj => ?_, by rw [h2]; rfl⟩
        cases j with
        | zero => simpa [runL] using h
        | succ j => simpa [runL] using h1 j (by simpa using hj)
    · exact .inl ⟨0, by simp, fun j hj h0 => by omega, by simpa [runL] using h, by rw [goF_cons, if_neg h]; simp [runL]⟩
theorem goF_shift {ds : List Dm} {m : Int} (l : List Ch) : ∀ (L : List Rw) (i k : Nat), (goF ds m L l (i + k)).1 = (goF ds m L l i).1 ∧ (goF ds m L l (i + k)).2.2 = (goF ds m L l i).2.2 ∧
    ((goF ds m L l i).2.2 ≠ 0 → (goF ds m L l (i + k)).2.1 = (goF ds m L l i).2.1 + k) := by
  induction l with
  | nil => intro L i k; exact ⟨rfl, rfl, fun h => absurd rfl h⟩
  | cons c l ih =>
    intro L i k
    rw [goF_cons, goF_cons]
    split
    · have := ih (nxtL ds m L c.1 c.2) (i + 1) k
      rw [show i + 1 + k = i + k + 1 by omega] at this
      exact this
    · exact ⟨rfl, rfl, fun _ => rfl⟩
theorem goF_zero {ds : List Dm} {m : Int} {L : List Rw} {l : List Ch} {i : Nat} (h : (goF ds m L l i).2.2 = 0) : goF ds m L l i = (runL ds m L l, 0, 0) := by
  rcases goF_cases ds m l L i with ⟨k, _, _, h2, h3⟩ | ⟨_, h2⟩
  · rw [h3] at h; exact absurd h h2
  · exact h2
def chkB (ds : List Dm) (m : Int) (l : List Ch) : Nat × Int := if 40 < l.length then (0, 6) else match l.findIdx? (fun c => !goodW ds m c.2) with
  | some i => (i, 7)
  | none => (0, 0)
theorem chk_cases (ds : List Dm) (m : Int) (l : List Ch) (h : ¬ 40 < l.length) : (∃ k, ∃ h : k < l.length, (∀ j (hj : j < l.length), j < k → goodW ds m l[j].2 = true) ∧ goodW ds m l[k].2 = false ∧ chkB ds m l = (k, 7)) ∨
    ((∀ j (hj : j < l.length), goodW ds m l[j].2 = true) ∧ chkB ds m l = (0, 0)) := by
  unfold chkB
  rw [if_neg h]
  cases hf : l.findIdx? (fun c => !goodW ds m c.2) with
  | some k =>
    obtain ⟨hk, h1, h2⟩ := List.findIdx?_eq_some_iff_getElem.1 hf
    refine .inl ⟨k, hk, fun j hj hjk => ?_, by simpa using h1, rfl⟩
    simpa using h2 j hjk
  | none =>
    refine .inr ⟨fun j hj => ?_, rfl⟩
    simpa using List.findIdx?_eq_none_iff.1 hf _ (List.getElem_mem hj)
theorem chk_ok {ds : List Dm} {m : Int} {l : List Ch} (h : (chkB ds m l).2 = 0) : l.length ≤ 40 ∧ (∀ c ∈ l, goodW ds m c.2 = true) ∧ chkB ds m l = (0, 0) := by
  by_cases c : 40 < l.length
  · unfold chkB at h; rw [if_pos c] at h; simp at h
  · rcases chk_cases ds m l c with ⟨k, _, _, _, h2⟩ | ⟨h1, h2⟩
    · rw [h2] at h; simp at h
    · refine ⟨by omega, fun c hc => ?_, h2⟩
      obtain ⟨i, hi, rfl⟩ := List.mem_iff_getElem.1 hc
      exact h1 i hi
theorem chk_good {ds : List Dm} {m : Int} {l : List Ch} (h1 : l.length ≤ 40) (h2 : ∀ c ∈ l, goodW ds m c.2 = true) : chkB ds m l = (0, 0) := by
  rcases chk_cases ds m l (by omega) with ⟨k, hk, _, h3, _⟩ | ⟨_, h3⟩
  · rw [h2 _ (List.getElem_mem hk)] at h3; cases h3
  · exact h3
def givB (ds : List Dm) (m : Int) (rows : List Rw) : Bool := goodC ds m && (rows.all (goodW ds m) && massG rows)
def adds (rows : List Rw) : List Ch := rows.map fun r => (false, r)
theorem adds_ok {rows : List Rw} (h : okL rows) : okH (adds rows) := fun c hc => by
  obtain ⟨r, hr, rfl⟩ := List.mem_map.1 hc
  exact h r hr
theorem adds_len (rows : List Rw) : (adds rows).length = rows.length := by simp [adds]
theorem massG_tail {r : Rw} {L : List Rw} (h : massG (r :: L) = true) : massG L = true := by
  unfold massG sumX sumY at *
  simp only [Bool.and_eq_true, decide_eq_true_eq, List.map_cons, List.sum_cons] at *
  have := absI_nn r.x
  have := absI_nn r.y
  omega
theorem massG_app {A B : List Rw} (h : massG (A ++ B) = true) : massG B = true := by
  induction A with
  | nil => exact h
  | cons r A ih => exact ih (massG_tail h)
theorem massG_nil : massG [] = true := by decide
theorem adds_go (ds : List Dm) (m : Int) (rows : List Rw) : ∀ (L : List Rw) (i : Nat), massG L = true → (((goF ds m L (adds rows) i).2.2 = 0 ↔ (rows.all (goodW ds m) && massG (rows ++ L)) = true) ∧ ((goF ds m L (adds rows) i).2.2 = 0 → (runL ds m L (adds rows)).Perm (rows ++ L))) := by
  induction rows with
  | nil => intro L i hL; simp [adds, goF, runL, hL]
  | cons r rows ih =>
    intro L i hL
    have hp : (rows ++ r :: L).Perm (r :: rows ++ L) := List.perm_middle
    by_cases h : errL ds m L false r = 0
    · have hg : goodW ds m r = true := by
        cases hg : goodW ds m r with
        | true => rfl
        | false => unfold errL at h; rw [hg] at h; simp at h
      have hm : massG (r :: L) = true := by
        cases hm : massG (r :: L) with
        | true => rfl
        | false => unfold errL at h; rw [hg, hm] at h; simp at h
      have hn : nxtL ds m L false r = r :: L := by unfold nxtL; rw [if_pos h]; rfl
      have e1 : goF ds m L (adds (r :: rows)) i = goF ds m (r :: L) (adds rows) (i + 1) := by
        show goF ds m L ((false, r) :: adds rows) i = _
        rw [goF_cons, if_pos h, hn]
      have e2 : runL ds m L (adds (r :: rows)) = runL ds m (r :: L) (adds rows) := by
        show runL ds m (nxtL ds m L false r) (adds rows) = _
        rw [hn]
      rw [e1, e2]
      obtain ⟨h1, h2⟩ := ih (r :: L) (i + 1) hm
      refine ⟨?_, fun h => (h2 h).trans hp⟩
      rw [h1, massG_perm hp]
      simp [hg]
    · have e1 : goF ds m L (adds (r :: rows)) i = ([], i, errL ds m L false r) := by
        show goF ds m L ((false, r) :: adds rows) i = _
        rw [goF_cons, if_neg h]
      rw [e1]
      refine ⟨⟨fun c => absurd c h, fun c => ?_⟩, fun c => absurd c h⟩
      simp only [List.all_cons, Bool.and_eq_true] at c
      refine absurd ?_ h
      have hm : massG (r :: L) = true := massG_app (A := rows) (by rw [massG_perm hp]; exact c.2)
      unfold errL
      rw [c.1.1, hm]
      simp
theorem giv_go (ds : List Dm) (m : Int) (rows : List Rw) (g : goodC ds m = true) : ((goF ds m [] (adds rows) 0).2.2 = 0 ↔ givB ds m rows = true) ∧ (givB ds m rows = true → (runL ds m [] (adds rows)).Perm rows) := by
  have h := adds_go ds m rows [] 0 massG_nil
  rw [List.append_nil] at h
  have e : givB ds m rows = (rows.all (goodW ds m) && massG rows) := by unfold givB; rw [g, Bool.true_and]
  rw [e]
  exact ⟨h.1, fun c => h.2 (h.1.2 c)⟩
def foldB (ds : List Dm) (m : Int) (rows : List Rw) (l : List Ch) : List Rw × Nat × Int :=
  if givB ds m rows = false then ([], 0, 1) else if (chkB ds m l).2 ≠ 0 then ([], chkB ds m l) else (srt (goF ds m rows l 0).1, (goF ds m rows l 0).2)
end Go.Proofs.Ytpohmfihpnineaa
