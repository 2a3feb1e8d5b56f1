/- Batches in two parts: the plain law. -/
import Derived.Test.YtpohmfihpnineaaBtE
set_option linter.unusedSimpArgs false
set_option linter.unusedVariables false
set_option maxHeartbeats 4000000
set_option maxRecDepth 100000
namespace Go.Proofs.Ytpohmfihpnineaa
open Go.Ev
theorem flatH_take (l : List Ch) (i : Nat) : (flatH l).take (i * 7) = flatH (l.take i) := by
  induction l generalizing i with
  | nil => simp [flatH]
  | cons r l ih =>
    cases i with
    | zero => simp [flatH]
    | succ i =>
      rw [show (i + 1) * 7 = i * 7 + 7 from by omega]
      simp only [flatH, List.flatMap_cons, chC, rowC, List.cons_append, List.nil_append, List.take_succ_cons]
      have := ih i
      simp only [flatH, chC, rowC] at this
      rw [this]
theorem nxtL_mass {ds : List Dm} {m : Int} {L : List Rw} {d : Bool} {r : Rw} (h : massG L = true) : massG (nxtL ds m L d r) = true := by
  unfold nxtL
  split
  · rename_i he
    split
    · by_cases hm : r ∈ L
      · have hp := List.perm_cons_erase hm
        rw [massG_perm hp] at h
        exact massG_tail h
      · rw [List.erase_of_not_mem hm]; exact h
    · rename_i hd
      unfold errL at he
      rw [if_neg hd] at he
      split at he
      · omega
      · split at he
        · assumption
        · omega
  · exact h
theorem run_all {ds : List Dm} {m : Int} (l : List Ch) (hl : okH l) : ∀ {L : List Rw}, (∀ x ∈ L, goodW ds m x = true ∧ okW x) → massG L = true → (∀ x ∈ runL ds m L l, goodW ds m x = true ∧ okW x) ∧ massG (runL ds m L l) = true := by
  induction l with
  | nil => intro L h1 h2; exact ⟨h1, h2⟩
  | cons c l ih => intro L h1 h2; exact ih (fun x hx => hl x (by simp [hx])) (nxtL_good h1 (hl c (by simp))) (nxtL_mass h2)
theorem giv_parts {ds : List Dm} {m : Int} {rows : List Rw} (h : givB ds m rows = true) : goodC ds m = true ∧ (∀ x ∈ rows, goodW ds m x = true) ∧ massG rows = true := by
  unfold givB at h
  simp only [Bool.and_eq_true, List.all_eq_true] at h
  exact ⟨h.1, h.2.1, h.2.2⟩
theorem giv_of {ds : List Dm} {m : Int} {rows : List Rw} (h1 : goodC ds m = true) (h2 : ∀ x ∈ rows, goodW ds m x = true) (h3 : massG rows = true) : givB ds m rows = true := by
  unfold givB
  simp only [Bool.and_eq_true, List.all_eq_true]
  exact ⟨h1, h2, h3⟩
theorem fold_of {ds : List Dm} {m : Int} {rows : List Rw} {l : List Ch} (h1 : givB ds m rows = true) (h2 : (chkB ds m l).2 = 0) : foldB ds m rows l = (srt (goF ds m rows l 0).1, (goF ds m rows l 0).2) := by
  unfold foldB
  rw [if_neg (by rw [h1]; simp), if_neg (by rw [h2]; simp)]
theorem parts_law {ds : List Dm} {m : Int} {rows : List Rw} {l : List Ch} (hk : okL rows) (hl : okH l) (h1 : givB ds m rows = true) (h2 : (chkB ds m l).2 = 0) (k : Nat) (hkl : k ≤ l.length) :
    ((foldB ds m rows (l.take k)).2.2 ≠ 0 → (foldB ds m rows l).2 = (foldB ds m rows (l.take k)).2 ∧ (foldB ds m rows l).1 = []) ∧
    ((foldB ds m rows (l.take k)).2.2 = 0 → okL (foldB ds m rows (l.take k)).1 ∧ (foldB ds m rows (l.take k)).1.length ≤ rows.length + k ∧
      ((foldB ds m (foldB ds m rows (l.take k)).1 (l.drop k)).2.2 ≠ 0 → (foldB ds m rows l).2 = (k + (foldB ds m (foldB ds m rows (l.take k)).1 (l.drop k)).2.1, (foldB ds m (foldB ds m rows (l.take k)).1 (l.drop k)).2.2) ∧ (foldB ds m rows l).1 = []) ∧
      ((foldB ds m (foldB ds m rows (l.take k)).1 (l.drop k)).2.2 = 0 → foldB ds m rows l = ((foldB ds m (foldB ds m rows (l.take k)).1 (l.drop k)).1, 0, 0))) := by
  obtain ⟨c1, c2, c3⟩ := chk_ok h2
  obtain ⟨g1, g2, g3⟩ := giv_parts h1
  have t1 : chkB ds m (l.take k) = (0, 0) := chk_good (by rw [List.length_take]; omega) fun c hc => c2 c (List.mem_of_mem_take hc)
  have t2 : chkB ds m (l.drop k) = (0, 0) := chk_good (by rw [List.length_drop]; omega) fun c hc => c2 c (List.mem_of_mem_drop hc)
  have e1 := fold_of h1 h2
  have e2 := fold_of (l := l.take k) h1 (by rw [t1])
  have ea := goF_append (ds := ds) (m := m) (l.take k) (l.drop k) rows 0
  rw [List.take_append_drop, Nat.zero_add, List.length_take, Nat.min_eq_left hkl] at ea
  refine ⟨fun h => ?_, fun h => ?_⟩
  · rw [e2] at h
    simp only at h
    rw [if_neg h] at ea
    rw [e1, e2, ea]
    exact ⟨rfl, by rw [goF_err h]; rfl⟩
  · rw [e2] at h
    simp only at h
    rw [if_pos h] at ea
    have hz := goF_zero h
    have hlt : okH (l.take k) := fun x hx => hl x (List.mem_of_mem_take hx)
    obtain ⟨r1, r2⟩ := run_all (l.take k) hlt (fun x hx => ⟨g2 x hx, hk x hx⟩) g3
    have rlen : (runL ds m rows (l.take k)).length ≤ rows.length + k := by
      clear e1 e2 ea h hz r1 r2 t1 t2
      have : ∀ (l : List Ch) (L : List Rw), (runL ds m L l).length ≤ L.length + l.length := by
        intro l
        induction l with
        | nil => intro L; simp [runL]
        | cons c l ih =>
          intro L
          have := ih (nxtL ds m L c.1 c.2)
          have := nxtL_len ds m L c.1 c.2
          show (runL ds m (nxtL ds m L c.1 c.2) l).length ≤ _
          simp only [List.length_cons]
          omega
      have := this (l.take k) rows
      rw [List.length_take, Nat.min_eq_left hkl] at this
      exact this
    rw [hz] at ea e2
    rw [e2]
    simp only
    have hok : okL (runL ds m rows (l.take k)) := fun x hx => (r1 x hx).2
    have hsp := srt_perm (runL ds m rows (l.take k))
    have gz : givB ds m (srt (runL ds m rows (l.take k))) = true := giv_of g1 (fun x hx => (r1 x (hsp.mem_iff.1 hx)).1) (by rw [massG_perm hsp]; exact r2)
    have e3 := fold_of (l := l.drop k) gz (by rw [t2])
    obtain ⟨p1, p2⟩ := goF_perm (l.drop k) (ds := ds) (m := m) 0 hsp
    obtain ⟨s1, s2, s3⟩ := goF_shift (ds := ds) (m := m) (l.drop k) (runL ds m rows (l.take k)) 0 k
    rw [Nat.zero_add] at s1 s2 s3
    refine ⟨srt_ok hok, by rw [srt_len]; exact rlen, fun h => ?_, fun h => ?_⟩
    · rw [e3] at h ⊢
      simp only at h ⊢
      rw [p2] at h ⊢
      have := s3 h
      rw [e1, ea]
      refine ⟨Prod.ext (by rw [this, Nat.add_comm]) s2, ?_⟩
      simp only
      rw [goF_err (by rw [s2]; exact h)]; rfl
    · rw [e3] at h ⊢
      simp only at h ⊢
      rw [p2] at h
      rw [e1, ea]
      have q1 := goF_zero h
      have q2 : (goF ds m (runL ds m rows (l.take k)) (l.drop k) k).2.2 = 0 := by rw [s2]; exact h
      have q3 := goF_zero q2
      have hld : okH (l.drop k) := fun x hx => hl x (List.mem_of_mem_drop hx)
      obtain ⟨w1, _⟩ := run_all (l.drop k) hld r1 r2
      rw [q1] at p1
      rw [q3]
      simp only
      rw [srt_same (fun x hx => (w1 x (p1.mem_iff.1 hx)).2) p1]
end Go.Proofs.Ytpohmfihpnineaa
