/- What changes come to, and what is behind them: the plain law. -/
import Derived.Test.YtpohmfihpnineaaBtM
import Derived.Test.YtpohmfihpnineaaBtN
set_option linter.unusedSimpArgs false
set_option linter.unusedVariables false
set_option maxHeartbeats 4000000
set_option maxRecDepth 100000
namespace Go.Proofs.Ytpohmfihpnineaa
open Go.Ev
theorem err_mem {ds : List Dm} {m : Int} {L : List Rw} {r : Rw} (h : errL ds m L true r = 0) : r ∈ L := by
  unfold errL at h
  by_cases c : r ∈ L
  · exact c
  · simp only [if_true, if_neg c] at h
    split at h <;> omega
theorem nxt_cnt {ds : List Dm} {m : Int} {L : List Rw} {d : Bool} {r : Rw} (h : errL ds m L d r = 0) (x : Rw) :
    (nxtL ds m L d r).count x + (if d = true ∧ r = x then 1 else 0) = L.count x + (if d = false ∧ r = x then 1 else 0) := by
  unfold nxtL
  rw [if_pos h]
  cases d with
  | true =>
    have hm := err_mem h
    have hp := List.count_pos_iff.2 hm
    simp only [if_true, true_and, Bool.true_eq_false, false_and, if_false]
    rw [List.count_erase]
    by_cases c : r = x
    · subst c; simp; omega
    · simp [c]
  | false =>
    simp only [Bool.false_eq_true, if_false, false_and, true_and]
    rw [List.count_cons]
    simp
theorem run_cnt {ds : List Dm} {m : Int} (x : Rw) : ∀ (l : List Ch) (L : List Rw), (goF ds m L l 0).2.2 = 0 → (runL ds m L l).count x + l.count (true, x) = L.count x + l.count (false, x)
  | [], L, _ => by simp [runL]
  | c :: l, L, h => by
    rw [goF_cons] at h
    by_cases he : errL ds m L c.1 c.2 = 0
    · rw [if_pos he, (show (0 : Nat) + 1 = 0 + 1 from rfl), (goF_shift l (nxtL ds m L c.1 c.2) 0 1).2.1] at h
      have ih := run_cnt x l (nxtL ds m L c.1 c.2) h
      have hn := nxt_cnt he x
      show (runL ds m (nxtL ds m L c.1 c.2) l).count x + _ = _
      obtain ⟨d, r⟩ := c
      rw [List.count_cons, List.count_cons]
      simp only at ih hn ⊢
      cases d
      · by_cases c : r = x
        · subst c; simp at hn ⊢; omega
        · simp [c] at hn ⊢; omega
      · by_cases c : r = x
        · subst c; simp at hn ⊢; omega
        · simp [c] at hn ⊢; omega
    · rw [if_neg he] at h; exact absurd h he
theorem sub_perm : ∀ (A B : List Rw), (∀ x, A.count x ≤ B.count x) → ∃ C, B.Perm (C ++ A)
  | [], B, _ => ⟨B, by simp⟩
  | a :: A, B, h => by
    have ha := h a
    rw [List.count_cons_self] at ha
    have hm : a ∈ B := List.count_pos_iff.1 (by omega)
    obtain ⟨C, hC⟩ := sub_perm A (B.erase a) (fun x => by
      have := h x
      rw [List.count_cons] at this
      rw [List.count_erase]
      by_cases c : a = x
      · subst c; simp at this ⊢; omega
      · simp [c] at this ⊢; omega)
    exact ⟨C, (List.perm_cons_erase hm).trans ((hC.cons a).trans List.perm_middle.symm)⟩
theorem massG_sub {A B : List Rw} (h : ∀ x, A.count x ≤ B.count x) (hB : massG B = true) : massG A = true := by
  obtain ⟨C, hC⟩ := sub_perm A B h
  rw [massG_perm hC] at hB
  exact massG_app hB
theorem netL_mem {l : List Ch} {c : Ch} (h : c ∈ netL l) : ∃ d, (d, c.2) ∈ l := by
  obtain ⟨r, hr, h2⟩ := List.mem_flatMap.1 h
  have := netOf_row h2
  have hk := ((runN_in l).me r).1 ((srt_perm (keysN l)).mem_iff.1 hr)
  rw [this]
  exact hk
theorem cnt_prefix {l : List Ch} {k : Nat} (hk : k < l.length) (c : Ch) : (l.take k).count c + (if l[k] = c then 1 else 0) ≤ l.count c := by
  have e : l = l.take k ++ l[k] :: l.drop (k + 1) := by rw [← List.drop_eq_getElem_cons hk, List.take_append_drop]
  have := congrArg (List.count c) e
  rw [List.count_append, List.count_cons] at this
  rw [this]
  by_cases h : l[k] = c
  · simp [h]
  · simp [h]
theorem nets_law {ds : List Dm} {m : Int} {rows : List Rw} {l : List Ch} (hk : okL rows) (hl : okH l) (h : (foldB ds m rows l).2.2 = 0) :
    ((foldB ds m rows (netL l)).2.2 = 0 → (foldB ds m rows (netL l)).1 = (foldB ds m rows l).1) ∧
    ((foldB ds m rows (netL l)).2.2 ≠ 0 → (foldB ds m rows (netL l)).2.2 = 9 ∧ massG (rows ++ insN l) = false) := by
  by_cases hg : givB ds m rows = true
  · by_cases hc : (chkB ds m l).2 = 0
    · obtain ⟨c1, c2, c3⟩ := chk_ok hc
      have hnl := (merge_netL hl).2
      have hcn : chkB ds m (netL l) = (0, 0) := chk_good (by omega) fun c hc => by
        obtain ⟨d, hd⟩ := netL_mem hc
        exact c2 (d, _) hd
      rw [fold_of hg hc] at h ⊢
      rw [fold_of hg (by rw [hcn])]
      simp only at h ⊢
      have hz := goF_zero h
      have hcl := fun x => run_cnt (ds := ds) (m := m) x l rows h
      have g2 := (giv_parts hg).2.1
      have g3 := (giv_parts hg).2.2
      refine ⟨fun hn => ?_, fun hn => ?_⟩
      · have hcn2 := fun x => run_cnt (ds := ds) (m := m) x (netL l) rows hn
        rw [goF_zero hn, hz]
        simp only
        have hp : (runL ds m rows (netL l)).Perm (runL ds m rows l) := List.perm_iff_count.2 fun x => by
          have h1 := hcl x
          have h2 := hcn2 x
          have h3 := netL_nC l x
          unfold nC at h3
          omega
        obtain ⟨w1, _⟩ := run_all (ds := ds) (m := m) (netL l) (netL_ok hl) (fun x hx => ⟨g2 x hx, hk x hx⟩) g3
        exact srt_same (fun x hx => (w1 x hx).2) hp
      · rcases goF_cases ds m (netL l) rows 0 with ⟨k, hkl, p1, p2, p3⟩ | ⟨_, p3⟩
        · rw [p3]
          simp only
          have hgood : goodW ds m (netL l)[k].2 = true := by
            obtain ⟨d, hd⟩ := netL_mem (List.getElem_mem hkl)
            exact c2 (d, _) hd
          have hpz : (goF ds m rows ((netL l).take k) 0).2.2 = 0 := by
            rcases goF_cases ds m ((netL l).take k) rows 0 with ⟨j, hj, _, s2, _⟩ | ⟨_, s3⟩
            · rw [List.length_take] at hj
              have hj' : j < k := by omega
              rw [List.take_take, Nat.min_eq_left (by omega), List.getElem_take] at s2
              exact absurd (p1 j (by omega) hj') s2
            · rw [s3]
          have hcp := fun x => run_cnt (ds := ds) (m := m) x ((netL l).take k) rows hpz
          have hpre := cnt_prefix hkl
          have hnc := fun d x => netL_count l d x
          generalize runL ds m rows ((netL l).take k) = R at *
          generalize (netL l)[k] = c at *
          obtain ⟨d, r⟩ := c
          simp only at hgood p2 ⊢
          cases d with
          | true =>
            exfalso
            have hno : r ∉ R := fun hm => p2 (by unfold errL; rw [hgood]; simp [hm])
            have h0 := List.count_eq_zero_of_not_mem hno
            have h1 := hcp r
            have h2 := hpre (true, r)
            rw [if_pos rfl, hnc] at h2
            have h3 := hcl r
            have h4 : nC l r = l.count (false, r) - l.count (true, r) := rfl
            by_cases c : nC l r < 0
            · simp [c] at h2; omega
            · simp [c] at h2
          | false =>
            have hm9 : massG (r :: R) = false := by
              cases hm : massG (r :: R) with
              | false => rfl
              | true => exact absurd (by unfold errL; rw [hgood, hm]; simp) p2
            refine ⟨by unfold errL; rw [hgood, hm9]; simp, ?_⟩
            cases hm : massG (rows ++ insN l) with
            | false => rfl
            | true =>
              have := massG_sub (A := r :: R) (fun x => by
                have h1 := hcp x
                have h2 := hpre (false, x)
                rw [hnc] at h2
                rw [List.count_append, insN_count, List.count_cons]
                have h4 : nC l x = l.count (false, x) - l.count (true, x) := rfl
                by_cases hrx : r = x
                · subst hrx
                  simp only [if_true, beq_self_eq_true] at h2 ⊢
                  by_cases c : nC l r < 0
                  · simp only [c, decide_true, Bool.true_eq_false, if_false] at h2
                    omega
                  · simp only [c, decide_false, if_true] at h2
                    omega
                · have h6 : ¬ ((false, r) : Ch) = (false, x) := fun h => hrx (congrArg Prod.snd h)
                  have h7 : ¬ (r == x) = true := by simpa using hrx
                  rw [if_neg h6] at h2
                  rw [if_neg h7]
                  by_cases c : nC l x < 0
                  · simp only [c, decide_true, Bool.true_eq_false, if_false] at h2
                    omega
                  · simp only [c, decide_false, if_true] at h2
                    omega) hm
              rw [hm9] at this
              cases this
        · rw [p3] at hn
          exact absurd rfl hn
    · unfold foldB at h
      rw [if_neg (by rw [hg]; simp), if_pos hc] at h
      exact absurd h hc
  · unfold foldB at h
    rw [if_pos (by simpa using hg)] at h
    simp at h
end Go.Proofs.Ytpohmfihpnineaa
