/- What answers is the cheapest of those below; what is below stands ahead: the plain law. -/
import Derived.Test.YtaflkcaebecpfaaRouD
import Derived.Test.YtaflkcaebecpfaaLatLem
set_option linter.unusedSimpArgs false
set_option linter.unusedVariables false
set_option maxHeartbeats 4000000
set_option maxRecDepth 100000
namespace Go.Proofs.Ytaflkcaebecpfaa
open Go.Ev
theorem chB_none (f : Nat → Int) (ok : Nat → Bool) (but : Int) : ∀ n, chB f ok but n = -1 ↔ ∀ j, j < n → (j : Int) ≠ but → ok j = false
  | 0 => by simp [chB]
  | n + 1 => by
    have ih := chB_none f ok but n
    have hin := chB_in f ok but n
    simp only [chB]
    by_cases c : (n : Int) = but ∨ ok n = false
    · rw [if_pos c, ih]
      constructor
      · intro h j hj hb
        by_cases e : j = n
        · subst e; exact c.resolve_left hb
        · exact h j (by omega) hb
      · intro h j hj hb
        exact h j (by omega) hb
    · rw [if_neg c]
      constructor
      · intro h
        exfalso
        split at h
        · omega
        · rename_i c2
          exact c2 (.inl h)
      · intro h
        exact absurd (h n (by omega) (fun e => c (.inl e))) (fun e => c (.inr e))
/-- The cheapest, the first of those that are as cheap. -/
theorem chB_best (f : Nat → Int) (ok : Nat → Bool) (but : Int) : ∀ n, chB f ok but n ≠ -1 → ∃ s : Nat, chB f ok but n = s ∧ s < n ∧ (s : Int) ≠ but ∧ ok s = true ∧ ∀ j, j < n → (j : Int) ≠ but → ok j = true → f s ≤ f j ∧ (f j = f s → s ≤ j)
  | 0, h => absurd rfl h
  | n + 1, h => by
    have hin := chB_in f ok but n
    simp only [chB] at h ⊢
    by_cases c : (n : Int) = but ∨ ok n = false
    · rw [if_pos c] at h ⊢
      obtain ⟨s, h1, h2, h3, h4, h5⟩ := chB_best f ok but n h
      refine ⟨s, h1, by omega, h3, h4, fun j hj hb hok => ?_⟩
      by_cases e : j = n
      · subst e
        rcases c with c | c
        · exact absurd c hb
        · rw [c] at hok; cases hok
      · exact h5 j (by omega) hb hok
    · rw [if_neg c] at h ⊢
      have hokn : ok n = true := by cases e : ok n with
        | true => rfl
        | false => exact absurd (.inr e) c
      by_cases c1 : chB f ok but n = -1
      · rw [if_pos (.inl c1)]
        refine ⟨n, rfl, by omega, fun e => c (.inl e), hokn, fun j hj hb hok => ?_⟩
        by_cases e : j = n
        · subst e; exact ⟨Int.le_refl _, fun _ => Nat.le_refl _⟩
        · rw [(chB_none f ok but n).1 c1 j (by omega) hb] at hok; cases hok
      · obtain ⟨s, h1, h2, h3, h4, h5⟩ := chB_best f ok but n c1
        rw [h1]
        simp only [Int.toNat_natCast]
        by_cases c2 : f n < f s
        · rw [if_pos (.inr c2)]
          refine ⟨n, rfl, by omega, fun e => c (.inl e), hokn, fun j hj hb hok => ?_⟩
          by_cases e : j = n
          · subst e; exact ⟨Int.le_refl _, fun _ => Nat.le_refl _⟩
          · have := h5 j (by omega) hb hok
            omega
        · rw [if_neg (by simp only [not_or]; exact ⟨by omega, c2⟩)]
          refine ⟨s, rfl, by omega, h3, h4, fun j hj hb hok => ?_⟩
          by_cases e : j = n
          · subst e; omega
          · exact h5 j (by omega) hb hok
/-! ### Nodes below nodes -/
theorem below_iff {a b : List Int} (ha : okN a) (hb : okN b) : belowN a b = true ↔ gI a 0 ≤ gI b 0 ∧ gI a 1 ≤ gI b 1 ∧ gI a 2 ≤ gI b 2 ∧ gI a 3 ≤ gI b 3 := by
  obtain ⟨p, q, r, s, rfl, _, _, _, _⟩ := four ha
  obtain ⟨p2, q2, r2, s2, rfl, _, _, _, _⟩ := four hb
  simp [belowN, gI]
theorem rank4 {a : List Int} (ha : okN a) : rankN a = gI a 0 + gI a 1 + gI a 2 + gI a 3 := by
  obtain ⟨p, q, r, s, rfl, _, _, _, _⟩ := four ha
  simp [rankN, gI]
  omega
theorem below_rank {a b : List Int} (ha : okN a) (hb : okN b) (h : belowN a b = true) (hne : a ≠ b) : rankN a < rankN b := by
  have h1 := (below_iff ha hb).1 h
  rw [rank4 ha, rank4 hb]
  by_cases c : gI a 0 + gI a 1 + gI a 2 + gI a 3 < gI b 0 + gI b 1 + gI b 2 + gI b 3
  · exact c
  · exfalso
    apply hne
    rw [list4 ha.1, list4 hb.1]
    congr 1
    · omega
    · congr 1
      · omega
      · congr 1
        · omega
        · congr 1
          omega
theorem below_refl {a : List Int} (ha : okN a) : belowN a a = true := (below_iff ha ha).2 ⟨Int.le_refl _, Int.le_refl _, Int.le_refl _, Int.le_refl _⟩
theorem below_zero {b : List Int} (hb : okN b) : belowN zero4 b = true := by
  obtain ⟨p, q, r, s, rfl, h0, h1, h2, h3⟩ := four hb
  unfold byte at h0 h1 h2 h3
  simp [belowN, zero4]
  omega
theorem zero_below {a : List Int} (ha : okN a) (h : belowN a zero4 = true) : a = zero4 := by
  obtain ⟨p, q, r, s, rfl, h0, h1, h2, h3⟩ := four ha
  unfold byte at h0 h1 h2 h3
  simp [belowN, zero4] at h ⊢
  omega
theorem idx_of {l : List (List Int)} {v : List Int} (h : v ∈ l) : ∃ i, i < l.length ∧ gR l i = v := by
  obtain ⟨i, hi, e⟩ := List.getElem_of_mem h
  exact ⟨i, hi, by rw [gR_get _ _ hi]; exact e⟩
theorem nodup_at {l : List (List Int)} (h : l.Nodup) {i j : Nat} (hi : i < l.length) (hj : j < l.length) (e : gR l i = gR l j) : i = j := by
  rw [gR_get _ _ hi, gR_get _ _ hj] at e
  exact (List.getElem_inj h).1 e
/-! ### The order -/
theorem ordB_all {f : Nat → Int} {n k i : Nat} (hi : i < n) (h0 : 0 ≤ f i) (h1 : f i < k) : i ∈ ordB f n k := by
  unfold ordB
  refine List.mem_flatMap.2 ⟨(f i).toNat, List.mem_range.2 (by omega), ?_⟩
  simp only [List.mem_filter, List.mem_range, decide_eq_true_eq]
  exact ⟨hi, by omega⟩
theorem ordB_nodup (f : Nat → Int) (k : Nat) : ∀ n, (∀ i, i < n → 0 ≤ f i ∧ f i < k) → (ordB f n k).Nodup
  | 0, _ => by rw [ordB_zero]; exact List.nodup_nil
  | n + 1, h => by
    have h1 := h n (by omega)
    have h2 := ordB_nodup f k n fun i hi => h i (by omega)
    have h3 := ord_split f n ((f n).toNat + 1) k (by omega)
    rw [h3, List.nodup_append] at h2
    rw [ord_more f n k (f n).toNat (by omega) (by omega), List.nodup_append]
    refine ⟨h2.1, List.nodup_cons.2 ⟨fun hm => by have := (ordA_mem hm).1; omega, h2.2.1⟩, fun a ha b hb => ?_⟩
    rcases List.mem_cons.1 hb with rfl | hb
    · have := (ordB_mem ha).1; omega
    · exact h2.2.2 a ha b hb
/-- What has the lesser rank stands ahead. -/
theorem idx_lt {f : Nat → Int} {n k a b : Nat} (ha : a < n) (hb : b < n) (h0 : 0 ≤ f a) (hk : f a < k) (h : f a < f b) : (ordB f n k).idxOf a < (ordB f n k).idxOf b := by
  have hs := ord_split f n ((f a).toNat + 1) k (by omega)
  have h1 : a ∈ ordB f n ((f a).toNat + 1) := ordB_all ha h0 (by omega)
  have h2 : ¬ b ∈ ordB f n ((f a).toNat + 1) := fun hm => by have := ordB_mem hm; omega
  rw [hs, List.idxOf_append, if_pos h1, List.idxOf_append, if_neg h2]
  have := List.idxOf_lt_length_of_mem h1
  omega
end Go.Proofs.Ytaflkcaebecpfaa
