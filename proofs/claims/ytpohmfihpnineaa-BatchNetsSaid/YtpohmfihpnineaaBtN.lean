/- What changes come to: the plain laws. -/
import Derived.Test.YtpohmfihpnineaaBtA
set_option linter.unusedSimpArgs false
set_option linter.unusedVariables false
set_option maxHeartbeats 4000000
set_option maxRecDepth 100000
namespace Go.Proofs.Ytpohmfihpnineaa
open Go.Ev
def stepN (S : Nat × List Me) (c : Ch) : Nat × List Me := match findE c.2 S.2 0 with
  | some (i, e) => (S.1, modM S.2 i (e.2.1 + sgn c.1))
  | none => (S.1 + 1, S.2 ++ [(c.2, sgn c.1, S.1)])
def runN (l : List Ch) : Nat × List Me := l.foldl stepN (0, [])
theorem runN_succ (l : List Ch) (i : Nat) (h : i < l.length) : runN (l.take (i + 1)) = stepN (runN (l.take i)) l[i] := by
  unfold runN; rw [List.take_succ_eq_append_getElem h, List.foldl_append]; rfl
def nC (l : List Ch) (r : Rw) : Int := (l.count (false, r) : Int) - l.count (true, r)
theorem nC_snoc (l : List Ch) (c : Ch) (r : Rw) : nC (l ++ [c]) r = nC l r + if c.2 = r then sgn c.1 else 0 := by
  obtain ⟨d, x⟩ := c
  unfold nC sgn
  simp only [List.count_append, List.count_singleton]
  cases d <;> by_cases h : x = r <;> simp [h] <;> omega
structure IN (S : Nat × List Me) (l : List Ch) : Prop where
  nd : (S.2.map (·.2.2)).Nodup
  lt : ∀ e ∈ S.2, e.2.2 < S.1
  ke : (S.2.map (·.1)).Nodup
  me : ∀ r, r ∈ S.2.map (·.1) ↔ ∃ d, (d, r) ∈ l
  va : ∀ e ∈ S.2, e.2.1 = nC l e.1
  le : S.2.length ≤ l.length
theorem modM_fst (es : List Me) (i : Nat) (v : Int) : (modM es i v).map (·.1) = es.map (·.1) := by
  unfold modM
  induction es generalizing i with
  | nil => simp
  | cons e es ih => cases i with
    | zero => simp
    | succ i => simp [ih]
theorem modM_born (es : List Me) (i : Nat) (v : Int) : (modM es i v).map (·.2.2) = es.map (·.2.2) := by
  unfold modM
  induction es generalizing i with
  | nil => simp
  | cons e es ih => cases i with
    | zero => simp
    | succ i => simp [ih]
theorem modM_len (es : List Me) (i : Nat) (v : Int) : (modM es i v).length = es.length := by unfold modM; simp
theorem modM_mem {es : List Me} {i : Nat} {v : Int} {e x : Me} (h : es[i]? = some e) (hx : x ∈ modM es i v) : x = (e.1, v, e.2.2) ∨ ∃ j, j ≠ i ∧ es[j]? = some x := by
  obtain ⟨j, hj, rfl⟩ := List.mem_iff_getElem.1 hx
  unfold modM at hj ⊢
  rw [List.length_modify] at hj
  rw [List.getElem_modify]
  by_cases c : i = j
  · subst c
    rw [if_pos rfl]
    rw [List.getElem?_eq_getElem hj] at h
    cases h
    exact .inl rfl
  · rw [if_neg c]
    exact .inr ⟨j, fun h => c h.symm, List.getElem?_eq_getElem hj⟩
theorem stepN_in {S : Nat × List Me} {l : List Ch} (c : Ch) (ih : IN S l) : IN (stepN S c) (l ++ [c]) := by
    obtain ⟨clk, es⟩ := S
    obtain ⟨h1, h2, h3, h4, h5, h6⟩ := ih
    simp only at h1 h2 h3 h4 h5 h6
    unfold stepN
    simp only
    cases hf : findE c.2 es 0 with
    | none =>
      have hno := findE_none hf
      have hnl : ∀ d, (d, c.2) ∉ l := fun d hd => by
        have := (h4 c.2).2 ⟨d, hd⟩
        obtain ⟨e, he, h⟩ := List.mem_map.1 this
        exact hno e he h
      have hn0 : nC l c.2 = 0 := by
        unfold nC
        rw [List.count_eq_zero_of_not_mem (hnl false), List.count_eq_zero_of_not_mem (hnl true)]; rfl
      simp only
      refine ⟨?_, ?_, ?_, ?_, ?_, ?_⟩
      · simp only [List.map_append, List.map_cons, List.map_nil, List.nodup_append]
        refine ⟨h1, by simp, fun a ha b hb => ?_⟩
        obtain ⟨e, he, rfl⟩ := List.mem_map.1 ha
        have := h2 e he
        simp at hb
        omega
      · intro e he
        rcases List.mem_append.1 he with he | he
        · have := h2 e he; simp only; omega
        · simp at he; subst he; simp
      · simp only [List.map_append, List.map_cons, List.map_nil, List.nodup_append]
        refine ⟨h3, by simp, fun a ha b hb => ?_⟩
        obtain ⟨e, he, rfl⟩ := List.mem_map.1 ha
        simp at hb
        subst hb
        exact hno e he
      · intro r
        simp only [List.map_append, List.map_cons, List.map_nil, List.mem_append, List.mem_singleton, h4]
        constructor
        · rintro (⟨d, h⟩ | rfl)
          · exact ⟨d, .inl h⟩
          · exact ⟨c.1, .inr rfl⟩
        · rintro ⟨d, h | h⟩
          · exact .inl ⟨d, h⟩
          · exact .inr (by rw [← h])
      · intro e he
        rcases List.mem_append.1 he with he | he
        · rw [nC_snoc, if_neg (fun h => hno e he h.symm), h5 e he]; omega
        · simp at he
          subst he
          simp only
          rw [nC_snoc, if_pos rfl, hn0]; omega
      · simp; omega
    | some p =>
      obtain ⟨i, e⟩ := p
      obtain ⟨_, hg, hke⟩ := findE_get hf
      simp only [Nat.sub_zero] at hg
      simp only
      refine ⟨by rw [modM_born]; exact h1, fun x hx => ?_, by rw [modM_fst]; exact h3, fun r => ?_, fun x hx => ?_, by rw [modM_len]; simp; omega⟩
      · rcases modM_mem hg hx with rfl | ⟨j, _, hj⟩
        · exact h2 e (List.mem_of_getElem? hg)
        · exact h2 x (List.mem_of_getElem? hj)
      · rw [modM_fst, h4]
        constructor
        · rintro ⟨d, h⟩; exact ⟨d, List.mem_append.2 (.inl h)⟩
        · rintro ⟨d, h⟩
          rcases List.mem_append.1 h with h | h
          · exact ⟨d, h⟩
          · simp at h
            have : r = e.1 := by rw [hke, ← h]
            rw [this]
            exact (h4 e.1).1 (List.mem_map.2 ⟨e, List.mem_of_getElem? hg, rfl⟩)
      · rcases modM_mem hg hx with rfl | ⟨j, hji, hj⟩
        · simp only
          rw [nC_snoc, if_pos hke.symm, h5 e (List.mem_of_getElem? hg)]
        · have hne : x.1 ≠ c.2 := fun hxc => by
            have hj' : (es.map (·.1))[j]? = some c.2 := by rw [List.getElem?_map, hj]; simp [hxc]
            have hi' : (es.map (·.1))[i]? = some c.2 := by rw [List.getElem?_map, hg]; simp [hke]
            have hjl : j < (es.map (·.1)).length := by
              rcases Nat.lt_or_ge j (es.map (·.1)).length with h | h
              · exact h
              · rw [List.getElem?_eq_none h] at hj'; cases hj'
            exact hji ((List.getElem?_inj hjl h3).1 (hj'.trans hi'.symm))
          rw [nC_snoc, if_neg (fun h => hne h.symm), h5 x (List.mem_of_getElem? hj)]; omega
theorem foldN_in : ∀ (l2 l1 : List Ch) (S : Nat × List Me), IN S l1 → IN (l2.foldl stepN S) (l1 ++ l2)
  | [], l1, S, h => by simpa using h
  | c :: l2, l1, S, h => by
    have := foldN_in l2 (l1 ++ [c]) (stepN S c) (stepN_in c h)
    simpa using this
theorem runN_in (l : List Ch) : IN (runN l) l :=
  foldN_in l [] (0, []) ⟨by simp, by simp, by simp, by simp, by simp, by simp⟩
def netOf (n : Rw → Int) (r : Rw) : List Ch := List.replicate (n r).natAbs (decide (n r < 0), r)
def keysN (l : List Ch) : List Rw := (runN l).2.map (·.1)
def netL (l : List Ch) : List Ch := (srt (keysN l)).flatMap (netOf (nC l))
def leC (a b : Ch) : Prop := ltR a.2 b.2 ∨ a = b
theorem keys_ok {l : List Ch} (h : okH l) : okL (keysN l) := fun r hr => by
  obtain ⟨d, hd⟩ := ((runN_in l).me r).1 hr
  exact h _ hd
theorem netOf_row {n : Rw → Int} {r : Rw} {c : Ch} (h : c ∈ netOf n r) : c = (decide (n r < 0), r) := (List.mem_replicate.1 h).2
theorem netL_pw {l : List Ch} (h : okH l) : (netL l).Pairwise leC := by
  unfold netL
  rw [List.pairwise_flatMap]
  refine ⟨fun a _ => ?_, ?_⟩
  · unfold netOf
    exact List.pairwise_replicate.2 (.inr (.inr rfl))
  · have hk := keys_ok h
    have hn : (srt (keysN l)).Nodup := (srt_perm (keysN l)).nodup_iff.2 (runN_in l).ke
    have hs : (srt (keysN l)).Pairwise fun a b => ¬ ltR b a := by
      exact (ltD_swo hk).imp fun h => of_decide_eq_false h
    refine (List.Pairwise.and hs hn).imp_of_mem fun {a b} ha hb hab x hx y hy => ?_
    have hx := netOf_row hx
    have hy := netOf_row hy
    subst hx; subst hy
    rcases ltR_tri (srt_ok hk a ha) (srt_ok hk b hb) hab.2 with c | c
    · exact .inl c
    · exact absurd c hab.1
theorem count_netOf (n : Rw → Int) (r x : Rw) (d : Bool) : (netOf n r).count (d, x) = if r = x then (if decide (n r < 0) = d then (n r).natAbs else 0) else 0 := by
  unfold netOf
  rw [List.count_replicate]
  by_cases h : r = x
  · subst h
    by_cases h2 : decide (n r < 0) = d
    · simp [h2]
    · rw [if_pos rfl, if_neg h2, if_neg]
      simpa using h2
  · rw [if_neg h, if_neg]
    simp [h]
theorem count_flat (n : Rw → Int) (x : Rw) (d : Bool) : ∀ K : List Rw, K.Nodup → (K.flatMap (netOf n)).count (d, x) = if x ∈ K then (netOf n x).count (d, x) else 0
  | [], _ => by simp
  | r :: K, h => by
    rw [List.flatMap_cons, List.count_append, count_flat n x d K (List.nodup_cons.1 h).2]
    have hr := (List.nodup_cons.1 h).1
    by_cases c : r = x
    · subst c
      rw [if_neg hr, if_pos (by simp)]; omega
    · rw [count_netOf n r x d, if_neg c]
      simp only [Nat.zero_add, List.mem_cons]
      simp [show ¬ x = r from fun h => c h.symm]
theorem netL_count (l : List Ch) (d : Bool) (r : Rw) : (netL l).count (d, r) = if decide (nC l r < 0) = d then (nC l r).natAbs else 0 := by
  unfold netL
  have hn : (srt (keysN l)).Nodup := (srt_perm (keysN l)).nodup_iff.2 (runN_in l).ke
  rw [count_flat _ _ _ _ hn, count_netOf, if_pos rfl]
  by_cases c : r ∈ srt (keysN l)
  · rw [if_pos c]
  · rw [if_neg c]
    have hno : ∀ d, (d, r) ∉ l := fun d hd => c ((srt_perm _).mem_iff.2 (((runN_in l).me r).2 ⟨d, hd⟩))
    have hn0 : nC l r = 0 := by
      unfold nC
      rw [List.count_eq_zero_of_not_mem (hno false), List.count_eq_zero_of_not_mem (hno true)]; rfl
    rw [hn0]; simp
theorem leC_anti {a b : Ch} (h1 : leC a b) (h2 : leC b a) : a = b := by
  rcases h1 with h1 | h1
  · rcases h2 with h2 | h2
    · exact absurd (ltR_trans h1 h2) (ltR_irrefl _)
    · exact h2.symm
  · exact h1
theorem net_uniq {a b : List Ch} (h1 : a.Pairwise leC) (h2 : b.Pairwise leC) (h : ∀ d r, a.count (d, r) = b.count (d, r)) : a = b :=
  List.Perm.eq_of_pairwise (le := leC) (fun _ _ _ _ => leC_anti) h1 h2 (List.perm_iff_count.2 fun c => h c.1 c.2)
theorem netL_ok {l : List Ch} (h : okH l) : okH (netL l) := fun c hc => by
  obtain ⟨r, hr, h2⟩ := List.mem_flatMap.1 hc
  rw [netOf_row h2]
  exact srt_ok (keys_ok h) r hr
theorem netL_nC (l : List Ch) (r : Rw) : nC (netL l) r = nC l r := by
  unfold nC
  rw [netL_count, netL_count]
  by_cases c : nC l r < 0
  · simp [c]; unfold nC at *; omega
  · simp [c]; unfold nC at *; omega
theorem netL_netL {l : List Ch} (h : okH l) : netL (netL l) = netL l :=
  net_uniq (netL_pw (netL_ok h)) (netL_pw h) fun d r => by rw [netL_count, netL_count, netL_nC]
def mergeN : List Rw → List Rw → List Ch
  | [], B => B.map (true, ·)
  | A, [] => A.map (false, ·)
  | a :: A, b :: B => if a = b then mergeN A B else if ltR a b then (false, a) :: mergeN A (b :: B) else (true, b) :: mergeN (a :: A) B
termination_by A B => A.length + B.length
theorem mergeN_nilL (B : List Rw) : mergeN [] B = B.map (true, ·) := by unfold mergeN; rfl
theorem mergeN_nilR (A : List Rw) : mergeN A [] = A.map (false, ·) := by cases A <;> simp [mergeN]
theorem mergeN_cons (a : Rw) (A : List Rw) (b : Rw) (B : List Rw) : mergeN (a :: A) (b :: B) = if a = b then mergeN A B else if ltR a b then (false, a) :: mergeN A (b :: B) else (true, b) :: mergeN (a :: A) B := by
  rw [mergeN]
abbrev SortR (l : List Rw) : Prop := l.Pairwise fun a b => ¬ ltR b a
theorem count_map_other (A : List Rw) (d e : Bool) (r : Rw) (h : d ≠ e) : (A.map (d, ·)).count (e, r) = 0 := by
  refine List.count_eq_zero_of_not_mem fun hm => ?_
  obtain ⟨x, _, hx⟩ := List.mem_map.1 hm
  exact h (congrArg Prod.fst hx)
theorem count_map_same (A : List Rw) (d : Bool) (r : Rw) : (A.map (d, ·)).count (d, r) = A.count r := by
  induction A with
  | nil => rfl
  | cons a A ih =>
    rw [List.map_cons, List.count_cons, List.count_cons, ih]
    by_cases h : a = r
    · subst h; simp
    · simp [h]
theorem mergeN_spec : ∀ (n : Nat) (A B : List Rw), A.length + B.length = n → okL A → okL B → SortR A → SortR B →
    (mergeN A B).Pairwise leC ∧ (mergeN A B).length ≤ A.length + B.length ∧ (∀ c ∈ mergeN A B, c.2 ∈ A ∨ c.2 ∈ B) ∧ ∀ r, (mergeN A B).count (false, r) = A.count r - B.count r ∧ (mergeN A B).count (true, r) = B.count r - A.count r := by
  intro n
  induction n using Nat.strongRecOn with
  | _ n ih =>
    intro A B hn hA hB sA sB
    cases A with
    | nil =>
      rw [mergeN_nilL]
      refine ⟨?_, by simp, fun c hc => ?_, fun r => ⟨by rw [count_map_other _ _ _ _ (by simp)]; simp, by rw [count_map_same]; simp⟩⟩
      · rw [List.pairwise_map]
        refine List.Pairwise.imp_of_mem (fun {a b} ha hb hab => ?_) sB
        by_cases h : a = b
        · exact .inr (by rw [h])
        · exact .inl ((ltR_tri (hB a ha) (hB b hb) h).resolve_right hab)
      · obtain ⟨x, hx, rfl⟩ := List.mem_map.1 hc
        exact .inr hx
    | cons a A =>
      cases B with
      | nil =>
        rw [mergeN_nilR]
        refine ⟨?_, by simp, fun c hc => ?_, fun r => ⟨by rw [count_map_same]; simp, by rw [count_map_other _ _ _ _ (by simp)]; simp⟩⟩
        · rw [List.pairwise_map]
          refine List.Pairwise.imp_of_mem (fun {x y} hx hy hxy => ?_) sA
          by_cases h : x = y
          · exact .inr (by rw [h])
          · exact .inl ((ltR_tri (hA x hx) (hA y hy) h).resolve_right hxy)
        · obtain ⟨x, hx, rfl⟩ := List.mem_map.1 hc
          exact .inl hx
      | cons b B =>
        have hA' : okL A := fun x hx => hA x (by simp [hx])
        have hB' : okL B := fun x hx => hB x (by simp [hx])
        have sA' := (List.pairwise_cons.1 sA).2
        have sB' := (List.pairwise_cons.1 sB).2
        simp only [List.length_cons] at hn
        rw [mergeN_cons]
        by_cases h : a = b
        · subst h
          rw [if_pos rfl]
          obtain ⟨h1, h2, h3, h4⟩ := ih (A.length + B.length) (by omega) A B rfl hA' hB' sA' sB'
          refine ⟨h1, by simp only [List.length_cons]; omega, fun c hc => ?_, fun r => ?_⟩
          · rcases h3 c hc with h | h
            · exact .inl (by simp [h])
            · exact .inr (by simp [h])
          · obtain ⟨h5, h6⟩ := h4 r
            rw [h5, h6, List.count_cons, List.count_cons]
            omega
        · rw [if_neg h]
          by_cases hl : ltR a b
          · rw [if_pos hl]
            obtain ⟨h1, h2, h3, h4⟩ := ih (A.length + (b :: B).length) (by simp only [List.length_cons]; omega) A (b :: B) rfl hA' hB sA' sB
            have hno : ∀ x ∈ b :: B, ltR a x := fun x hx => by
              rcases List.mem_cons.1 hx with rfl | hx
              · exact hl
              · have := (List.pairwise_cons.1 sB).1 x hx
                by_cases hbx : b = x
                · subst hbx; exact hl
                · exact ltR_trans hl ((ltR_tri (hB b (by simp)) (hB' x hx) hbx).resolve_right this)
            have hcz : (b :: B).count a = 0 := List.count_eq_zero_of_not_mem fun hm => ltR_irrefl a (hno a hm)
            refine ⟨List.pairwise_cons.2 ⟨fun c hc => ?_, h1⟩, by simp only [List.length_cons] at h2 ⊢; omega, fun c hc => ?_, fun r => ?_⟩
            · obtain ⟨d, x⟩ := c
              rcases h3 _ hc with hx | hx
              · by_cases hax : a = x
                · subst hax
                  cases d with
                  | false => exact .inr rfl
                  | true =>
                    have := List.count_pos_iff.2 hc
                    rw [(h4 a).2, hcz] at this
                    omega
                · exact .inl ((ltR_tri (hA a (by simp)) (hA' x hx) hax).resolve_right ((List.pairwise_cons.1 sA).1 x hx))
              · exact .inl (hno x hx)
            · rcases List.mem_cons.1 hc with rfl | hc
              · exact .inl (by simp)
              · rcases h3 c hc with h | h
                · exact .inl (by simp [h])
                · exact .inr h
            · obtain ⟨h5, h6⟩ := h4 r
              rw [List.count_cons (a := (false, r)), List.count_cons (a := (true, r)), h5, h6, List.count_cons (a := r) (b := a) (l := A)]
              by_cases har : a = r
              · subst har
                rw [hcz]
                simp
              · simp [har]
          · rw [if_neg hl]
            have hl2 : ltR b a := (ltR_tri (hA a (by simp)) (hB b (by simp)) h).resolve_left hl
            obtain ⟨h1, h2, h3, h4⟩ := ih ((a :: A).length + B.length) (by simp only [List.length_cons]; omega) (a :: A) B rfl hA hB' sA sB'
            have hno : ∀ x ∈ a :: A, ltR b x := fun x hx => by
              rcases List.mem_cons.1 hx with rfl | hx
              · exact hl2
              · have := (List.pairwise_cons.1 sA).1 x hx
                by_cases hbx : a = x
                · subst hbx; exact hl2
                · exact ltR_trans hl2 ((ltR_tri (hA a (by simp)) (hA' x hx) hbx).resolve_right this)
            have hcz : (a :: A).count b = 0 := List.count_eq_zero_of_not_mem fun hm => ltR_irrefl b (hno b hm)
            refine ⟨List.pairwise_cons.2 ⟨fun c hc => ?_, h1⟩, by simp only [List.length_cons] at h2 ⊢; omega, fun c hc => ?_, fun r => ?_⟩
            · obtain ⟨d, x⟩ := c
              rcases h3 _ hc with hx | hx
              · exact .inl (hno x hx)
              · by_cases hax : b = x
                · subst hax
                  cases d with
                  | true => exact .inr rfl
                  | false =>
                    have := List.count_pos_iff.2 hc
                    rw [(h4 b).1, hcz] at this
                    omega
                · exact .inl ((ltR_tri (hB b (by simp)) (hB' x hx) hax).resolve_right ((List.pairwise_cons.1 sB).1 x hx))
            · rcases List.mem_cons.1 hc with rfl | hc
              · exact .inr (by simp)
              · rcases h3 c hc with h | h
                · exact .inl h
                · exact .inr (by simp [h])
            · obtain ⟨h5, h6⟩ := h4 r
              rw [List.count_cons (a := (false, r)), List.count_cons (a := (true, r)), h5, h6, List.count_cons (a := r) (b := b) (l := B)]
              by_cases hbr : b = r
              · subst hbr
                rw [hcz]
                simp
              · simp [hbr]
def insN (l : List Ch) : List Rw := (l.filter fun c => !c.1).map (·.2)
def outsN (l : List Ch) : List Rw := (l.filter fun c => c.1).map (·.2)
theorem insN_count (l : List Ch) (r : Rw) : (insN l).count r = l.count (false, r) := by
  induction l with
  | nil => rfl
  | cons c l ih =>
    obtain ⟨d, x⟩ := c
    unfold insN at *
    cases d
    · simp only [List.filter_cons, Bool.not_false, if_true, List.map_cons, List.count_cons, ih]
      by_cases h : x = r
      · subst h; simp
      · simp [h]
    · simp only [List.filter_cons, Bool.not_true, Bool.false_eq_true, if_false, List.count_cons, ih]
      simp
theorem outsN_count (l : List Ch) (r : Rw) : (outsN l).count r = l.count (true, r) := by
  induction l with
  | nil => rfl
  | cons c l ih =>
    obtain ⟨d, x⟩ := c
    unfold outsN at *
    cases d
    · simp only [List.filter_cons, Bool.false_eq_true, if_false, List.count_cons, ih]
      simp
    · simp only [List.filter_cons, if_true, List.map_cons, List.count_cons, ih]
      by_cases h : x = r
      · subst h; simp
      · simp [h]
theorem insN_ok {l : List Ch} (h : okH l) : okL (insN l) := fun r hr => by
  obtain ⟨c, hc, rfl⟩ := List.mem_map.1 hr
  exact h c ((List.mem_filter.1 hc).1)
theorem outsN_ok {l : List Ch} (h : okH l) : okL (outsN l) := fun r hr => by
  obtain ⟨c, hc, rfl⟩ := List.mem_map.1 hr
  exact h c ((List.mem_filter.1 hc).1)
theorem inout_len (l : List Ch) : (insN l).length + (outsN l).length = l.length := by
  induction l with
  | nil => rfl
  | cons c l ih =>
    obtain ⟨d, x⟩ := c
    unfold insN outsN at *
    cases d <;> simp [List.filter_cons] at ih ⊢ <;> omega
theorem srt_sortR {l : List Rw} (h : okL l) : SortR (srt l) := (ltD_swo h).imp fun h => of_decide_eq_false h
theorem merge_netL {l : List Ch} (h : okH l) : mergeN (srt (insN l)) (srt (outsN l)) = netL l ∧ (netL l).length ≤ l.length := by
  have hA := insN_ok h
  have hB := outsN_ok h
  obtain ⟨h1, h2, _, h4⟩ := mergeN_spec _ (srt (insN l)) (srt (outsN l)) rfl (srt_ok hA) (srt_ok hB) (srt_sortR hA) (srt_sortR hB)
  have e : mergeN (srt (insN l)) (srt (outsN l)) = netL l := net_uniq h1 (netL_pw h) fun d r => by
    obtain ⟨c1, c2⟩ := h4 r
    rw [(srt_perm _).count_eq, (srt_perm _).count_eq, insN_count, outsN_count] at c1 c2
    rw [netL_count]
    cases d
    · rw [c1]
      by_cases c : nC l r < 0
      · simp [c]; unfold nC at c; omega
      · simp [c]; unfold nC at *; omega
    · rw [c2]
      by_cases c : nC l r < 0
      · simp [c]; unfold nC at *; omega
      · simp [c]; unfold nC at c; omega
  refine ⟨e, ?_⟩
  rw [← e]
  have := inout_len l
  simp only [srt_len] at h2
  omega
end Go.Proofs.Ytpohmfihpnineaa
