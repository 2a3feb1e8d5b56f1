/- The base as a bag of rows: plain law. -/
import Derived.Test.YtpohmfihpnineaaBaF
import Derived.Test.YtpohmfihpnineaaRowM
set_option linter.unusedSimpArgs false
set_option linter.unusedVariables false
set_option maxHeartbeats 4000000
set_option maxRecDepth 100000
namespace Go.Proofs.Ytpohmfihpnineaa
open Go.Ev
theorem expand_app (a b : List Me) : expand (a ++ b) = expand a ++ expand b := List.flatMap_append
theorem expand_cons (e : Me) (b : List Me) : expand (e :: b) = List.replicate e.2.1.toNat e.1 ++ expand b := rfl
theorem sum_perm (f : Rw → Int) {a b : List Rw} (h : a.Perm b) : (a.map f).sum = (b.map f).sum := by
  induction h with
  | nil => rfl
  | cons x h ih => simp [ih]
  | swap x y l => simp; omega
  | trans h1 h2 ih1 ih2 => exact ih1.trans ih2
theorem sumX_perm {a b : List Rw} (h : a.Perm b) : sumX a = sumX b := sum_perm _ h
theorem sumY_perm {a b : List Rw} (h : a.Perm b) : sumY a = sumY b := sum_perm _ h
theorem sumX_cons (r : Rw) (l : List Rw) : sumX (r :: l) = absI r.x + sumX l := by simp [sumX]
theorem sumY_cons (r : Rw) (l : List Rw) : sumY (r :: l) = absI r.y + sumY l := by simp [sumY]
theorem sumX_nn (l : List Rw) : 0 ≤ sumX l := sum_nn _ (fun r => absI_nn r.x) l
theorem sumY_nn (l : List Rw) : 0 ≤ sumY l := sum_nn _ (fun r => absI_nn r.y) l
theorem massG_perm {a b : List Rw} (h : a.Perm b) : massG a = massG b := by unfold massG; rw [sumX_perm h, sumY_perm h]
structure IB (S : Bs) : Prop where
  nd : (S.es.map (·.2.2)).Nodup
  lt : ∀ e ∈ S.es, e.2.2 < S.clk
  ke : (S.es.map (·.1)).Nodup
  po : ∀ e ∈ S.es, 1 ≤ e.2.1
  ro : ∀ e ∈ S.es, okW e.1
  n : S.n = (expand S.es).length
  mx : S.mx = sumX (expand S.es)
  my : S.my = sumY (expand S.es)
  g : massG (expand S.es) = true
theorem expand_le {es : List Me} {e : Me} (h : e ∈ es) : e.2.1.toNat ≤ (expand es).length := by
  obtain ⟨a, b, rfl⟩ := List.append_of_mem h
  rw [expand_app, expand_cons]
  simp
  omega
theorem IB.toM {S : Bs} (h : IB S) : okM S := by
  have g := h.g
  unfold massG at g
  simp only [Bool.and_eq_true, decide_eq_true_eq] at g
  exact ⟨by rw [h.mx]; exact sumX_nn _, by rw [h.mx]; exact g.1, by rw [h.my]; exact sumY_nn _, by rw [h.my]; exact g.2⟩
theorem IB.toE {S : Bs} (h : IB S) (hl : (expand S.es).length ≤ 1000000) : okE S where
  nd := h.nd
  lt := h.lt
  ke := h.ke
  po e he := ⟨h.po e he, by have := expand_le he; omega⟩
  ro := h.ro
  n0 := by rw [h.n]; omega
  n1 := by rw [h.n]; omega
theorem IB.toX {S : Bs} (h : IB S) (hl : (expand S.es).length ≤ 1000000) : okX S.clk S.es = true := by
  simp only [okX, Bool.and_eq_true, decide_eq_true_eq, List.all_eq_true]
  exact ⟨⟨h.nd, fun e he => ⟨⟨h.lt e he, h.po e he, by have := expand_le he; have := h.po e he; omega⟩, h.ro e he⟩⟩, hl⟩
theorem ib0 : IB bs0 where
  nd := by simp [bs0]
  lt := by simp [bs0]
  ke := by simp [bs0]
  po := by simp [bs0]
  ro := by simp [bs0]
  n := rfl
  mx := rfl
  my := rfl
  g := by decide
theorem count_expand_none {r : Rw} {es : List Me} (h : ∀ e ∈ es, e.1 ≠ r) : (expand es).count r = 0 := by
  rw [List.count_eq_zero]
  intro hm
  obtain ⟨e, he, h2⟩ := List.mem_flatMap.1 hm
  exact h e he (List.mem_replicate.1 h2).2.symm
theorem split_at {es : List Me} {i : Nat} {e : Me} (h : es[i]? = some e) : es = es.take i ++ e :: es.drop (i + 1) := by
  obtain ⟨hi, rfl⟩ := List.getElem?_eq_some_iff.1 h
  rw [List.getElem_cons_drop, List.take_append_drop]
theorem mod_split {es : List Me} {i : Nat} {e : Me} (z : Int) (h : es[i]? = some e) : modM es i z = es.take i ++ (e.1, z, e.2.2) :: es.drop (i + 1) := by
  obtain ⟨hi, rfl⟩ := List.getElem?_eq_some_iff.1 h
  unfold modM
  rw [List.modify_eq_take_cons_drop hi]
theorem erase_split (es : List Me) (i : Nat) : es.eraseIdx i = es.take i ++ es.drop (i + 1) := List.eraseIdx_eq_take_drop_succ es i
theorem cntE_count {r : Rw} {es : List Me} (hk : (es.map (·.1)).Nodup) (hp : ∀ e ∈ es, 1 ≤ e.2.1) : cntE r es = (expand es).count r := by
  unfold cntE
  cases hf : findE r es 0 with
  | none => simp only; rw [count_expand_none (findE_none hf)]; rfl
  | some p =>
    obtain ⟨i, e⟩ := p
    obtain ⟨_, hg, rfl⟩ := findE_get hf
    simp only [Nat.sub_zero] at hg
    have hv := hp e (List.mem_of_getElem? hg)
    have hs := split_at hg
    simp only
    rw [hs] at hk ⊢
    rw [expand_app, expand_cons, List.count_append, List.count_append]
    simp only [List.map_append, List.map_cons, List.nodup_append, List.nodup_cons] at hk
    obtain ⟨h1, ⟨h2, h3⟩, h4⟩ := hk
    rw [count_expand_none (es := es.take i), count_expand_none (es := es.drop (i + 1)), List.count_replicate_self]
    · omega
    · intro x hx q; exact h2 (q ▸ List.mem_map_of_mem hx)
    · intro x hx q; exact h4 x.1 (List.mem_map_of_mem hx) e.1 (by simp) q
theorem upd_add {r : Rw} {clk : Nat} {es : List Me} (hp : ∀ e ∈ es, 1 ≤ e.2.1) : (expand (updE r 1 clk es).2).Perm (r :: expand es) := by
  unfold updE
  cases hf : findE r es 0 with
  | none =>
    simp only
    rw [expand_app]
    simp only [expand, List.flatMap_cons, List.flatMap_nil, List.append_nil, Int.toNat_one, List.replicate_one]
    exact List.perm_append_comm
  | some p =>
    obtain ⟨i, e⟩ := p
    obtain ⟨_, hg, rfl⟩ := findE_get hf
    simp only [Nat.sub_zero] at hg
    have hv := hp e (List.mem_of_getElem? hg)
    simp only
    rw [if_neg (by omega)]
    simp only
    rw [mod_split _ hg]
    conv => rhs; rw [split_at hg]
    rw [expand_app, expand_app, expand_cons, expand_cons]
    simp only
    rw [show (e.2.1 + 1).toNat = e.2.1.toNat + 1 by omega, List.replicate_succ]
    exact List.perm_middle
theorem upd_del {r : Rw} {clk : Nat} {es : List Me} (hp : ∀ e ∈ es, 1 ≤ e.2.1) (hc : cntE r es ≠ 0) : (r :: expand (updE r (-1) clk es).2).Perm (expand es) := by
  unfold cntE at hc
  unfold updE
  cases hf : findE r es 0 with
  | none => rw [hf] at hc; exact absurd rfl hc
  | some p =>
    obtain ⟨i, e⟩ := p
    obtain ⟨_, hg, rfl⟩ := findE_get hf
    simp only [Nat.sub_zero] at hg
    have hv := hp e (List.mem_of_getElem? hg)
    simp only
    conv => rhs; rw [split_at hg]
    rw [expand_app, expand_cons]
    split
    · rename_i h0
      have : e.2.1.toNat = 1 := by omega
      simp only
      rw [erase_split, expand_app, this, List.replicate_one]
      exact List.perm_middle.symm
    · simp only
      rw [mod_split _ hg, expand_app, expand_cons]
      simp only
      rw [show e.2.1.toNat = (e.2.1 + -1).toNat + 1 by omega, List.replicate_succ]
      exact List.perm_middle.symm
end Go.Proofs.Ytpohmfihpnineaa
