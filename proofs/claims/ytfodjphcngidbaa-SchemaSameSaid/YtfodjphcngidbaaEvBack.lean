/- Calls: what comes back. -/
import Derived.Test.YtfodjphcngidbaaEvCall
set_option linter.unusedSimpArgs false
set_option linter.unusedVariables false
namespace Go.Ev
variable {P : Program} {E E0 E1 : Env}

theorem layAll_ne : ∀ {ups : List (Nat × AObj)} {H : List AObj} {i : Nat}, i ∉ ups.map (·.1) → (layAll H ups)[i]? = H[i]?
  | [], _, _, _ => rfl
  | (j, o) :: ups, H, i, h => by
    simp only [List.map_cons, List.mem_cons, not_or] at h
    simp only [layAll]
    rw [layAll_ne h.2, set_get_ne (Ne.symm h.1)]
theorem layAll_len : ∀ {ups : List (Nat × AObj)} {H : List AObj}, (layAll H ups).length = H.length
  | [], _ => rfl
  | (j, o) :: ups, H => by simp only [layAll]; rw [layAll_len, List.length_set]
theorem layAll_mem : ∀ {ups : List (Nat × AObj)} {H : List AObj} {i : Nat} {o : AObj}, (ups.map (·.1)).Nodup → (i, o) ∈ ups → i < H.length → (layAll H ups)[i]? = some o
  | (j, q) :: ups, H, i, o, hn, hm, hl => by
    simp only [List.map_cons, List.nodup_cons] at hn
    simp only [layAll]
    cases hm with
    | head =>
      rw [layAll_ne hn.1]
      simp [hl]
    | tail _ hm => exact layAll_mem hn.2 hm (by simpa using hl)

theorem backObjs_ok {H H1 : List AObj} {objs : List Nat} {ret : List (Nat × Nat)} : ∀ {l : List Nat} {L : List AObj} {ups : List (Nat × AObj)}, backObjs H H1 objs ret l L = some ups →
    ups.map (·.1) = l ∧ ∀ (k i : Nat), l[k]? = some i → ∃ oi o b, H[i]? = some oi ∧ L[k]? = some o ∧ backBody H H1 objs ret o.body = some b ∧ (i, (⟨oi.ver + o.ver, b⟩ : AObj)) ∈ ups
  | [], L, ups, h => by simp only [backObjs, Option.some.injEq] at h; subst h; exact ⟨rfl, fun k i h => by simp at h⟩
  | i :: l, [], ups, h => by simp [backObjs] at h
  | i :: l, o :: L, ups, h => by
    simp only [backObjs] at h
    split at h
    · rename_i oi b u h1 h2 h3
      cases h
      obtain ⟨k1, k2⟩ := backObjs_ok h3
      refine ⟨by simp [k1], fun k j hk => ?_⟩
      cases k with
      | zero => simp at hk; subst hk; exact ⟨oi, o, b, h1, rfl, h2, List.mem_cons_self ..⟩
      | succ k =>
        obtain ⟨a, c, d, h4, h5, h6, h7⟩ := k2 k j (by simpa using hk)
        exact ⟨a, c, d, h4, h5, h6, List.mem_cons_of_mem _ h7⟩
    · cases h
theorem adopts_ok {H H1 : List AObj} : ∀ {ret : List (Nat × Nat)} {ads : List (Nat × AObj)}, adopts H H1 ret = some ads →
    ads.map (·.1) = ret.map (·.2) ∧ ∀ k t, (k, t) ∈ ret → ∃ v m sz cs ot, H1[k]? = some (⟨v, .row m sz cs⟩ : AObj) ∧ H[t]? = some ot ∧ (t, (⟨ot.ver + 1, .row m sz cs⟩ : AObj)) ∈ ads
  | [], ads, h => by simp only [adopts, Option.some.injEq] at h; subst h; exact ⟨rfl, fun k t h => by cases h⟩
  | (k, t) :: ret, ads, h => by
    simp only [adopts] at h
    split at h
    · rename_i v m sz cs ot u h1 h2 h3
      cases h
      obtain ⟨k1, k2⟩ := adopts_ok h3
      refine ⟨by simp [k1], fun k' t' hk => ?_⟩
      cases hk with
      | head => exact ⟨v, m, sz, cs, ot, h1, h2, List.mem_cons_self ..⟩
      | tail _ hk =>
        obtain ⟨a, b, c, d, e, h4, h5, h6⟩ := k2 k' t' hk
        exact ⟨a, b, c, d, e, h4, h5, List.mem_cons_of_mem _ h6⟩
    · cases h

theorem nodup_inj {ret : List (Nat × Nat)} (hn : (ret.map (·.2)).Nodup) {p q : Nat × Nat} (hp : p ∈ ret) (hq : q ∈ ret) (h : p.2 = q.2) : p = q := by
  induction ret with
  | nil => cases hp
  | cons x ret ih =>
    simp only [List.map_cons, List.nodup_cons] at hn
    cases hp with
    | head =>
      cases hq with
      | head => rfl
      | tail _ hq => exact absurd (h ▸ List.mem_map_of_mem hq) hn.1
    | tail _ hp =>
      cases hq with
      | head => exact absurd (h.symm ▸ List.mem_map_of_mem hp) hn.1
      | tail _ hq => exact ih hn.2 hp hq
theorem nodup_inj1 {ret : List (Nat × Nat)} (hn : (ret.map (·.1)).Nodup) {p q : Nat × Nat} (hp : p ∈ ret) (hq : q ∈ ret) (h : p.1 = q.1) : p = q := by
  induction ret with
  | nil => cases hp
  | cons x ret ih =>
    simp only [List.map_cons, List.nodup_cons] at hn
    cases hp with
    | head =>
      cases hq with
      | head => rfl
      | tail _ hq => exact absurd (h ▸ List.mem_map_of_mem hq) hn.1
    | tail _ hp =>
      cases hq with
      | head => exact absurd (h.symm ▸ List.mem_map_of_mem hp) hn.1
      | tail _ hq => exact ih hn.2 hp hq
theorem lookup_mem {ret : List (Nat × Nat)} {k t : Nat} (h : ret.lookup k = some t) : (k, t) ∈ ret := by
  induction ret with
  | nil => simp at h
  | cons p ret ih =>
    obtain ⟨a, b⟩ := p
    simp only [List.lookup] at h
    split at h
    · rename_i e
      have : k = a := by simpa using e
      subst this
      cases h
      exact List.mem_cons_self ..
    · exact List.mem_cons_of_mem _ (ih h)
theorem lookup_none {ret : List (Nat × Nat)} {k : Nat} (h : ret.lookup k = none) : ∀ t, (k, t) ∉ ret := by
  induction ret with
  | nil => intro t h; cases h
  | cons p ret ih =>
    obtain ⟨a, b⟩ := p
    simp only [List.lookup] at h
    split at h
    · cases h
    · rename_i e
      intro t hm
      cases hm with
      | head => simp at e
      | tail _ hm => exact ih h t hm

/-- Where an object of the caller's lies behind the call. -/
def backρ (ρ ρ1 : List (Option (Nat × Nat))) (objs : List Nat) (ret : List (Nat × Nat)) : List (Option (Nat × Nat)) :=
  (List.range ρ.length).map fun i => match objs.idxOf? i with
    | some k => (ρ1[k]?).join
    | none => match ret.find? (fun p => p.2 == i) with
      | some p => (ρ1[p.1]?).join
      | none => (ρ[i]?).join

/-- All that is known where a call comes back. -/
structure Bk (E Ef E1 : Env) (objs fzs : List Nat) (H0 : List AObj) (ret : List (Nat × Nat)) (ups ads : List (Nat × AObj)) (frz : Bool) : Prop where
  hw : WRel E
  hf : WRel Ef
  hEf : Step E Ef
  Fρ : Ef.ρ = E.ρ
  Fw : Ef.w = E.w
  Fm : ∀ i b, Ef.mutAt i b → E.mutAt i b
  Hf : ∀ i, i ∉ fzs → Ef.H[i]? = E.H[i]?
  Hfz : frz = true → ∀ i ∈ fzs, ∀ q, Ef.H[i]? = some q → q.body.isMut = false
  Hnf : frz = false → ret = []
  hin : InOk E objs fzs H0
  h1 : WRel E1
  s1 : Step (inEnv E objs fzs H0) E1
  rkeys : (ret.map (·.1)).Nodup
  rvals : (ret.map (·.2)).Nodup
  rapart : ∀ p ∈ ret, p.2 ∉ objs ∧ p.2 ∉ fzs ∧ objs.length ≤ p.1
  upk : ups.map (·.1) = objs
  upv : ∀ (k i : Nat), objs[k]? = some i → ∃ oi o b, E.H[i]? = some oi ∧ E1.H[k]? = some o ∧ backBody E.H E1.H objs ret o.body = some b ∧ (i, (⟨oi.ver + o.ver, b⟩ : AObj)) ∈ ups
  adk : ads.map (·.1) = ret.map (·.2)
  adv : ∀ k t, (k, t) ∈ ret → ∃ v m sz cs ot, E1.H[k]? = some (⟨v, .row m sz cs⟩ : AObj) ∧ E.H[t]? = some ot ∧ (t, (⟨ot.ver + 1, .row m sz cs⟩ : AObj)) ∈ ads

def bkEnv (E Ef E1 : Env) (objs : List Nat) (ret : List (Nat × Nat)) (ups ads : List (Nat × AObj)) : Env :=
  ⟨E.F, layAll Ef.H (ups ++ ads), backρ E.ρ E1.ρ objs ret, E1.w⟩

theorem backBody_mut {H H1 : List AObj} {objs : List Nat} {ret : List (Nat × Nat)} {b b' : ABody} (h : backBody H H1 objs ret b = some b') : b'.isMut = b.isMut ∧ sameShape b b' := by
  cases b with
  | none => simp [backBody] at h
  | var cs =>
    simp only [backBody] at h
    obtain ⟨l, hl, rfl⟩ := Option.map_eq_some_iff.1 h
    exact ⟨rfl, (mapO_len hl).symm⟩
  | row m s cs => simp only [backBody, Option.some.injEq] at h; subst h; exact ⟨rfl, rfl, rfl⟩

section
variable {Ef : Env} {objs fzs : List Nat} {H0 : List AObj} {ret : List (Nat × Nat)} {ups ads : List (Nat × AObj)} {frz : Bool}

theorem bk_len (B : Bk E Ef E1 objs fzs H0 ret ups ads frz) : Ef.H.length = E.H.length := by
  rw [← B.hf.len, B.Fρ, B.hw.len]
theorem bk_keys (B : Bk E Ef E1 objs fzs H0 ret ups ads frz) : ((ups ++ ads).map (·.1)).Nodup := by
  rw [List.map_append, B.upk, B.adk, List.nodup_append]
  refine ⟨B.hin.nodup, B.rvals, fun a ha b hb e => ?_⟩
  subst e
  obtain ⟨p, hp, rfl⟩ := List.mem_map.1 hb
  exact (B.rapart p hp).1 ha

theorem bk_obj (B : Bk E Ef E1 objs fzs H0 ret ups ads frz) {k i : Nat} (h : objs[k]? = some i) : ∃ oi o b, E.H[i]? = some oi ∧ E1.H[k]? = some o ∧ backBody E.H E1.H objs ret o.body = some b ∧
    (bkEnv E Ef E1 objs ret ups ads).H[i]? = some ⟨oi.ver + o.ver, b⟩ ∧ (bkEnv E Ef E1 objs ret ups ads).ρ[i]? = E1.ρ[k]? := by
  obtain ⟨oi, o, b, h1, h2, h3, h4⟩ := B.upv k i h
  have hlt : i < E.H.length := (List.getElem?_eq_some_iff.1 h1).1
  refine ⟨oi, o, b, h1, h2, h3, layAll_mem (bk_keys B) (List.mem_append_left _ h4) (by rw [bk_len B]; exact hlt), ?_⟩
  have hk : k < E1.ρ.length := by rw [B.h1.len]; exact (List.getElem?_eq_some_iff.1 h2).1
  simp only [bkEnv, backρ, List.getElem?_map, List.getElem?_range (show i < E.ρ.length by rw [B.hw.len]; exact hlt), Option.map_some]
  have hidx : objs.idxOf? i = some k := by
    cases hi : objs.idxOf? i with
    | none => exact absurd (List.mem_of_getElem? h) (idx_none hi)
    | some j => rw [idx_inj B.hin.nodup (idx_some hi) h]
  rw [hidx]
  exact (join_get hk).symm

theorem bk_ret (B : Bk E Ef E1 objs fzs H0 ret ups ads frz) {k t : Nat} (h : (k, t) ∈ ret) : ∃ v m sz cs ot, E1.H[k]? = some (⟨v, .row m sz cs⟩ : AObj) ∧ E.H[t]? = some ot ∧
    (bkEnv E Ef E1 objs ret ups ads).H[t]? = some ⟨ot.ver + 1, .row m sz cs⟩ ∧ (bkEnv E Ef E1 objs ret ups ads).ρ[t]? = E1.ρ[k]? := by
  obtain ⟨v, m, sz, cs, ot, h1, h2, h3⟩ := B.adv k t h
  have hlt : t < E.H.length := (List.getElem?_eq_some_iff.1 h2).1
  refine ⟨v, m, sz, cs, ot, h1, h2, layAll_mem (bk_keys B) (List.mem_append_right _ h3) (by rw [bk_len B]; exact hlt), ?_⟩
  have hk : k < E1.ρ.length := by rw [B.h1.len]; exact (List.getElem?_eq_some_iff.1 h1).1
  simp only [bkEnv, backρ, List.getElem?_map, List.getElem?_range (show t < E.ρ.length by rw [B.hw.len]; exact hlt), Option.map_some]
  have hidx : objs.idxOf? t = none := by
    cases hi : objs.idxOf? t with
    | none => rfl
    | some j => exact absurd (List.mem_of_getElem? (idx_some hi)) (B.rapart _ h).1
  have hfind : ret.find? (fun p => p.2 == t) = some (k, t) := by
    cases hfd : ret.find? (fun p => p.2 == t) with
    | none => have := List.find?_eq_none.1 hfd _ h; simp at this
    | some p =>
      have h1 := List.find?_some hfd
      have h2 := List.mem_of_find?_eq_some hfd
      have h3 : p.2 = t := by simpa using h1
      rw [nodup_inj B.rvals h2 h h3]
  rw [hidx, hfind]
  exact (join_get hk).symm

theorem bk_oth (B : Bk E Ef E1 objs fzs H0 ret ups ads frz) {i : Nat} (h1 : i ∉ objs) (h2 : i ∉ ret.map (·.2)) : (bkEnv E Ef E1 objs ret ups ads).H[i]? = Ef.H[i]? ∧ (bkEnv E Ef E1 objs ret ups ads).ρ[i]? = E.ρ[i]? := by
  refine ⟨layAll_ne (by rw [List.map_append, B.upk, B.adk, List.mem_append]; exact fun h => h.elim h1 h2), ?_⟩
  simp only [bkEnv, backρ, List.getElem?_map]
  have hidx : objs.idxOf? i = none := by
    cases hi : objs.idxOf? i with
    | none => rfl
    | some j => exact absurd (List.mem_of_getElem? (idx_some hi)) h1
  have hfind : ret.find? (fun p => p.2 == i) = none := by
    refine List.find?_eq_none.2 fun p hp hq => h2 ?_
    have : p.2 = i := by simpa using hq
    exact List.mem_map.2 ⟨p, hp, this⟩
  rcases Nat.lt_or_ge i E.ρ.length with hlt | hge
  · rw [List.getElem?_range hlt, Option.map_some, hidx, hfind]
    exact (join_get hlt).symm
  · rw [List.getElem?_eq_none (by simpa using hge), List.getElem?_eq_none hge]; rfl

theorem bk_mut (B : Bk E Ef E1 objs fzs H0 ret ups ads frz) {i b : Nat} (h : (bkEnv E Ef E1 objs ret ups ads).mutAt i b) :
    (∃ k, objs[k]? = some i ∧ E1.mutAt k b) ∨ (∃ k, (k, i) ∈ ret ∧ E1.mutAt k b) ∨ (i ∉ objs ∧ i ∉ ret.map (·.2) ∧ Ef.mutAt i b) := by
  obtain ⟨q, base, h1, h2, h3⟩ := h
  by_cases hi : i ∈ objs
  · obtain ⟨k, hk⟩ := List.mem_iff_getElem?.1 hi
    obtain ⟨oi, o, b', a1, a2, a3, a4, a5⟩ := bk_obj B hk
    rw [a4] at h1
    cases h1
    exact .inl ⟨k, hk, o, base, a2, by rw [← (backBody_mut a3).1]; exact h2, by rw [← a5]; exact h3⟩
  · by_cases hr : i ∈ ret.map (·.2)
    · obtain ⟨p, hp, rfl⟩ := List.mem_map.1 hr
      obtain ⟨v, m, sz, cs, ot, a1, a2, a3, a4⟩ := bk_ret B (k := p.1) (t := p.2) hp
      rw [a3] at h1
      cases h1
      exact .inr (.inl ⟨p.1, hp, _, base, a1, h2, by rw [← a4]; exact h3⟩)
    · obtain ⟨a1, a2⟩ := bk_oth B hi hr
      exact .inr (.inr ⟨hi, hr, q, base, by rw [← a1]; exact h1, h2, by rw [B.Fρ, ← a2]; exact h3⟩)

/-- What the callee may write is new, or lies in an object that went along. -/
theorem bk_own (B : Bk E Ef E1 objs fzs H0 ret ups ads frz) {k b : Nat} (h : E1.mutAt k b) : E.w.heap.size ≤ b ∨ ∃ (j i : Nat), objs[j]? = some i ∧ E.mutAt i b := by
  rcases Nat.lt_or_ge b E.w.heap.size with hlt | hge
  · by_cases hm : (inEnv E objs fzs H0).Mut b
    · obtain ⟨j, hj⟩ := hm
      obtain ⟨i, h1, h2⟩ := in_mut B.hw B.hin hj
      exact .inr ⟨j, i, h1, h2⟩
    · exact absurd ⟨k, h⟩ (B.s1.w.keep b hlt hm).2
  · exact .inl hge
theorem bk_alien (B : Bk E Ef E1 objs fzs H0 ret ups ads frz) {i b : Nat} (h : E.mutAt i b) (hi : i ∉ objs) : ¬ E1.Mut b := by
  rintro ⟨k, hk⟩
  obtain ⟨q, base, a1, a2, a3⟩ := h
  have hlt := B.hw.block_lt a1 a2 a3
  rcases bk_own B hk with h' | ⟨j, i', h1, h2⟩
  · omega
  · have := B.hw.inj i i' b ⟨q, base, a1, a2, a3⟩ h2
    subst this
    exact hi (List.mem_of_getElem? h1)
theorem bk_nF (B : Bk E Ef E1 objs fzs H0 ret ups ads frz) {k b : Nat} (h : E1.mutAt k b) : ¬ E.F b := fun hF => B.h1.fNot k b h (by rw [B.s1.F]; exact .inl hF)

theorem bk_X (B : Bk E Ef E1 objs fzs H0 ret ups ads frz) (hz : frz = true) {b : Nat} (h : ¬ E1.X b) : ¬ (bkEnv E Ef E1 objs ret ups ads).X b := by
  rintro (hF | ⟨i, hm⟩)
  · exact h (.inl (by rw [B.s1.F]; exact .inl hF))
  · rcases bk_mut B hm with ⟨k, _, hk⟩ | ⟨k, _, hk⟩ | ⟨h1, h2, h3⟩
    · exact h (.inr ⟨k, hk⟩)
    · exact h (.inr ⟨k, hk⟩)
    · by_cases hfz : i ∈ fzs
      · obtain ⟨q, base, a1, a2, a3⟩ := h3
        rw [B.Hfz hz i hfz q a1] at a2
        cases a2
      · exact h (.inl (by rw [B.s1.F]; exact .inr ⟨i, h1, hfz, B.Fm i b h3⟩))

theorem bk_mutwst (B : Bk E Ef E1 objs fzs H0 ret ups ads frz) : Wst E.Mut (bkEnv E Ef E1 objs ret ups ads).Mut E.w E1.w where
  os := B.s1.w.os
  tape := B.s1.w.tape
  output := B.s1.w.output
  size := B.s1.w.size
  keep b hb hn := by
    have h0 : ¬ (inEnv E objs fzs H0).Mut b := fun ⟨k, hk⟩ => by
      obtain ⟨i, _, h2⟩ := in_mut B.hw B.hin hk
      exact hn ⟨i, h2⟩
    obtain ⟨h1, h2⟩ := B.s1.w.keep b hb h0
    refine ⟨h1, fun ⟨i, hm⟩ => ?_⟩
    rcases bk_mut B hm with ⟨k, _, hk⟩ | ⟨k, _, hk⟩ | ⟨_, _, h5⟩
    · exact h2 ⟨k, hk⟩
    · exact h2 ⟨k, hk⟩
    · exact hn ⟨i, B.Fm i b h5⟩
  blk := B.s1.w.blk

theorem bk_step (B : Bk E Ef E1 objs fzs H0 ret ups ads frz) : Step E (bkEnv E Ef E1 objs ret ups ads) where
  F := rfl
  w := bk_mutwst B
  obj i o ho := by
    by_cases hi : i ∈ objs
    · obtain ⟨k, hk⟩ := List.mem_iff_getElem?.1 hi
      obtain ⟨oi, o1, b', a1, a2, a3, a4, a5⟩ := bk_obj B hk
      rw [ho] at a1
      cases a1
      refine ⟨_, a4, Nat.le_add_right _ _, fun e => ?_⟩
      have hv0 : o1.ver = 0 := by simp at e; exact e
      obtain ⟨o', b0, c1, c2, c3⟩ := B.hin.body k i hk
      rw [ho] at c1
      cases c1
      obtain ⟨o2, d1, _, d3⟩ := B.s1.obj k ⟨0, b0⟩ c3
      rw [a2] at d1
      cases d1
      obtain ⟨d4, d5⟩ := d3 hv0
      exact ⟨(passBody_mut c2).2.trans (d4.trans (backBody_mut a3).2), a5.trans (d5.trans (in_ρ B.hw B.hin hk))⟩
    · by_cases hr : i ∈ ret.map (·.2)
      · obtain ⟨p, hp, rfl⟩ := List.mem_map.1 hr
        obtain ⟨v, m, sz, cs, ot, a1, a2, a3, a4⟩ := bk_ret B (k := p.1) (t := p.2) hp
        rw [ho] at a2
        cases a2
        exact ⟨_, a3, Nat.le_succ _, fun e => by simp at e⟩
      · obtain ⟨a1, a2⟩ := bk_oth B hi hr
        obtain ⟨o', c1, c2, c3⟩ := B.hEf.obj i o ho
        exact ⟨o', a1.trans c1, c2, fun e => ⟨(c3 e).1, a2⟩⟩

/-- A value comes back. -/
theorem backCell_rel (B : Bk E Ef E1 objs fzs H0 ret ups ads frz) {a a' : AV} {v : Value} (h : backCell E.H E1.H objs ret a = some a') (hv : VRel E1 a v) (hg : frz = true ∨ a.flat1 = true) :
    VRel (bkEnv E Ef E1 objs ret ups ads) a' v ∧ (a.atom = true → a'.atom = true) := by
  have keep : frz = true → ∀ b, b < E1.w.heap.size → ¬ E1.X b → ¬ (bkEnv E Ef E1 objs ret ups ads).X b ∧ ∀ o, (bkEnv E Ef E1 objs ret ups ads).w.cell? ⟨b, o, none⟩ = E1.w.cell? ⟨b, o, none⟩ :=
    fun hz b _ hx => ⟨bk_X B hz hx, fun _ => rfl⟩
  cases a <;> simp only [backCell, reduceCtorEq, Option.some.injEq] at h
  case undef => subst h; exact ⟨trivial, id⟩
  case bool => subst h; exact ⟨hv, id⟩
  case int => subst h; exact ⟨hv, id⟩
  case str => subst h; exact ⟨hv, id⟩
  case nilptr => subst h; exact ⟨hv, id⟩
  case nilfn => subst h; exact ⟨hv, id⟩
  case emp => subst h; exact ⟨hv, id⟩
  case ro n cs =>
    subst h
    refine ⟨?_, id⟩
    rcases hg with hz | hz
    · exact VRel.keepT (keep hz) _ _ rfl hv
    · simp only [AV.flat1, List.isEmpty_iff] at hz
      subst hz
      simp only [VRel] at hv ⊢
      obtain ⟨ad, cap, h1, h2, h3, _⟩ := hv
      exact ⟨ad, cap, h1, h2, h3, .inl trivial⟩
  case rptr cs =>
    subst h
    refine ⟨?_, id⟩
    rcases hg with hz | hz
    · exact VRel.keepT (keep hz) _ _ rfl hv
    · simp [AV.flat1] at hz
  case nilsl =>
    subst h
    refine ⟨?_, fun _ => rfl⟩
    simp only [VRel] at hv ⊢
    exact ⟨none, 0, hv, Nat.le_refl _, fun h => by omega, .inl trivial⟩
  case own k ver off len sz =>
    have hz : frz = true := by
      rcases hg with hz | hz
      · exact hz
      · simp [AV.flat1] at hz
    split at h
    · rename_i o ho
      split at h
      · rename_i hver
        split at h
        · rename_i i hki
          split at h
          · rename_i oi hoi
            cases h
            refine ⟨?_, fun _ => rfl⟩
            obtain ⟨oi', o', b', a1, a2, a3, a4, a5⟩ := bk_obj B hki
            rw [ho] at a2; cases a2
            rw [hoi] at a1; cases a1
            simp only [VRel] at hv ⊢
            obtain ⟨ad, cap, rfl, hle, h7, q, hq, hvq, hf⟩ := hv
            rw [ho] at hq
            cases hq
            have hf := hf hver.symm
            refine ⟨ad, cap, rfl, hle, h7, _, a4, by simp [hver], fun _ => ?_⟩
            have hpl : PlacedS E1 k off cap sz ad → PlacedS (bkEnv E Ef E1 objs ret ups ads) i off cap sz ad := by
              rintro ⟨b, base, p1, p2, p3⟩
              exact ⟨b, base, a5.trans p1, p2, p3⟩
            have hsh := (backBody_mut a3).2
            cases hb : o.body with
            | none => rw [hb] at hf; exact hf.elim
            | var cs =>
              rw [hb] at hf hsh
              cases hb' : b' <;> rw [hb'] at hsh <;> simp only [sameShape] at hsh
              exact ⟨by omega, hpl hf.2⟩
            | row m s cs =>
              rw [hb] at hf hsh
              cases hb' : b' <;> rw [hb'] at hsh <;> simp only [sameShape] at hsh
              refine ⟨by omega, ?_⟩
              rcases hf.2 with h | ⟨h1, h2, h3, h4⟩
              · exact .inl (hpl h)
              · refine .inr ⟨?_, a5.trans h2, h3, h4⟩
                have := hsh.2
                rw [h1] at this
                exact List.length_eq_zero_iff.1 this.symm
          · cases h
        · rename_i hki
          split at h
          · rename_i t hlk
            split at h
            · rename_i ot hot
              cases h
              refine ⟨?_, fun _ => rfl⟩
              obtain ⟨v', m, s, cs, ot', a1, a2, a3, a4⟩ := bk_ret B (lookup_mem hlk)
              rw [ho] at a1; cases a1
              rw [hot] at a2; cases a2
              simp only [VRel] at hv ⊢
              obtain ⟨ad, cap, rfl, hle, h7, q, hq, hvq, hf⟩ := hv
              rw [ho] at hq
              cases hq
              have hf := hf hver.symm
              refine ⟨ad, cap, rfl, hle, h7, _, a3, Nat.le_refl _, fun _ => ⟨hf.1, ?_⟩⟩
              rcases hf.2 with ⟨b, base, p1, p2, p3⟩ | ⟨h1, h2, h3, h4⟩
              · exact .inl ⟨b, base, a4.trans p1, p2, p3⟩
              · exact .inr ⟨h1, a4.trans h2, h3, h4⟩
            · cases h
          · rename_i hlk
            split at h
            · rename_i m s cs hob
              split at h
              · rename_i hle
                cases h
                refine ⟨?_, fun _ => rfl⟩
                have hoc : objCells E1.H k ver = some cs := by simp [objCells, ho, hver, hob, bodyCells]
                obtain ⟨ad, cap, rfl, hlc, _, hpl⟩ := ORel.cells B.h1 (by simpa only [VRel] using hv) hoc
                have hobj := B.h1.obj k o ho
                unfold ObjRel at hobj
                rw [hob] at hobj
                simp only at hobj
                simp only [VRel]
                refine ⟨ad, cap, rfl, hlc, ?_, ?_⟩
                · rcases hpl with ⟨rfl, _, rfl, rfl, _⟩ | ⟨b, base, _, rfl, _⟩
                  · intro h; omega
                  · intro _; rfl
                · rcases hpl with ⟨rfl, _⟩ | ⟨b, base, hρ, rfl, _, _, _, _⟩
                  · exact .inl (by simp)
                  · rcases hobj with ⟨_, h2⟩ | ⟨b', base', h1, h2, h3, h4⟩
                    · rw [hρ] at h2; cases h2
                    · rw [hρ] at h1; cases h1
                      refine .inr ⟨b, base + off, rfl, ?_, CRel.keepT (keep hz) _ b (base + off) (fun _ => rfl) ((h3.drop off).take _)⟩
                      cases m with
                      | false => exact bk_X B hz (h4 (by trivial))
                      | true =>
                        have hm : E1.mutAt k b := ⟨o, base, ho, by rw [hob]; rfl, hρ⟩
                        rintro (hF | ⟨i, hmi⟩)
                        · exact bk_nF B hm hF
                        · rcases bk_mut B hmi with ⟨k', c1, c2⟩ | ⟨k', c1, c2⟩ | ⟨c1, c2, c3⟩
                          · have := B.h1.inj k k' b hm c2
                            subst this
                            rw [c1] at hki; cases hki
                          · have := B.h1.inj k k' b hm c2
                            subst this
                            exact lookup_none hlk _ c1
                          · exact bk_alien B (B.Fm _ _ c3) c1 ⟨k, hm⟩
              · cases h
            · cases h
      · cases h
    · cases h
  case ptr k ver off =>
    split at h
    · rename_i o ho
      split at h
      · rename_i hver
        split at h
        · rename_i i hki
          split at h
          · rename_i oi hoi
            cases h
            refine ⟨?_, fun _ => rfl⟩
            obtain ⟨oi', o', b', a1, a2, a3, a4, a5⟩ := bk_obj B hki
            rw [ho] at a2; cases a2
            rw [hoi] at a1; cases a1
            simp only [VRel] at hv ⊢
            obtain ⟨ad, rfl, q, hq, hvq, hf⟩ := hv
            rw [ho] at hq
            cases hq
            obtain ⟨b, base, p1, p2⟩ := hf hver.symm
            exact ⟨ad, rfl, _, a4, by simp [hver], fun _ => ⟨b, base, a5.trans p1, p2⟩⟩
          · cases h
        · cases h
      · cases h
    · cases h
end

end Go.Ev
