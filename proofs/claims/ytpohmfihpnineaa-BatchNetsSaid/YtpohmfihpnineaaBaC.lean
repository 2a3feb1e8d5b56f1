/- The base: a row comes, or goes. -/
import Derived.Test.YtpohmfihpnineaaBaB
set_option linter.unusedSimpArgs false
set_option linter.unusedVariables false
set_option maxHeartbeats 4000000
set_option maxRecDepth 100000
namespace Go.Proofs.Ytpohmfihpnineaa
open Go.Ev
def ks6 : List (Option IntKind) := [some .u8, some .u8, some .u8, some .u8, some .i64, some .i64]
def findE (r : Rw) : List Me → Nat → Option (Nat × Me)
  | [], _ => none
  | e :: es, i => if r = e.1 then some (i, e) else findE r es (i + 1)
def cntE (r : Rw) (es : List Me) : Int := match findE r es 0 with
  | some p => p.2.2.1
  | none => 0
theorem mfind_enc (r : Rw) : ∀ (es : List Me) (i : Nat), mfind ks6 (rowC r) (es.map encE) i = some ((findE r es i).map fun p => (p.1, encE p.2))
  | [], _ => rfl
  | e :: es, i => by
    have h : eqCells ks6 (rowC r) (encE e).1 = some (decide (r = e.1)) := eq_rowC r e.1
    rw [List.map_cons]
    unfold mfind findE
    rw [h]
    by_cases c : r = e.1
    · rw [decide_eq_true c, if_pos c]; rfl
    · rw [decide_eq_false c, if_neg c]; exact mfind_enc r es (i + 1)
theorem findE_get {r : Rw} : ∀ {es : List Me} {i j : Nat} {e : Me}, findE r es i = some (j, e) → i ≤ j ∧ es[j - i]? = some e ∧ e.1 = r
  | [], _, _, _, h => by simp [findE] at h
  | x :: es, i, j, e, h => by
    unfold findE at h
    split at h
    · rename_i c; cases h; exact ⟨Nat.le_refl _, by simp, c.symm⟩
    · obtain ⟨h1, h2, h3⟩ := findE_get h
      refine ⟨by omega, ?_, h3⟩
      rw [show j - i = (j - (i + 1)) + 1 by omega]
      simpa using h2
theorem findE_none {r : Rw} : ∀ {es : List Me} {i : Nat}, findE r es i = none → ∀ e ∈ es, e.1 ≠ r
  | [], _, _, e, he => by cases he
  | x :: es, i, h, e, he => by
    unfold findE at h
    split at h
    · cases h
    · rename_i c
      rcases List.mem_cons.1 he with rfl | he
      · exact fun q => c q.symm
      · exact findE_none h e he
def modM (es : List Me) (i : Nat) (v : Int) : List Me := es.modify i fun e => (e.1, v, e.2.2)
theorem modE_enc (v : Int) : ∀ (es : List Me) (i : Nat), modE (es.map encE) i v = (modM es i v).map encE
  | [], i => by simp [modE, modM]
  | e :: es, 0 => by simp [modE, modM, encE]
  | e :: es, i + 1 => by
    have := modE_enc v es i
    simp only [modE, modM] at this ⊢
    simp [this]
theorem findE_mod {r : Rw} (v : Int) : ∀ {es : List Me} {i j : Nat} {e : Me}, findE r es i = some (j, e) → findE r (modM es (j - i) v) i = some (j, (e.1, v, e.2.2))
  | [], _, _, _, h => by simp [findE] at h
  | x :: es, i, j, e, h => by
    unfold findE at h
    split at h
    · rename_i c; cases h; simp [modM, findE, c]
    · rename_i c
      have h1 := (findE_get h).1
      have := findE_mod v h
      rw [show j - i = (j - (i + 1)) + 1 by omega]
      simp only [modM, List.modify_succ_cons] at this ⊢
      unfold findE
      rw [if_neg c]
      exact this
theorem mod_erase {α : Type} (f : α → α) : ∀ (l : List α) (i : Nat), (l.modify i f).eraseIdx i = l.eraseIdx i
  | [], _ => by simp
  | _ :: _, 0 => by simp
  | x :: l, i + 1 => by simp [mod_erase f l i]
theorem findE_app {r : Rw} (t : List Me) : ∀ {es : List Me} {i : Nat}, findE r es i = none → findE r (es ++ t) i = findE r t (i + es.length)
  | [], i, _ => by simp
  | x :: es, i, h => by
    unfold findE at h
    split at h
    · cases h
    · rename_i c
      rw [List.cons_append]
      conv => lhs; unfold findE
      rw [if_neg c, findE_app t h, List.length_cons, Nat.add_assoc, Nat.add_comm 1]
theorem bornIdx_get : ∀ {es : List Me} {i : Nat} {e : Me}, (es.map (·.2.2)).Nodup → es[i]? = some e → bornIdx (es.map encE) (e.2.2 : Int) = some i
  | [], _, _, _, h => by simp at h
  | x :: es, 0, e, hn, h => by
    simp at h; subst h
    simp [bornIdx, encE, List.findIdx?_cons]
  | x :: es, i + 1, e, hn, h => by
    simp only [List.map_cons, List.nodup_cons] at hn
    simp only [List.getElem?_cons_succ] at h
    have := bornIdx_get hn.2 h
    have hne : x.2.2 ≠ e.2.2 := fun q => hn.1 (q ▸ List.mem_map_of_mem (List.mem_of_getElem? h))
    have hne' : ¬ ((x.2.2 : Int) = (e.2.2 : Int)) := fun q => hne (by omega)
    unfold bornIdx at this ⊢
    rw [List.map_cons, List.findIdx?_cons, this]
    simp [encE, hne']
theorem modE_last : ∀ (l : List (List AV × Int × Nat)) (x : List AV × Int × Nat) (v : Int), modE (l ++ [x]) l.length v = l ++ [(x.1, v, x.2.2)]
  | [], x, v => rfl
  | y :: l, x, v => by
    have := modE_last l x v
    simp only [modE] at this ⊢
    simp [this]
structure okE (S : Bs) : Prop where
  nd : (S.es.map (·.2.2)).Nodup
  lt : ∀ e ∈ S.es, e.2.2 < S.clk
  ke : (S.es.map (·.1)).Nodup
  po : ∀ e ∈ S.es, 1 ≤ e.2.1 ∧ e.2.1 ≤ 1000000
  ro : ∀ e ∈ S.es, okW e.1
  n0 : 0 ≤ S.n
  n1 : S.n ≤ 1000000
theorem bornIdx_last {es : List Me} {clk : Nat} {r : Rw} {v : Int} (h : ∀ e ∈ es, e.2.2 < clk) : bornIdx (es.map encE ++ [(rowC r, v, clk)]) (clk : Int) = some es.length := by
  have e1 : es.map encE ++ [(rowC r, v, clk)] = (es ++ [(r, v, clk)]).map encE := by simp [encE]
  rw [e1]
  unfold bornIdx
  rw [List.findIdx?_map, List.findIdx?_append]
  have : List.findIdx? ((fun e : List AV × Int × Nat => ((e.2.2 : Int) == (clk : Int))) ∘ encE) es = none := by
    rw [List.findIdx?_eq_none_iff]
    intro e he
    have := h e he
    simp [encE]
    omega
  rw [this]
  simp [encE, List.findIdx?_cons]
def updE (r : Rw) (t : Int) (clk : Nat) (es : List Me) : Nat × List Me := match findE r es 0 with
  | some (i, e) => if e.2.1 + t = 0 then (clk, es.eraseIdx i) else (clk, modM es i (e.2.1 + t))
  | none => (clk + 1, es ++ [(r, t, clk)])
def sgn (del : Bool) : Int := if del then -1 else 1
def doS (ds : List Dm) (m : Int) (S : Bs) (del : Bool) (r : Rw) : Int × Bs :=
  if goodW ds m r = false then (7, S) else if del = true ∧ cntE r S.es = 0 then (8, S) else if (weighV S r (sgn del)).2.2 = false then (9, S) else
  (0, ⟨(updE r (sgn del) S.clk S.es).1, (updE r (sgn del) S.clk S.es).2, S.n + sgn del, (weighV S r (sgn del)).1, (weighV S r (sgn del)).2.1⟩)
def chC (del : Bool) (r : Rw) : List AV := .bool del :: rowC r
end Go.Proofs.Ytpohmfihpnineaa
