/- Reading cells; building aggregates. -/
import Derived.Test.YtfodjphcngidbaaEvOps4
set_option linter.unusedSimpArgs false
set_option linter.unusedVariables false
namespace Go.Ev
variable {P : Program} {E : Env} {o : Oper} {a : Act} {sl : List AV} {cf : CallF} {r : AV} {ups : List (Nat × AObj)}

theorem VCells.drop {cs : List AV} {b o : Nat} (h : VCells E cs b o) (k : Nat) : VCells E (cs.drop k) b (o + k) := fun j c hj => by
  rw [List.getElem?_drop] at hj
  have := h (k + j) c hj
  rwa [← Nat.add_assoc] at this
theorem VCells.take {cs : List AV} {b o : Nat} (h : VCells E cs b o) (k : Nat) : VCells E (cs.take k) b o := fun j c hj => by
  rw [List.getElem?_take] at hj
  split at hj
  · exact h j c hj
  · cases hj
theorem VCells.toC : ∀ {cs : List AV} {b o : Nat}, VCells E cs b o → cs.all AV.tree = true → CRel E cs b o := fun h ht =>
  CRel.of fun j c hj => ⟨List.all_eq_true.1 ht c (List.mem_of_getElem? hj), (h j c hj).2⟩
theorem CRel.allTree : ∀ {cs : List AV} {b o : Nat}, CRel E cs b o → cs.all AV.tree = true
  | [], _, _, _ => rfl
  | c :: cs, b, o, h => by
    simp only [CRel] at h
    simp only [List.all_cons, Bool.and_eq_true]
    exact ⟨h.1.1, CRel.allTree h.2⟩

/-- The values that lie there. -/
theorem VCells.vals : ∀ {cs : List AV} {b o : Nat}, VCells E cs b o → ∃ vs, LRel E cs vs ∧ E.w.rangeAt b o vs ∧ ∀ u ∈ vs, u.oneCell' = true
  | [], b, o, _ => ⟨[], rfl, fun j v h => by simp at h, fun u h => by cases h⟩
  | c :: cs, b, o, h => by
    obtain ⟨vs, h1, h2, h3⟩ := VCells.vals (cs := cs) (b := b) (o := o + 1) (fun j x hj => by
      have := h (j + 1) x (by simpa using hj)
      rwa [show o + (j + 1) = o + 1 + j by omega] at this)
    obtain ⟨ha, v, hv, hr⟩ := h 0 c rfl
    refine ⟨v :: vs, ⟨v, vs, rfl, hr, h1⟩, fun j u hj => ?_, fun u hu => ?_⟩
    · cases j with
      | zero => simp at hj; subst hj; exact hv
      | succ j =>
        have := h2 j u (by simpa using hj)
        rwa [show o + (j + 1) = o + 1 + j by omega]
    · cases hu with
      | head => exact hr.one ha
      | tail _ hu => exact h3 u hu

theorem objCells_rel (hw : WRel E) {i ver : Nat} {cs : List AV} (h : objCells E.H i ver = some cs) :
    ∃ q, E.H[i]? = some q ∧ q.ver = ver ∧ bodyCells q.body = some cs ∧ ((cs = [] ∧ E.ρ[i]? = some none) ∨ ∃ b base, E.ρ[i]? = some (some (b, base)) ∧ Blk E.w b (base + cs.length) ∧ VCells E cs b base) := by
  unfold objCells at h
  split at h
  · rename_i q hq
    split at h
    · rename_i hv
      refine ⟨q, hq, hv, h, ?_⟩
      have hold := hw.obj i q hq
      unfold ObjRel at hold
      cases hb : q.body with
      | none => rw [hb] at h; cases h
      | var ds => rw [hb] at h hold; cases h; exact .inr hold
      | row m s ds =>
        rw [hb] at h hold
        cases h
        rcases hold with h | ⟨b, base, h1, h2, h3, _⟩
        · exact .inl h
        · exact .inr ⟨b, base, h1, h2, h3.toV⟩
    · cases h
  · cases h

/-- Where a pointer points to, and what lies there. -/
theorem ptr_cells (hw : WRel E) {i ver off : Nat} {cs : List AV} {v : Value} (hx : VRel E (.ptr i ver off) v) (h : objCells E.H i ver = some cs) :
    ∃ b base, v = .pointer (some ⟨b, base + off, none⟩) ∧ E.ρ[i]? = some (some (b, base)) ∧ Blk E.w b (base + cs.length) ∧ VCells E cs b base ∧ VCells E (cs.drop off) b (base + off) := by
  obtain ⟨q, hq, hv, _, hb⟩ := objCells_rel hw h
  simp only [VRel] at hx
  obtain ⟨ad, rfl, q', hq', hle, hf⟩ := hx
  rw [hq] at hq'
  cases hq'
  obtain ⟨b, base, h1, rfl⟩ := hf hv.symm
  rcases hb with ⟨_, h2⟩ | ⟨b', base', h2, h3, h4⟩
  · rw [h1] at h2; cases h2
  · rw [h1] at h2; cases h2
    exact ⟨b, base, rfl, h1, h3, h4, h4.drop off⟩

theorem loadCells_rel (hw : WRel E) {ob : Option Nat} {x : AV} {n : Nat} {cs : List AV} {v : Value} (h : loadCells E.H ob x n = some cs) (hx : VRel E x v) (hn : 0 < n) :
    ∃ b off, v = .pointer (some ⟨b, off, none⟩) ∧ VCells E cs b off ∧ cs.length = n := by
  unfold loadCells at h
  split at h
  · rename_i ds
    split at h
    · rename_i hle
      cases h
      simp only [VRel] at hx
      obtain ⟨ad, rfl, hx⟩ := hx
      rcases hx with rfl | ⟨b, off, rfl, _, hc⟩
      · simp at hle; omega
      · exact ⟨b, off, rfl, hc.toV.take n, by simp; omega⟩
    · cases h
  · rename_i i j ver off
    split at h
    · cases h
    · split at h
      · rename_i ds hds
        split at h
        · rename_i hle
          cases h
          obtain ⟨b, base, h1, h2, h3, h4, h5⟩ := ptr_cells hw hx hds
          exact ⟨b, base + off, h1, h5.take n, by simp; omega⟩
        · cases h
      · cases h
  · cases h

theorem load1_rel (hw : WRel E) {ob : Option Nat} {x c : AV} {v : Value} (h : load1 E.H ob x = some c) (hx : VRel E x v) :
    ∃ b off u, v = .pointer (some ⟨b, off, none⟩) ∧ c.atom = true ∧ E.w.cell? ⟨b, off, none⟩ = some u ∧ VRel E c u := by
  unfold load1 at h
  split at h
  · rename_i ds
    simp only [VRel] at hx
    obtain ⟨ad, rfl, hx⟩ := hx
    rcases hx with rfl | ⟨b, off, rfl, _, hc⟩
    · cases h
    · obtain ⟨h1, u, h2, h3⟩ := hc.toV 0 c h
      exact ⟨b, off, u, rfl, h1, h2, h3⟩
  · rename_i i j ver off
    split at h
    · cases h
    · split at h
      · rename_i ds hds
        obtain ⟨b, base, h1, h2, h3, h4, h5⟩ := ptr_cells hw hx hds
        obtain ⟨h1', u, h2', h3'⟩ := h4 off c h
        exact ⟨b, base + off, u, h1, h1', h2', h3'⟩
      · cases h
  · cases h

theorem aggB_row {t : TypeId} (h : aggB P t = true) : ∃ d, P.underlying t = some d ∧ d.isRow = true := by
  unfold aggB at h
  split at h
  · rename_i hu; exact ⟨_, hu, rfl⟩
  · rename_i hu; exact ⟨_, hu, rfl⟩
  · cases h

theorem run_loadVar_one {t : TypeId} {b off : Nat} {u : Value} (w : World) (h : oneB P t = true) (hc : w.cell? ⟨b, off, none⟩ = some u) : (loadVar t ⟨b, off, none⟩).run P w = .ok u w := by
  obtain ⟨h1, h2⟩ := oneB_spec h
  simp [loadVar, run_isAgg w h1, h2, hc]

theorem op_load (hw : WRel E) (hs : ARel E sl a) {n ob : Option Nat} {x : MX} (hc : chkOp P (.load n ob x) o.op = true) (h : opV cf sl E.H (.load n ob x) = some (r, ups)) : OpOk P E o a.eval r ups := by
  simp only [chkOp] at hc
  split at hc
  · rename_i t x' ho
    simp only [Bool.and_eq_true] at hc
    have hx := ev_rel hs hc.2
    cases n with
    | none =>
      have h1 : oneB P t = true := hc.1
      simp only [opV] at h
      obtain ⟨hv, rfl⟩ := map_pair h
      obtain ⟨b, off, u, e1, _, hu, hr⟩ := load1_rel hw hv hx
      exact .pure hw (v := u) (by simp [execOp, ho, e1, Instr.loadAt, Instr.sureAddr, run_loadVar_one E.w h1 hu]) hr
    | some n =>
      have h1 := hc.1
      simp only [loadB, Bool.and_eq_true, decide_eq_true_eq] at h1
      simp only [opV] at h
      cases hl : loadCells E.H ob (ev sl x) n with
      | none => rw [hl] at h; cases h
      | some cs =>
        rw [hl] at h
        obtain ⟨rfl, rfl⟩ := some_pair h
        obtain ⟨b, off, e1, hv, hlen⟩ := loadCells_rel hw hl hx h1.2
        obtain ⟨vs, hr, hrange, _⟩ := hv.vals
        obtain ⟨d, hu, hd⟩ := aggB_row h1.1.1
        obtain ⟨i, hi, hisz⟩ := szB_info h1.1.2
        have := run_loadAt_mid (P := P) E.w b off t vs d hrange hu hd (by rw [hi]; simp [hisz, hr.length, hlen])
        refine .pure hw (v := .agg vs.toArray) (by simp [execOp, ho, e1, this]) ?_
        simp only [VRel]
        exact ⟨_, rfl, by simpa using hr⟩
  · cases hc

theorem op_sliceA (hw : WRel E) (hs : ARel E sl a) {n sz : Nat} {ob : Option Nat} {x : MX} {lo hi : Option MX} (hc : chkOp P (.sliceA n sz ob x lo hi) o.op = true) (h : opV cf sl E.H (.sliceA n sz ob x lo hi) = some (r, ups)) : OpOk P E o a.eval r ups := by
  simp only [chkOp] at hc
  split at hc
  · rename_i t x' lo' hi' ho
    simp only [Bool.and_eq_true] at hc
    obtain ⟨⟨⟨h1, h2⟩, h3⟩, h4⟩ := hc
    have hx := ev_rel hs h2
    have hlo := evO_rel hs h3
    have hhi := evO_rel hs h4
    split at h1
    · rename_i m el hu
      simp only [Bool.and_eq_true, beq_iff_eq] at h1
      obtain ⟨rfl, hz⟩ := h1
      simp only [opV] at h
      split at h
      · rename_i l hh hb
        obtain ⟨hr, h5, h6⟩ := sliceBounds_run (P := P) (Nat.le_refl m) hlo hhi hb false E.w
        have hrun : ∀ ad, a.eval x' = .pointer (some ad) → (execOp a.eval o).run P E.w = .ok (.value (.slice (some (if m = l then ad else ad.add (l * sz))) (hh - l) (m - l))) E.w := by
          intro ad e1
          simp [execOp, ho, e1, Instr.sliceAt, run_underlying hu, Instr.sureAddr, hr, run_sizeOf' hz]
        split at h
        · rename_i i ver off e
          rw [e] at hx
          split at h
          · cases h
          · split at h
            · rename_i cs hcs
              split at h
              · rename_i hle
                obtain ⟨b, base, e1, hρ, hblk, hv, _⟩ := ptr_cells hw hx hcs
                split at h
                · rename_i hlh
                  obtain ⟨rfl, rfl⟩ := some_pair h
                  refine .pure hw (hrun _ e1) ?_
                  simp only [VRel]
                  exact ⟨_, _, by rw [hlh, Nat.sub_self], by omega, fun h => by omega, .inl trivial⟩
                · rename_i hlh
                  obtain ⟨rfl, rfl⟩ := some_pair h
                  refine .pure hw (hrun _ e1) ?_
                  have hne : m ≠ l := by omega
                  rw [if_neg hne]
                  obtain ⟨q, hq, hqv, hqb, _⟩ := objCells_rel hw hcs
                  simp only [VRel]
                  have emn : m * sz = l * sz + (m - l) * sz := by rw [← Nat.add_mul]; congr 1; omega
                  have ehl : (hh - l) * sz ≤ (m - l) * sz := Nat.mul_le_mul_right _ (by omega)
                  have hp : PlacedS E i (off + l * sz) (m - l) sz (some (Addr.add ⟨b, base + off, none⟩ (l * sz))) :=
                    ⟨b, base, hρ, by rw [Addr.add_mid, Nat.add_assoc], hblk.le (by omega)⟩
                  refine ⟨_, _, rfl, by omega, fun _ => rfl, q, hq, by omega, fun _ => ?_⟩
                  cases hbb : q.body with
                  | none => rw [hbb] at hqb; cases hqb
                  | var ds => rw [hbb] at hqb; cases hqb; exact ⟨by omega, hp⟩
                  | row _ _ ds => rw [hbb] at hqb; cases hqb; exact ⟨by omega, .inl hp⟩
              · cases h
            · cases h
        · rename_i cs e
          rw [e] at hx
          simp only [VRel] at hx
          obtain ⟨ad, e1, hx⟩ := hx
          split at h
          · obtain ⟨rfl, rfl⟩ := some_pair h
            refine .pure hw (hrun _ e1) ?_
            have := ro_part (E := E) (n := m) (cap := m) (sz := sz) (cs := cs) (ad := some ad) h5 h6 (Nat.le_refl m) (fun _ => rfl) (by
              rcases hx with h | ⟨b, off, rfl, h7, h8⟩
              · exact .inl h
              · exact .inr ⟨b, off, rfl, h7, h8⟩)
            by_cases e : m = l
            · rw [if_pos e] at this ⊢; exact this
            · rw [if_neg e] at this ⊢; exact this
          · cases h
        · cases h
      · cases h
    · cases h1
  · cases hc

/-! ### Aggregates out of parts -/
theorem cells_rel {x : AV} {v : Value} (hx : VRel E x v) (ha : x.cells.all AV.atom = true) : LRel E x.cells v.cells.toList ∧ ∀ u ∈ v.cells.toList, u.oneCell' = true := by
  have gen : ∀ {cs : List AV} {vs : List Value}, LRel E cs vs → cs.all AV.atom = true → ∀ u ∈ vs, u.oneCell' = true := by
    intro cs
    induction cs with
    | nil => intro vs h _ u hu; simp only [LRel] at h; subst h; cases hu
    | cons c cs ih =>
      intro vs h ht u hu
      simp only [LRel] at h
      obtain ⟨v, r, rfl, h1, h2⟩ := h
      simp only [List.all_cons, Bool.and_eq_true] at ht
      cases hu with
      | head => exact h1.one ht.1
      | tail _ hu => exact ih h2 ht.2 u hu
  cases x with
  | agg cs =>
    simp only [VRel] at hx
    obtain ⟨arr, rfl, hx⟩ := hx
    exact ⟨hx, gen hx ha⟩
  | undef => simp [AV.cells, AV.atom] at ha
  | tup _ => simp [AV.cells, AV.atom] at ha
  | _ =>
    have h1 := hx.one (by simpa [AV.cells] using ha)
    have hc : v.cells = #[v] := by cases v <;> first | rfl | (simp [Value.oneCell'] at h1)
    rw [hc]
    refine ⟨⟨v, [], rfl, hx, rfl⟩, fun u hu => ?_⟩
    have : u = v := by simpa using hu
    rw [this]; exact h1

theorem setCells_len {cs new : List AV} {off : Nat} (h : off + new.length ≤ cs.length) : (setCells cs off new).length = cs.length := by
  simp [setCells]; omega
theorem setCells_get {cs new : List AV} {off : Nat} (h : off + new.length ≤ cs.length) (k : Nat) : (setCells cs off new)[k]? = if off ≤ k ∧ k < off + new.length then new[k - off]? else cs[k]? := by
  unfold setCells
  by_cases h1 : k < off
  · rw [List.append_assoc, List.getElem?_append_left (by simp; omega), List.getElem?_take, if_pos h1, if_neg (by omega)]
  · by_cases h2 : k < off + new.length
    · rw [List.getElem?_append_left (by simp; omega), List.getElem?_append_right (by simp; omega), if_pos ⟨by omega, h2⟩]
      congr 1
      simp
      omega
    · rw [List.getElem?_append_right (by simp; omega), List.getElem?_drop, if_neg (by omega)]
      congr 1
      simp
      omega

theorem foldl_sets : ∀ (vs : List Value) (off j : Nat) (cells : Array Value) (k : Nat), off + j + vs.length ≤ cells.size →
    ((vs.zipIdx j).foldl (fun cs (p : Value × Nat) => cs.setIfInBounds (off + p.2) p.1) cells).toList[k]? = if off + j ≤ k ∧ k < off + j + vs.length then vs[k - (off + j)]? else cells.toList[k]?
  | [], off, j, cells, k, _ => by simp; omega
  | v :: vs, off, j, cells, k, h => by
    simp only [List.length_cons] at h
    rw [List.zipIdx_cons, List.foldl_cons, foldl_sets vs off (j + 1) _ k (by simp; omega)]
    simp only [List.length_cons]
    by_cases h1 : k = off + j
    · subst h1
      rw [if_neg (by omega), if_pos (by omega)]
      have hlt : off + j < cells.size := by omega
      simp [hlt]
    · by_cases h2 : off + j < k ∧ k < off + j + 1 + vs.length
      · rw [if_pos (by omega), if_pos (by omega)]
        rw [show k - (off + j) = (k - (off + (j + 1))) + 1 by omega]
        simp
      · rw [if_neg (by omega), if_neg (by omega)]
        simp only [Array.getElem?_toList]
        rw [Array.getElem?_setIfInBounds_ne (by omega)]

theorem fill_rel (place : Nat → Option (Nat × Nat)) : ∀ (parts : List (Nat × Nat × AV)) (pv : List (Nat × Value)) (cells : List AV) (arr : Array Value) (cs : List AV), LRel E cells arr.toList →
    parts.length = pv.length → (∀ (j : Nat) (p : Nat × Nat × AV) (q : Nat × Value), parts[j]? = some p → pv[j]? = some q → place q.1 = some (p.1, p.2.1) ∧ VRel E p.2.2 q.2) →
    fillV cells parts = some cs → ∃ arr', Instr.fill place arr pv = some arr' ∧ LRel E cs arr'.toList
  | [], [], cells, arr, cs, h, _, _, hf => by
    simp only [fillV, Option.some.injEq] at hf
    subst hf
    exact ⟨arr, rfl, h⟩
  | [], _ :: _, _, _, _, _, hl, _, _ => by simp at hl
  | _ :: _, [], _, _, _, _, hl, _, _ => by simp at hl
  | (off, n, x) :: parts, (i, v) :: pv, cells, arr, cs, h, hl, hp, hf => by
    simp only [fillV] at hf
    split at hf
    · cases hf
    · rename_i hn
      have h1 : x.cells.length = n := by
        rcases Nat.decEq x.cells.length n with h | h
        · exact absurd (.inl h) hn
        · exact h
      have h2 : off + n ≤ cells.length := by
        rcases Nat.lt_or_ge cells.length (off + n) with h | h
        · exact absurd (.inr (.inl h)) hn
        · exact h
      have h3 : x.cells.all AV.atom = true := by
        cases hb : x.cells.all AV.atom
        · exact absurd (.inr (.inr hb)) hn
        · rfl
      obtain ⟨e1, hx⟩ := hp 0 _ _ rfl rfl
      obtain ⟨hc, _⟩ := cells_rel hx h3
      have hcl : v.cells.size = n := by have := hc.length; simp at this; omega
      have hal : arr.size = cells.length := by have := h.length; simpa using this
      simp only [Instr.fill, e1]
      rw [if_neg (by simp; omega)]
      refine fill_rel place parts pv (setCells cells off x.cells) _ cs ?_ (by simpa using hl) (fun j p q h4 h5 => hp (j + 1) p q (by simpa using h4) (by simpa using h5)) hf
      rw [← Array.foldl_toList, Array.toList_zipIdx]
      have hget := foldl_sets v.cells.toList off 0 arr
      simp only [Nat.add_zero, Array.length_toList, hcl] at hget
      refine LRel.of ?_ fun k c u h4 h5 => ?_
      · have hsz : ∀ (vs : List (Value × Nat)) (A : Array Value), (vs.foldl (fun cs (p : Value × Nat) => cs.setIfInBounds (off + p.2) p.1) A).size = A.size := by
          intro vs
          induction vs with
          | nil => intro A; rfl
          | cons p vs ih => intro A; rw [List.foldl_cons, ih]; simp
        rw [setCells_len (by omega), Array.length_toList, hsz]
        exact hal
      · rw [hget k (by omega)] at h5
        rw [setCells_get (by omega), h1] at h4
        split at h4
        · rename_i hk
          rw [if_pos hk] at h5
          obtain ⟨u', h6, h7⟩ := hc.get _ _ h4
          rw [h6] at h5
          cases h5
          exact h7
        · rename_i hk
          rw [if_neg hk] at h5
          obtain ⟨u', h6, h7⟩ := h.get _ _ h4
          rw [h6] at h5
          cases h5
          exact h7

end Go.Ev
