/- Operations that lay objects: literals, stores, append, make, copy. -/
import Derived.Test.YtfodjphcngidbaaEvOps7
set_option linter.unusedSimpArgs false
set_option linter.unusedVariables false
namespace Go.Ev
variable {P : Program} {E : Env} {o : Oper} {a : Act} {sl : List AV} {cf : CallF} {r : AV} {ups : List (Nat × AObj)}

theorem treeCell_rel (hw : WRel E) {fz : List Nat} (hf : ∀ i ∈ fz, ∀ q, E.H[i]? = some q → q.body.isMut = false) {c c' : AV} {v : Value} (h : treeCell E.H fz c = some c') (hv : VRel E c v) :
    c'.tree = true ∧ VRel E c' v := by
  cases c <;> simp only [treeCell, AV.tree, if_true, Bool.false_eq_true, if_false, reduceCtorEq, Option.some.injEq] at h
  case bool => subst h; exact ⟨rfl, hv⟩
  case int => subst h; exact ⟨rfl, hv⟩
  case str => subst h; exact ⟨rfl, hv⟩
  case nilptr => subst h; exact ⟨rfl, hv⟩
  case ro => subst h; exact ⟨rfl, hv⟩
  case nilsl =>
    subst h
    refine ⟨rfl, ?_⟩
    simp only [VRel] at hv ⊢
    exact ⟨none, 0, hv, Nat.le_refl _, fun h => by omega, .inl trivial⟩
  case own i ver off len sz =>
    split at h
    · rename_i hi
      have hi : i ∈ fz := by simpa using hi
      split at h
      · rename_i v' m s cs hq
        split at h
        · rename_i hcond
          obtain ⟨rfl, hle⟩ := hcond
          cases h
          refine ⟨rfl, ?_⟩
          have hoc : objCells E.H i v' = some cs := by simp [objCells, hq, bodyCells]
          have hm : m = false := hf i hi _ hq
          subst hm
          obtain ⟨ad, cap, rfl, hlc, _, hpl⟩ := ORel.cells hw (by simpa only [VRel] using hv) hoc
          have hobj := hw.obj i _ hq
          unfold ObjRel at hobj
          simp only at hobj
          simp only [VRel]
          refine ⟨ad, cap, rfl, hlc, ?_, ?_⟩
          · rcases hpl with ⟨rfl, _, rfl, rfl, _⟩ | ⟨b, base, _, rfl, _⟩
            · intro h; omega
            · intro _; rfl
          · rcases hpl with ⟨rfl, _⟩ | ⟨b, base, hρ, rfl, _, _, _, _⟩
            · exact .inl (by simp)
            · rcases hobj with ⟨_, h2⟩ | ⟨b', base', h1, h2, h3, h4⟩
              · rw [hρ] at h2; cases h2
              · rw [hρ] at h1; cases h1
                exact .inr ⟨b, base + off, rfl, h4 (by trivial), (h3.drop off).take _⟩
        · cases h
      · cases h
    · cases h

theorem mapO_rel (hw : WRel E) {fz : List Nat} (hf : ∀ i ∈ fz, ∀ q, E.H[i]? = some q → q.body.isMut = false) : ∀ {cs cs' : List AV} {vs : List Value}, mapO (treeCell E.H fz) cs = some cs' → LRel E cs vs →
    cs'.all AV.tree = true ∧ LRel E cs' vs
  | [], cs', vs, h, hr => by simp only [mapO, Option.some.injEq] at h; subst h; exact ⟨rfl, hr⟩
  | c :: cs, cs', vs, h, hr => by
    simp only [LRel] at hr
    obtain ⟨v, r, rfl, h1, h2⟩ := hr
    simp only [mapO] at h
    split at h
    · rename_i b hb
      obtain ⟨l, hl, rfl⟩ := Option.map_eq_some_iff.1 h
      obtain ⟨k1, k2⟩ := treeCell_rel hw hf hb h1
      obtain ⟨k3, k4⟩ := mapO_rel hw hf hl h2
      exact ⟨by simp [k1, k3], ⟨v, r, rfl, k2, k4⟩⟩
    · cases h
theorem mapO_len {f : AV → Option AV} : ∀ {cs cs' : List AV}, mapO f cs = some cs' → cs'.length = cs.length
  | [], cs', h => by simp only [mapO, Option.some.injEq] at h; subst h; rfl
  | c :: cs, cs', h => by
    simp only [mapO] at h
    split at h
    · obtain ⟨l, hl, rfl⟩ := Option.map_eq_some_iff.1 h
      simp [mapO_len hl]
    · cases h
theorem mapO_congr {f g : AV → Option AV} (h : ∀ c, f c = g c) (cs : List AV) : mapO f cs = mapO g cs := by
  have : f = g := funext h
  rw [this]

theorem made_rel {zs : List AV} {z : Array Value} (h : ∀ E : Env, LRel E zs z.toList) (hz : 0 < zs.length) (n : Nat) (E : Env) : LRel E (repeatL n zs) (madeCells z (n * zs.length)).toList := by
  have hzl : z.size = zs.length := by have := (h E).length; simpa using this
  have hlen : (repeatL n zs).length = n * zs.length := by simp [repeatL, List.length_flatten]
  refine LRel.of (by rw [hlen, Array.length_toList, size_madeCells]) fun j c v h1 h2 => ?_
  have hj : j < n * zs.length := by have := (List.getElem?_eq_some_iff.1 h1).1; omega
  have e1 : zs[j % zs.length]? = some c := by
    rw [← h1]
    clear h1 h2
    induction n generalizing j with
    | zero => omega
    | succ n ih =>
      unfold repeatL
      rw [List.replicate_succ, List.flatten_cons]
      by_cases hlt : j < zs.length
      · rw [List.getElem?_append_left hlt, Nat.mod_eq_of_lt hlt]
      · rw [List.getElem?_append_right (by omega)]
        have := ih (by simp [repeatL, List.length_flatten]) (j - zs.length) (by rw [Nat.add_mul] at hj; omega)
        rw [← Nat.mod_eq_sub_mod (by omega)] at this
        exact this
  obtain ⟨u, hu, hr⟩ := (h E).get _ _ e1
  have e2 : (madeCells z (n * zs.length)).toList[j]? = some u := by
    have hm : j % zs.length < z.size := by rw [hzl]; exact Nat.mod_lt _ hz
    have hu' : z[j % zs.length]'hm = u := by
      have : z.toList[j % zs.length]? = some (z[j % zs.length]'hm) := by simp [hm]
      rw [this] at hu
      exact Option.some.inj hu
    simp only [madeCells, Array.getElem?_toList]
    rw [Array.getElem?_map, Array.getElem?_range, if_pos hj]
    simp only [Option.map_some, hzl]
    rw [getElem!_pos z _ hm, hu']
  rw [e2] at h2
  cases h2
  exact hr

theorem fillV_len : ∀ {parts : List (Nat × Nat × AV)} {cells cs : List AV}, fillV cells parts = some cs → cs.length = cells.length
  | [], cells, cs, h => by simp only [fillV, Option.some.injEq] at h; subst h; rfl
  | (off, n, x) :: parts, cells, cs, h => by
    simp only [fillV] at h
    split at h
    · cases h
    · rename_i hn
      rw [fillV_len h]
      refine setCells_len ?_
      rcases Nat.decEq x.cells.length n with h | h
      · exact absurd (.inl h) hn
      · rcases Nat.lt_or_ge cells.length (off + n) with h' | h'
        · exact absurd (.inr (.inl h')) hn
        · omega

theorem op_lit (hw : WRel E) (hs : ARel E sl a) {t : Option Nat} {fz : List Nat} {len sz : Nat} {zs : List AV} {ps : List (Nat × Nat × MX)} (hc : chkOp P (.lit t fz len sz zs ps) o.op = true)
    (h : opV cf sl E.H (.lit t fz len sz zs ps) = some (r, ups)) : OpOk P E o a.eval r ups := by
  simp only [chkOp] at hc
  split at hc
  · rename_i ty n qs ho
    simp only [Bool.and_eq_true, beq_iff_eq] at hc
    obtain ⟨rfl, hc⟩ := hc
    split at hc
    · rename_i e hu
      simp only [Bool.and_eq_true, beq_iff_eq, decide_eq_true_eq] at hc
      obtain ⟨⟨⟨⟨⟨hsz, hz⟩, hzl⟩, h0⟩, hle⟩, hp⟩ := hc
      obtain ⟨i, z, hi, hzz, hzr, hat⟩ := zeroB_rel hz
      obtain ⟨i', hi', hisz⟩ := szB_info hsz
      rw [hi] at hi'
      cases hi'
      simp only [opV] at h
      split at h
      · rename_i cs hf
        split at h
        · rename_i cs' hm
          split at h
          · rename_i fr hfr
            obtain ⟨hl, hp⟩ := partsA_rel hs hp
            have hbase : LRel E (repeatL n zs) (madeCells z.cells (n * zs.length)).toList := made_rel hzr (by omega) n E
            obtain ⟨arr, h1, h2⟩ := fill_rel (E := E) (fun j => some (j * sz, sz)) _ (qs.toList.map fun q => (q.1, a.eval q.2)) _ _ cs hbase (by simpa using hl) (fun j p q h1 h2 => by
              rw [List.getElem?_map] at h1 h2
              obtain ⟨p', hp', rfl⟩ := Option.map_eq_some_iff.1 h1
              obtain ⟨q', hq', rfl⟩ := Option.map_eq_some_iff.1 h2
              obtain ⟨⟨h5, h6⟩, h7⟩ := hp j p' q' hp' hq'
              exact ⟨by simp [h5, h6], h7⟩) hf
            have hml : (qs.map fun (i, x) => (i, a.eval x)).toList = qs.toList.map fun q => (q.1, a.eval q.2) := by simp
            have hrun : (execOp a.eval o).run P E.w = .ok (.value (.slice (some ⟨E.w.heap.size, 0, none⟩) n n)) (E.w.alloc (.cells arr e)) := by
              have hb : (Instr.buildSlice ty n (qs.map fun (i, x) => (i, a.eval x))).run P E.w = .ok (.slice (some ⟨E.w.heap.size, 0, none⟩) n n) (E.w.alloc (.cells arr e)) := by
                have hle' : ¬ 16777216 < n * i.size := by rw [hisz]; omega
                have hfill : Instr.fill (fun j => some (j * i.size, i.size)) (madeCells z.cells (n * i.size)) (qs.toList.map fun q => (q.1, a.eval q.2)) = some arr := by
                  rw [hisz]; rw [hzl] at h1; exact h1
                by_cases hn : n * i.size = 0
                · have : madeCells z.cells (n * i.size) = (Array.range (n * i.size)).map ((#[] : Array Value)[· % (#[] : Array Value).size]!) := by
                    rw [hn]; simp [madeCells]
                  rw [this] at hfill
                  simp [Instr.buildSlice, run_underlying hu, sizeOf, typeInfo, hi, hn] at hfill ⊢
                  rw [hfill]
                  simp [newRow]
                · unfold madeCells at hfill
                  simp [Instr.buildSlice, run_underlying hu, sizeOf, typeInfo, zeroValue, hi, hzz, hn, hle', hfill, newRow]
              simp only [execOp, ho, Sem.run_bind, hb, Result.andThen_ok, Sem.run_pure]
            obtain ⟨k1, k2, k3, k4⟩ := freezeAll_rel hw (Frz.refl E.H) hfr
            have hm1 : mapO (treeCell (Lay E fr E.ρ E.w).H fz) cs = some cs' := by rw [← hm]; exact mapO_congr (fun c => k3.tree fz c) cs
            obtain ⟨m1, m2⟩ := mapO_rel k1 k4 hm1 (LRel.mono k2 h2)
            have hlen : cs'.length = n * sz := by
              rw [mapO_len hm, fillV_len hf]
              simp [repeatL, List.length_flatten, hzl]
            have hasz : arr.size = n * sz := by have := m2.length; simp at this; omega
            cases t with
            | none =>
              obtain ⟨rfl, rfl⟩ := some_pair h
              -- a new block that nobody writes
              obtain ⟨hw', hst⟩ := k1.alloc (.cells arr e)
              refine ⟨_, _, .inl hrun, E.ρ, hw', k2.trans hst, ?_⟩
              simp only [VRel]
              refine ⟨_, n, rfl, Nat.le_refl _, fun _ => rfl, ?_⟩
              refine .inr ⟨E.w.heap.size, 0, rfl, ?_, ?_⟩
              · rintro (hF | ⟨j, q, base, hq, _, hρ⟩)
                · exact Nat.lt_irrefl _ (k1.fOld _ hF)
                · exact Nat.lt_irrefl _ (k1.block_lt hq (by assumption) hρ)
              · refine CRel.of fun j c hj => ?_
                obtain ⟨v, hv, hr⟩ := (LRel.mono hst m2).get j c hj
                refine ⟨all_get m1 hj, v, ?_, hr⟩
                show (E.w.alloc (.cells arr e)).cell? ⟨E.w.heap.size, 0 + j, none⟩ = some v
                rw [World.cell?_alloc_new, Nat.zero_add]
                simpa using hv
            | some t =>
              simp only at h
              split at h
              · rename_i q hq
                obtain ⟨rfl, rfl⟩ := some_pair h
                obtain ⟨q1, hq1, hv1, _⟩ := k2.obj t q hq
                have hver : q1.ver = q.ver := by
                  rcases k3 t with h | ⟨a1, b1, c1, d1, h3, h4⟩
                  · rw [hq1, hq] at h; cases h; rfl
                  · rw [hq] at h3; rw [hq1] at h4; cases h3; cases h4; rfl
                have hn := lay_new (E := Lay E fr E.ρ E.w) k1 hq1 (body := .row true sz cs') (.inr ⟨sz, rfl, m1⟩) (Chg.none _ t) arr e (fun j c hj => by
                  obtain ⟨v, h1, h2⟩ := m2.get j c hj
                  exact ⟨AV.tree_atom (all_get m1 hj), v, h1, h2⟩)
                rw [hver] at hn
                have hEq : ∀ p w', Lay E (fr ++ [(t, ⟨q.ver + 1, .row true sz cs'⟩)]) (E.ρ.set t p) w' = (Lay E fr E.ρ E.w).put t ⟨q.ver + 1, .row true sz cs'⟩ p w' := by
                  intro p w'
                  simp only [Lay, Env.put, layAll_append, layAll]
                have hfin := own_new (w' := E.w.alloc (.cells arr e)) (b := E.w.heap.size) (ver := q.ver + 1) (n := n) (cap := n) (sz := sz) (cs := cs') k1 hq1 (by rw [hlen]; exact Nat.le_refl _) (Nat.le_refl _) (hn.2.le (by rw [hasz]; exact Nat.le_refl _))
                refine ⟨.slice (some ⟨E.w.heap.size, 0, none⟩) n n, E.w.alloc (.cells arr e), .inl hrun, E.ρ.set t (some (E.w.heap.size, 0)), ?_⟩
                rw [hEq]
                exact ⟨hn.1.1, k2.trans hn.1.2, hfin⟩
              · cases h
          · cases h
        · cases h
      · cases h
    · cases hc
  · cases hc

theorem op_frz (hw : WRel E) (hs : ARel E sl a) {fz : List Nat} {x : MX} (hc : chkOp P (.frz fz x) o.op = true) (h : opV cf sl E.H (.frz fz x) = some (r, ups)) : OpOk P E o a.eval r ups := by
  have key : ∀ y, chkX x y = true → (o.op = .move y ∨ o.op = .assign y) → OpOk P E o a.eval r ups := by
    intro y hy ho
    have hx := ev_rel hs hy
    simp only [opV] at h
    split at h
    · rename_i a' fr h1 h2
      obtain ⟨rfl, rfl⟩ := some_pair h
      obtain ⟨k1, k2, k3, k4⟩ := freezeAll_rel hw (Frz.refl E.H) h2
      have hm1 : mapO (treeCell (Lay E fr E.ρ E.w).H fz) [ev sl x] = some [a'] := by
        simp only [mapO, k3.tree, h1, Option.map_some]
      have hl : LRel E [ev sl x] [a.eval y] := ⟨_, [], rfl, hx, rfl⟩
      obtain ⟨m1, m2⟩ := mapO_rel k1 k4 hm1 (LRel.mono k2 hl)
      obtain ⟨v, r', hv, m3, _⟩ := m2
      simp only [List.cons.injEq] at hv
      refine ⟨a.eval y, E.w, .inl ?_, E.ρ, k1, k2, ?_⟩
      · rcases ho with ho | ho <;> simp [execOp, ho]
      · rw [hv.1]; exact m3
    · cases h
  simp only [chkOp] at hc
  split at hc
  · exact key _ hc (.inl (by assumption))
  · exact key _ hc (.inr (by assumption))
  · cases hc

end Go.Ev
