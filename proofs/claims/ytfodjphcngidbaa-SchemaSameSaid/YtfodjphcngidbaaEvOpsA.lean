/- Operations that write: append, make, copy. -/
import Derived.Test.YtfodjphcngidbaaEvOps9
set_option linter.unusedSimpArgs false
set_option linter.unusedVariables false
namespace Go.Ev
variable {P : Program} {E : Env} {o : Oper} {a : Act} {sl : List AV} {cf : CallF} {r : AV} {ups : List (Nat × AObj)}

theorem Src.drewCells {size n : Nat} {tx : TypeId} {x : Value} {news : List Value} {w : World} (h : Src P size tx x n news w) : (Builtin.lenOf x).run P w = .ok n w := h.len w

theorem grow_fits {need old bytes : Nat} (hg : old < need) (hb : need * bytes ≤ 140737488355328) : Builtin.nextslicecap need old * bytes ≤ 281474976710656 := growslice_fits hg hb

theorem op_append (hw : WRel E) (hs : ARel E sl a) {bytes sz t : Nat} {ysrc : Option Nat} {x y : MX} (hc : chkOp P (.append bytes sz t ysrc x y) o.op = true) (h : opV cf sl E.H (.append bytes sz t ysrc x y) = some (r, ups)) : OpOk P E o a.eval r ups := by
  simp only [chkOp] at hc
  split at hc
  · rename_i args ts ho
    simp only [Bool.and_eq_true, beq_iff_eq] at hc
    obtain ⟨⟨h1, h2⟩, h3⟩ := hc
    have hxs := evs_rel hs h1
    obtain ⟨x', y', hargs⟩ : ∃ x' y', args = #[x', y'] := by
      have hl := hxs.length
      simp at hl
      have h2' : args.size = 2 := by simpa using hl
      exact ⟨args[0], args[1], by apply Array.ext <;> simp [h2']; intro i h1 h2; rcases i with _ | _ | i <;> simp; omega⟩
    subst hargs
    simp only [List.map_cons, List.map_nil, LRel] at hxs
    obtain ⟨vx, rx, e1, hx, vy, ry, e2, hy, _⟩ := hxs
    cases e1; cases e2
    obtain ⟨tt, tu, hts⟩ : ∃ tt tu, ts = #[tt, tu] := by
      exact ⟨ts[0], ts[1], by apply Array.ext <;> simp [h2]; intro i h1 h2; rcases i with _ | _ | i <;> simp; omega⟩
    subst hts
    simp only [List.getElem?_toArray, List.getElem?_cons_zero, List.getElem?_cons_succ, Bool.and_eq_true] at h3
    obtain ⟨hsl, h3⟩ := h3
    split at h3
    · rename_i el hu
      split at h3
      · rename_i i hi
        simp only [Bool.and_eq_true, beq_iff_eq] at h3
        obtain ⟨⟨hsz, hby⟩, hzs⟩ := h3
        obtain ⟨z, hz, hzsz⟩ : ∃ z, i.zero = some z ∧ z.cells.size = i.size := by
          split at hzs
          · rename_i z hz
            exact ⟨z, hz, by rw [hsz]; exact beq_iff_eq.1 hzs⟩
          · cases hzs
        subst hsz; subst hby
        have hexec : ∀ v w', (Builtin.append_ #[tt, tu] o.type #[a.eval x', a.eval y']).run P E.w = .ok v w' → (execOp a.eval o).run P E.w = .ok (.value v) w' := by
          intro v w' h
          simp [execOp, ho, resolve, invoke, builtin, h]
        simp only [opV] at h
        split at h
        · rename_i n new hsrc
          obtain ⟨vs, hS, hr, htr, hlen⟩ := srcCells_rel hw hsl hsrc hy
          have hvl : vs.length = n * i.size := by rw [hr.length, hlen]
          split at h
          · rename_i q hq
            -- a new row
            have grow : ∀ (ad : Option Addr) (len cap : Nat) (old : List AV) (olds : List Value), a.eval x' = .slice ad len cap → LRel E old olds → old.all AV.tree = true → old.length = len * i.size →
                (Builtin.firstCells i.size len (.slice ad len cap)).run P E.w.drew = .ok olds.toArray E.w.drew → cap < len + n → (len + n) * i.bytes ≤ 140737488355328 → len + n < 4611686018427387904 →
                OpOk P E o a.eval (.own t (q.ver + 1) 0 (len + n) i.size) [(t, ⟨q.ver + 1, .row true i.size (old ++ new)⟩)] := by
              intro ad len cap old olds e1 hro hto hlo hfc hcap hb hbig
              have hrun := run_append_grow_src (P := P) E.w tt tu o.type el i z hu hi hz ad len cap olds hfc (a.eval y') n vs hS hcap (by omega) (growslice_fits hcap hb)
              rw [← e1] at hrun
              have hge := grownCap_ge E.w (len + n) cap el
              have hcells : LRel E (old ++ new) (olds ++ vs) := hro.append hr
              have holl : olds.length = len * i.size := by rw [hro.length, hlo]
              have hn := lay_new (E := E) hw hq (body := .row true i.size (old ++ new)) (cs := old ++ new) (.inr ⟨_, rfl, by simp only [List.all_append, hto, htr, Bool.and_self]⟩) (Chg.drew (Chg.none E t))
                ((olds ++ vs).toArray ++ Builtin.zeroCells z.cells (grownCap E.w (len + n) cap el - (len + n))) el (fun j c hj => by
                  obtain ⟨v, hv, hrv⟩ := hcells.get j c hj
                  refine ⟨?_, v, ?_, hrv⟩
                  · have : (old ++ new).all AV.tree = true := by simp only [List.all_append, hto, htr, Bool.and_self]
                    exact AV.tree_atom (all_get this hj)
                  · have hlt := (List.getElem?_eq_some_iff.1 hv).1
                    simp only [Array.toList_append]
                    rw [List.getElem?_append_left (by simpa using hlt)]
                    simpa using hv)
              refine ⟨_, _, .inl (hexec _ _ hrun), .put hn.1 ?_⟩
              refine own_new hw hq (by rw [List.length_append, hlo, hlen, ← Nat.add_mul]; exact Nat.le_refl _) hge (hn.2.le ?_)
              simp only [Array.size_append, List.size_toArray, List.length_append, holl, hvl, size_zeroCells]
              rw [hzsz, ← Nat.add_mul, ← Nat.add_mul]
              exact Nat.mul_le_mul_right _ (by omega)
            split at h
            · rename_i j ver off len sz' e
              rw [e] at hx
              split at h
              · rename_i hcond
                obtain ⟨rfl, rfl, rfl, rfl⟩ := hcond
                split at h
                · rename_i sz'' cs hqb
                  split at h
                  · rename_i hc2
                    obtain ⟨rfl, hl2, hb, hbig⟩ := hc2
                    obtain ⟨rfl, rfl⟩ := some_pair h
                    have hoc : objCells E.H j q.ver = some cs := by simp [objCells, hq, hqb, bodyCells]
                    obtain ⟨ad, cap, e1, hlc, _, hpl⟩ := ORel.cells hw (by simpa only [VRel] using hx) hoc
                    have hobj := hw.obj j q hq
                    have htrc : cs.all AV.tree = true := by
                      unfold ObjRel at hobj
                      rw [hqb] at hobj
                      rcases hobj with ⟨rfl, _⟩ | ⟨b, base, _, _, hcr, _⟩
                      · rfl
                      · exact hcr.allTree
                    rcases hpl with ⟨rfl, _, rfl, rfl, hρ⟩ | ⟨b, base, hρ, rfl, hbk, hbk2, hv, _⟩
                    · -- nothing there yet
                      have hlen0 : len = 0 := by omega
                      subst hlen0
                      rcases Nat.eq_zero_or_pos n with hn | hn
                      · subst hn
                        have hnew : new = [] := by simpa using hlen
                        subst hnew
                        have hvs : vs = [] := by simpa using hvl
                        subst hvs
                        have hrun : (Builtin.append_ #[tt, tu] o.type #[a.eval x', a.eval y']).run P E.w = .ok (.slice none 0 0) E.w := by
                          rw [e1]
                          have hl := hS.len E.w
                          have hcc := hS.cells
                          rcases hS.kind with ⟨e', hk⟩ | hk <;> simp [Builtin.append_, run_underlying hu, run_underlying hk, sizeOf, typeInfo, hi, hl, hcc]
                        have hr2 := relay (o' := ⟨q.ver + 1, .row true i.size ([] ++ [])⟩) (p := none) hw hq (Nat.le_succ _) (fun e => by simp at e) (Chg.none E j) (fun _ _ _ h => by cases h) (fun _ => .inl ⟨rfl, put_ρ hw hq⟩)
                        refine ⟨_, _, .inl (hexec _ _ hrun), .put hr2 ?_⟩
                        simp only [VRel]
                        exact ⟨none, 0, rfl, Nat.le_refl _, fun h => by omega, _, put_H hq, Nat.le_refl _, fun _ => ⟨by simp, .inr ⟨rfl, put_ρ hw hq, rfl, rfl⟩⟩⟩
                      · exact grow none 0 0 [] [] e1 rfl rfl (by simp) (run_firstCells_none E.w.drew i.size 0 0 0) (by omega) hb hbig
                    · by_cases hroom : len + n ≤ cap
                      · -- there is room
                        have hspace : len * i.size + n * i.size ≤ cap * i.size := by rw [← Nat.add_mul]; exact Nat.mul_le_mul_right _ hroom
                        have hrun := run_append_room_src (P := P) E.w tt tu o.type el i hu hi b (base + 0) len cap (a.eval y') n vs hS hroom (fun k hk => (hbk.cell (by omega)).1) (fun k hk => (hbk.cell (by omega)).2)
                        rw [← e1] at hrun
                        have hL := lay_write (E := E) (body' := .row true i.size (cs ++ new)) (cs := cs ++ new) (new := new) (off := cs.length) (m := base + 0 + cap * i.size) (ver := q.ver + 1) hw hq (by rw [hqb]; rfl) hρ (by omega)
                          (fun e => by simp at e) (.inr ⟨_, rfl⟩) hbk (by rw [List.length_append, hlen]; omega) (by rw [List.length_append]; exact Nat.le_refl _)
                          ⟨cs, by rw [hqb]; rfl, fun k => ⟨fun hk => List.getElem?_append_right hk.1, fun hk => by
                            by_cases hlt : k < cs.length
                            · exact List.getElem?_append_left hlt
                            · rw [List.getElem?_eq_none (by rw [List.length_append]; omega), List.getElem?_eq_none (by omega)]⟩⟩ hr
                          (List.all_eq_true.2 fun c hc => AV.tree_atom (List.all_eq_true.1 htr c hc)) (fun _ => ⟨htr, _, _, _, hqb⟩)
                        have e5 : base + 0 + len * i.size = base + cs.length := by omega
                        rw [e5] at hrun
                        refine ⟨_, _, .inl (hexec _ _ hrun), .put hL ?_⟩
                        simp only [VRel]
                        refine ⟨_, cap, rfl, hroom, fun _ => rfl, _, put_H hq, Nat.le_refl _, fun _ => ⟨by rw [List.length_append, hlen, ← hl2, Nat.add_mul]; omega, .inl ⟨b, base, put_ρ hw hq, rfl, ?_⟩⟩⟩
                        exact hbk.mono hL.2.w
                      · -- there is none
                        obtain ⟨olds, hro, hrange, _⟩ := hv.vals
                        refine grow _ len cap cs olds e1 hro htrc hl2.symm ?_ (by omega) hb hbig
                        exact run_firstCells_some E.w.drew i.size len ⟨b, base + 0, none⟩ len cap olds (by rw [hro.length]; exact hl2.symm) (fun k u hk => by rw [Addr.add_mid]; exact hrange k u hk)
                  · cases h
                · cases h
              · cases h
            · rename_i e
              rw [e] at hx
              simp only [VRel] at hx
              split at h
              · rename_i hcond
                obtain ⟨rfl, rfl⟩ := some_pair h
                have := grow none 0 0 [] [] hx rfl rfl (by simp) (run_firstCells_none E.w.drew i.size 0 0 0) (by omega) (by simpa using hcond.2.1) (by omega)
                simpa using this
              · cases h
            · cases h
          · cases h
        · cases h
      · cases h3
    · cases h3
  · cases hc


theorem op_make (hw : WRel E) (hs : ARel E sl a) {t bytes sz : Nat} {zs : List AV} {len cap : MX} (hc : chkOp P (.make t bytes sz zs len cap) o.op = true) (h : opV cf sl E.H (.make t bytes sz zs len cap) = some (r, ups)) : OpOk P E o a.eval r ups := by
  simp only [chkOp] at hc
  split at hc
  · rename_i ty l c ho
    simp only [Bool.and_eq_true] at hc
    obtain ⟨⟨h1, h2⟩, h3⟩ := hc
    have hl := ev_rel hs h2
    have hcp := ev_rel hs h3
    split at h1
    · rename_i el hu
      split at h1
      · rename_i i hi
        simp only [Bool.and_eq_true, beq_iff_eq, decide_eq_true_eq] at h1
        obtain ⟨⟨⟨⟨hsz, hby⟩, hz⟩, h0⟩, hztr⟩ := h1
        obtain ⟨i', z, hi', hzz, hzr, hat⟩ := zeroB_rel hz
        rw [hi] at hi'
        cases hi'
        subst hsz; subst hby
        simp only [opV] at h
        split at h
        · rename_i n c' e1 e2
          have hl := int_rel e1 hl
          have hcp := int_rel e2 hcp
          split at h
          · rename_i hcond
            obtain ⟨rfl, hn0, hnb, hbig, hzl⟩ := hcond
            split at h
            · rename_i q hq
              obtain ⟨rfl, rfl⟩ := some_pair h
              have hrun := run_make (P := P) E.w ty el i z hu hi hzz .i64 .i64 n n hn0 (Int.le_refl _) (by rw [Int.mul_comm]; omega) (by omega)
              have hmr := made_rel hzr (by omega) n.toNat E
              rw [hzl] at hmr
              have htree : (repeatL n.toNat zs).all AV.tree = true := by
                refine List.all_eq_true.2 fun c hc => ?_
                simp only [repeatL, List.mem_flatten] at hc
                obtain ⟨l, hl, hc⟩ := hc
                rw [List.eq_of_mem_replicate hl] at hc
                exact List.all_eq_true.1 hztr c hc
              have hex : (execOp a.eval o).run P E.w = .ok (.value (.slice (some ⟨E.w.heap.size, 0, none⟩) n.toNat n.toNat)) (E.w.alloc (.cells (madeCells z.cells (n.toNat * i.size)) el)) := by
                simp only [execOp, ho, hl, hcp, Sem.run_bind, hrun, Result.andThen_ok, Sem.run_pure]
              have hn := lay_new (E := E) hw hq (body := .row true i.size (repeatL n.toNat zs)) (cs := repeatL n.toNat zs) (.inr ⟨_, rfl, htree⟩) (Chg.none E t) (madeCells z.cells (n.toNat * i.size)) el (fun j c hj => by
                obtain ⟨v, hv, hrv⟩ := hmr.get j c hj
                exact ⟨AV.tree_atom (all_get htree hj), v, hv, hrv⟩)
              refine ⟨_, _, .inl hex, .put hn.1 (own_new hw hq ?_ (Nat.le_refl _) (hn.2.le ?_))⟩
              · simp [repeatL, List.length_flatten, hzl]
              · rw [size_madeCells]; exact Nat.le_refl _
            · cases h
          · cases h
        · cases h
      · cases h1
    · cases h1
  · cases hc


theorem srcPrefix (hw : WRel E) {ysrc : Option Nat} {sz n m : Nat} {y : AV} {cs : List AV} {v : Value} (h : srcCells E.H ysrc sz y = some (n, cs)) (hy : VRel E y v) (hm : m ≤ n) :
    ∃ vs, (Builtin.lenOf v).run P E.w = .ok n E.w ∧ (Builtin.firstCells sz m v).run P E.w = .ok vs.toArray E.w ∧ LRel E (cs.take (m * sz)) vs ∧ cs.length = n * sz ∧ cs.all AV.tree = true ∧ ∃ a k c, v = .slice a k c := by
  have fin : ∀ {ds : List AV} {b off cap : Nat}, VCells E ds b off → ds.all AV.tree = true → ds.length = n * sz →
      ∃ vs, (Builtin.lenOf (.slice (some ⟨b, off, none⟩) n cap)).run P E.w = .ok n E.w ∧ (Builtin.firstCells sz m (.slice (some ⟨b, off, none⟩) n cap)).run P E.w = .ok vs.toArray E.w ∧ LRel E (ds.take (m * sz)) vs ∧ ds.length = n * sz ∧ ds.all AV.tree = true ∧ ∃ a k c, Value.slice (some ⟨b, off, none⟩) n cap = .slice a k c := by
    intro ds b off cap hv htr hl
    obtain ⟨vs, hr, hrange, _⟩ := (hv.take (m * sz)).vals
    refine ⟨vs, rfl, ?_, hr, hl, htr, _, _, _, rfl⟩
    have hle : m * sz ≤ n * sz := Nat.mul_le_mul_right _ hm
    have := run_loadCells_list (P := P) E.w ⟨b, off, none⟩ vs (fun j u hj => by rw [Addr.add_mid]; exact hrange j u hj)
    rw [hr.length, List.length_take, hl, Nat.min_eq_left hle] at this
    simpa [Builtin.firstCells] using this
  unfold srcCells at h
  split at h
  · rename_i n' ds
    split at h
    · rename_i hlen
      cases h
      simp only [VRel] at hy
      obtain ⟨ad, cap, rfl, hle, h3, h4⟩ := hy
      rcases h4 with rfl | ⟨b, off, rfl, _, hc⟩
      · have h0 : n * sz = 0 := by simpa using hlen.symm
        have hm0 : m * sz = 0 := by have : m * sz ≤ n * sz := Nat.mul_le_mul_right _ hm; omega
        refine ⟨[], rfl, ?_, by simp [LRel], hlen, rfl, _, _, _, rfl⟩
        cases ad with
        | none => simp [Builtin.firstCells]
        | some ad =>
          have := run_loadCells_list (P := P) E.w ad [] (by simp)
          simpa [Builtin.firstCells, hm0] using this
      · exact fin hc.toV hc.allTree hlen
    · cases h
  · cases h
    simp only [VRel] at hy
    subst hy
    exact ⟨[], rfl, by simp [Builtin.firstCells], by simp [LRel], by simp, rfl, _, _, _, rfl⟩
  · cases h
    simp only [VRel] at hy
    obtain ⟨ad, cap, rfl, _⟩ := hy
    have hm0 : m = 0 := by omega
    subst hm0
    refine ⟨[], rfl, ?_, by simp [LRel], by simp, rfl, _, _, _, rfl⟩
    cases ad with
    | none => simp [Builtin.firstCells]
    | some ad =>
      have := run_loadCells_list (P := P) E.w ad [] (by simp)
      simpa [Builtin.firstCells] using this
  · rename_i i ver off len sz'
    split at h
    · rename_i hcond
      obtain ⟨_, rfl⟩ := hcond
      split at h
      · rename_i ds hds
        split at h
        · rename_i hle
          split at h
          · rename_i htr
            cases h
            obtain ⟨ad, cap, rfl, hlc, _, hpl⟩ := ORel.cells hw (by simpa only [VRel] using hy) hds
            rcases hpl with ⟨rfl, rfl, rfl, rfl, _⟩ | ⟨b, base, _, rfl, _, _, _, hv⟩
            · have h0 : n = 0 := by omega
              subst h0
              exact ⟨[], rfl, by simp [Builtin.firstCells], by simp [LRel], by simp, by simp, _, _, _, rfl⟩
            · exact fin (hv.take _) htr (by simp; omega)
          · cases h
        · cases h
      · cases h
    · cases h
  · cases h

theorem op_copy (hw : WRel E) (hs : ARel E sl a) {sz ob : Nat} {ysrc : Option Nat} {x y : MX} (hc : chkOp P (.copy sz ob ysrc x y) o.op = true) (h : opV cf sl E.H (.copy sz ob ysrc x y) = some (r, ups)) : OpOk P E o a.eval r ups := by
  simp only [chkOp] at hc
  split at hc
  · rename_i args ts ho
    simp only [Bool.and_eq_true] at hc
    obtain ⟨h1, h3⟩ := hc
    have hxs := evs_rel hs h1
    obtain ⟨x', y', hargs⟩ : ∃ x' y', args = #[x', y'] := by
      have hl := hxs.length
      simp at hl
      have h2' : args.size = 2 := by simpa using hl
      exact ⟨args[0], args[1], by apply Array.ext <;> simp [h2']; intro i h1 h2; rcases i with _ | _ | i <;> simp; omega⟩
    subst hargs
    simp only [List.map_cons, List.map_nil, LRel] at hxs
    obtain ⟨vx, rx, e1, hx, vy, ry, e2, hy, _⟩ := hxs
    cases e1; cases e2
    split at h3
    · rename_i t ht
      split at h3
      · rename_i el hu
        simp only [opV] at h
        split at h
        · rename_i n new hsrc
          split at h
          · rename_i i ver off len sz' e
            rw [e] at hx
            split at h
            · cases h
            · rename_i hcond
              have hsz : sz' = sz := by
                rcases Nat.decEq sz' sz with h | h
                · exact absurd (.inr h) hcond
                · exact h
              subst hsz
              split at h
              · rename_i q hq
                split at h
                · cases h
                · rename_i hver
                  have hver : q.ver = ver := by simpa using hver
                  have hmn : min n len ≤ n := Nat.min_le_left _ _
                  obtain ⟨vs, hl, hfc, hr, hlen, htr, _⟩ := srcPrefix (P := P) hw hsrc hy hmn
                  have hnl : (new.take (min n len * sz')).length = min n len * sz' := by
                    rw [List.length_take, hlen]; exact Nat.min_eq_left (Nat.mul_le_mul_right _ hmn)
                  have hle2 : min n len * sz' ≤ len * sz' := Nat.mul_le_mul_right _ (Nat.min_le_right _ _)
                  have htr' : (new.take (min n len * sz')).all AV.tree = true := List.all_eq_true.2 fun c hc => List.all_eq_true.1 htr c (List.mem_of_mem_take hc)
                  have hat' : (new.take (min n len * sz')).all AV.atom = true := List.all_eq_true.2 fun c hc => AV.tree_atom (List.all_eq_true.1 htr' c hc)
                  have h1' : ∀ u ∈ vs, u.oneCell' = true := by
                    intro u hu
                    obtain ⟨k, hk⟩ := List.mem_iff_getElem?.1 hu
                    have hlt := (List.getElem?_eq_some_iff.1 hk).1
                    have hll := hr.length
                    obtain ⟨u', hu', hru⟩ := hr.get k ((new.take (min n len * sz'))[k]'(by omega)) (List.getElem?_eq_getElem (by omega))
                    rw [hk] at hu'
                    cases hu'
                    exact hru.one (List.all_eq_true.1 hat' _ (List.getElem_mem _))
                  have hx' : ORel E i ver off len sz' (a.eval x') := by simpa only [VRel] using hx
                  -- one way of the two
                  have way : ∀ (cs : List AV) (body' : ABody), bodyCells q.body = some cs → (body' = .var (setCells cs off (new.take (min n len * sz'))) ∧ q.body = .var cs ∨ ∃ s, body' = .row true s (setCells cs off (new.take (min n len * sz'))) ∧ q.body = .row true s cs) →
                      off + len * sz' ≤ cs.length → OpOk P E o a.eval (.int .i64 (min n len : Nat)) [(i, ⟨ver, body'⟩)] := by
                    intro cs body' hb hbody hle
                    have hoc : objCells E.H i ver = some cs := by simp [objCells, hq, hver, hb]
                    obtain ⟨ad, cap, e1, hlc, _, hpl⟩ := ORel.cells hw hx' hoc
                    have hsc : (setCells cs off (new.take (min n len * sz'))).length = cs.length := setCells_len (by omega)
                    rcases hpl with ⟨rfl, rfl, rfl, rfl, hρ⟩ | ⟨b, base, hρ, rfl, hbk, hbk2, hv, _⟩
                    · have hlen0 : len = 0 := by omega
                      subst hlen0
                      have hvs : vs = [] := by have := hr.length; rw [hnl] at this; simpa using this
                      have hrun : (Builtin.copy_ ts o.type #[a.eval x', a.eval y']).run P E.w = .ok (goInt (min n 0 : Nat)) E.w := by
                        have hl0 : Nat.min n 0 = 0 := Nat.min_zero n
                        have hfc' : (Builtin.firstCells sz' 0 (a.eval y')).run P E.w = .ok #[] E.w := by
                          rw [show min n 0 = 0 from Nat.min_zero n, hvs] at hfc; exact hfc
                        simp [Builtin.copy_, ht, e1, run_underlying hu, hl, hl0, run_sizeOf' h3, hfc']
                      have hns : setCells [] 0 (new.take (min n 0 * sz')) = [] := List.length_eq_zero_iff.1 hsc
                      rw [hns] at hbody
                      have hr2 := relay (o' := ⟨ver, body'⟩) (p := none) hw hq (by show q.ver ≤ ver; omega) (fun _ => ⟨by
                        rcases hbody with ⟨rfl, hqb⟩ | ⟨s, rfl, hqb⟩
                        · rw [hqb]; exact rfl
                        · rw [hqb]; exact ⟨rfl, rfl⟩, hρ⟩) (Chg.none E i) (fun _ _ _ h => by cases h) (fun _ => by
                        unfold ObjRel
                        rcases hbody with ⟨rfl, hqb⟩ | ⟨s, rfl, hqb⟩
                        · exfalso
                          have := hw.obj i q hq
                          unfold ObjRel at this
                          rw [hqb] at this
                          obtain ⟨b, base, h1, _⟩ := this
                          rw [hρ] at h1; cases h1
                        · exact .inl ⟨rfl, put_ρ hw hq⟩)
                      refine ⟨goInt (min n 0 : Nat), E.w, .inl ?_, .put hr2 rfl⟩
                      simp [execOp, ho, resolve, invoke, builtin, hrun]
                    · have hL := lay_write (E := E) (body' := body') (cs := setCells cs off (new.take (min n len * sz'))) (new := new.take (min n len * sz')) (off := off) (m := base + cs.length) (ver := ver) hw hq
                        (by rcases hbody with ⟨_, hqb⟩ | ⟨s, _, hqb⟩ <;> rw [hqb] <;> rfl) hρ (by omega)
                        (fun _ => by rcases hbody with ⟨rfl, hqb⟩ | ⟨s, rfl, hqb⟩ <;> rw [hqb] <;> simp [sameShape, hsc])
                        (by rcases hbody with ⟨rfl, _⟩ | ⟨s, rfl, _⟩
                            · exact .inl rfl
                            · exact .inr ⟨s, rfl⟩) hbk2 (by rw [hsc]; exact Nat.le_refl _) (by rw [hsc]; omega)
                        ⟨cs, hb, fun k => ⟨fun hk => by rw [setCells_get (by omega), if_pos hk], fun hk => by rw [setCells_get (by omega), if_neg hk]⟩⟩ hr hat'
                        (fun hrow => ⟨htr', by
                          rcases hbody with ⟨rfl, _⟩ | ⟨s, _, hqb⟩
                          · obtain ⟨_, h⟩ := hrow; cases h
                          · exact ⟨_, _, _, hqb⟩⟩)
                      have hst := run_storeCells_cells (P := P) b (base + off) vs 0 E.w (fun k hk => by have := (hbk2.cell (k := base + off + k) (by have := hr.length; omega)).1; simpa using this) (fun k hk => by have := (hbk2.cell (k := base + off + k) (by have := hr.length; omega)).2; simpa using this) h1'
                      simp only [Nat.add_zero] at hst
                      have hrun : (Builtin.copy_ ts o.type #[a.eval x', a.eval y']).run P E.w = .ok (goInt (min n len : Nat)) (E.w.setCells b (base + off) vs) := by
                        have hmin : Nat.min n len = min n len := rfl
                        simp [Builtin.copy_, ht, e1, run_underlying hu, hl, hmin, run_sizeOf' h3, hfc, hst]
                      refine ⟨goInt (min n len : Nat), _, .inl ?_, .put hL rfl⟩
                      simp [execOp, ho, resolve, invoke, builtin, hrun]
                  split at h
                  · rename_i cs hqb
                    split at h
                    · rename_i hle
                      obtain ⟨rfl, rfl⟩ := some_pair h
                      exact way cs _ (by rw [hqb]; rfl) (.inl ⟨rfl, hqb⟩) hle
                    · cases h
                  · rename_i s cs hqb
                    split at h
                    · rename_i hle
                      obtain ⟨rfl, rfl⟩ := some_pair h
                      exact way cs _ (by rw [hqb]; rfl) (.inr ⟨s, rfl, hqb⟩) hle
                    · cases h
                  · cases h
              · cases h
          · cases h
        · cases h
      · cases h3
    · cases h3
  · cases hc

end Go.Ev
