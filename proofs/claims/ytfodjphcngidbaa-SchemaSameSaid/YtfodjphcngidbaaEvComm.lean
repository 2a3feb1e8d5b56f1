/- Operations that may be taken in either order. -/
import Derived.Test.YtfodjphcngidbaaEvStep
set_option linter.unusedSimpArgs false
set_option linter.unusedVariables false
namespace Go.Ev

theorem ev_congr {sl sl' : List AV} {x : MX} (h : ∀ n ∈ x.slots, sl.getD n .undef = sl'.getD n .undef) : ev sl x = ev sl' x := by
  cases x with
  | s n => exact h n (by simp [MX.slots])
  | c a => rfl
theorem evs_congr {sl sl' : List AV} {xs : List MX} (h : ∀ n ∈ xs.flatMap MX.slots, sl.getD n .undef = sl'.getD n .undef) : xs.map (ev sl) = xs.map (ev sl') :=
  List.map_congr_left fun x hx => ev_congr fun n hn => h n (List.mem_flatMap.2 ⟨x, hx, hn⟩)
theorem evO_congr {sl sl' : List AV} {x : Option MX} (h : ∀ n ∈ x.toList.flatMap MX.slots, sl.getD n .undef = sl'.getD n .undef) : x.map (ev sl) = x.map (ev sl') := by
  cases x with
  | none => rfl
  | some x => simp only [Option.map_some]; rw [ev_congr fun n hn => h n (by simpa using hn)]
theorem evP_congr {sl sl' : List AV} {ps : List (Nat × Nat × MX)} (h : ∀ n ∈ ps.flatMap (fun p => p.2.2.slots), sl.getD n .undef = sl'.getD n .undef) :
    ps.map (fun p => (p.1, p.2.1, ev sl p.2.2)) = ps.map (fun p => (p.1, p.2.1, ev sl' p.2.2)) :=
  List.map_congr_left fun x hx => by rw [ev_congr fun n hn => h n (List.mem_flatMap.2 ⟨x, hx, hn⟩)]

theorem objCells_congr {H H' : List AObj} {i ver : Nat} (h : H[i]? = H'[i]?) : objCells H i ver = objCells H' i ver := by
  simp only [objCells, h]
theorem srcCells_congr {H H' : List AObj} {ysrc : Option Nat} (h : ∀ i ∈ ysrc.toList, H[i]? = H'[i]?) (sz : Nat) (a : AV) : srcCells H ysrc sz a = srcCells H' ysrc sz a := by
  cases a <;> try rfl
  rename_i i ver off len sz'
  simp only [srcCells]
  by_cases he : ysrc = some i ∧ sz' = sz
  · rw [if_pos he, if_pos he, objCells_congr (h i (by simp [he.1]))]
  · rw [if_neg he, if_neg he]
theorem load1_congr {H H' : List AObj} {o : Option Nat} (h : ∀ i ∈ o.toList, H[i]? = H'[i]?) (a : AV) : load1 H o a = load1 H' o a := by
  cases o <;> cases a <;> try rfl
  rename_i i j ver off
  simp only [load1]
  by_cases he : i = j
  · subst he; simp only [objCells_congr (h i (by simp))]
  · simp [he]
theorem loadCells_congr {H H' : List AObj} {o : Option Nat} (h : ∀ i ∈ o.toList, H[i]? = H'[i]?) (a : AV) (n : Nat) : loadCells H o a n = loadCells H' o a n := by
  cases o <;> cases a <;> try rfl
  rename_i i j ver off
  simp only [loadCells]
  by_cases he : i = j
  · subst he; simp only [objCells_congr (h i (by simp))]
  · simp [he]
theorem treeCell_congr {H H' : List AObj} {fz : List Nat} (h : ∀ i ∈ fz, H[i]? = H'[i]?) : treeCell H fz = treeCell H' fz := by
  funext a
  cases a <;> try rfl
  rename_i i ver off len sz
  simp only [treeCell]
  by_cases he : fz.contains i = true
  · rw [if_pos he, if_pos he, h i (by simpa using he)]
  · rw [if_neg he, if_neg he]
theorem freezeAll_congr {H H' : List AObj} : ∀ {fz : List Nat}, (∀ i ∈ fz, H[i]? = H'[i]?) → freezeAll H fz = freezeAll H' fz
  | [], _ => rfl
  | i :: fz, h => by simp only [freezeAll, h i (List.mem_cons_self ..), freezeAll_congr fun j hj => h j (List.mem_cons_of_mem _ hj)]
theorem passCell_congr {H H' : List AObj} {objs fzs : List Nat} (h1 : ∀ i ∈ objs, H[i]? = H'[i]?) (h2 : ∀ i ∈ fzs, H[i]? = H'[i]?) : passCell H objs fzs = passCell H' objs fzs := by
  funext a
  cases a <;> try rfl
  · rename_i i ver off len sz
    simp only [passCell]
    cases hk : objs.idxOf? i with
    | some k => simp only [h1 i (List.mem_of_getElem? (idx_some hk))]
    | none =>
      simp only []
      by_cases he : fzs.contains i = true
      · rw [if_pos he, if_pos he, objCells_congr (h2 i (by simpa using he))]
      · rw [if_neg he, if_neg he]
  · rename_i i ver off
    simp only [passCell]
    cases hk : objs.idxOf? i with
    | some k => simp only [h1 i (List.mem_of_getElem? (idx_some hk))]
    | none => rfl
theorem passV_congr {H H' : List AObj} {objs fzs : List Nat} (h1 : ∀ i ∈ objs, H[i]? = H'[i]?) (h2 : ∀ i ∈ fzs, H[i]? = H'[i]?) : passV H objs fzs = passV H' objs fzs := by
  funext a
  cases a <;> simp only [passV, passCell_congr h1 h2]
theorem passObjs_congr {H H' : List AObj} {objs fzs : List Nat} (h1 : ∀ i ∈ objs, H[i]? = H'[i]?) (h2 : ∀ i ∈ fzs, H[i]? = H'[i]?) : ∀ {l : List Nat}, (∀ i ∈ l, H[i]? = H'[i]?) → passObjs H objs fzs l = passObjs H' objs fzs l
  | [], _ => rfl
  | i :: l, h => by
    have hb : passBody H objs fzs = passBody H' objs fzs := by funext b; cases b <;> simp only [passBody, passCell_congr h1 h2]
    simp only [passObjs, h i (List.mem_cons_self ..), hb, passObjs_congr h1 h2 fun j hj => h j (List.mem_cons_of_mem _ hj)]
theorem backCell_congr {H H' H1 : List AObj} {objs : List Nat} {ret : List (Nat × Nat)} (h1 : ∀ i ∈ objs, H[i]? = H'[i]?) (h2 : ∀ i ∈ ret.map (·.2), H[i]? = H'[i]?) : backCell H H1 objs ret = backCell H' H1 objs ret := by
  funext a
  cases a <;> try rfl
  · rename_i k ver off len sz
    simp only [backCell]
    cases H1[k]? with
    | none => rfl
    | some o =>
      simp only []
      split
      · cases hk : objs[k]? with
        | some i => simp only [h1 i (List.mem_of_getElem? hk)]
        | none =>
          simp only []
          cases hl : ret.lookup k with
          | some t => simp only [h2 t (List.mem_map_of_mem (lookup_mem hl))]
          | none => rfl
      · rfl
  · rename_i k ver off
    simp only [backCell]
    cases H1[k]? with
    | none => rfl
    | some o =>
      simp only []
      split
      · cases hk : objs[k]? with
        | some i => simp only [h1 i (List.mem_of_getElem? hk)]
        | none => rfl
      · rfl
theorem backR_congr {H H' H1 : List AObj} {objs : List Nat} {ret : List (Nat × Nat)} (h1 : ∀ i ∈ objs, H[i]? = H'[i]?) (h2 : ∀ i ∈ ret.map (·.2), H[i]? = H'[i]?) : backR H H1 objs ret = backR H' H1 objs ret := by
  have hV : backV H H1 objs ret = backV H' H1 objs ret := by funext a; cases a <;> simp only [backV, backCell_congr h1 h2]
  funext a
  cases a <;> simp only [backR, hV]
theorem backObjs_congr {H H' H1 : List AObj} {objs : List Nat} {ret : List (Nat × Nat)} (h1 : ∀ i ∈ objs, H[i]? = H'[i]?) (h2 : ∀ i ∈ ret.map (·.2), H[i]? = H'[i]?) :
    ∀ {l : List Nat} {L : List AObj}, (∀ i ∈ l, H[i]? = H'[i]?) → backObjs H H1 objs ret l L = backObjs H' H1 objs ret l L
  | [], _, _ => by simp only [backObjs]
  | i :: l, [], _ => by simp only [backObjs]
  | i :: l, o :: L, h => by
    have hb : backBody H H1 objs ret = backBody H' H1 objs ret := by funext b; cases b <;> simp only [backBody, backCell_congr h1 h2]
    simp only [backObjs, h i (List.mem_cons_self ..), hb, backObjs_congr h1 h2 fun j hj => h j (List.mem_cons_of_mem _ hj)]
theorem adopts_congr {H H' H1 : List AObj} : ∀ {ret : List (Nat × Nat)}, (∀ i ∈ ret.map (·.2), H[i]? = H'[i]?) → adopts H H1 ret = adopts H' H1 ret
  | [], _ => rfl
  | (k, t) :: ret, h => by
    simp only [adopts, h t (by simp), adopts_congr (ret := ret) fun j hj => h j (by rw [List.map_cons]; exact List.mem_cons_of_mem _ hj)]

theorem callV_congr {cf : CallF} {H H' : List AObj} {f : AV} {args : List AV} {objs fzs : List Nat} {ret : List (Nat × Nat)} {frz : Bool}
    (h1 : ∀ i ∈ objs, H[i]? = H'[i]?) (h2 : ∀ i ∈ fzs, H[i]? = H'[i]?) (h3 : ∀ i ∈ ret.map (·.2), H[i]? = H'[i]?) : callV cf H f args objs fzs ret frz = callV cf H' f args objs fzs ret frz := by
  cases f <;> try rfl
  simp only [callV, passV_congr h1 h2, passObjs_congr h1 h2 h1, backR_congr h1 h3, backObjs_congr h1 h3 h1, adopts_congr h3, freezeAll_congr h2]

theorem opV_congr {cf : CallF} {sl sl' : List AV} {H H' : List AObj} (op : MOp) (hs : ∀ n ∈ op.slots, sl.getD n .undef = sl'.getD n .undef) (hH : ∀ i ∈ fpR op, H[i]? = H'[i]?) :
    opV cf sl H op = opV cf sl' H' op := by
  cases op <;> simp only [MOp.slots, List.mem_append, List.flatMap_append] at hs <;> simp only [fpR, List.mem_append, List.mem_cons, List.mem_singleton] at hH
  case mv x => simp only [opV, ev_congr hs]
  case frz fz x => simp only [opV, ev_congr hs, treeCell_congr (fz := fz) hH, freezeAll_congr (fz := fz) hH]
  case vnil t sz => simp only [opV, hH t (.inl rfl)]
  case pick c a b => simp only [opV, ev_congr (x := c) fun n h => hs n (.inl (.inl h)), ev_congr (x := a) fun n h => hs n (.inl (.inr h)), ev_congr (x := b) fun n h => hs n (.inr h)]
  case alloc t zs => simp only [opV, hH t (.inl rfl)]
  case box t x => simp only [opV, hH t (.inl rfl), ev_congr hs]
  case build zs ps => simp only [opV, evP_congr hs]
  case lit t fz len sz zs ps =>
    simp only [opV, evP_congr hs, treeCell_congr (fz := fz) fun i h => hH i (.inr h), freezeAll_congr (fz := fz) fun i h => hH i (.inr h)]
    cases t with
    | none => rfl
    | some t => simp only [hH t (.inl (by simp))]
  case load n o x =>
    cases n with
    | none => simp only [opV, ev_congr hs, load1_congr hH]
    | some n => simp only [opV, ev_congr hs, loadCells_congr hH]
  case store n o fz x v =>
    simp only [opV, ev_congr (x := x) fun n h => hs n (.inl h), ev_congr (x := v) fun n h => hs n (.inr h), treeCell_congr (fz := fz) fun i h => hH i (.inr h), freezeAll_congr (fz := fz) fun i h => hH i (.inr h)]
    cases ev sl' x <;> try rfl
    rename_i j ver off
    simp only []
    by_cases he : o = j
    · subst he; simp only [hH o (.inl rfl)]
    · simp [he]
  case nilchk x => simp only [opV, ev_congr hs]
  case bin op tc x y => simp only [opV, ev_congr (x := x) fun n h => hs n (.inl h), ev_congr (x := y) fun n h => hs n (.inr h)]
  case un op x => simp only [opV, ev_congr hs]
  case conv k x => simp only [opV, ev_congr hs]
  case b2s o x => simp only [opV, ev_congr hs, srcCells_congr hH]
  case faddr off x => simp only [opV, ev_congr hs]
  case iaddrA len sz x i => simp only [opV, ev_congr (x := x) fun n h => hs n (.inl h), ev_congr (x := i) fun n h => hs n (.inr h)]
  case iaddrS sz x i => simp only [opV, ev_congr (x := x) fun n h => hs n (.inl h), ev_congr (x := i) fun n h => hs n (.inr h)]
  case index len sz ag x i => simp only [opV, ev_congr (x := x) fun n h => hs n (.inl h), ev_congr (x := i) fun n h => hs n (.inr h)]
  case field off n x => simp only [opV, ev_congr hs]
  case len x => simp only [opV, ev_congr hs]
  case lenK n => simp only [opV]
  case minmax mx xs => simp only [opV, evs_congr hs]
  case sliceS sz x lo hi =>
    simp only [opV, ev_congr (x := x) fun n h => hs n (.inl h), evO_congr (x := lo) fun n h => hs n (.inr (.inl h)), evO_congr (x := hi) fun n h => hs n (.inr (.inr h))]
  case sliceA n sz o x lo hi =>
    simp only [opV, ev_congr (x := x) fun n h => hs n (.inl h), evO_congr (x := lo) fun n h => hs n (.inr (.inl h)), evO_congr (x := hi) fun n h => hs n (.inr (.inr h))]
    cases sliceBounds n (lo.map (ev sl')) (hi.map (ev sl')) <;> try rfl
    cases ev sl' x <;> try rfl
    rename_i j ver off
    simp only []
    by_cases he : o = some j
    · subst he; simp only [objCells_congr (hH j (by simp))]
    · simp [he]
  case append bytes sz t ysrc x y =>
    simp only [opV, ev_congr (x := x) fun n h => hs n (.inl h), ev_congr (x := y) fun n h => hs n (.inr h), srcCells_congr (ysrc := ysrc) fun i h => hH i (.inr h), hH t (.inl rfl)]
  case call f args objs fzs ret frz =>
    simp only [opV, ev_congr (x := f) fun n h => hs n (.inl h), evs_congr (xs := args) fun n h => hs n (.inr h)]
    exact callV_congr (fun i h => hH i (.inl (.inl h))) (fun i h => hH i (.inl (.inr h))) (fun i h => hH i (.inr h))
  case extract x i => simp only [opV, ev_congr hs]
  case make t bytes sz zs len cap => simp only [opV, ev_congr (x := len) fun n h => hs n (.inl h), ev_congr (x := cap) fun n h => hs n (.inr h), hH t (.inl rfl)]
  case copy sz o ysrc x y =>
    simp only [opV, ev_congr (x := x) fun n h => hs n (.inl h), ev_congr (x := y) fun n h => hs n (.inr h), srcCells_congr (ysrc := ysrc) fun i h => hH i (.inr h)]
    cases srcCells H' ysrc sz (ev sl' y) <;> try rfl
    cases ev sl' x <;> try rfl
    rename_i j ver off len sz'
    simp only []
    by_cases he : o = j
    · subst he; simp only [hH o (.inl rfl)]
    · simp [he]
  case mkfn f xs ys => simp only [opV, evs_congr (xs := xs) fun n h => hs n (.inl h), evs_congr (xs := ys) fun n h => hs n (.inr h)]

end Go.Ev
