/- The evaluator, its soundness (texts put together: EvOps6 EvOps7 EvOps8 EvOps9 EvOpsA EvMap EvCall EvBack). -/
import Derived.Laws.MakeOwn
import Derived.Laws.BytesString
import Derived.MapKept
import Derived.Carry
import Derived.Test.YtpohmfihpnineaaEvGa
set_option linter.unusedSimpArgs false
set_option linter.unusedVariables false
section
namespace Go.Ev
variable {P : Program} {E : Env} {o : Oper} {a : Act} {sl : List AV} {cf : CallF} {r : AV} {ups : List (Nat × AObj)}

theorem zeroB_rel {t : TypeId} {zs : List AV} (h : zeroB P t zs = true) : ∃ i z, P.info? t = some i ∧ i.zero = some z ∧ (∀ E : Env, LRel E zs z.cells.toList) ∧ zs.all AV.atom = true := by
  unfold zeroB at h
  split at h
  · rename_i i hi
    split at h
    · rename_i z hz
      simp only [Bool.and_eq_true] at h
      exact ⟨i, z, hi, hz, fun _ => constL_rel _ _ h.1, h.2⟩
    · cases h
  · cases h

theorem places_of : ∀ (fs : List Field), fs.all (fun f => (P.info? f.type).isSome) = true →
    ∃ places, fs.mapM (fun f => (P.info? f.type).map fun i => (f.offset, i.size)) = some places ∧ ∀ (i : Nat) (f : Field) (inf : TypeInfo), fs[i]? = some f → P.info? f.type = some inf → places[i]? = some (f.offset, inf.size)
  | [], _ => ⟨[], rfl, fun i f inf h => by simp at h⟩
  | f :: fs, h => by
    simp only [List.all_cons, Bool.and_eq_true] at h
    obtain ⟨inf, hi⟩ := Option.isSome_iff_exists.1 h.1
    obtain ⟨places, hp, hg⟩ := places_of fs h.2
    refine ⟨(f.offset, inf.size) :: places, by simp [List.mapM_cons, hi, hp], fun i g inf' h1 h2 => ?_⟩
    cases i with
    | zero => simp at h1; subst h1; rw [hi] at h2; cases h2; rfl
    | succ i => simpa using hg i g inf' (by simpa using h1) h2

theorem partsS_rel (hs : ARel E sl a) {fs : Array Field} : ∀ {ps : List (Nat × Nat × MX)} {qs : List (Nat × Operand)}, partsS P fs ps qs = true →
    ps.length = qs.length ∧ ∀ (j : Nat) (p : Nat × Nat × MX) (q : Nat × Operand), ps[j]? = some p → qs[j]? = some q → (∃ f inf, fs[q.1]? = some f ∧ P.info? f.type = some inf ∧ f.offset = p.1 ∧ inf.size = p.2.1) ∧ VRel E (ev sl p.2.2) (a.eval q.2)
  | [], [], _ => ⟨rfl, fun j p q h => by simp at h⟩
  | [], _ :: _, h => by simp [partsS] at h
  | _ :: _, [], h => by simp [partsS] at h
  | (off, n, x) :: ps, (i, y) :: qs, h => by
    simp only [partsS, Bool.and_eq_true] at h
    obtain ⟨⟨h1, h2⟩, h3⟩ := h
    obtain ⟨h4, h5⟩ := partsS_rel hs h3
    refine ⟨by simp [h4], fun j p q hp hq => ?_⟩
    cases j with
    | zero =>
      simp at hp hq
      subst hp; subst hq
      refine ⟨?_, ev_rel hs h2⟩
      split at h1
      · rename_i f hf
        simp only [Bool.and_eq_true, beq_iff_eq] at h1
        obtain ⟨inf, hi, hz⟩ := szB_info h1.2
        exact ⟨f, inf, hf, hi, h1.1, hz⟩
      · cases h1
    | succ j => exact h5 j p q (by simpa using hp) (by simpa using hq)
theorem partsA_rel (hs : ARel E sl a) {sz : Nat} : ∀ {ps : List (Nat × Nat × MX)} {qs : List (Nat × Operand)}, partsA sz ps qs = true →
    ps.length = qs.length ∧ ∀ (j : Nat) (p : Nat × Nat × MX) (q : Nat × Operand), ps[j]? = some p → qs[j]? = some q → (p.1 = q.1 * sz ∧ p.2.1 = sz) ∧ VRel E (ev sl p.2.2) (a.eval q.2)
  | [], [], _ => ⟨rfl, fun j p q h => by simp at h⟩
  | [], _ :: _, h => by simp [partsA] at h
  | _ :: _, [], h => by simp [partsA] at h
  | (off, n, x) :: ps, (i, y) :: qs, h => by
    simp only [partsA, Bool.and_eq_true, beq_iff_eq] at h
    obtain ⟨⟨⟨h1, h1'⟩, h2⟩, h3⟩ := h
    obtain ⟨h4, h5⟩ := partsA_rel hs h3
    refine ⟨by simp [h4], fun j p q hp hq => ?_⟩
    cases j with
    | zero =>
      simp at hp hq
      subst hp; subst hq
      exact ⟨⟨h1, h1'⟩, ev_rel hs h2⟩
    | succ j => exact h5 j p q (by simpa using hp) (by simpa using hq)

theorem op_build (hw : WRel E) (hs : ARel E sl a) {zs : List AV} {ps : List (Nat × Nat × MX)} (hc : chkOp P (.build zs ps) o.op = true) (h : opV cf sl E.H (.build zs ps) = some (r, ups)) : OpOk P E o a.eval r ups := by
  simp only [chkOp] at hc
  split at hc
  · rename_i t qs ho
    simp only [Bool.and_eq_true] at hc
    obtain ⟨hz, hc⟩ := hc
    obtain ⟨it, z, hit, hz, hzr, _⟩ := zeroB_rel hz
    simp only [opV] at h
    cases hf : fillV zs (ps.map fun p => (p.1, p.2.1, ev sl p.2.2)) with
    | none => rw [hf] at h; cases h
    | some cs =>
      rw [hf] at h
      obtain ⟨rfl, rfl⟩ := some_pair h
      have done : ∀ arr, P.built t (qs.map fun (i, x) => (i, a.eval x)).toList = some arr → LRel E cs arr.toList → OpOk P E o a.eval (.agg cs) [] := by
        intro arr hb hr
        refine .pure hw (v := .agg arr) (by simp only [execOp, ho, Sem.run_bind, run_build E.w t _ arr hb, Result.andThen_ok, Sem.run_pure]) ?_
        simp only [VRel]
        exact ⟨_, rfl, hr⟩
      have hml : (qs.map fun (i, x) => (i, a.eval x)).toList = qs.toList.map fun q => (q.1, a.eval q.2) := by simp
      split at hc
      · rename_i fs hu
        simp only [Bool.and_eq_true] at hc
        obtain ⟨hall, hp⟩ := hc
        obtain ⟨hl, hp⟩ := partsS_rel hs hp
        obtain ⟨places, hpl, hg⟩ := places_of (P := P) fs.toList (by simpa using hall)
        obtain ⟨arr, h1, h2⟩ := fill_rel (E := E) (places.toArray[·]?) _ (qs.toList.map fun q => (q.1, a.eval q.2)) zs z.cells cs (hzr E) (by simpa using hl) (fun j p q h1 h2 => by
          rw [List.getElem?_map] at h1 h2
          obtain ⟨p', hp', rfl⟩ := Option.map_eq_some_iff.1 h1
          obtain ⟨q', hq', rfl⟩ := Option.map_eq_some_iff.1 h2
          obtain ⟨⟨f, inf, h3, h4, h5, h6⟩, h7⟩ := hp j p' q' hp' hq'
          refine ⟨?_, h7⟩
          have := hg q'.1 f inf (by simpa using h3) h4
          simpa [h5, h6] using this) hf
        exact done arr (by rw [hml]; simp only [Program.built, hit, hu, hz, hpl]; exact h1) h2
      · rename_i n e hu
        split at hc
        · rename_i ie hie
          obtain ⟨hl, hp⟩ := partsA_rel hs hc
          obtain ⟨arr, h1, h2⟩ := fill_rel (E := E) (fun i => some (i * ie.size, ie.size)) _ (qs.toList.map fun q => (q.1, a.eval q.2)) zs z.cells cs (hzr E) (by simpa using hl) (fun j p q h1 h2 => by
            rw [List.getElem?_map] at h1 h2
            obtain ⟨p', hp', rfl⟩ := Option.map_eq_some_iff.1 h1
            obtain ⟨q', hq', rfl⟩ := Option.map_eq_some_iff.1 h2
            obtain ⟨⟨h5, h6⟩, h7⟩ := hp j p' q' hp' hq'
            exact ⟨by simp [h5, h6], h7⟩) hf
          exact done arr (by rw [hml]; simp only [Program.built, hit, hu, hz, hie]; exact h1) h2
        · cases hc
      · cases hc
  · cases hc

def OCells (E : Env) (i off cap sz : Nat) (cs : List AV) (ad : Option Addr) : Prop :=
  (cs = [] ∧ off = 0 ∧ ad = none ∧ cap = 0 ∧ E.ρ[i]? = some none) ∨
    ∃ b base, E.ρ[i]? = some (some (b, base)) ∧ ad = some ⟨b, base + off, none⟩ ∧ Blk E.w b (base + off + cap * sz) ∧ Blk E.w b (base + cs.length) ∧ VCells E cs b base ∧ VCells E (cs.drop off) b (base + off)
theorem ORel.cells (hw : WRel E) {i ver off len sz : Nat} {v : Value} {cs : List AV} (hx : ORel E i ver off len sz v) (h : objCells E.H i ver = some cs) :
    ∃ ad cap, v = .slice ad len cap ∧ len ≤ cap ∧ off + len * sz ≤ cs.length ∧ OCells E i off cap sz cs ad := by
  obtain ⟨q, hq, hv, hb, hpl⟩ := objCells_rel hw h
  obtain ⟨ad, cap, rfl, hle, _, q', hq', _, hf⟩ := hx
  rw [hq] at hq'
  cases hq'
  have hf := hf hv.symm
  refine ⟨ad, cap, rfl, hle, ?_⟩
  have placed : PlacedS E i off cap sz ad → OCells E i off cap sz cs ad := fun hp => by
    obtain ⟨b, base, h1, h2, h3⟩ := hp
    rcases hpl with ⟨_, h4⟩ | ⟨b', base', h4, h5, h6⟩
    · rw [h1] at h4; cases h4
    · rw [h1] at h4; cases h4
      exact .inr ⟨b, base, h1, h2, h3, h5, h6, h6.drop off⟩
  cases hbb : q.body with
  | none => rw [hbb] at hb; cases hb
  | map _ _ => rw [hbb] at hb; cases hb
  | var ds => rw [hbb] at hb hf; cases hb; exact ⟨hf.1, placed hf.2⟩
  | row _ _ ds =>
    rw [hbb] at hb hf
    cases hb
    refine ⟨hf.1, ?_⟩
    rcases hf.2 with h1 | ⟨h1, h2, h3, h4⟩
    · exact placed h1
    · refine .inl ⟨h1, ?_, h3, h4, h2⟩
      have := hf.1
      rw [h1] at this
      simp at this
      omega

theorem srcCells_rel (hw : WRel E) {ysrc : Option Nat} {sz n : Nat} {y : AV} {cs : List AV} {v : Value} {tx : TypeId} (ht : isSliceB P tx = true) (h : srcCells E.H ysrc sz y = some (n, cs)) (hy : VRel E y v) :
    ∃ vs, Src P sz tx v n vs E.w ∧ LRel E cs vs ∧ cs.all AV.tree = true ∧ cs.length = n * sz := by
  obtain ⟨e', hk⟩ : ∃ e', P.underlying tx = some (.slice e') := by
    unfold isSliceB at ht
    split at ht
    · exact ⟨_, by assumption⟩
    · cases ht
  have fin : ∀ {ds : List AV} {b off cap : Nat}, VCells E ds b off → ds.all AV.tree = true → ds.length = n * sz →
      ∃ vs, Src P sz tx (.slice (some ⟨b, off, none⟩) n cap) n vs E.w ∧ LRel E ds vs ∧ ds.all AV.tree = true ∧ ds.length = n * sz := by
    intro ds b off cap hv htr hl
    obtain ⟨vs, hr, hrange, h1⟩ := hv.vals
    exact ⟨vs, Src.ofSlice E.w hk _ n cap vs (by rw [hr.length, hl]) (fun j u hj => by rw [Addr.add_mid]; exact hrange j u hj) h1, hr, htr, hl⟩
  unfold srcCells at h
  split at h
  · rename_i n' ds
    split at h
    · rename_i hlen
      cases h
      simp only [VRel] at hy
      obtain ⟨ad, cap, rfl, hle, h3, h4⟩ := hy
      rcases h4 with rfl | ⟨b, off, rfl, _, hc⟩
      · cases ad with
        | none =>
          have h0 : n = 0 := by
            rcases Nat.eq_zero_or_pos n with h | h
            · exact h
            · exact absurd (h3 h) (by simp)
          subst h0
          exact ⟨[], Src.ofNil E.w hk cap, rfl, rfl, by simp⟩
        | some ad =>
          refine ⟨[], ?_, rfl, rfl, hlen⟩
          exact Src.ofSlice E.w hk ad n cap [] (by simpa using hlen) (fun j u hj => by simp at hj) (fun u hu => by cases hu)
      · exact fin hc.toV hc.allTree hlen
    · cases h
  · cases h
    simp only [VRel] at hy
    subst hy
    exact ⟨[], Src.ofNil E.w hk 0, rfl, rfl, by simp⟩
  · cases h
    simp only [VRel] at hy
    obtain ⟨ad, cap, rfl, _⟩ := hy
    cases ad with
    | none => exact ⟨[], Src.ofNil E.w hk cap, rfl, rfl, by simp⟩
    | some ad => exact ⟨[], Src.ofSlice E.w hk ad 0 cap [] (by simp) (fun j u hj => by simp at hj) (fun u hu => by cases hu), rfl, rfl, by simp⟩
  · rename_i i ver off len sz'
    split at h
    · rename_i hcond
      obtain ⟨_, rfl⟩ := hcond
      split at h
      · rename_i ds hds
        split at h
        · rename_i hle
          split at h
          · rename_i htr
            cases h
            obtain ⟨ad, cap, rfl, hlc, _, hpl⟩ := ORel.cells hw (by simpa only [VRel] using hy) hds
            rcases hpl with ⟨rfl, rfl, rfl, rfl, _⟩ | ⟨b, base, _, rfl, _, _, _, hv⟩
            · have h0 : n = 0 := by omega
              subst h0
              exact ⟨[], Src.ofNil E.w hk 0, by simp [LRel], by simp, by simp⟩
            · exact fin (hv.take _) htr (by simp; omega)
          · cases h
        · cases h
      · cases h
    · cases h
  · cases h

theorem bytesOf_rel : ∀ {cs : List AV} {vs : List Value} {l : List UInt8}, LRel E cs vs → bytesOf cs = some l → ∃ ns : List Int, vs = ns.map (.int .u8) ∧ l = ns.map fun n => UInt8.ofNat n.toNat
  | [], vs, l, h, hb => by
    simp only [LRel] at h; subst h
    simp only [bytesOf, Option.some.injEq] at hb; subst hb
    exact ⟨[], rfl, rfl⟩
  | c :: cs, vs, l, h, hb => by
    simp only [LRel] at h
    obtain ⟨v, us, rfl, hv, h⟩ := h
    cases c with
    | int k n => cases k with
      | u8 =>
        simp only [bytesOf] at hb
        obtain ⟨l', hl, rfl⟩ := Option.map_eq_some_iff.1 hb
        obtain ⟨ns, rfl, rfl⟩ := bytesOf_rel h hl
        simp only [VRel] at hv
        subst hv
        exact ⟨n :: ns, rfl, rfl⟩
      | _ => simp [bytesOf] at hb
    | _ => simp [bytesOf] at hb

theorem push_data : ∀ (ns : List Int) (s : ByteArray), (ns.foldl (fun r n => r.push (UInt8.ofNat n.toNat)) s).data.toList = s.data.toList ++ ns.map fun n => UInt8.ofNat n.toNat
  | [], s => by simp
  | n :: ns, s => by
    rw [List.foldl_cons, push_data ns]
    simp [ByteArray.push]

theorem op_b2s (hw : WRel E) (hs : ARel E sl a) {ob : Option Nat} {x : MX} (hc : chkOp P (.b2s ob x) o.op = true) (h : opV cf sl E.H (.b2s ob x) = some (r, ups)) : OpOk P E o a.eval r ups := by
  simp only [chkOp] at hc
  split at hc
  · rename_i s d x' ho
    simp only [Bool.and_eq_true] at hc
    obtain ⟨⟨h1, h2⟩, h3⟩ := hc
    have hx := ev_rel hs h3
    have hd : P.underlying d = some .string := by
      split at h2
      · assumption
      · cases h2
    unfold u8SliceB at h1
    split at h1
    · rename_i e hu
      have he : P.underlying e = some (.int .u8) := by
        split at h1
        · assumption
        · cases h1
      have hsl : isSliceB P s = true := by simp [isSliceB, hu]
      simp only [opV] at h
      split at h
      · rename_i n cs hsrc
        cases hb : bytesOf cs with
        | none => rw [hb] at h; cases h
        | some l =>
          rw [hb] at h
          obtain ⟨rfl, rfl⟩ := some_pair h
          obtain ⟨vs, hS, hr, _, hlen⟩ := srcCells_rel hw hsl hsrc hx
          obtain ⟨ns, rfl, rfl⟩ := bytesOf_rel hr hb
          have hcells := hS.cells
          have hsl' : ∃ ad n' c, a.eval x' = .slice ad n' c := by
            generalize ev sl x = y at hx hsrc
            cases y <;> simp only [srcCells, reduceCtorEq] at hsrc
            · simp only [VRel] at hx; exact ⟨_, _, _, hx⟩
            · simp only [VRel] at hx; obtain ⟨ad, cap, hx, _⟩ := hx; exact ⟨_, _, _, hx⟩
            · simp only [VRel] at hx; obtain ⟨ad, cap, hx, _⟩ := hx; exact ⟨_, _, _, hx⟩
            · simp only [VRel] at hx; obtain ⟨ad, cap, hx, _⟩ := hx; exact ⟨_, _, _, hx⟩
          obtain ⟨ad, n', c, e1⟩ := hsl'
          rw [e1] at hcells
          have hn : n' = n := by
            have := hS.len E.w
            rw [e1] at this
            simp [Builtin.lenOf] at this
            exact this
          subst hn
          have hrun : (Conv.bytesToString (.slice ad n' c)).run P E.w = .ok (.string (ns.foldl (fun r n => r.push (UInt8.ofNat n.toNat)) ByteArray.empty)) E.w := by
            cases ad with
            | none =>
              simp [Builtin.firstCells] at hcells
              subst hcells
              simp [Conv.bytesToString]
            | some ad => 
              refine run_bytesToString E.w ad n' c ns ?_
              simpa [Builtin.firstCells] using hcells
          refine .pure hw (v := .string _) (by simp only [execOp, ho, e1, run_convert_bytes_string E.w s d e ad n' c hu he hd, hrun, Sem.run_bind, Result.andThen_ok, Sem.run_pure]; rfl) ?_
          simp only [VRel]
          exact ⟨_, rfl, by rw [push_data]; rfl⟩
      · cases h
    · cases h1
  · cases hc

end Go.Ev
end
section
namespace Go.Ev
variable {P : Program} {E : Env} {o : Oper} {a : Act} {sl : List AV} {cf : CallF} {r : AV} {ups : List (Nat × AObj)}

theorem put_H {i : Nat} {q q' : AObj} {p : Option (Nat × Nat)} {w' : World} (h : E.H[i]? = some q) : (E.put i q' p w').H[i]? = some q' := set_get_eq h
theorem put_ρ {i : Nat} {q q' : AObj} {p : Option (Nat × Nat)} {w' : World} (hw : WRel E) (h : E.H[i]? = some q) : (E.put i q' p w').ρ[i]? = some p := by
  have : i < E.ρ.length := by rw [hw.len]; exact (List.getElem?_eq_some_iff.1 h).1
  exact List.getElem?_set_self this

theorem op_vnil (hw : WRel E) {t sz : Nat} (hc : chkOp P (.vnil t sz) o.op = true) (h : opV cf sl E.H (.vnil t sz) = some (r, ups)) : OpOk P E o a.eval r ups := by
  have hrun : (execOp a.eval o).run P E.w = .ok (.value (.slice none 0 0)) E.w := by
    simp only [chkOp] at hc
    split at hc
    · rename_i ho; simp [execOp, ho, Act.eval]
    · rename_i ho; simp [execOp, ho, Act.eval]
    · cases hc
  simp only [opV] at h
  split at h
  · rename_i q hq
    obtain ⟨rfl, rfl⟩ := some_pair h
    have hr := relay (o' := ⟨q.ver + 1, .row true sz []⟩) (p := none) hw hq (Nat.le_succ _) (fun e => by simp at e) (Chg.none E t) (fun _ _ _ h => by cases h) (fun _ => .inl ⟨rfl, put_ρ hw hq⟩)
    refine ⟨_, _, .inl hrun, .put hr ?_⟩
    simp only [VRel]
    exact ⟨none, 0, rfl, Nat.le_refl _, fun h => by omega, _, put_H hq, Nat.le_refl _, fun _ => ⟨by simp, .inr ⟨rfl, put_ρ hw hq, rfl, rfl⟩⟩⟩
  · cases h

theorem lay_new (hw : WRel E) {i : Nat} {q : AObj} (hq : E.H[i]? = some q) {body : ABody} {cs : List AV} (hb : body = .var cs ∨ ∃ sz, body = .row true sz cs ∧ cs.all AV.tree = true) {w1 : World} (hc : Chg E i w1)
    (arr : Array Value) (e : TypeId) (hcs : ∀ (j : Nat) (c : AV), cs[j]? = some c → c.atom = true ∧ ∃ v, arr.toList[j]? = some v ∧ VRel E c v) :
    (WRel (E.put i ⟨q.ver + 1, body⟩ (some (w1.heap.size, 0)) (w1.alloc (.cells arr e))) ∧ Step E (E.put i ⟨q.ver + 1, body⟩ (some (w1.heap.size, 0)) (w1.alloc (.cells arr e)))) ∧
      Blk (w1.alloc (.cells arr e)) w1.heap.size arr.size := by
  have hnew : (w1.alloc (.cells arr e)).heap[w1.heap.size]? = some (.cells arr e (0, 0)) := by
    show (w1.heap.push _)[w1.heap.size]? = _
    simp
  have hblk : Blk (w1.alloc (.cells arr e)) w1.heap.size arr.size := ⟨arr, e, hnew, Nat.le_refl _⟩
  have hlen : cs.length ≤ arr.size := by
    rcases Nat.eq_zero_or_pos cs.length with h | h
    · omega
    · obtain ⟨_, v, hv, _⟩ := hcs (cs.length - 1) (cs[cs.length - 1]'(by omega)) (List.getElem?_eq_getElem (by omega))
      have := (List.getElem?_eq_some_iff.1 hv).1
      simp at this
      omega
  refine ⟨relay hw hq (Nat.le_succ _) (fun e => by simp at e) (hc.alloc _) (fun b base _ h => by cases h; exact .inr hc.size) (fun hst => ?_), hblk⟩
  have hv : VCells (E.put i ⟨q.ver + 1, body⟩ (some (w1.heap.size, 0)) (w1.alloc (.cells arr e))) cs w1.heap.size 0 := by
    intro j c hj
    obtain ⟨h1, v, h2, h3⟩ := hcs j c hj
    refine ⟨h1, v, ?_, VRel.mono hst h3⟩
    show (w1.alloc (.cells arr e)).cell? ⟨w1.heap.size, 0 + j, none⟩ = some v
    rw [World.cell?_alloc_new, Nat.zero_add]
    simpa using h2
  unfold ObjRel
  rcases hb with rfl | ⟨sz, rfl, ht⟩
  · exact ⟨_, 0, put_ρ hw hq, hblk.le (by omega), hv⟩
  · exact .inr ⟨_, 0, put_ρ hw hq, hblk.le (by omega), hv.toC ht, fun h => by cases h⟩

theorem all_get {cs : List AV} {p : AV → Bool} (h : cs.all p = true) {j : Nat} {c : AV} (hj : cs[j]? = some c) : p c = true := List.all_eq_true.1 h c (List.mem_of_getElem? hj)

theorem ptr_new (hw : WRel E) {i b : Nat} {q q' : AObj} {w' : World} (hq : E.H[i]? = some q) : VRel (E.put i q' (some (b, 0)) w') (.ptr i q'.ver 0) (.pointer (some ⟨b, 0, none⟩)) := by
  simp only [VRel]
  exact ⟨_, rfl, _, put_H hq, Nat.le_refl _, fun _ => ⟨b, 0, put_ρ hw hq, rfl⟩⟩

theorem own_new (hw : WRel E) {i b ver n cap sz : Nat} {q : AObj} {cs : List AV} {w' : World} (hq : E.H[i]? = some q) (hl : n * sz ≤ cs.length) (hn : n ≤ cap) (hb : Blk w' b (cap * sz)) :
    VRel (E.put i ⟨ver, .row true sz cs⟩ (some (b, 0)) w') (.own i ver 0 n sz) (.slice (some ⟨b, 0, none⟩) n cap) := by
  simp only [VRel]
  exact ⟨_, cap, rfl, hn, fun _ => rfl, _, put_H hq, Nat.le_refl _, fun _ => ⟨by simpa using hl, .inl ⟨b, 0, put_ρ hw hq, rfl, by show Blk w' b (0 + 0 + cap * sz); simpa using hb⟩⟩⟩

theorem op_alloc (hw : WRel E) {t : Nat} {zs : List AV} (hc : chkOp P (.alloc t zs) o.op = true) (h : opV cf sl E.H (.alloc t zs) = some (r, ups)) : OpOk P E o a.eval r ups := by
  simp only [chkOp] at hc
  split at hc
  · rename_i e ho
    obtain ⟨i, z, hi, hz, hr, hat⟩ := zeroB_rel hc
    simp only [opV] at h
    split at h
    · rename_i q hq
      obtain ⟨rfl, rfl⟩ := some_pair h
      have hn := lay_new hw hq (.inl rfl : (ABody.var zs) = .var zs ∨ _) (Chg.none E t) z.cells e (fun j c hj => by
        obtain ⟨v, h1, h2⟩ := (hr E).get j c hj
        exact ⟨all_get hat hj, v, h1, h2⟩)
      refine ⟨.pointer (some ⟨E.w.heap.size, 0, none⟩), _, .inl ?_, .put hn.1 (ptr_new hw hq)⟩
      simp [execOp, ho, Instr.alloc, zeroValue, typeInfo, hi, hz, newVar, newRow]
    · cases h
  · cases hc

theorem op_box (hw : WRel E) (hs : ARel E sl a) {t : Nat} {x : MX} (hc : chkOp P (.box t x) o.op = true) (h : opV cf sl E.H (.box t x) = some (r, ups)) : OpOk P E o a.eval r ups := by
  simp only [chkOp] at hc
  split at hc
  · rename_i e x' ho
    have hx := ev_rel hs hc
    simp only [opV] at h
    split at h
    · rename_i q hq
      split at h
      · rename_i hat
        obtain ⟨rfl, rfl⟩ := some_pair h
        obtain ⟨hr, _⟩ := cells_rel hx hat
        have hn := lay_new hw hq (.inl rfl : (ABody.var (ev sl x).cells) = .var (ev sl x).cells ∨ _) (Chg.none E t) (a.eval x').cells e (fun j c hj => by
          obtain ⟨v, h1, h2⟩ := hr.get j c hj
          exact ⟨all_get hat hj, v, h1, h2⟩)
        refine ⟨.pointer (some ⟨E.w.heap.size, 0, none⟩), _, .inl ?_, .put hn.1 (ptr_new hw hq)⟩
        simp [execOp, ho, Instr.box, newVar, newRow]
      · cases h
    · cases h
  · cases hc

def Frz (H H1 : List AObj) : Prop := ∀ i : Nat, H1[i]? = H[i]? ∨ ∃ v m sz cs, H[i]? = some (⟨v, .row m sz cs⟩ : AObj) ∧ H1[i]? = some (⟨v, .row false sz cs⟩ : AObj)
theorem Frz.refl (H : List AObj) : Frz H H := fun _ => .inl rfl
theorem Frz.tree {H H1 : List AObj} (h : Frz H H1) (fz : List Nat) (c : AV) : treeCell H1 fz c = treeCell H fz c := by
  cases c <;> try rfl
  rename_i i ver off len sz
  simp only [treeCell]
  rcases h i with h | ⟨v, m, s, cs, h1, h2⟩
  · rw [h]
  · rw [h1, h2]

theorem layAll_append (H : List AObj) (u v : List (Nat × AObj)) : layAll H (u ++ v) = layAll (layAll H u) v := by
  induction u generalizing H with
  | nil => rfl
  | cons p u ih => obtain ⟨i, x⟩ := p; simp only [List.cons_append, layAll]; exact ih _

theorem freezeAll_rel : ∀ {fz : List Nat} {H0 : List AObj} {E : Env} {fr : List (Nat × AObj)}, WRel E → Frz H0 E.H → freezeAll H0 fz = some fr →
    WRel (Lay E fr E.ρ E.w) ∧ Step E (Lay E fr E.ρ E.w) ∧ Frz H0 (Lay E fr E.ρ E.w).H ∧ ∀ i ∈ fz, ∀ q, (Lay E fr E.ρ E.w).H[i]? = some q → q.body.isMut = false
  | [], H0, E, fr, hw, hf, h => by
    simp only [freezeAll, Option.some.injEq] at h
    subst h
    exact ⟨hw, .refl _, hf, fun i h => by cases h⟩
  | i :: fz, H0, E, fr, hw, hf, h => by
    simp only [freezeAll] at h
    split at h
    · rename_i v m sz cs l h1 h2
      cases h
      have hi : ∃ m', E.H[i]? = some ⟨v, .row m' sz cs⟩ := by
        rcases hf i with h | ⟨v', m', s', cs', h3, h4⟩
        · exact ⟨m, h.trans h1⟩
        · rw [h1] at h3; cases h3; exact ⟨false, h4⟩
      obtain ⟨m', hi⟩ := hi
      obtain ⟨p, hw1, hst, hρ⟩ := freeze_one hw hi
      have hf1 : Frz H0 (E.put i ⟨v, .row false sz cs⟩ p E.w).H := fun j => by
        by_cases e : i = j
        · subst e; exact .inr ⟨v, m, sz, cs, h1, put_H hi⟩
        · rcases hf j with h | ⟨a, b, c, d, h3, h4⟩
          · exact .inl ((set_get_ne e).trans h)
          · exact .inr ⟨a, b, c, d, h3, (set_get_ne e).trans h4⟩
      have hE1 : E.put i ⟨v, .row false sz cs⟩ p E.w = ⟨E.F, E.H.set i ⟨v, .row false sz cs⟩, E.ρ, E.w⟩ := by
        simp only [Env.put] at hρ ⊢
        rw [hρ]
      rw [hE1] at hw1 hst hf1
      obtain ⟨k1, k2, k3, k4⟩ := freezeAll_rel hw1 hf1 h2
      refine ⟨k1, hst.trans k2, k3, fun j hj q hq => ?_⟩
      cases hj with
      | head =>
        rcases k3 i with h | ⟨a, b, c, d, h3, h4⟩
        · -- it was not a row that changes, or it has been told
          rcases Nat.lt_or_ge 0 1 with _ | h'
          · have hq' : (layAll (E.H.set i ⟨v, .row false sz cs⟩) l)[i]? = some q := hq
            obtain ⟨q', hq2, hv', hsh⟩ := k2.obj i ⟨v, .row false sz cs⟩ (set_get_eq hi)
            have e2 : q' = q := by rw [show (Lay ⟨E.F, E.H.set i ⟨v, .row false sz cs⟩, E.ρ, E.w⟩ l E.ρ E.w).H[i]? = (layAll (E.H.set i ⟨v, .row false sz cs⟩) l)[i]? from rfl, hq'] at hq2; exact (Option.some.inj hq2).symm
            subst e2
            -- its block may not be written
            cases hqb : q'.body.isMut with
            | false => rfl
            | true =>
              exfalso
              have hH : (layAll (E.H.set i ⟨v, .row false sz cs⟩) l)[i]? = H0[i]? := h
              rw [hq', h1] at hH
              cases hH
              simp [ABody.isMut] at hqb
              subst hqb
              exact freeze_keeps h2 (set_get_eq hi) hq'
          · omega
        · have hq' : (layAll (E.H.set i ⟨v, .row false sz cs⟩) l)[i]? = some q := hq
          have h4' : (layAll (E.H.set i ⟨v, .row false sz cs⟩) l)[i]? = some ⟨a, .row false c d⟩ := h4
          rw [hq'] at h4'
          cases h4'
          rfl
      | tail _ hj => exact k4 j hj q hq
    · rename_i v l h1 h2
      cases h
      obtain ⟨k1, k2, k3, k4⟩ := freezeAll_rel hw hf h2
      refine ⟨k1, k2, k3, fun j hj q hq => ?_⟩
      cases hj with
      | head =>
        rcases k3 i with h | ⟨a, b, c, d, h3, h4⟩
        · rw [h1] at h; rw [hq] at h; cases h; rfl
        · rw [h1] at h3; cases h3
      | tail _ hj => exact k4 j hj q hq
    · cases h
  where
  freeze_keeps : ∀ {fz : List Nat} {H0 H : List AObj} {fr : List (Nat × AObj)} {i v sz : Nat} {cs : List AV}, freezeAll H0 fz = some fr → H[i]? = some ⟨v, .row false sz cs⟩ → (layAll H fr)[i]? = some ⟨v, .row true sz cs⟩ → False
    | [], H0, H, fr, i, v, sz, cs, h, h1, h2 => by
      simp only [freezeAll, Option.some.injEq] at h
      subst h
      simp only [layAll] at h2
      rw [h1] at h2
      cases h2
    | j :: fz, H0, H, fr, i, v, sz, cs, h, h1, h2 => by
      simp only [freezeAll] at h
      split at h
      · rename_i v' m s' cs' l h3 h4
        cases h
        simp only [layAll] at h2
        by_cases e : j = i
        · subst e
          have h5 : (H.set j ⟨v', .row false s' cs'⟩)[j]? = some ⟨v', .row false s' cs'⟩ := set_get_eq h1
          by_cases e2 : v' = v ∧ s' = sz ∧ cs' = cs
          · obtain ⟨rfl, rfl, rfl⟩ := e2
            exact freeze_keeps h4 h5 h2
          · exact freeze_other h4 h5 (fun q => e2 ⟨by cases q; rfl, by cases q; rfl, by cases q; rfl⟩) h2
        · exact freeze_keeps h4 ((set_get_ne e).trans h1) h2
      · rename_i v' l h3 h4
        cases h
        exact freeze_keeps h4 h1 h2
      · cases h
  freeze_other : ∀ {fz : List Nat} {H0 H : List AObj} {fr : List (Nat × AObj)} {i v sz v' s' : Nat} {cs cs' : List AV}, freezeAll H0 fz = some fr → H[i]? = some (⟨v', .row false s' cs'⟩ : AObj) →
      ((⟨v', .row false s' cs'⟩ : AObj) = ⟨v, .row false sz cs⟩ → False) → (layAll H fr)[i]? = some (⟨v, .row true sz cs⟩ : AObj) → False
    | [], H0, H, fr, i, v, sz, v', s', cs, cs', h, h1, _, h2 => by
      simp only [freezeAll, Option.some.injEq] at h
      subst h
      simp only [layAll] at h2
      rw [h1] at h2
      cases h2
    | j :: fz, H0, H, fr, i, v, sz, v', s', cs, cs', h, h1, hn, h2 => by
      simp only [freezeAll] at h
      split at h
      · rename_i v2 m s2 cs2 l h3 h4
        cases h
        simp only [layAll] at h2
        by_cases e : j = i
        · subst e
          have h5 : (H.set j ⟨v2, .row false s2 cs2⟩)[j]? = some ⟨v2, .row false s2 cs2⟩ := set_get_eq h1
          by_cases e2 : (⟨v2, .row false s2 cs2⟩ : AObj) = ⟨v, .row false sz cs⟩
          · cases e2
            exact freeze_keeps h4 h5 h2
          · exact freeze_other h4 h5 e2 h2
        · exact freeze_other h4 ((set_get_ne e).trans h1) hn h2
      · rename_i v2 l h3 h4
        cases h
        exact freeze_other h4 h1 hn h2
      · cases h

end Go.Ev
end
section
namespace Go.Ev
variable {P : Program} {E : Env} {o : Oper} {a : Act} {sl : List AV} {cf : CallF} {r : AV} {ups : List (Nat × AObj)}

theorem treeCell_rel (hw : WRel E) {fz : List Nat} (hf : ∀ i ∈ fz, ∀ q, E.H[i]? = some q → q.body.isMut = false) {c c' : AV} {v : Value} (h : treeCell E.H fz c = some c') (hv : VRel E c v) :
    c'.tree = true ∧ VRel E c' v := by
  cases c <;> simp only [treeCell, AV.tree, if_true, Bool.false_eq_true, if_false, reduceCtorEq, Option.some.injEq] at h
  case bool => subst h; exact ⟨rfl, hv⟩
  case int => subst h; exact ⟨rfl, hv⟩
  case str => subst h; exact ⟨rfl, hv⟩
  case nilptr => subst h; exact ⟨rfl, hv⟩
  case ro => subst h; exact ⟨rfl, hv⟩
  case nilsl =>
    subst h
    refine ⟨rfl, ?_⟩
    simp only [VRel] at hv ⊢
    exact ⟨none, 0, hv, Nat.le_refl _, fun h => by omega, .inl trivial⟩
  case own i ver off len sz =>
    split at h
    · rename_i hi
      have hi : i ∈ fz := by simpa using hi
      split at h
      · rename_i v' m s cs hq
        split at h
        · rename_i hcond
          obtain ⟨rfl, hle⟩ := hcond
          cases h
          refine ⟨rfl, ?_⟩
          have hoc : objCells E.H i v' = some cs := by simp [objCells, hq, bodyCells]
          have hm : m = false := hf i hi _ hq
          subst hm
          obtain ⟨ad, cap, rfl, hlc, _, hpl⟩ := ORel.cells hw (by simpa only [VRel] using hv) hoc
          have hobj := hw.obj i _ hq
          unfold ObjRel at hobj
          simp only at hobj
          simp only [VRel]
          refine ⟨ad, cap, rfl, hlc, ?_, ?_⟩
          · rcases hpl with ⟨rfl, _, rfl, rfl, _⟩ | ⟨b, base, _, rfl, _⟩
            · intro h; omega
            · intro _; rfl
          · rcases hpl with ⟨rfl, _⟩ | ⟨b, base, hρ, rfl, _, _, _, _⟩
            · exact .inl (by simp)
            · rcases hobj with ⟨_, h2⟩ | ⟨b', base', h1, h2, h3, h4⟩
              · rw [hρ] at h2; cases h2
              · rw [hρ] at h1; cases h1
                exact .inr ⟨b, base + off, rfl, h4 (by trivial), (h3.drop off).take _⟩
        · cases h
      · cases h
    · cases h

theorem mapO_rel (hw : WRel E) {fz : List Nat} (hf : ∀ i ∈ fz, ∀ q, E.H[i]? = some q → q.body.isMut = false) : ∀ {cs cs' : List AV} {vs : List Value}, mapO (treeCell E.H fz) cs = some cs' → LRel E cs vs →
    cs'.all AV.tree = true ∧ LRel E cs' vs
  | [], cs', vs, h, hr => by simp only [mapO, Option.some.injEq] at h; subst h; exact ⟨rfl, hr⟩
  | c :: cs, cs', vs, h, hr => by
    simp only [LRel] at hr
    obtain ⟨v, r, rfl, h1, h2⟩ := hr
    simp only [mapO] at h
    split at h
    · rename_i b hb
      obtain ⟨l, hl, rfl⟩ := Option.map_eq_some_iff.1 h
      obtain ⟨k1, k2⟩ := treeCell_rel hw hf hb h1
      obtain ⟨k3, k4⟩ := mapO_rel hw hf hl h2
      exact ⟨by simp [k1, k3], ⟨v, r, rfl, k2, k4⟩⟩
    · cases h
theorem mapO_len {f : AV → Option AV} : ∀ {cs cs' : List AV}, mapO f cs = some cs' → cs'.length = cs.length
  | [], cs', h => by simp only [mapO, Option.some.injEq] at h; subst h; rfl
  | c :: cs, cs', h => by
    simp only [mapO] at h
    split at h
    · obtain ⟨l, hl, rfl⟩ := Option.map_eq_some_iff.1 h
      simp [mapO_len hl]
    · cases h
theorem mapO_congr {f g : AV → Option AV} (h : ∀ c, f c = g c) (cs : List AV) : mapO f cs = mapO g cs := by
  have : f = g := funext h
  rw [this]

theorem made_rel {zs : List AV} {z : Array Value} (h : ∀ E : Env, LRel E zs z.toList) (hz : 0 < zs.length) (n : Nat) (E : Env) : LRel E (repeatL n zs) (madeCells z (n * zs.length)).toList := by
  have hzl : z.size = zs.length := by have := (h E).length; simpa using this
  have hlen : (repeatL n zs).length = n * zs.length := by simp [repeatL, List.length_flatten]
  refine LRel.of (by rw [hlen, Array.length_toList, size_madeCells]) fun j c v h1 h2 => ?_
  have hj : j < n * zs.length := by have := (List.getElem?_eq_some_iff.1 h1).1; omega
  have e1 : zs[j % zs.length]? = some c := by
    rw [← h1]
    clear h1 h2
    induction n generalizing j with
    | zero => omega
    | succ n ih =>
      unfold repeatL
      rw [List.replicate_succ, List.flatten_cons]
      by_cases hlt : j < zs.length
      · rw [List.getElem?_append_left hlt, Nat.mod_eq_of_lt hlt]
      · rw [List.getElem?_append_right (by omega)]
        have := ih (by simp [repeatL, List.length_flatten]) (j - zs.length) (by rw [Nat.add_mul] at hj; omega)
        rw [← Nat.mod_eq_sub_mod (by omega)] at this
        exact this
  obtain ⟨u, hu, hr⟩ := (h E).get _ _ e1
  have e2 : (madeCells z (n * zs.length)).toList[j]? = some u := by
    have hm : j % zs.length < z.size := by rw [hzl]; exact Nat.mod_lt _ hz
    have hu' : z[j % zs.length]'hm = u := by
      have : z.toList[j % zs.length]? = some (z[j % zs.length]'hm) := by simp [hm]
      rw [this] at hu
      exact Option.some.inj hu
    simp only [madeCells, Array.getElem?_toList]
    rw [Array.getElem?_map, Array.getElem?_range, if_pos hj]
    simp only [Option.map_some, hzl]
    rw [getElem!_pos z _ hm, hu']
  rw [e2] at h2
  cases h2
  exact hr

theorem fillV_len : ∀ {parts : List (Nat × Nat × AV)} {cells cs : List AV}, fillV cells parts = some cs → cs.length = cells.length
  | [], cells, cs, h => by simp only [fillV, Option.some.injEq] at h; subst h; rfl
  | (off, n, x) :: parts, cells, cs, h => by
    simp only [fillV] at h
    split at h
    · cases h
    · rename_i hn
      rw [fillV_len h]
      refine setCells_len ?_
      rcases Nat.decEq x.cells.length n with h | h
      · exact absurd (.inl h) hn
      · rcases Nat.lt_or_ge cells.length (off + n) with h' | h'
        · exact absurd (.inr (.inl h')) hn
        · omega

theorem op_lit (hw : WRel E) (hs : ARel E sl a) {t : Option Nat} {fz : List Nat} {len sz : Nat} {zs : List AV} {ps : List (Nat × Nat × MX)} (hc : chkOp P (.lit t fz len sz zs ps) o.op = true)
    (h : opV cf sl E.H (.lit t fz len sz zs ps) = some (r, ups)) : OpOk P E o a.eval r ups := by
  simp only [chkOp] at hc
  split at hc
  · rename_i ty n qs ho
    simp only [Bool.and_eq_true, beq_iff_eq] at hc
    obtain ⟨rfl, hc⟩ := hc
    split at hc
    · rename_i e hu
      simp only [Bool.and_eq_true, beq_iff_eq, decide_eq_true_eq] at hc
      obtain ⟨⟨⟨⟨⟨hsz, hz⟩, hzl⟩, h0⟩, hle⟩, hp⟩ := hc
      obtain ⟨i, z, hi, hzz, hzr, hat⟩ := zeroB_rel hz
      obtain ⟨i', hi', hisz⟩ := szB_info hsz
      rw [hi] at hi'
      cases hi'
      simp only [opV] at h
      split at h
      · rename_i cs hf
        split at h
        · rename_i cs' hm
          split at h
          · rename_i fr hfr
            obtain ⟨hl, hp⟩ := partsA_rel hs hp
            have hbase : LRel E (repeatL n zs) (madeCells z.cells (n * zs.length)).toList := made_rel hzr (by omega) n E
            obtain ⟨arr, h1, h2⟩ := fill_rel (E := E) (fun j => some (j * sz, sz)) _ (qs.toList.map fun q => (q.1, a.eval q.2)) _ _ cs hbase (by simpa using hl) (fun j p q h1 h2 => by
              rw [List.getElem?_map] at h1 h2
              obtain ⟨p', hp', rfl⟩ := Option.map_eq_some_iff.1 h1
              obtain ⟨q', hq', rfl⟩ := Option.map_eq_some_iff.1 h2
              obtain ⟨⟨h5, h6⟩, h7⟩ := hp j p' q' hp' hq'
              exact ⟨by simp [h5, h6], h7⟩) hf
            have hml : (qs.map fun (i, x) => (i, a.eval x)).toList = qs.toList.map fun q => (q.1, a.eval q.2) := by simp
            have hrun : (execOp a.eval o).run P E.w = .ok (.value (.slice (some ⟨E.w.heap.size, 0, none⟩) n n)) (E.w.alloc (.cells arr e)) := by
              have hb : (Instr.buildSlice ty n (qs.map fun (i, x) => (i, a.eval x))).run P E.w = .ok (.slice (some ⟨E.w.heap.size, 0, none⟩) n n) (E.w.alloc (.cells arr e)) := by
                have hle' : ¬ 16777216 < n * i.size := by rw [hisz]; omega
                have hfill : Instr.fill (fun j => some (j * i.size, i.size)) (madeCells z.cells (n * i.size)) (qs.toList.map fun q => (q.1, a.eval q.2)) = some arr := by
                  rw [hisz]; rw [hzl] at h1; exact h1
                by_cases hn : n * i.size = 0
                · have : madeCells z.cells (n * i.size) = (Array.range (n * i.size)).map ((#[] : Array Value)[· % (#[] : Array Value).size]!) := by
                    rw [hn]; simp [madeCells]
                  rw [this] at hfill
                  simp [Instr.buildSlice, run_underlying hu, sizeOf, typeInfo, hi, hn] at hfill ⊢
                  rw [hfill]
                  simp [newRow]
                · unfold madeCells at hfill
                  simp [Instr.buildSlice, run_underlying hu, sizeOf, typeInfo, zeroValue, hi, hzz, hn, hle', hfill, newRow]
              simp only [execOp, ho, Sem.run_bind, hb, Result.andThen_ok, Sem.run_pure]
            obtain ⟨k1, k2, k3, k4⟩ := freezeAll_rel hw (Frz.refl E.H) hfr
            have hm1 : mapO (treeCell (Lay E fr E.ρ E.w).H fz) cs = some cs' := by rw [← hm]; exact mapO_congr (fun c => k3.tree fz c) cs
            obtain ⟨m1, m2⟩ := mapO_rel k1 k4 hm1 (LRel.mono k2 h2)
            have hlen : cs'.length = n * sz := by
              rw [mapO_len hm, fillV_len hf]
              simp [repeatL, List.length_flatten, hzl]
            have hasz : arr.size = n * sz := by have := m2.length; simp at this; omega
            cases t with
            | none =>
              obtain ⟨rfl, rfl⟩ := some_pair h
              -- a new block that nobody writes
              obtain ⟨hw', hst⟩ := k1.alloc (.cells arr e)
              refine ⟨_, _, .inl hrun, E.ρ, hw', k2.trans hst, ?_⟩
              simp only [VRel]
              refine ⟨_, n, rfl, Nat.le_refl _, fun _ => rfl, ?_⟩
              refine .inr ⟨E.w.heap.size, 0, rfl, ?_, ?_⟩
              · rintro (hF | ⟨j, q, base, hq, _, hρ⟩)
                · exact Nat.lt_irrefl _ (k1.fOld _ hF)
                · exact Nat.lt_irrefl _ (k1.block_lt hq (by assumption) hρ)
              · refine CRel.of fun j c hj => ?_
                obtain ⟨v, hv, hr⟩ := (LRel.mono hst m2).get j c hj
                refine ⟨all_get m1 hj, v, ?_, hr⟩
                show (E.w.alloc (.cells arr e)).cell? ⟨E.w.heap.size, 0 + j, none⟩ = some v
                rw [World.cell?_alloc_new, Nat.zero_add]
                simpa using hv
            | some t =>
              simp only at h
              split at h
              · rename_i q hq
                obtain ⟨rfl, rfl⟩ := some_pair h
                obtain ⟨q1, hq1, hv1, _⟩ := k2.obj t q hq
                have hver : q1.ver = q.ver := by
                  rcases k3 t with h | ⟨a1, b1, c1, d1, h3, h4⟩
                  · rw [hq1, hq] at h; cases h; rfl
                  · rw [hq] at h3; rw [hq1] at h4; cases h3; cases h4; rfl
                have hn := lay_new (E := Lay E fr E.ρ E.w) k1 hq1 (body := .row true sz cs') (.inr ⟨sz, rfl, m1⟩) (Chg.none _ t) arr e (fun j c hj => by
                  obtain ⟨v, h1, h2⟩ := m2.get j c hj
                  exact ⟨AV.tree_atom (all_get m1 hj), v, h1, h2⟩)
                rw [hver] at hn
                have hEq : ∀ p w', Lay E (fr ++ [(t, ⟨q.ver + 1, .row true sz cs'⟩)]) (E.ρ.set t p) w' = (Lay E fr E.ρ E.w).put t ⟨q.ver + 1, .row true sz cs'⟩ p w' := by
                  intro p w'
                  simp only [Lay, Env.put, layAll_append, layAll]
                have hfin := own_new (w' := E.w.alloc (.cells arr e)) (b := E.w.heap.size) (ver := q.ver + 1) (n := n) (cap := n) (sz := sz) (cs := cs') k1 hq1 (by rw [hlen]; exact Nat.le_refl _) (Nat.le_refl _) (hn.2.le (by rw [hasz]; exact Nat.le_refl _))
                refine ⟨.slice (some ⟨E.w.heap.size, 0, none⟩) n n, E.w.alloc (.cells arr e), .inl hrun, E.ρ.set t (some (E.w.heap.size, 0)), ?_⟩
                rw [hEq]
                exact ⟨hn.1.1, k2.trans hn.1.2, hfin⟩
              · cases h
          · cases h
        · cases h
      · cases h
    · cases hc
  · cases hc

theorem op_frz (hw : WRel E) (hs : ARel E sl a) {fz : List Nat} {x : MX} (hc : chkOp P (.frz fz x) o.op = true) (h : opV cf sl E.H (.frz fz x) = some (r, ups)) : OpOk P E o a.eval r ups := by
  have key : ∀ y, chkX x y = true → (o.op = .move y ∨ o.op = .assign y) → OpOk P E o a.eval r ups := by
    intro y hy ho
    have hx := ev_rel hs hy
    simp only [opV] at h
    split at h
    · rename_i a' fr h1 h2
      obtain ⟨rfl, rfl⟩ := some_pair h
      obtain ⟨k1, k2, k3, k4⟩ := freezeAll_rel hw (Frz.refl E.H) h2
      have hm1 : mapO (treeCell (Lay E fr E.ρ E.w).H fz) [ev sl x] = some [a'] := by
        simp only [mapO, k3.tree, h1, Option.map_some]
      have hl : LRel E [ev sl x] [a.eval y] := ⟨_, [], rfl, hx, rfl⟩
      obtain ⟨m1, m2⟩ := mapO_rel k1 k4 hm1 (LRel.mono k2 hl)
      obtain ⟨v, r', hv, m3, _⟩ := m2
      simp only [List.cons.injEq] at hv
      refine ⟨a.eval y, E.w, .inl ?_, E.ρ, k1, k2, ?_⟩
      · rcases ho with ho | ho <;> simp [execOp, ho]
      · rw [hv.1]; exact m3
    · cases h
  simp only [chkOp] at hc
  split at hc
  · exact key _ hc (.inl (by assumption))
  · exact key _ hc (.inr (by assumption))
  · cases hc

end Go.Ev
end
section
namespace Go.Ev
variable {P : Program} {E : Env} {o : Oper} {a : Act} {sl : List AV} {cf : CallF} {r : AV} {ups : List (Nat × AObj)}

theorem Blk.cell {w : World} {b n k : Nat} (h : Blk w b n) (hk : k < n) : (w.cell? ⟨b, k, none⟩).isSome = true ∧ w.frozen? ⟨b, k, none⟩ = false := by
  obtain ⟨arr, e, h1, h2⟩ := h
  constructor
  · simp only [World.cell?, h1, Option.isSome_none, Bool.false_eq_true, if_false]
    rw [Array.getElem?_eq_getElem (by omega)]; rfl
  · simp [World.frozen?, h1]

theorem lay_write (hw : WRel E) {i ver b base off m : Nat} {q : AObj} {body' : ABody} {cs new : List AV} {vs : List Value} (hq : E.H[i]? = some q) (hmut : q.body.isMut = true) (hρ : E.ρ[i]? = some (some (b, base)))
    (hver : q.ver ≤ ver) (hshape : ver = q.ver → sameShape q.body body') (hb : (body' = .var cs) ∨ ∃ sz, body' = .row true sz cs)
    (hblk : Blk E.w b m) (hm : base + cs.length ≤ m) (hoff : off + new.length ≤ cs.length) (hcs : ∃ old, bodyCells q.body = some old ∧ ∀ k, (off ≤ k ∧ k < off + new.length → cs[k]? = new[k - off]?) ∧ (¬ (off ≤ k ∧ k < off + new.length) → cs[k]? = old[k]?))
    (hnew : LRel E new vs) (hat : new.all AV.atom = true) (htree : (∃ sz, body' = .row true sz cs) → new.all AV.tree = true ∧ ∃ m sz old, q.body = .row m sz old) :
    WRel (E.put i ⟨ver, body'⟩ (some (b, base)) (E.w.setCells b (base + off) vs)) ∧ Step E (E.put i ⟨ver, body'⟩ (some (b, base)) (E.w.setCells b (base + off) vs)) := by
  have hma : E.mutAt i b := ⟨q, base, hq, hmut, hρ⟩
  have hchg : Chg E i (E.w.setCells b (base + off) vs) := Chg.setCells hma vs (base + off) E.w (Chg.none E i)
  have hlen := hnew.length
  obtain ⟨old, ho, hk⟩ := hcs
  have hobj := hw.obj i q hq
  have hold : VCells E old b base := by
    unfold ObjRel at hobj
    cases hqb : q.body with
    | none => rw [hqb] at ho; cases ho
    | map _ _ => rw [hqb] at ho; cases ho
    | var ds => rw [hqb] at ho hobj; cases ho; obtain ⟨b', base', h1, h2, h3⟩ := hobj; rw [hρ] at h1; cases h1; exact h3
    | row _ _ ds =>
      rw [hqb] at ho hobj
      cases ho
      rcases hobj with ⟨_, h1⟩ | ⟨b', base', h1, h2, h3, _⟩
      · rw [hρ] at h1; cases h1
      · rw [hρ] at h1; cases h1; exact h3.toV
  refine relay hw hq hver (fun e => ⟨hshape e, hρ⟩) hchg (fun b' base' _ h => by cases h; exact .inl hma) (fun hst => ?_)
  have hv : VCells (E.put i ⟨ver, body'⟩ (some (b, base)) (E.w.setCells b (base + off) vs)) cs b base := by
    intro k c hc
    by_cases hin : off ≤ k ∧ k < off + new.length
    · rw [(hk k).1 hin] at hc
      refine ⟨all_get hat hc, ?_⟩
      obtain ⟨v, hv, hr⟩ := hnew.get _ c hc
      refine ⟨v, ?_, VRel.mono hst hr⟩
      show (E.w.setCells b (base + off) vs).cell? ⟨b, base + k, none⟩ = some v
      have hlt : k - off < vs.length := by omega
      have := World.cell?_setCells_in b vs (base + off) E.w (fun j hj => (hblk.cell (by omega)).1) (k - off) hlt
      rw [show base + off + (k - off) = base + k by omega] at this
      rw [this, ← hv, List.getElem?_eq_getElem hlt]
    · rw [(hk k).2 hin] at hc
      obtain ⟨h1, v, hv, hr⟩ := hold k c hc
      refine ⟨h1, v, ?_, VRel.mono hst hr⟩
      show (E.w.setCells b (base + off) vs).cell? ⟨b, base + k, none⟩ = some v
      rw [World.cell?_setCells_out b vs (base + off) E.w _ (fun _ _ => by simp only; omega)]
      exact hv
  have hblk' : Blk (E.put i ⟨ver, body'⟩ (some (b, base)) (E.w.setCells b (base + off) vs)).w b (base + cs.length) := (hblk.mono hst.w).le hm
  unfold ObjRel
  rcases hb with rfl | ⟨sz, rfl⟩
  · exact ⟨b, base, put_ρ hw hq, hblk', hv⟩
  · refine .inr ⟨b, base, put_ρ hw hq, hblk', hv.toC ?_, fun h => by cases h⟩
    obtain ⟨ht, m', sz', old', hqb⟩ := htree ⟨sz, rfl⟩
    have htold : ∀ (k : Nat) (c : AV), old[k]? = some c → c.tree = true := by
      intro k c hc
      unfold ObjRel at hobj
      rw [hqb] at ho hobj
      cases ho
      rcases hobj with ⟨_, h1⟩ | ⟨b', base', h1, h2, h3, _⟩
      · rw [hρ] at h1; cases h1
      · exact (h3.get k c hc).1
    refine List.all_eq_true.2 fun c hc => ?_
    obtain ⟨k, hkk⟩ := List.mem_iff_getElem?.1 hc
    by_cases hin : off ≤ k ∧ k < off + new.length
    · rw [(hk k).1 hin] at hkk; exact all_get ht hkk
    · rw [(hk k).2 hin] at hkk; exact htold k c hkk

theorem run_storeAt {t : TypeId} {b off n : Nat} {v : Value} (w : World) (hz : szB P t n = true) (hn : v.cells.size = n) (h1 : ∀ u ∈ v.cells.toList, u.oneCell' = true)
    (hc : ∀ j, j < n → (w.cell? ⟨b, off + j, none⟩).isSome = true ∧ w.frozen? ⟨b, off + j, none⟩ = false) :
    (Instr.storeAt t (.pointer (some ⟨b, off, none⟩)) v).run P w = .ok () (w.setCells b off v.cells.toList) := by
  have := run_storeCells_cells (P := P) b off v.cells.toList 0 w (fun j hj => by simpa using (hc j (by simpa [hn] using hj)).1) (fun j hj => by simpa using (hc j (by simpa [hn] using hj)).2) h1
  simp only [Nat.add_zero] at this
  simp [Instr.storeAt, Instr.sureAddr, storeVar, run_sizeOf' hz, hn, this]

theorem op_store (hw : WRel E) (hs : ARel E sl a) {n ob : Nat} {fz : List Nat} {x v : MX} (hc : chkOp P (.store n ob fz x v) o.op = true) (h : opV cf sl E.H (.store n ob fz x v) = some (r, ups)) : OpOk P E o a.eval r ups := by
  simp only [chkOp] at hc
  split at hc
  · rename_i t x' v' ho
    simp only [Bool.and_eq_true, decide_eq_true_eq] at hc
    obtain ⟨⟨⟨hz, hn0⟩, h1⟩, h2⟩ := hc
    have hx := ev_rel hs h1
    have hv := ev_rel hs h2
    simp only [opV] at h
    split at h
    · rename_i j ver off e
      rw [e] at hx
      split at h
      · cases h
      · rename_i hcond
        have hlen : (ev sl v).cells.length = n := by
          rcases Nat.decEq (ev sl v).cells.length n with h | h
          · exact absurd (.inr h) hcond
          · exact h
        split at h
        · rename_i q hq
          split at h
          · cases h
          · rename_i hver
            have hver : q.ver = ver := by simpa using hver
            have hoc : ∀ cs, bodyCells q.body = some cs → objCells E.H j ver = some cs := fun cs h => by simp [objCells, hq, hver, h]
            split at h
            · rename_i cs hqb
              split at h
              · rename_i hle
                obtain ⟨hle, hat⟩ := hle
                obtain ⟨rfl, rfl⟩ := some_pair h
                obtain ⟨b, base, e1, hρ, hblk, _, _⟩ := ptr_cells hw hx (hoc cs (by rw [hqb]; rfl))
                obtain ⟨hr, ho1⟩ := cells_rel hv hat
                have hsz : (a.eval v').cells.size = n := by have := hr.length; simp at this; omega
                have hL := lay_write (E := E) (body' := .var (setCells cs off (ev sl v).cells)) (cs := setCells cs off (ev sl v).cells) (new := (ev sl v).cells) (off := off) (m := base + cs.length) (ver := ver) hw hq (by rw [hqb]; rfl) hρ (by omega)
                  (fun _ => by rw [hqb]; exact (setCells_len (by omega)).symm) (.inl rfl) hblk (by rw [setCells_len (by omega)]; exact Nat.le_refl _) (by rw [setCells_len (by omega)]; omega)
                  ⟨cs, by rw [hqb]; rfl, fun k => ⟨fun hk => by rw [setCells_get (by omega), if_pos hk], fun hk => by rw [setCells_get (by omega), if_neg hk]⟩⟩ hr hat (fun h => by obtain ⟨_, h⟩ := h; cases h)
                refine ⟨undef, _, .inr ⟨?_, rfl⟩, .put hL ?_⟩
                · simp only [execOp, ho, e1, Sem.run_bind, run_storeAt E.w hz hsz ho1 (fun k hk => by have := hblk.cell (k := base + off + k) (by omega); rwa [Nat.add_assoc] at this ⊢), Result.andThen_ok, Sem.run_pure]
                · simp only [VRel, LRel]; exact ⟨#[], rfl, rfl⟩
              · cases h
            · rename_i sz cs hqb
              split at h
              · rename_i hle
                split at h
                · rename_i new fr hm hfr
                  split at h
                  · cases h
                  · rename_i hjf
                    obtain ⟨rfl, rfl⟩ := some_pair h
                    obtain ⟨k1, k2, k3, k4⟩ := freezeAll_rel hw (Frz.refl E.H) hfr
                    have hat : (ev sl v).cells.all AV.atom = true := by
                      refine List.all_eq_true.2 fun c hc => ?_
                      obtain ⟨k, hk⟩ := List.mem_iff_getElem?.1 hc
                      have : ∀ {l l' : List AV} {k : Nat} {c : AV}, mapO (treeCell E.H fz) l = some l' → l[k]? = some c → ∃ c', treeCell E.H fz c = some c' := by
                        intro l
                        induction l with
                        | nil => intro l' k c _ h; simp at h
                        | cons x l ih =>
                          intro l' k c h1 h2
                          simp only [mapO] at h1
                          split at h1
                          · rename_i b hb
                            obtain ⟨l2, h3, rfl⟩ := Option.map_eq_some_iff.1 h1
                            cases k with
                            | zero => simp at h2; subst h2; exact ⟨b, hb⟩
                            | succ k => exact ih h3 (by simpa using h2)
                          · cases h1
                      obtain ⟨c', hc'⟩ := this hm hk
                      cases c <;> simp_all [treeCell, AV.tree, AV.atom]
                    obtain ⟨hr, ho1⟩ := cells_rel hv hat
                    have hsz : (a.eval v').cells.size = n := by have := hr.length; simp at this; omega
                    have hm1 : mapO (treeCell (Lay E fr E.ρ E.w).H fz) (ev sl v).cells = some new := by rw [← hm]; exact mapO_congr (fun c => k3.tree fz c) _
                    obtain ⟨m1, m2⟩ := mapO_rel k1 k4 hm1 (LRel.mono k2 hr)
                    have hnl : new.length = n := by rw [mapO_len hm, hlen]
                    obtain ⟨b, base, e1, hρ, hblk, _, _⟩ := ptr_cells hw hx (hoc cs (by rw [hqb]; rfl))
                    have hq1 : (Lay E fr E.ρ E.w).H[j]? = some q := by
                      have hfrz : ∀ {fz : List Nat} {H0 H : List AObj} {fr : List (Nat × AObj)}, freezeAll H0 fz = some fr → fz.contains j = false → (layAll H fr)[j]? = H[j]? := by
                        intro fz
                        induction fz with
                        | nil => intro H0 H fr h _; simp only [freezeAll, Option.some.injEq] at h; subst h; rfl
                        | cons i fz ih =>
                          intro H0 H fr h hn
                          simp only [List.contains_cons, Bool.or_eq_false_iff, beq_eq_false_iff_ne] at hn
                          simp only [freezeAll] at h
                          split at h
                          · rename_i l _ h2
                            cases h
                            simp only [layAll]
                            rw [ih h2 hn.2, set_get_ne (Ne.symm hn.1)]
                          · rename_i l _ h2
                            cases h
                            exact ih h2 hn.2
                          · cases h
                      exact (hfrz hfr (by simpa using hjf)).trans hq
                    have hL := lay_write (E := Lay E fr E.ρ E.w) (body' := .row true sz (setCells cs off new)) (cs := setCells cs off new) (new := new) (off := off) (m := base + cs.length) (ver := ver) k1 hq1 (by rw [hqb]; rfl) hρ (by omega)
                      (fun _ => by rw [hqb]; exact ⟨rfl, (setCells_len (by omega)).symm⟩) (.inr ⟨sz, rfl⟩) hblk (by rw [setCells_len (by omega)]; exact Nat.le_refl _) (by rw [setCells_len (by omega)]; omega)
                      ⟨cs, by rw [hqb]; rfl, fun k => ⟨fun hk => by rw [setCells_get (by omega), if_pos hk], fun hk => by rw [setCells_get (by omega), if_neg hk]⟩⟩ m2 (List.all_eq_true.2 fun c hc => AV.tree_atom (List.all_eq_true.1 m1 c hc))
                      (fun _ => ⟨m1, _, _, _, hqb⟩)
                    have hEq : ∀ p w', Lay E (fr ++ [(j, ⟨ver, .row true sz (setCells cs off new)⟩)]) (E.ρ.set j p) w' = (Lay E fr E.ρ E.w).put j ⟨ver, .row true sz (setCells cs off new)⟩ p w' := by
                      intro p w'
                      simp only [Lay, Env.put, layAll_append, layAll]
                    refine ⟨undef, E.w.setCells b (base + off) (a.eval v').cells.toList, .inr ⟨?_, rfl⟩, E.ρ.set j (some (b, base)), ?_⟩
                    · simp only [execOp, ho, e1, Sem.run_bind, run_storeAt E.w hz hsz ho1 (fun k hk => by have := hblk.cell (k := base + off + k) (by omega); rwa [Nat.add_assoc] at this ⊢), Result.andThen_ok, Sem.run_pure]
                    · rw [hEq]
                      refine ⟨hL.1, k2.trans hL.2, ?_⟩
                      simp only [VRel, LRel]; exact ⟨#[], rfl, rfl⟩
                · cases h
              · cases h
            · cases h
        · cases h
    · cases h
  · cases hc

end Go.Ev
end
section
namespace Go.Ev
variable {P : Program} {E : Env} {o : Oper} {a : Act} {sl : List AV} {cf : CallF} {r : AV} {ups : List (Nat × AObj)}

theorem op_append (hw : WRel E) (hs : ARel E sl a) {bytes sz t : Nat} {ysrc : Option Nat} {x y : MX} (hc : chkOp P (.append bytes sz t ysrc x y) o.op = true) (h : opV cf sl E.H (.append bytes sz t ysrc x y) = some (r, ups)) : OpOk P E o a.eval r ups := by
  simp only [chkOp] at hc
  split at hc
  · rename_i args ts ho
    simp only [Bool.and_eq_true, beq_iff_eq] at hc
    obtain ⟨⟨h1, h2⟩, h3⟩ := hc
    have hxs := evs_rel hs h1
    obtain ⟨x', y', hargs⟩ : ∃ x' y', args = #[x', y'] := by
      have hl := hxs.length
      simp at hl
      have h2' : args.size = 2 := by simpa using hl
      exact ⟨args[0], args[1], by apply Array.ext <;> simp [h2']; intro i h1 h2; rcases i with _ | _ | i <;> simp; omega⟩
    subst hargs
    simp only [List.map_cons, List.map_nil, LRel] at hxs
    obtain ⟨vx, rx, e1, hx, vy, ry, e2, hy, _⟩ := hxs
    cases e1; cases e2
    obtain ⟨tt, tu, hts⟩ : ∃ tt tu, ts = #[tt, tu] := by
      exact ⟨ts[0], ts[1], by apply Array.ext <;> simp [h2]; intro i h1 h2; rcases i with _ | _ | i <;> simp; omega⟩
    subst hts
    simp only [List.getElem?_toArray, List.getElem?_cons_zero, List.getElem?_cons_succ, Bool.and_eq_true] at h3
    obtain ⟨hsl, h3⟩ := h3
    split at h3
    · rename_i el hu
      split at h3
      · rename_i i hi
        simp only [Bool.and_eq_true, beq_iff_eq] at h3
        obtain ⟨⟨hsz, hby⟩, hzs⟩ := h3
        obtain ⟨z, hz, hzsz⟩ : ∃ z, i.zero = some z ∧ z.cells.size = i.size := by
          split at hzs
          · rename_i z hz
            exact ⟨z, hz, by rw [hsz]; exact beq_iff_eq.1 hzs⟩
          · cases hzs
        subst hsz; subst hby
        have hexec : ∀ v w', (Builtin.append_ #[tt, tu] o.type #[a.eval x', a.eval y']).run P E.w = .ok v w' → (execOp a.eval o).run P E.w = .ok (.value v) w' := by
          intro v w' h
          simp [execOp, ho, resolve, invoke, builtin, h]
        simp only [opV] at h
        split at h
        · rename_i n new hsrc
          obtain ⟨vs, hS, hr, htr, hlen⟩ := srcCells_rel hw hsl hsrc hy
          have hvl : vs.length = n * i.size := by rw [hr.length, hlen]
          split at h
          · rename_i q hq
            -- a new row
            have grow : ∀ (ad : Option Addr) (len cap : Nat) (old : List AV) (olds : List Value), a.eval x' = .slice ad len cap → LRel E old olds → old.all AV.tree = true → old.length = len * i.size →
                (Builtin.firstCells i.size len (.slice ad len cap)).run P E.w.drew = .ok olds.toArray E.w.drew → cap < len + n → (len + n) * i.bytes ≤ 140737488355328 → len + n < 4611686018427387904 →
                OpOk P E o a.eval (.own t (q.ver + 1) 0 (len + n) i.size) [(t, ⟨q.ver + 1, .row true i.size (old ++ new)⟩)] := by
              intro ad len cap old olds e1 hro hto hlo hfc hcap hb hbig
              have hrun := run_append_grow_src (P := P) E.w tt tu o.type el i z hu hi hz ad len cap olds hfc (a.eval y') n vs hS hcap (by omega) (growslice_fits hcap hb)
              rw [← e1] at hrun
              have hge := grownCap_ge E.w (len + n) cap el
              have hcells : LRel E (old ++ new) (olds ++ vs) := hro.append hr
              have holl : olds.length = len * i.size := by rw [hro.length, hlo]
              have hn := lay_new (E := E) hw hq (body := .row true i.size (old ++ new)) (cs := old ++ new) (.inr ⟨_, rfl, by simp only [List.all_append, hto, htr, Bool.and_self]⟩) (Chg.drew (Chg.none E t))
                ((olds ++ vs).toArray ++ Builtin.zeroCells z.cells (grownCap E.w (len + n) cap el - (len + n))) el (fun j c hj => by
                  obtain ⟨v, hv, hrv⟩ := hcells.get j c hj
                  refine ⟨?_, v, ?_, hrv⟩
                  · have : (old ++ new).all AV.tree = true := by simp only [List.all_append, hto, htr, Bool.and_self]
                    exact AV.tree_atom (all_get this hj)
                  · have hlt := (List.getElem?_eq_some_iff.1 hv).1
                    simp only [Array.toList_append]
                    rw [List.getElem?_append_left (by simpa using hlt)]
                    simpa using hv)
              refine ⟨_, _, .inl (hexec _ _ hrun), .put hn.1 ?_⟩
              refine own_new hw hq (by rw [List.length_append, hlo, hlen, ← Nat.add_mul]; exact Nat.le_refl _) hge (hn.2.le ?_)
              simp only [Array.size_append, List.size_toArray, List.length_append, holl, hvl, size_zeroCells]
              rw [hzsz, ← Nat.add_mul, ← Nat.add_mul]
              exact Nat.mul_le_mul_right _ (by omega)
            split at h
            · rename_i j ver off len sz' e
              rw [e] at hx
              split at h
              · rename_i hcond
                obtain ⟨rfl, rfl, rfl, rfl⟩ := hcond
                split at h
                · rename_i sz'' cs hqb
                  split at h
                  · rename_i hc2
                    obtain ⟨rfl, hl2, hb, hbig⟩ := hc2
                    obtain ⟨rfl, rfl⟩ := some_pair h
                    have hoc : objCells E.H j q.ver = some cs := by simp [objCells, hq, hqb, bodyCells]
                    obtain ⟨ad, cap, e1, hlc, _, hpl⟩ := ORel.cells hw (by simpa only [VRel] using hx) hoc
                    have hobj := hw.obj j q hq
                    have htrc : cs.all AV.tree = true := by
                      unfold ObjRel at hobj
                      rw [hqb] at hobj
                      rcases hobj with ⟨rfl, _⟩ | ⟨b, base, _, _, hcr, _⟩
                      · rfl
                      · exact hcr.allTree
                    rcases hpl with ⟨rfl, _, rfl, rfl, hρ⟩ | ⟨b, base, hρ, rfl, hbk, hbk2, hv, _⟩
                    · -- nothing there yet
                      have hlen0 : len = 0 := by omega
                      subst hlen0
                      rcases Nat.eq_zero_or_pos n with hn | hn
                      · subst hn
                        have hnew : new = [] := by simpa using hlen
                        subst hnew
                        have hvs : vs = [] := by simpa using hvl
                        subst hvs
                        have hrun : (Builtin.append_ #[tt, tu] o.type #[a.eval x', a.eval y']).run P E.w = .ok (.slice none 0 0) E.w := by
                          rw [e1]
                          have hl := hS.len E.w
                          have hcc := hS.cells
                          rcases hS.kind with ⟨e', hk⟩ | hk <;> simp [Builtin.append_, run_underlying hu, run_underlying hk, sizeOf, typeInfo, hi, hl, hcc]
                        have hr2 := relay (o' := ⟨q.ver + 1, .row true i.size ([] ++ [])⟩) (p := none) hw hq (Nat.le_succ _) (fun e => by simp at e) (Chg.none E j) (fun _ _ _ h => by cases h) (fun _ => .inl ⟨rfl, put_ρ hw hq⟩)
                        refine ⟨_, _, .inl (hexec _ _ hrun), .put hr2 ?_⟩
                        simp only [VRel]
                        exact ⟨none, 0, rfl, Nat.le_refl _, fun h => by omega, _, put_H hq, Nat.le_refl _, fun _ => ⟨by simp, .inr ⟨rfl, put_ρ hw hq, rfl, rfl⟩⟩⟩
                      · exact grow none 0 0 [] [] e1 rfl rfl (by simp) (run_firstCells_none E.w.drew i.size 0 0 0) (by omega) hb hbig
                    · by_cases hroom : len + n ≤ cap
                      · -- there is room
                        have hspace : len * i.size + n * i.size ≤ cap * i.size := by rw [← Nat.add_mul]; exact Nat.mul_le_mul_right _ hroom
                        have hrun := run_append_room_src (P := P) E.w tt tu o.type el i hu hi b (base + 0) len cap (a.eval y') n vs hS hroom (fun k hk => (hbk.cell (by omega)).1) (fun k hk => (hbk.cell (by omega)).2)
                        rw [← e1] at hrun
                        have hL := lay_write (E := E) (body' := .row true i.size (cs ++ new)) (cs := cs ++ new) (new := new) (off := cs.length) (m := base + 0 + cap * i.size) (ver := q.ver + 1) hw hq (by rw [hqb]; rfl) hρ (by omega)
                          (fun e => by simp at e) (.inr ⟨_, rfl⟩) hbk (by rw [List.length_append, hlen]; omega) (by rw [List.length_append]; exact Nat.le_refl _)
                          ⟨cs, by rw [hqb]; rfl, fun k => ⟨fun hk => List.getElem?_append_right hk.1, fun hk => by
                            by_cases hlt : k < cs.length
                            · exact List.getElem?_append_left hlt
                            · rw [List.getElem?_eq_none (by rw [List.length_append]; omega), List.getElem?_eq_none (by omega)]⟩⟩ hr
                          (List.all_eq_true.2 fun c hc => AV.tree_atom (List.all_eq_true.1 htr c hc)) (fun _ => ⟨htr, _, _, _, hqb⟩)
                        have e5 : base + 0 + len * i.size = base + cs.length := by omega
                        rw [e5] at hrun
                        refine ⟨_, _, .inl (hexec _ _ hrun), .put hL ?_⟩
                        simp only [VRel]
                        refine ⟨_, cap, rfl, hroom, fun _ => rfl, _, put_H hq, Nat.le_refl _, fun _ => ⟨by rw [List.length_append, hlen, ← hl2, Nat.add_mul]; omega, .inl ⟨b, base, put_ρ hw hq, rfl, ?_⟩⟩⟩
                        exact hbk.mono hL.2.w
                      · -- there is none
                        obtain ⟨olds, hro, hrange, _⟩ := hv.vals
                        refine grow _ len cap cs olds e1 hro htrc hl2.symm ?_ (by omega) hb hbig
                        exact run_firstCells_some E.w.drew i.size len ⟨b, base + 0, none⟩ len cap olds (by rw [hro.length]; exact hl2.symm) (fun k u hk => by rw [Addr.add_mid]; exact hrange k u hk)
                  · cases h
                · cases h
              · cases h
            · rename_i e
              rw [e] at hx
              simp only [VRel] at hx
              split at h
              · rename_i hcond
                obtain ⟨rfl, rfl⟩ := some_pair h
                have := grow none 0 0 [] [] hx rfl rfl (by simp) (run_firstCells_none E.w.drew i.size 0 0 0) (by omega) (by simpa using hcond.2.1) (by omega)
                simpa using this
              · cases h
            · cases h
          · cases h
        · cases h
      · cases h3
    · cases h3
  · cases hc


theorem op_make (hw : WRel E) (hs : ARel E sl a) {t bytes sz : Nat} {zs : List AV} {len cap : MX} (hc : chkOp P (.make t bytes sz zs len cap) o.op = true) (h : opV cf sl E.H (.make t bytes sz zs len cap) = some (r, ups)) : OpOk P E o a.eval r ups := by
  simp only [chkOp] at hc
  split at hc
  · rename_i ty l c ho
    simp only [Bool.and_eq_true] at hc
    obtain ⟨⟨h1, h2⟩, h3⟩ := hc
    have hl := ev_rel hs h2
    have hcp := ev_rel hs h3
    split at h1
    · rename_i el hu
      split at h1
      · rename_i i hi
        simp only [Bool.and_eq_true, beq_iff_eq, decide_eq_true_eq] at h1
        obtain ⟨⟨⟨⟨hsz, hby⟩, hz⟩, h0⟩, hztr⟩ := h1
        obtain ⟨i', z, hi', hzz, hzr, hat⟩ := zeroB_rel hz
        rw [hi] at hi'
        cases hi'
        subst hsz; subst hby
        simp only [opV] at h
        split at h
        · rename_i n c' e1 e2
          have hl := int_rel e1 hl
          have hcp := int_rel e2 hcp
          split at h
          · rename_i hcond
            obtain ⟨rfl, hn0, hnb, hbig, hzl⟩ := hcond
            split at h
            · rename_i q hq
              obtain ⟨rfl, rfl⟩ := some_pair h
              have hrun := run_make (P := P) E.w ty el i z hu hi hzz .i64 .i64 n n hn0 (Int.le_refl _) (by rw [Int.mul_comm]; omega) (by omega)
              have hmr := made_rel hzr (by omega) n.toNat E
              rw [hzl] at hmr
              have htree : (repeatL n.toNat zs).all AV.tree = true := by
                refine List.all_eq_true.2 fun c hc => ?_
                simp only [repeatL, List.mem_flatten] at hc
                obtain ⟨l, hl, hc⟩ := hc
                rw [List.eq_of_mem_replicate hl] at hc
                exact List.all_eq_true.1 hztr c hc
              have hex : (execOp a.eval o).run P E.w = .ok (.value (.slice (some ⟨E.w.heap.size, 0, none⟩) n.toNat n.toNat)) (E.w.alloc (.cells (madeCells z.cells (n.toNat * i.size)) el)) := by
                simp only [execOp, ho, hl, hcp, Sem.run_bind, hrun, Result.andThen_ok, Sem.run_pure]
              have hn := lay_new (E := E) hw hq (body := .row true i.size (repeatL n.toNat zs)) (cs := repeatL n.toNat zs) (.inr ⟨_, rfl, htree⟩) (Chg.none E t) (madeCells z.cells (n.toNat * i.size)) el (fun j c hj => by
                obtain ⟨v, hv, hrv⟩ := hmr.get j c hj
                exact ⟨AV.tree_atom (all_get htree hj), v, hv, hrv⟩)
              refine ⟨_, _, .inl hex, .put hn.1 (own_new hw hq ?_ (Nat.le_refl _) (hn.2.le ?_))⟩
              · simp [repeatL, List.length_flatten, hzl]
              · rw [size_madeCells]; exact Nat.le_refl _
            · cases h
          · cases h
        · cases h
      · cases h1
    · cases h1
  · cases hc


theorem srcPrefix (hw : WRel E) {ysrc : Option Nat} {sz n m : Nat} {y : AV} {cs : List AV} {v : Value} (h : srcCells E.H ysrc sz y = some (n, cs)) (hy : VRel E y v) (hm : m ≤ n) :
    ∃ vs, (Builtin.lenOf v).run P E.w = .ok n E.w ∧ (Builtin.firstCells sz m v).run P E.w = .ok vs.toArray E.w ∧ LRel E (cs.take (m * sz)) vs ∧ cs.length = n * sz ∧ cs.all AV.tree = true ∧ ∃ a k c, v = .slice a k c := by
  have fin : ∀ {ds : List AV} {b off cap : Nat}, VCells E ds b off → ds.all AV.tree = true → ds.length = n * sz →
      ∃ vs, (Builtin.lenOf (.slice (some ⟨b, off, none⟩) n cap)).run P E.w = .ok n E.w ∧ (Builtin.firstCells sz m (.slice (some ⟨b, off, none⟩) n cap)).run P E.w = .ok vs.toArray E.w ∧ LRel E (ds.take (m * sz)) vs ∧ ds.length = n * sz ∧ ds.all AV.tree = true ∧ ∃ a k c, Value.slice (some ⟨b, off, none⟩) n cap = .slice a k c := by
    intro ds b off cap hv htr hl
    obtain ⟨vs, hr, hrange, _⟩ := (hv.take (m * sz)).vals
    refine ⟨vs, rfl, ?_, hr, hl, htr, _, _, _, rfl⟩
    have hle : m * sz ≤ n * sz := Nat.mul_le_mul_right _ hm
    have := run_loadCells_list (P := P) E.w ⟨b, off, none⟩ vs (fun j u hj => by rw [Addr.add_mid]; exact hrange j u hj)
    rw [hr.length, List.length_take, hl, Nat.min_eq_left hle] at this
    simpa [Builtin.firstCells] using this
  unfold srcCells at h
  split at h
  · rename_i n' ds
    split at h
    · rename_i hlen
      cases h
      simp only [VRel] at hy
      obtain ⟨ad, cap, rfl, hle, h3, h4⟩ := hy
      rcases h4 with rfl | ⟨b, off, rfl, _, hc⟩
      · have h0 : n * sz = 0 := by simpa using hlen.symm
        have hm0 : m * sz = 0 := by have : m * sz ≤ n * sz := Nat.mul_le_mul_right _ hm; omega
        refine ⟨[], rfl, ?_, by simp [LRel], hlen, rfl, _, _, _, rfl⟩
        cases ad with
        | none => simp [Builtin.firstCells]
        | some ad =>
          have := run_loadCells_list (P := P) E.w ad [] (by simp)
          simpa [Builtin.firstCells, hm0] using this
      · exact fin hc.toV hc.allTree hlen
    · cases h
  · cases h
    simp only [VRel] at hy
    subst hy
    exact ⟨[], rfl, by simp [Builtin.firstCells], by simp [LRel], by simp, rfl, _, _, _, rfl⟩
  · cases h
    simp only [VRel] at hy
    obtain ⟨ad, cap, rfl, _⟩ := hy
    have hm0 : m = 0 := by omega
    subst hm0
    refine ⟨[], rfl, ?_, by simp [LRel], by simp, rfl, _, _, _, rfl⟩
    cases ad with
    | none => simp [Builtin.firstCells]
    | some ad =>
      have := run_loadCells_list (P := P) E.w ad [] (by simp)
      simpa [Builtin.firstCells] using this
  · rename_i i ver off len sz'
    split at h
    · rename_i hcond
      obtain ⟨_, rfl⟩ := hcond
      split at h
      · rename_i ds hds
        split at h
        · rename_i hle
          split at h
          · rename_i htr
            cases h
            obtain ⟨ad, cap, rfl, hlc, _, hpl⟩ := ORel.cells hw (by simpa only [VRel] using hy) hds
            rcases hpl with ⟨rfl, rfl, rfl, rfl, _⟩ | ⟨b, base, _, rfl, _, _, _, hv⟩
            · have h0 : n = 0 := by omega
              subst h0
              exact ⟨[], rfl, by simp [Builtin.firstCells], by simp [LRel], by simp, by simp, _, _, _, rfl⟩
            · exact fin (hv.take _) htr (by simp; omega)
          · cases h
        · cases h
      · cases h
    · cases h
  · cases h

theorem op_copy (hw : WRel E) (hs : ARel E sl a) {sz ob : Nat} {ysrc : Option Nat} {x y : MX} (hc : chkOp P (.copy sz ob ysrc x y) o.op = true) (h : opV cf sl E.H (.copy sz ob ysrc x y) = some (r, ups)) : OpOk P E o a.eval r ups := by
  simp only [chkOp] at hc
  split at hc
  · rename_i args ts ho
    simp only [Bool.and_eq_true] at hc
    obtain ⟨h1, h3⟩ := hc
    have hxs := evs_rel hs h1
    obtain ⟨x', y', hargs⟩ : ∃ x' y', args = #[x', y'] := by
      have hl := hxs.length
      simp at hl
      have h2' : args.size = 2 := by simpa using hl
      exact ⟨args[0], args[1], by apply Array.ext <;> simp [h2']; intro i h1 h2; rcases i with _ | _ | i <;> simp; omega⟩
    subst hargs
    simp only [List.map_cons, List.map_nil, LRel] at hxs
    obtain ⟨vx, rx, e1, hx, vy, ry, e2, hy, _⟩ := hxs
    cases e1; cases e2
    split at h3
    · rename_i t ht
      split at h3
      · rename_i el hu
        simp only [opV] at h
        split at h
        · rename_i n new hsrc
          split at h
          · rename_i i ver off len sz' e
            rw [e] at hx
            split at h
            · cases h
            · rename_i hcond
              have hsz : sz' = sz := by
                rcases Nat.decEq sz' sz with h | h
                · exact absurd (.inr h) hcond
                · exact h
              subst hsz
              split at h
              · rename_i q hq
                split at h
                · cases h
                · rename_i hver
                  have hver : q.ver = ver := by simpa using hver
                  have hmn : min n len ≤ n := Nat.min_le_left _ _
                  obtain ⟨vs, hl, hfc, hr, hlen, htr, _⟩ := srcPrefix (P := P) hw hsrc hy hmn
                  have hnl : (new.take (min n len * sz')).length = min n len * sz' := by
                    rw [List.length_take, hlen]; exact Nat.min_eq_left (Nat.mul_le_mul_right _ hmn)
                  have hle2 : min n len * sz' ≤ len * sz' := Nat.mul_le_mul_right _ (Nat.min_le_right _ _)
                  have htr' : (new.take (min n len * sz')).all AV.tree = true := List.all_eq_true.2 fun c hc => List.all_eq_true.1 htr c (List.mem_of_mem_take hc)
                  have hat' : (new.take (min n len * sz')).all AV.atom = true := List.all_eq_true.2 fun c hc => AV.tree_atom (List.all_eq_true.1 htr' c hc)
                  have h1' : ∀ u ∈ vs, u.oneCell' = true := by
                    intro u hu
                    obtain ⟨k, hk⟩ := List.mem_iff_getElem?.1 hu
                    have hlt := (List.getElem?_eq_some_iff.1 hk).1
                    have hll := hr.length
                    obtain ⟨u', hu', hru⟩ := hr.get k ((new.take (min n len * sz'))[k]'(by omega)) (List.getElem?_eq_getElem (by omega))
                    rw [hk] at hu'
                    cases hu'
                    exact hru.one (List.all_eq_true.1 hat' _ (List.getElem_mem _))
                  have hx' : ORel E i ver off len sz' (a.eval x') := by simpa only [VRel] using hx
                  -- one way of the two
                  have way : ∀ (cs : List AV) (body' : ABody), bodyCells q.body = some cs → (body' = .var (setCells cs off (new.take (min n len * sz'))) ∧ q.body = .var cs ∨ ∃ s, body' = .row true s (setCells cs off (new.take (min n len * sz'))) ∧ q.body = .row true s cs) →
                      off + len * sz' ≤ cs.length → OpOk P E o a.eval (.int .i64 (min n len : Nat)) [(i, ⟨ver, body'⟩)] := by
                    intro cs body' hb hbody hle
                    have hoc : objCells E.H i ver = some cs := by simp [objCells, hq, hver, hb]
                    obtain ⟨ad, cap, e1, hlc, _, hpl⟩ := ORel.cells hw hx' hoc
                    have hsc : (setCells cs off (new.take (min n len * sz'))).length = cs.length := setCells_len (by omega)
                    rcases hpl with ⟨rfl, rfl, rfl, rfl, hρ⟩ | ⟨b, base, hρ, rfl, hbk, hbk2, hv, _⟩
                    · have hlen0 : len = 0 := by omega
                      subst hlen0
                      have hvs : vs = [] := by have := hr.length; rw [hnl] at this; simpa using this
                      have hrun : (Builtin.copy_ ts o.type #[a.eval x', a.eval y']).run P E.w = .ok (goInt (min n 0 : Nat)) E.w := by
                        have hl0 : Nat.min n 0 = 0 := Nat.min_zero n
                        have hfc' : (Builtin.firstCells sz' 0 (a.eval y')).run P E.w = .ok #[] E.w := by
                          rw [show min n 0 = 0 from Nat.min_zero n, hvs] at hfc; exact hfc
                        simp [Builtin.copy_, ht, e1, run_underlying hu, hl, hl0, run_sizeOf' h3, hfc']
                      have hns : setCells [] 0 (new.take (min n 0 * sz')) = [] := List.length_eq_zero_iff.1 hsc
                      rw [hns] at hbody
                      have hr2 := relay (o' := ⟨ver, body'⟩) (p := none) hw hq (by show q.ver ≤ ver; omega) (fun _ => ⟨by
                        rcases hbody with ⟨rfl, hqb⟩ | ⟨s, rfl, hqb⟩
                        · rw [hqb]; exact rfl
                        · rw [hqb]; exact ⟨rfl, rfl⟩, hρ⟩) (Chg.none E i) (fun _ _ _ h => by cases h) (fun _ => by
                        unfold ObjRel
                        rcases hbody with ⟨rfl, hqb⟩ | ⟨s, rfl, hqb⟩
                        · exfalso
                          have := hw.obj i q hq
                          unfold ObjRel at this
                          rw [hqb] at this
                          obtain ⟨b, base, h1, _⟩ := this
                          rw [hρ] at h1; cases h1
                        · exact .inl ⟨rfl, put_ρ hw hq⟩)
                      refine ⟨goInt (min n 0 : Nat), E.w, .inl ?_, .put hr2 rfl⟩
                      simp [execOp, ho, resolve, invoke, builtin, hrun]
                    · have hL := lay_write (E := E) (body' := body') (cs := setCells cs off (new.take (min n len * sz'))) (new := new.take (min n len * sz')) (off := off) (m := base + cs.length) (ver := ver) hw hq
                        (by rcases hbody with ⟨_, hqb⟩ | ⟨s, _, hqb⟩ <;> rw [hqb] <;> rfl) hρ (by omega)
                        (fun _ => by rcases hbody with ⟨rfl, hqb⟩ | ⟨s, rfl, hqb⟩ <;> rw [hqb] <;> simp [sameShape, hsc])
                        (by rcases hbody with ⟨rfl, _⟩ | ⟨s, rfl, _⟩
                            · exact .inl rfl
                            · exact .inr ⟨s, rfl⟩) hbk2 (by rw [hsc]; exact Nat.le_refl _) (by rw [hsc]; omega)
                        ⟨cs, hb, fun k => ⟨fun hk => by rw [setCells_get (by omega), if_pos hk], fun hk => by rw [setCells_get (by omega), if_neg hk]⟩⟩ hr hat'
                        (fun hrow => ⟨htr', by
                          rcases hbody with ⟨rfl, _⟩ | ⟨s, _, hqb⟩
                          · obtain ⟨_, h⟩ := hrow; cases h
                          · exact ⟨_, _, _, hqb⟩⟩)
                      have hst := run_storeCells_cells (P := P) b (base + off) vs 0 E.w (fun k hk => by have := (hbk2.cell (k := base + off + k) (by have := hr.length; omega)).1; simpa using this) (fun k hk => by have := (hbk2.cell (k := base + off + k) (by have := hr.length; omega)).2; simpa using this) h1'
                      simp only [Nat.add_zero] at hst
                      have hrun : (Builtin.copy_ ts o.type #[a.eval x', a.eval y']).run P E.w = .ok (goInt (min n len : Nat)) (E.w.setCells b (base + off) vs) := by
                        have hmin : Nat.min n len = min n len := rfl
                        simp [Builtin.copy_, ht, e1, run_underlying hu, hl, hmin, run_sizeOf' h3, hfc, hst]
                      refine ⟨goInt (min n len : Nat), _, .inl ?_, .put hL rfl⟩
                      simp [execOp, ho, resolve, invoke, builtin, hrun]
                  split at h
                  · rename_i cs hqb
                    split at h
                    · rename_i hle
                      obtain ⟨rfl, rfl⟩ := some_pair h
                      exact way cs _ (by rw [hqb]; rfl) (.inl ⟨rfl, hqb⟩) hle
                    · cases h
                  · rename_i s cs hqb
                    split at h
                    · rename_i hle
                      obtain ⟨rfl, rfl⟩ := some_pair h
                      exact way cs _ (by rw [hqb]; rfl) (.inr ⟨s, rfl, hqb⟩) hle
                    · cases h
                  · cases h
              · cases h
          · cases h
        · cases h
      · cases h3
    · cases h3
  · cases hc

end Go.Ev
end
section
namespace Go.Ev
variable {P : Program} {E : Env} {o : Oper} {a : Act} {sl : List AV} {cf : CallF} {r : AV} {ups : List (Nat × AObj)}

theorem eqCells_pv : ∀ {ks : List (Option IntKind)} {a b : List AV} {r : Bool}, eqCells ks a b = some r → eqVals ks (a.map pv) (b.map pv) = some r
  | [], [], [], r, h => by simpa [eqCells, eqVals] using h
  | [], [], _ :: _, _, h => by simp [eqCells] at h
  | [], _ :: _, _, _, h => by simp [eqCells] at h
  | k :: ks, [], _, _, h => by cases k <;> simp [eqCells] at h
  | k :: ks, x :: a, [], _, h => by cases k <;> cases x <;> simp [eqCells] at h
  | k :: ks, x :: a, y :: b, r, h => by
    cases k with
    | none =>
      cases x <;> cases y <;> simp only [eqCells, reduceCtorEq] at h
      obtain ⟨r', h3, rfl⟩ := Option.map_eq_some_iff.1 h
      simp only [List.map_cons, pv, eqVals, eqCells_pv h3, Option.map_some]
    | some k =>
      cases x <;> cases y <;> simp only [eqCells, reduceCtorEq] at h
      split at h
      · rename_i hk
        obtain ⟨r', h3, rfl⟩ := Option.map_eq_some_iff.1 h
        simp only [List.map_cons, pv, eqVals, hk, and_self, if_true, eqCells_pv h3, Option.map_some]
      · cases h
theorem eqCells_vals : ∀ {ks : List (Option IntKind)} {a b : List AV} {r : Bool} {vs : List Value}, eqCells ks a b = some r → LRel E a vs → vs = a.map pv
  | [], [], [], r, vs, h, hv => by simp only [LRel] at hv; rw [hv]; rfl
  | [], [], _ :: _, _, _, h, _ => by simp [eqCells] at h
  | [], _ :: _, _, _, _, h, _ => by simp [eqCells] at h
  | k :: ks, [], _, _, _, h, _ => by cases k <;> simp [eqCells] at h
  | k :: ks, x :: a, [], _, _, h, _ => by cases k <;> cases x <;> simp [eqCells] at h
  | k :: ks, x :: a, y :: b, r, vs, h, hv => by
    simp only [LRel] at hv
    obtain ⟨v, us, rfl, h1, h2⟩ := hv
    cases k with
    | none =>
      cases x <;> cases y <;> simp only [eqCells, reduceCtorEq] at h
      obtain ⟨r', h3, rfl⟩ := Option.map_eq_some_iff.1 h
      simp only [VRel] at h1
      rw [eqCells_vals h3 h2, h1]; rfl
    | some k =>
      cases x <;> cases y <;> simp only [eqCells, reduceCtorEq] at h
      split at h
      · obtain ⟨r', h3, rfl⟩ := Option.map_eq_some_iff.1 h
        simp only [VRel] at h1
        rw [eqCells_vals h3 h2, h1]; rfl
      · cases h
theorem eqCells_true : ∀ {ks : List (Option IntKind)} {a b : List AV}, eqCells ks a b = some true → a = b
  | [], [], [], h => rfl
  | [], [], _ :: _, h => by simp [eqCells] at h
  | [], _ :: _, _, h => by simp [eqCells] at h
  | k :: ks, [], _, h => by cases k <;> simp [eqCells] at h
  | k :: ks, x :: a, [], h => by cases k <;> cases x <;> simp [eqCells] at h
  | k :: ks, x :: a, y :: b, h => by
    cases k with
    | none =>
      cases x <;> cases y <;> simp only [eqCells, reduceCtorEq] at h
      obtain ⟨r', h3, h4⟩ := Option.map_eq_some_iff.1 h
      simp only [Bool.and_eq_true, beq_iff_eq] at h4
      rw [h4.2] at h3
      rw [h4.1, eqCells_true h3]
    | some k =>
      cases x <;> cases y <;> simp only [eqCells, reduceCtorEq] at h
      split at h
      · rename_i hk
        obtain ⟨r', h3, h4⟩ := Option.map_eq_some_iff.1 h
        simp only [Bool.and_eq_true, beq_iff_eq] at h4
        rw [h4.2] at h3
        rw [h4.1, hk.1, hk.2, eqCells_true h3]
      · cases h

def ChkRun (P : Program) (m : Nat) (t : TypeId) (ks : List (Option IntKind)) : Prop :=
  (P.underlying t).isSome = true ∧ (aggB P t = false → ks.length = 1) ∧
  ∀ (em : Bool) (w : World) (xs : List Value) (r : Bool), eqVals ks xs xs = some r → (Instr.checkKey em m t (mkv P t xs)).run P w = .ok () w

theorem chk_run (m : Nat) : ∀ (d : Nat) (t : TypeId) (ks : List (Option IntKind)), kindsOf P d t = some ks → ChkRun P (m + d) t ks
  | 0, _, _, h => by simp [kindsOf] at h
  | d + 1, t, ks, h => by
    have hE := eq_run (P := P) m (d + 1) t ks h
    refine ⟨hE.1, hE.2.1, ?_⟩
    unfold kindsOf at h
    cases hu : P.underlying t with
    | none => simp [hu] at h
    | some kd =>
      rw [hu] at h
      cases kd <;> simp only [reduceCtorEq] at h
      case bool =>
        split at h
        · cases h
          have ha : aggB P t = false := by simp [aggB, hu]
          intro em w xs r hr
          obtain ⟨x, y, us, vs, r1, r2, rfl, _, h1, h2, rfl⟩ := eqVals_cons hr
          cases x <;> cases y <;> simp [eqVals] at h1
          rw [show m + (d + 1) = (m + d) + 1 from rfl, Instr.checkKey]
          simp [mkv, ha, run_underlying hu]
        · cases h
      case int k =>
        split at h
        · cases h
          have ha : aggB P t = false := by simp [aggB, hu]
          intro em w xs r hr
          obtain ⟨x, y, us, vs, r1, r2, rfl, _, h1, h2, rfl⟩ := eqVals_cons hr
          cases x <;> cases y <;> simp [eqVals] at h1
          rw [show m + (d + 1) = (m + d) + 1 from rfl, Instr.checkKey]
          simp [mkv, ha, run_underlying hu]
        · cases h
      case array n e =>
        split at h
        · rename_i ks1 hk1
          split at h
          · rename_i hz
            simp only [Bool.and_eq_true, decide_eq_true_eq] at hz
            cases h
            have ha : aggB P t = true := by simp [aggB, hu]
            intro em w xs r hr
            have IH := chk_run m d e ks1 hk1
            obtain ⟨i, hi, hsz⟩ := szB_info hz.1.1
            rw [show m + (d + 1) = (m + d) + 1 from rfl, Instr.checkKey]
            simp only [mkv, ha, if_true, Sem.run_bind, run_underlying hu, Result.andThen_ok]
            simp only [Std.Legacy.Range.forIn_eq_forIn_range', Std.Legacy.Range.size, Nat.sub_zero, Nat.add_one_sub_one, Nat.div_one]
            have go : ∀ (n s : Nat) (r : Bool), eqVals (List.replicate n ks1).flatten (xs.drop (s * ks1.length)) (xs.drop (s * ks1.length)) = some r →
                (forIn (List.range' s n) PUnit.unit fun i r => do
                  let sz ← sizeOf e
                  let p ← part e xs.toArray (i * sz)
                  Instr.checkKey em (m + d) e p
                  pure (ForInStep.yield PUnit.unit) : Sem PUnit).run P w = .ok PUnit.unit w := by
              intro n
              induction n with
              | zero => intro s r _; simp
              | succ n ih =>
                intro s r h
                rw [List.replicate_succ, List.flatten_cons] at h
                have hl := eqVals_len h
                obtain ⟨r1, r2, h1, h2, rfl⟩ := eqVals_split _ _ h
                rw [List.drop_drop, show s * ks1.length + ks1.length = (s + 1) * ks1.length by rw [Nat.add_mul, Nat.one_mul]] at h2
                simp only [List.length_drop, List.length_append] at hl
                have px := run_part (cs := xs.toArray) (off := s * ks1.length) w IH.1 hz.1.1 hz.1.2 IH.2.1 (by simp; omega)
                have hs : (sizeOf e).run P w = .ok ks1.length w := by simp [sizeOf, typeInfo, hi, hsz]
                rw [List.range'_succ]
                simp only [List.forIn_cons, Sem.run_bind, hs, px, Result.andThen_ok, IH.2.2 em w _ r1 h1, Sem.run_pure]
                exact ih (s + 1) r2 h2
            have := go n 0 r (by simpa using hr)
            simp at this ⊢; rw [this]; simp
          · cases h
        · cases h
      case struct fs =>
        split at h
        · cases h
        · rename_i hst
          split at h
          · rename_i ks1 hk1
            split at h
            · cases h
              have ha : aggB P t = true := by simp [aggB, hu]
              intro em w xs r hr
              rw [show m + (d + 1) = (m + d) + 1 from rfl, Instr.checkKey]
              simp only [mkv, ha, if_true, Sem.run_bind, run_underlying hu, Result.andThen_ok]
              rw [← Array.forIn_toList]
              have go : ∀ (fs : List Field) (off : Nat) (ks : List (Option IntKind)) (r : Bool), fieldKinds P (kindsOf P d) off fs = some ks → eqVals ks (xs.drop off) (xs.drop off) = some r →
                  (forIn fs PUnit.unit fun f r => do
                    if f.name ≠ "_" then do
                      let p ← part f.type xs.toArray f.offset
                      Instr.checkKey em (m + d) f.type p
                      pure (ForInStep.yield PUnit.unit)
                    else pure (ForInStep.yield PUnit.unit) : Sem PUnit).run P w = .ok PUnit.unit w := by
                intro fs
                induction fs with
                | nil => intro off ks r _ _; simp
                | cons f fs ih =>
                  intro off ks r hk h
                  unfold fieldKinds at hk
                  split at hk
                  · rename_i hn
                    simp only [Bool.and_eq_true, bne_iff_ne, ne_eq, beq_iff_eq] at hn
                    split at hk
                    · rename_i ks1 hk1
                      split at hk
                      · rename_i hz
                        simp only [Bool.and_eq_true, decide_eq_true_eq] at hz
                        obtain ⟨ks2, hk2, rfl⟩ := Option.map_eq_some_iff.1 hk
                        have hl := eqVals_len h
                        obtain ⟨r1, r2, h1, h2, rfl⟩ := eqVals_split _ _ h
                        rw [List.drop_drop] at h2
                        simp only [List.length_drop, List.length_append] at hl
                        have I := chk_run m d _ _ hk1
                        have px := run_part (cs := xs.toArray) (off := off) w I.1 hz.1 hz.2 I.2.1 (by simp; omega)
                        simp only [List.forIn_cons, ne_eq, hn.1, not_false_eq_true, if_true, hn.2, Sem.run_bind, px, Result.andThen_ok, I.2.2 em w _ r1 h1, Sem.run_pure]
                        exact ih (off + ks1.length) ks2 r2 hk2 h2
                      · cases hk
                    · cases hk
                  · cases hk
              have := go fs.toList 0 _ r hk1 (by simpa using hr)
              simp at this ⊢; rw [this]; simp
            · cases h
          · cases h

theorem mapB_run {t : TypeId} {ks : List (Option IntKind)} (h : mapB P t ks = true) : ∃ k e, P.underlying t = some (.map k e) ∧ aggB P k = true ∧ kindsOf P 20 k = some ks ∧ ∀ w, (zeroValue e).run P w = .ok (.int .i64 0) w := by
  unfold mapB at h
  split at h
  · rename_i k e hu
    simp only [Bool.and_eq_true, beq_iff_eq] at h
    refine ⟨k, e, hu, h.1.1, h.1.2, fun w => ?_⟩
    have h2 := h.2
    split at h2
    · rename_i i hi
      split at h2
      · rename_i hz; simp [zeroValue, typeInfo, hi, hz]
      · cases h2
    · cases h2
  · cases h

theorem keyGet_ok {ks : List (Option IntKind)} {x : AV} {kc : List AV} (h : keyGet ks x = some kc) : x = .agg kc ∧ eqCells ks kc kc = some true := by
  unfold keyGet at h
  split at h
  · split at h
    · cases h; exact ⟨rfl, by assumption⟩
    · cases h
  · cases h
theorem mapGet_ok {H : List AObj} {o : Nat} {x : AV} {ver clk : Nat} {es : List (List AV × Int × Nat)} (h : mapGet H o x = some (ver, clk, es)) : x = .mp o ver ∧ H[o]? = some ⟨ver, .map clk es⟩ := by
  unfold mapGet at h
  split at h
  · split at h
    · cases h
    · rename_i j' ver' hj
      have hj : o = j' := by simpa using hj
      subst hj
      split at h
      · rename_i hq
        split at h
        · rename_i hv; cases h; subst hv; exact ⟨rfl, hq⟩
        · cases h
      · cases h
  · cases h
theorem mapLook_ok {ks : List (Option IntKind)} {H : List AObj} {o : Nat} {x k : AV} {ver clk : Nat} {es : List (List AV × Int × Nat)} {kc : List AV} {r : Option (Nat × List AV × Int × Nat)}
    (h : mapLook ks H o x k = some (ver, clk, es, kc, r)) : x = .mp o ver ∧ H[o]? = some ⟨ver, .map clk es⟩ ∧ k = .agg kc ∧ eqCells ks kc kc = some true ∧ mfind ks kc es 0 = some r := by
  unfold mapLook at h
  split at h
  · rename_i h1 h2
    split at h
    · rename_i h3
      cases h
      exact ⟨(mapGet_ok h1).1, (mapGet_ok h1).2, (keyGet_ok h2).1, (keyGet_ok h2).2, h3⟩
    · cases h
  · cases h

theorem findAsking_run {k : TypeId} {ks : List (Option IntKind)} (ha : aggB P k = true) (hk : kindsOf P 20 k = some ks) {kc : List AV} (w : World) :
    ∀ (es : List (List AV × Int × Nat)) (i : Nat) (r : Option (Nat × List AV × Int × Nat)), mfind ks kc es i = some r →
      (Instr.findAsking k (.agg (kc.map pv).toArray) (es.map pe) i).run P w = .ok (r.map fun p => (p.1, .int .i64 p.2.2.1)) w
  | [], i, r, h => by simp only [mfind, Option.some.injEq] at h; subst h; simp [Instr.findAsking]
  | e :: es, i, r, h => by
    have hr := (eq_run (P := P) 9980 20 k ks hk).2.2 w (kc.map pv) (e.1.map pv)
    simp only [mkv, ha, if_true] at hr
    have he : ∀ b, eqCells ks kc e.1 = some b → (Op.equal k (.agg (kc.map pv).toArray) (.agg (e.1.map pv).toArray)).run P w = .ok b w := fun b hb => hr b (eqCells_pv hb)
    simp only [mfind] at h
    split at h
    · rename_i hb
      cases h
      simp [Instr.findAsking, pe, he true hb]
    · rename_i hb
      simp only [List.map_cons, Instr.findAsking, pe, Sem.run_bind, he false hb, Result.andThen_ok, Bool.false_eq_true, if_false]
      exact findAsking_run ha hk w es (i + 1) r h
    · cases h
theorem findKey_run {k : TypeId} {ks : List (Option IntKind)} (ha : aggB P k = true) (hk : kindsOf P 20 k = some ks) {kc : List AV} (w : World)
    {es : List (List AV × Int × Nat)} {r : Option (Nat × List AV × Int × Nat)} (h : mfind ks kc es 0 = some r) :
      (Instr.findKey k (.agg (kc.map pv).toArray) (es.map pe)).run P w = .ok (r.map fun p => (p.1, .int .i64 p.2.2.1)) w := by
  obtain ⟨d, hd⟩ := Option.isSome_iff_exists.1 (eq_run (P := P) 9980 20 k ks hk).1
  unfold Instr.findKey
  simp only [Sem.run_bind, run_underlying hd, Result.andThen_ok]
  cases es with
  | nil => simp only [mfind, Option.some.injEq] at h; subst h; simp [Instr.findNow]
  | cons e es =>
    have : Instr.findNow d (.agg (kc.map pv).toArray) ((e :: es).map pe) 0 = none := by
      simp only [List.map_cons, Instr.findNow, pe]
      cases d <;> rfl
    rw [this]
    exact findAsking_run ha hk w _ 0 r h
theorem mfind_get {ks : List (Option IntKind)} {kc : List AV} : ∀ {es : List (List AV × Int × Nat)} {i : Nat} {j : Nat} {e : List AV × Int × Nat}, mfind ks kc es i = some (some (j, e)) → i ≤ j ∧ es[j - i]? = some e ∧ e.1 = kc
  | [], i, j, e, h => by simp [mfind] at h
  | x :: es, i, j, e, h => by
    simp only [mfind] at h
    split at h
    · rename_i hb
      cases h
      exact ⟨Nat.le_refl _, by simp, (eqCells_true hb).symm⟩
    · obtain ⟨h1, h2, h3⟩ := mfind_get h
      refine ⟨by omega, ?_, h3⟩
      rw [show j - i = (j - (i + 1)) + 1 by omega]
      simpa using h2
    · cases h

def wmap (w : World) (b clk : Nat) (es : List (List AV × Int × Nat)) : World := { w with heap := w.heap.setIfInBounds b (.map (es.map pe).toArray clk) }
theorem map_write (hw : WRel E) {i ver clk : Nat} {es : List (List AV × Int × Nat)} {b : Nat} (hq : E.H[i]? = some ⟨ver, .map clk es⟩) (hρ : E.ρ[i]? = some (some (b, 0))) (clk' : Nat) (es' : List (List AV × Int × Nat)) :
    WRel (E.put i ⟨ver, .map clk' es'⟩ (some (b, 0)) (wmap E.w b clk' es')) ∧ Step E (E.put i ⟨ver, .map clk' es'⟩ (some (b, 0)) (wmap E.w b clk' es')) := by
  have hm : E.mutAt i b := ⟨_, 0, hq, rfl, hρ⟩
  have hold : MapAt E.w b clk es := by
    have := hw.obj i _ hq
    unfold ObjRel at this
    obtain ⟨b', h1, h2⟩ := this
    rw [hρ] at h1; cases h1; exact h2
  refine relay (o' := ⟨ver, .map clk' es'⟩) hw hq (Nat.le_refl _) (fun _ => ⟨trivial, hρ⟩) ⟨rfl, rfl, rfl, by simp [wmap], fun c _ hn => ?_, fun c arr e f hc => ⟨arr, ?_, rfl⟩, Nat.le_refl _⟩
    (fun _ _ _ h => by cases h; exact .inl hm) (fun _ => ⟨b, put_ρ hw hq, ?_⟩)
  · have : b ≠ c := fun e => hn (e ▸ hm)
    simp [wmap, this]
  · have : b ≠ c := fun e => by subst e; rw [hold] at hc; cases hc
    simpa [wmap, this] using hc
  · have := mapAt_lt hold
    show (wmap E.w b clk' es').heap[b]? = _
    simp [wmap, this]

theorem eraseIdx_mapL {α β : Type} (f : α → β) : ∀ (l : List α) (i : Nat), (l.map f).eraseIdx i = (l.eraseIdx i).map f
  | [], _ => rfl
  | _ :: _, 0 => rfl
  | x :: l, i + 1 => by simp [eraseIdx_mapL f l i]

theorem op_mapmk (hw : WRel E) {t : Nat} (hc : chkOp P (.mapmk t) o.op = true) (h : opV cf sl E.H (.mapmk t) = some (r, ups)) : OpOk P E o a.eval r ups := by
  simp only [chkOp] at hc
  split at hc
  · rename_i ty ho
    simp only [opV] at h
    split at h
    · rename_i q hq
      obtain ⟨rfl, rfl⟩ := some_pair h
      have hr := relay (o' := ⟨q.ver + 1, .map 0 []⟩) (p := some (E.w.heap.size, 0)) (w' := E.w.alloc (.map #[] 0)) hw hq (Nat.le_succ _) (fun e => by simp at e) ((Chg.none E t).alloc _)
        (fun b base _ h => by cases h; exact .inr (Nat.le_refl _)) (fun _ => ⟨_, put_ρ hw hq, by
          show (E.w.alloc (.map #[] 0)).heap[E.w.heap.size]? = _
          show (E.w.heap.push _)[E.w.heap.size]? = _
          simp⟩)
      refine ⟨.map (some E.w.heap.size), _, .inl ?_, .put hr ?_⟩
      · have e : (Instr.makeMap ty none).run P E.w = .ok (.map (some E.w.heap.size)) (E.w.alloc (.map #[] 0)) := rfl
        simp [execOp, ho, e]
      · simp only [VRel]
        exact ⟨_, rfl, _, put_H hq, Nat.le_refl _, fun _ => put_ρ hw hq⟩
    · cases h
  · cases hc

theorem look_rel (hw : WRel E) {ks : List (Option IntKind)} {ob : Nat} {x k : AV} {vx vk : Value} {ver clk : Nat} {es : List (List AV × Int × Nat)} {kc : List AV} {rr : Option (Nat × List AV × Int × Nat)}
    (h : mapLook ks E.H ob x k = some (ver, clk, es, kc, rr)) (hx : VRel E x vx) (hk : VRel E k vk) :
    ∃ b, vx = .map (some b) ∧ vk = .agg (kc.map pv).toArray ∧ E.H[ob]? = some ⟨ver, .map clk es⟩ ∧ E.ρ[ob]? = some (some (b, 0)) ∧ E.w.heap[b]? = some (.map (es.map pe).toArray clk) ∧ eqCells ks kc kc = some true ∧ mfind ks kc es 0 = some rr := by
  obtain ⟨rfl, hq, rfl, hkk, hf⟩ := mapLook_ok h
  simp only [VRel] at hx hk
  obtain ⟨b, rfl, q, hq', hle, hρ⟩ := hx
  rw [hq] at hq'
  cases hq'
  obtain ⟨arr, rfl, hl⟩ := hk
  have hρ := hρ rfl
  have hob := hw.obj ob _ hq
  unfold ObjRel at hob
  obtain ⟨b', h1, h2⟩ := hob
  rw [hρ] at h1
  cases h1
  refine ⟨b, rfl, ?_, hq, hρ, h2, hkk, hf⟩
  rw [← eqCells_vals hkk hl]

theorem checkKey_run {k : TypeId} {ks : List (Option IntKind)} (ha : aggB P k = true) (hk : kindsOf P 20 k = some ks) {kc : List AV} (h : eqCells ks kc kc = some true) (em : Bool) (w : World) :
    (Instr.checkKey em 10000 k (.agg (kc.map pv).toArray)).run P w = .ok () w := by
  have := (chk_run (P := P) 9980 20 k ks hk).2.2 em w (kc.map pv) true (eqCells_pv h)
  simpa only [mkv, ha, if_true] using this

theorem op_maplk (hw : WRel E) (hs : ARel E sl a) {ob : Nat} {ks : List (Option IntKind)} {ok : Bool} {x k : MX} (hc : chkOp P (.maplk ob ks ok x k) o.op = true) (h : opV cf sl E.H (.maplk ob ks ok x k) = some (r, ups)) : OpOk P E o a.eval r ups := by
  simp only [chkOp] at hc
  split at hc
  · rename_i t y j ok' ho
    simp only [Bool.and_eq_true, beq_iff_eq] at hc
    obtain ⟨⟨⟨rfl, hm⟩, hx⟩, hk⟩ := hc
    have hx := ev_rel hs hx
    have hk := ev_rel hs hk
    obtain ⟨kt, et, hu, ha, hks, hz⟩ := mapB_run hm
    simp only [opV] at h
    have key : ∀ {ver clk es kc rr}, mapLook ks E.H ob (ev sl x) (ev sl k) = some (ver, clk, es, kc, rr) →
        (execOp a.eval o).run P E.w = .ok (.value (if ok = true then .tuple #[.int .i64 ((rr.map fun p => p.2.2.1).getD 0), .bool rr.isSome] else .int .i64 ((rr.map fun p => p.2.2.1).getD 0))) E.w := by
      intro ver clk es kc rr hl
      obtain ⟨b, e1, e2, hq, hρ, hb, hkk, hf⟩ := look_rel hw hl hx hk
      have hrun : (Instr.lookup t (a.eval y) (a.eval j) ok).run P E.w = .ok (if ok = true then .tuple #[.int .i64 ((rr.map fun p => p.2.2.1).getD 0), .bool rr.isSome] else .int .i64 ((rr.map fun p => p.2.2.1).getD 0)) E.w := by
        rw [e1, e2]
        unfold Instr.lookup
        simp only [Sem.run_bind, run_underlying hu, Result.andThen_ok, MapKept.run_getObj_map hb, Sem.run_pure, checkKey_run ha hks hkk, findKey_run ha hks E.w hf]
        cases rr <;> simp [hz]
      simp only [execOp, ho, Sem.run_bind, hrun, Result.andThen_ok, Sem.run_pure]
    split at h
    · rename_i hl
      obtain ⟨rfl, rfl⟩ := some_pair h
      refine .pure hw (key hl) ?_
      cases ok
      · simp [VRel]
      · simp only [if_true, VRel]; exact ⟨_, rfl, by simp [LRel, VRel]⟩
    · rename_i hl
      obtain ⟨rfl, rfl⟩ := some_pair h
      refine .pure hw (key hl) ?_
      cases ok
      · simp [VRel]
      · simp only [if_true, VRel]; exact ⟨_, rfl, by simp [LRel, VRel]⟩
    · cases h
  · cases hc

theorem sameBits_pv : ∀ (k : List AV) (n : Nat), (∀ c ∈ k, c.tree = true ∨ True) → (∀ v ∈ k.map pv, Instr.sameBits n v v = true) → Instr.sameBits (n + 1) (.agg (k.map pv).toArray) (.agg (k.map pv).toArray) = true := by
  intro k n _ h
  simp only [Instr.sameBits, Bool.and_eq_true, beq_self_eq_true, true_and]
  rw [List.all_eq_true]
  intro p hp
  have : ∀ (l : List Value), p ∈ l.zip l → p.1 ∈ l ∧ p.1 = p.2 := by
    intro l
    induction l with
    | nil => intro h; simp at h
    | cons a l ih =>
      intro h
      rw [List.zip_cons_cons, List.mem_cons] at h
      rcases h with rfl | h
      · simp
      · exact ⟨List.mem_cons_of_mem _ (ih h).1, (ih h).2⟩
  obtain ⟨h1, h2⟩ := this _ (by simpa using hp)
  rw [← h2]
  exact h _ h1

theorem stays_run {ks : List (Option IntKind)} {kc : List AV} (h : eqCells ks kc kc = some true) (w : World) : (Instr.keyThatStays (.agg (kc.map pv).toArray) (.agg (kc.map pv).toArray)).run P w = .ok (.agg (kc.map pv).toArray) w := by
  have hs : Instr.sameBits 10000 (.agg (kc.map pv).toArray) (.agg (kc.map pv).toArray) = true := by
    refine sameBits_pv kc 9999 (fun _ _ => .inr trivial) fun v hv => ?_
    have : ∀ {ks : List (Option IntKind)} {kc : List AV}, eqCells ks kc kc = some true → ∀ v ∈ kc.map pv, Instr.sameBits 9999 v v = true := by
      intro ks
      induction ks with
      | nil => intro kc h v hv; cases kc <;> simp [eqCells] at h hv
      | cons k ks ih =>
        intro kc h v hv
        cases kc with
        | nil => simp at hv
        | cons c kc =>
          have h2 : eqCells ks kc kc = some true ∧ Instr.sameBits 9999 (pv c) (pv c) = true := by
            cases k <;> cases c <;> simp only [eqCells, reduceCtorEq] at h
            · obtain ⟨r', h3, h4⟩ := Option.map_eq_some_iff.1 h
              simp only [Bool.and_eq_true] at h4
              exact ⟨h4.2 ▸ h3, by simp [pv, Instr.sameBits]⟩
            · split at h
              · obtain ⟨r', h3, h4⟩ := Option.map_eq_some_iff.1 h
                simp only [Bool.and_eq_true] at h4
                exact ⟨h4.2 ▸ h3, by simp [pv, Instr.sameBits]⟩
              · cases h
          simp only [List.map_cons, List.mem_cons] at hv
          rcases hv with rfl | hv
          · exact h2.2
          · exact ih h2.1 v hv
    exact this h v hv
  simp [Instr.keyThatStays, hs]

theorem op_mapen (hw : WRel E) (hs : ARel E sl a) {ob : Nat} {ks : List (Option IntKind)} {x k : MX} (hc : chkOp P (.mapen ob ks x k) o.op = true) (h : opV cf sl E.H (.mapen ob ks x k) = some (r, ups)) : OpOk P E o a.eval r ups := by
  simp only [chkOp] at hc
  split at hc
  · rename_i t y j ho
    simp only [Bool.and_eq_true] at hc
    obtain ⟨⟨hm, hx⟩, hk⟩ := hc
    have hx := ev_rel hs hx
    have hk := ev_rel hs hk
    obtain ⟨kt, et, hu, ha, hks, hz⟩ := mapB_run hm
    simp only [opV] at h
    split at h
    · rename_i ver clk es kc i kk v s hl
      obtain ⟨rfl, rfl⟩ := some_pair h
      obtain ⟨b, e1, e2, hq, hρ, hb, hkk, hf⟩ := look_rel hw hl hx hk
      obtain ⟨_, hg, hke⟩ := mfind_get hf
      simp only [Nat.sub_zero] at hg hke
      have hrun : (Instr.mapEntry t (a.eval y) (a.eval j)).run P E.w = .ok (.tuple #[.int .i64 v, .int .i64 s]) (wmap E.w b clk es) := by
        rw [e1, e2]
        unfold Instr.mapEntry
        have hgp : ((es.map pe).toArray[i]?) = some (pe (kk, v, s)) := by simp [hg]
        have hkey : (pe (kk, v, s)).key = .agg (kc.map pv).toArray := by rw [← hke]; rfl
        simp only [Sem.run_bind, run_underlying hu, Result.andThen_ok, MapKept.run_getObj_map hb, Sem.run_pure, checkKey_run ha hks hkk, findKey_run ha hks E.w hf, Option.map_some, hgp, Option.getD_some, hkey, stays_run hkk, MapKept.run_setObj_map _ hb]
        have hmod : ((es.map pe).toArray.modify i fun e => { e with key := .agg (kc.map pv).toArray }) = (es.map pe).toArray := by
          apply Array.ext_getElem?
          intro m
          rw [Array.getElem?_modify]
          split
          · rename_i e; subst e
            rw [hgp, Option.map_some]
            congr 1
            rw [← hkey]
          · rfl
        rw [hmod]
        rfl
      refine ⟨.tuple #[.int .i64 v, .int .i64 s], wmap E.w b clk es, .inl ?_, .put (map_write hw hq hρ clk es) ?_⟩
      · simp only [execOp, ho, Sem.run_bind, hrun, Result.andThen_ok, Sem.run_pure]
      · simp only [VRel]; exact ⟨_, rfl, by simp [LRel, VRel]⟩
    · rename_i ver clk es kc hl
      obtain ⟨rfl, rfl⟩ := some_pair h
      obtain ⟨b, e1, e2, hq, hρ, hb, hkk, hf⟩ := look_rel hw hl hx hk
      have hrun : (Instr.mapEntry t (a.eval y) (a.eval j)).run P E.w = .ok (.tuple #[.int .i64 0, .int .i64 clk]) (wmap E.w b (clk + 1) (es ++ [(kc, 0, clk)])) := by
        rw [e1, e2]
        unfold Instr.mapEntry
        simp only [Sem.run_bind, run_underlying hu, Result.andThen_ok, MapKept.run_getObj_map hb, Sem.run_pure, checkKey_run ha hks hkk, findKey_run ha hks E.w hf, Option.map_none, hz, MapKept.run_setObj_map _ hb]
        simp [wmap, pe, goInt]
      refine ⟨.tuple #[.int .i64 0, .int .i64 clk], wmap E.w b (clk + 1) (es ++ [(kc, 0, clk)]), .inl ?_, .put (map_write hw hq hρ (clk + 1) _) ?_⟩
      · simp only [execOp, ho, Sem.run_bind, hrun, Result.andThen_ok, Sem.run_pure]
      · simp only [VRel]; exact ⟨_, rfl, by simp [LRel, VRel]⟩
    · cases h
  · cases hc

theorem op_mapdl (hw : WRel E) (hs : ARel E sl a) {ob : Nat} {ks : List (Option IntKind)} {x k : MX} (hc : chkOp P (.mapdl ob ks x k) o.op = true) (h : opV cf sl E.H (.mapdl ob ks x k) = some (r, ups)) : OpOk P E o a.eval r ups := by
  simp only [chkOp] at hc
  split at hc
  · rename_i args ats ho
    simp only [Bool.and_eq_true] at hc
    obtain ⟨hx, hm⟩ := hc
    have hl := evs_rel hs hx
    split at hm
    · rename_i t ht
      obtain ⟨kt, et, hu, ha, hks, hz⟩ := mapB_run hm
      simp only [List.map_cons, List.map_nil, LRel] at hl
      obtain ⟨vx, _, e0, hx, vk, _, rfl, hk, rfl⟩ := hl
      have hargs : args.map a.eval = #[vx, vk] := by apply Array.ext'; simpa using e0
      simp only [opV] at h
      split at h
      · rename_i ver clk es kc i ee hl
        obtain ⟨rfl, rfl⟩ := some_pair h
        obtain ⟨b, rfl, rfl, hq, hρ, hb, hkk, hf⟩ := look_rel hw hl hx hk
        have hrun : (Builtin.delete_ ats o.type #[.map (some b), .agg (kc.map pv).toArray]).run P E.w = .ok (.tuple #[]) (wmap E.w b clk (es.eraseIdx i)) := by
          unfold Builtin.delete_
          simp only [ht, List.getElem?_toArray, List.getElem?_cons_zero, List.getElem?_cons_succ, Sem.run_bind, run_underlying hu, Result.andThen_ok, MapKept.run_getObj_map hb, Sem.run_pure, checkKey_run ha hks hkk, findKey_run ha hks E.w hf, Option.map_some, MapKept.run_setObj_map _ hb]
          simp [wmap, eraseIdx_mapL]
        refine ⟨.tuple #[], _, .inl ?_, .put (map_write hw hq hρ clk _) ?_⟩
        · simp only [execOp, ho, hargs]
          simp [resolve, invoke, builtin, hrun, hargs]
        · simp only [VRel]; exact ⟨_, rfl, by simp [LRel]⟩
      · rename_i ver clk es kc hl
        obtain ⟨rfl, rfl⟩ := some_pair h
        obtain ⟨b, rfl, rfl, hq, hρ, hb, hkk, hf⟩ := look_rel hw hl hx hk
        have hrun : (Builtin.delete_ ats o.type #[.map (some b), .agg (kc.map pv).toArray]).run P E.w = .ok (.tuple #[]) (wmap E.w b clk es) := by
          unfold Builtin.delete_
          simp only [ht, List.getElem?_toArray, List.getElem?_cons_zero, List.getElem?_cons_succ, Sem.run_bind, run_underlying hu, Result.andThen_ok, MapKept.run_getObj_map hb, Sem.run_pure, checkKey_run ha hks hkk, findKey_run ha hks E.w hf, Option.map_none, MapKept.run_setObj_map _ hb]
          simp [wmap]
        refine ⟨.tuple #[], _, .inl ?_, .put (map_write hw hq hρ clk _) ?_⟩
        · simp only [execOp, ho, hargs]
          simp [resolve, invoke, builtin, hrun, hargs]
        · simp only [VRel]; exact ⟨_, rfl, by simp [LRel]⟩
      · cases h
    · cases hm
  · cases hc

theorem op_mapst (hw : WRel E) (hs : ARel E sl a) {ob : Nat} {x s v : MX} (hc : chkOp P (.mapst ob x s v) o.op = true) (h : opV cf sl E.H (.mapst ob x s v) = some (r, ups)) : OpOk P E o a.eval r ups := by
  simp only [chkOp] at hc
  split at hc
  · rename_i t y j u ho
    simp only [Bool.and_eq_true] at hc
    obtain ⟨⟨hx, hj⟩, hu⟩ := hc
    have hx := ev_rel hs hx
    have hj := ev_rel hs hj
    have hu := ev_rel hs hu
    simp only [opV] at h
    split at h
    · rename_i ver clk es k s' v' hg e1 e2
      split at h
      · rename_i i hi
        obtain ⟨rfl, rfl⟩ := some_pair h
        unfold bornIdx at hi
        simp only [modE]
        obtain ⟨ex, hq⟩ := mapGet_ok hg
        rw [ex] at hx
        rw [e1] at hj
        rw [e2] at hu
        simp only [VRel] at hx hj hu
        obtain ⟨b, e3, q, hq', hle, hρ⟩ := hx
        rw [hq] at hq'
        cases hq'
        have hρ := hρ rfl
        have hob := hw.obj ob _ hq
        unfold ObjRel at hob
        obtain ⟨b', h1, h2⟩ := hob
        rw [hρ] at h1
        cases h1
        have hfi : ((es.map pe).toArray.findIdx? fun e => (e.born : Int) == s') = some i := by
          rw [← hi]
          simp only [List.findIdx?_toArray, List.findIdx?_map]
          rfl
        have hrun : (Instr.entryStore t (a.eval y) (a.eval j) (a.eval u)).run P E.w = .ok () (wmap E.w b clk (es.modify i fun e => (e.1, v', e.2.2))) := by
          rw [e3, hj, hu]
          unfold Instr.entryStore
          simp only [Sem.run_bind, Result.andThen_ok, MapKept.run_getObj_map h2, Sem.run_pure, asInt, asIntOf, hfi, MapKept.run_setObj_map _ h2]
          congr 1
          unfold wmap
          congr 3
          apply Array.ext_getElem?
          intro m
          rw [Array.getElem?_modify]
          simp only [List.getElem?_toArray, List.getElem?_map, List.getElem?_modify]
          split
          · cases es[m]? <;> simp [pe]
          · cases es[m]? <;> simp [pe]
        refine ⟨undef, _, .inr ⟨?_, rfl⟩, .put (map_write hw hq hρ clk _) ?_⟩
        · simp only [execOp, ho, Sem.run_bind, hrun, Result.andThen_ok, Sem.run_pure]
        · simp only [VRel]; exact ⟨_, rfl, by simp [LRel]⟩
      · cases h
    · cases h
  · cases hc
end Go.Ev
end
section
namespace Go.Ev
variable {P : Program} {E E0 E1 : Env}

def AV.noref : AV → Bool
  | .own _ _ _ _ _ | .ptr _ _ _ | .mp _ _ | .agg _ | .tup _ | .fn _ _ _ => false
  | _ => true
theorem AV.tree_noref {a : AV} (h : a.tree = true) : a.noref = true := by cases a <;> simp_all [AV.tree, AV.noref]

mutual
theorem VRel.keepT {E E' : Env} (hX : ∀ b, b < E.w.heap.size → ¬ E.X b → ¬ E'.X b ∧ ∀ o, E'.w.cell? ⟨b, o, none⟩ = E.w.cell? ⟨b, o, none⟩) : ∀ (a : AV) (v : Value), a.noref = true → VRel E a v → VRel E' a v
  | .undef, _, _, _ => trivial
  | .bool _, _, _, hr => hr
  | .int _ _, _, _, hr => hr
  | .str _, _, _, hr => hr
  | .nilptr, _, _, hr => hr
  | .nilsl, _, _, hr => hr
  | .nilfn, _, _, hr => hr
  | .nilmp, _, _, hr => hr
  | .emp _, _, _, hr => hr
  | .ro n cs, v, _, hr => by
    simp only [VRel] at hr ⊢
    obtain ⟨a, cap, h1, h2, h3, h4⟩ := hr
    refine ⟨a, cap, h1, h2, h3, ?_⟩
    rcases h4 with h4 | ⟨b, off, h5, h6, h7⟩
    · exact .inl h4
    · cases cs with
      | nil => exact .inl rfl
      | cons c cs =>
        have hb : b < E.w.heap.size := by
          simp only [CRel] at h7
          obtain ⟨⟨_, u, hu, _⟩, _⟩ := h7
          exact lt_of_cell hu
        obtain ⟨k1, k2⟩ := hX b hb h6
        exact .inr ⟨b, off, h5, k1, CRel.keepT hX (c :: cs) b off k2 h7⟩
  | .rptr cs, v, _, hr => by
    simp only [VRel] at hr ⊢
    obtain ⟨a, h1, h4⟩ := hr
    refine ⟨a, h1, ?_⟩
    rcases h4 with h4 | ⟨b, off, h5, h6, h7⟩
    · exact .inl h4
    · cases cs with
      | nil => exact .inl rfl
      | cons c cs =>
        have hb : b < E.w.heap.size := by
          simp only [CRel] at h7
          obtain ⟨⟨_, u, hu, _⟩, _⟩ := h7
          exact lt_of_cell hu
        obtain ⟨k1, k2⟩ := hX b hb h6
        exact .inr ⟨b, off, h5, k1, CRel.keepT hX (c :: cs) b off k2 h7⟩
  | .own _ _ _ _ _, _, h, _ => by simp [AV.noref] at h
  | .ptr _ _ _, _, h, _ => by simp [AV.noref] at h
  | .mp _ _, _, h, _ => by simp [AV.noref] at h
  | .agg _, _, h, _ => by simp [AV.noref] at h
  | .tup _, _, h, _ => by simp [AV.noref] at h
  | .fn _ _ _, _, h, _ => by simp [AV.noref] at h
theorem CRel.keepT {E E' : Env} (hX : ∀ b, b < E.w.heap.size → ¬ E.X b → ¬ E'.X b ∧ ∀ o, E'.w.cell? ⟨b, o, none⟩ = E.w.cell? ⟨b, o, none⟩) : ∀ (cs : List AV) (b o : Nat), (∀ o, E'.w.cell? ⟨b, o, none⟩ = E.w.cell? ⟨b, o, none⟩) → CRel E cs b o → CRel E' cs b o
  | [], _, _, _, _ => trivial
  | c :: cs, b, o, hc, hr => by
    simp only [CRel] at hr ⊢
    obtain ⟨⟨h1, v, h2, h3⟩, h4⟩ := hr
    exact ⟨⟨h1, v, (hc o).trans h2, VRel.keepT hX c v (AV.tree_noref h1) h3⟩, CRel.keepT hX cs b (o + 1) hc h4⟩
end

def inEnv (E : Env) (objs fzs : List Nat) (H0 : List AObj) : Env :=
  ⟨fun b => E.F b ∨ ∃ i, i ∉ objs ∧ i ∉ fzs ∧ E.mutAt i b, H0, objs.map fun i => (E.ρ[i]?).join, E.w⟩

theorem join_get {ρ : List (Option (Nat × Nat))} {i : Nat} (h : i < ρ.length) : ρ[i]? = some ((ρ[i]?).join) := by
  rw [List.getElem?_eq_getElem h]; rfl

structure InOk (E : Env) (objs fzs : List Nat) (H0 : List AObj) : Prop where
  nodup : objs.Nodup
  apart : ∀ i ∈ fzs, i ∉ objs
  len : H0.length = objs.length
  body : ∀ (k i : Nat), objs[k]? = some i → ∃ o b, E.H[i]? = some o ∧ passBody E.H objs fzs o.body = some b ∧ H0[k]? = some ⟨0, b⟩

theorem passObjs_ok {H : List AObj} {objs fzs : List Nat} : ∀ {l : List Nat} {H0 : List AObj}, passObjs H objs fzs l = some H0 →
    H0.length = l.length ∧ ∀ (k i : Nat), l[k]? = some i → ∃ o b, H[i]? = some o ∧ passBody H objs fzs o.body = some b ∧ H0[k]? = some ⟨0, b⟩
  | [], H0, h => by simp only [passObjs, Option.some.injEq] at h; subst h; exact ⟨rfl, fun k i h => by simp at h⟩
  | j :: l, H0, h => by
    simp only [passObjs] at h
    split at h
    · rename_i o ho
      split at h
      · rename_i b l' hb hl'
        cases h
        obtain ⟨h1, h2⟩ := passObjs_ok hl'
        refine ⟨by simp [h1], fun k i hk => ?_⟩
        cases k with
        | zero => simp at hk; subst hk; exact ⟨o, b, ho, hb, rfl⟩
        | succ k => exact h2 k i (by simpa using hk)
      · cases h
    · cases h

theorem idx_some {objs : List Nat} {i k : Nat} (h : objs.idxOf? i = some k) : objs[k]? = some i := by
  rw [List.idxOf?_eq_some_iff] at h
  obtain ⟨h1, h2, _⟩ := h
  rw [List.getElem?_eq_getElem h1, h2]
theorem idx_none {objs : List Nat} {i : Nat} (h : objs.idxOf? i = none) : i ∉ objs := by
  simpa using h
theorem idx_inj {objs : List Nat} (hn : objs.Nodup) {i j k : Nat} (h1 : objs[j]? = some i) (h2 : objs[k]? = some i) : j = k := by
  exact (List.getElem?_inj (List.getElem?_eq_some_iff.1 h1).1 hn).1 (h1.trans h2.symm)

section
variable {objs fzs : List Nat} {H0 : List AObj}

theorem in_ρ (hw : WRel E) (hk : InOk E objs fzs H0) {k i : Nat} (h : objs[k]? = some i) : (inEnv E objs fzs H0).ρ[k]? = E.ρ[i]? := by
  obtain ⟨o, b, h1, _⟩ := hk.body k i h
  have hlt : i < E.ρ.length := by rw [hw.len]; exact (List.getElem?_eq_some_iff.1 h1).1
  simp only [inEnv, List.getElem?_map, h, Option.map_some]
  exact (join_get hlt).symm

theorem passBody_mut {H : List AObj} {b b' : ABody} (h : passBody H objs fzs b = some b') : b'.isMut = b.isMut ∧ sameShape b b' := by
  cases b with
  | none => simp only [passBody, Option.some.injEq] at h; subst h; exact ⟨rfl, trivial⟩
  | map _ _ => simp only [passBody, Option.some.injEq] at h; subst h; exact ⟨rfl, trivial⟩
  | var cs =>
    simp only [passBody] at h
    obtain ⟨l, hl, rfl⟩ := Option.map_eq_some_iff.1 h
    exact ⟨rfl, (mapO_len hl).symm⟩
  | row m s cs => simp only [passBody, Option.some.injEq] at h; subst h; exact ⟨rfl, rfl, rfl⟩

theorem in_mut (hw : WRel E) (hk : InOk E objs fzs H0) {k b : Nat} (h : (inEnv E objs fzs H0).mutAt k b) : ∃ i, objs[k]? = some i ∧ E.mutAt i b := by
  obtain ⟨o, base, h1, h2, h3⟩ := h
  have hlt : k < objs.length := by rw [← hk.len]; exact (List.getElem?_eq_some_iff.1 h1).1
  obtain ⟨o', b', h4, h5, h6⟩ := hk.body k _ (List.getElem?_eq_getElem hlt)
  have h1' : H0[k]? = some o := h1
  rw [h6] at h1'
  cases h1'
  refine ⟨objs[k], List.getElem?_eq_getElem hlt, o', base, h4, ?_, ?_⟩
  · rw [← (passBody_mut h5).1]; exact h2
  · rw [← in_ρ hw hk (List.getElem?_eq_getElem hlt)]; exact h3
theorem in_X (hw : WRel E) (hk : InOk E objs fzs H0) {b : Nat} (h : ¬ E.X b) : ¬ (inEnv E objs fzs H0).X b := by
  rintro ((h1 | ⟨i, _, _, h1⟩) | ⟨k, h1⟩)
  · exact h (.inl h1)
  · exact h (.inr ⟨i, h1⟩)
  · obtain ⟨i, _, h2⟩ := in_mut hw hk h1
    exact h (.inr ⟨i, h2⟩)
theorem in_keep (hw : WRel E) (hk : InOk E objs fzs H0) : ∀ b, b < E.w.heap.size → ¬ E.X b → ¬ (inEnv E objs fzs H0).X b ∧ ∀ o, (inEnv E objs fzs H0).w.cell? ⟨b, o, none⟩ = E.w.cell? ⟨b, o, none⟩ :=
  fun _ _ h => ⟨in_X hw hk h, fun _ => rfl⟩

theorem in_snap (hw : WRel E) (hk : InOk E objs fzs H0) {i b base : Nat} {q : AObj} (hq : E.H[i]? = some q) (hρ : E.ρ[i]? = some (some (b, base))) (hi : i ∈ fzs) (hb : q.body.isMut = true ∨ ¬ E.X b) :
    ¬ (inEnv E objs fzs H0).X b := by
  rcases hb with hb | hb
  · have hm : E.mutAt i b := ⟨q, base, hq, hb, hρ⟩
    rintro ((h1 | ⟨j, _, h2, h1⟩) | ⟨k, h1⟩)
    · exact hw.fNot i b hm h1
    · exact h2 (by rw [← hw.inj i j b hm h1]; exact hi)
    · obtain ⟨j, h2, h3⟩ := in_mut hw hk h1
      have := hw.inj i j b hm h3
      subst this
      exact hk.apart i hi (List.mem_of_getElem? h2)
  · exact in_X hw hk hb

theorem passCell_rel (hw : WRel E) (hk : InOk E objs fzs H0) {a a' : AV} {v : Value} (h : passCell E.H objs fzs a = some a') (hv : VRel E a v) : VRel (inEnv E objs fzs H0) a' v ∧ (a.atom = true → a'.atom = true) := by
  cases a <;> simp only [passCell, reduceCtorEq, Option.some.injEq] at h
  case undef => subst h; exact ⟨trivial, id⟩
  case bool => subst h; exact ⟨VRel.keepT (in_keep hw hk) _ _ rfl hv, id⟩
  case int => subst h; exact ⟨VRel.keepT (in_keep hw hk) _ _ rfl hv, id⟩
  case str => subst h; exact ⟨VRel.keepT (in_keep hw hk) _ _ rfl hv, id⟩
  case nilptr => subst h; exact ⟨VRel.keepT (in_keep hw hk) _ _ rfl hv, id⟩
  case nilfn => subst h; exact ⟨VRel.keepT (in_keep hw hk) _ _ rfl hv, id⟩
  case nilmp => subst h; exact ⟨VRel.keepT (in_keep hw hk) _ _ rfl hv, id⟩
  case emp => subst h; exact ⟨VRel.keepT (in_keep hw hk) _ _ rfl hv, id⟩
  case ro => subst h; exact ⟨VRel.keepT (in_keep hw hk) _ _ rfl hv, id⟩
  case rptr => subst h; exact ⟨VRel.keepT (in_keep hw hk) _ _ rfl hv, id⟩
  case nilsl =>
    subst h
    refine ⟨?_, fun _ => rfl⟩
    simp only [VRel] at hv ⊢
    exact ⟨none, 0, hv, Nat.le_refl _, fun h => by omega, .inl trivial⟩
  case own i ver off len sz =>
    split at h
    · rename_i k hidx
      have hki := idx_some hidx
      split at h
      · rename_i o ho
        split at h
        · rename_i hver
          cases h
          refine ⟨?_, fun _ => rfl⟩
          obtain ⟨o', b', h4, h5, h6⟩ := hk.body k i hki
          rw [ho] at h4
          cases h4
          simp only [VRel] at hv ⊢
          obtain ⟨ad, cap, rfl, hle, h7, q, hq, hvq, hf⟩ := hv
          rw [ho] at hq
          cases hq
          have hf := hf hver.symm
          refine ⟨ad, cap, rfl, hle, h7, ⟨0, b'⟩, h6, Nat.le_refl _, fun _ => ?_⟩
          have hρ := in_ρ hw hk hki
          have hpl : PlacedS E i off cap sz ad → PlacedS (inEnv E objs fzs H0) k off cap sz ad := by
            rintro ⟨b, base, p1, p2, p3⟩
            exact ⟨b, base, hρ.trans p1, p2, p3⟩
          have hsh := (passBody_mut h5).2
          cases hb : o.body with
          | none => rw [hb] at hf; exact hf.elim
          | map _ _ => rw [hb] at hf; exact hf.elim
          | var cs =>
            rw [hb] at hf hsh
            cases hb' : b' <;> rw [hb'] at hsh <;> simp only [sameShape] at hsh
            exact ⟨by omega, hpl hf.2⟩
          | row m s cs =>
            rw [hb] at hf hsh
            cases hb' : b' <;> rw [hb'] at hsh <;> simp only [sameShape] at hsh
            refine ⟨by omega, ?_⟩
            rcases hf.2 with h | ⟨h1, h2, h3, h4⟩
            · exact .inl (hpl h)
            · refine .inr ⟨?_, hρ.trans h2, h3, h4⟩
              have := hsh.2
              rw [h1] at this
              exact List.length_eq_zero_iff.1 this.symm
        · cases h
      · cases h
    · rename_i hidx
      split at h
      · rename_i hi
        have hi : i ∈ fzs := by simpa using hi
        split at h
        · rename_i cs hoc
          split at h
          · rename_i hle
            split at h
            · rename_i htr
              cases h
              refine ⟨?_, fun _ => rfl⟩
              obtain ⟨ad, cap, rfl, hlc, _, hpl⟩ := ORel.cells hw (by simpa only [VRel] using hv) hoc
              obtain ⟨q, hq, hqv, hqb, _⟩ := objCells_rel hw hoc
              simp only [VRel]
              refine ⟨ad, cap, rfl, hlc, ?_, ?_⟩
              · rcases hpl with ⟨rfl, _, rfl, rfl, _⟩ | ⟨b, base, _, rfl, _⟩
                · intro h; omega
                · intro _; rfl
              · rcases hpl with ⟨rfl, _⟩ | ⟨b, base, hρ, rfl, _, _, hvc, hvd⟩
                · exact .inl (by simp)
                · refine .inr ⟨b, base + off, rfl, in_snap hw hk hq hρ hi ?_, ?_⟩
                  · cases hb : q.body with
                    | none => rw [hb] at hqb; cases hqb
                    | map _ _ => rw [hb] at hqb; cases hqb
                    | var _ => exact .inl rfl
                    | row m s ds =>
                      cases m with
                      | true => exact .inl rfl
                      | false =>
                        have := hw.obj i q hq
                        unfold ObjRel at this
                        rw [hb] at this
                        rcases this with ⟨_, h2⟩ | ⟨b', base', h1, _, _, h4⟩
                        · rw [hρ] at h2; cases h2
                        · rw [hρ] at h1; cases h1; exact .inr (h4 rfl)
                  · exact CRel.keepT (in_keep hw hk) _ b (base + off) (fun _ => rfl) ((hvd.take _).toC htr)
            · cases h
          · cases h
        · cases h
      · cases h
  case ptr i ver off =>
    split at h
    · rename_i k hidx
      have hki := idx_some hidx
      split at h
      · rename_i o ho
        split at h
        · rename_i hver
          cases h
          refine ⟨?_, fun _ => rfl⟩
          obtain ⟨o', b', h4, h5, h6⟩ := hk.body k i hki
          rw [ho] at h4
          cases h4
          simp only [VRel] at hv ⊢
          obtain ⟨ad, rfl, q, hq, hvq, hf⟩ := hv
          rw [ho] at hq
          cases hq
          obtain ⟨b, base, p1, p2⟩ := hf hver.symm
          exact ⟨ad, rfl, ⟨0, b'⟩, h6, Nat.le_refl _, fun _ => ⟨b, base, (in_ρ hw hk hki).trans p1, p2⟩⟩
        · cases h
      · cases h
    · cases h

  case mp i ver =>
    split at h
    · rename_i k hidx
      have hki := idx_some hidx
      split at h
      · rename_i o ho
        split at h
        · rename_i hver
          cases h
          refine ⟨?_, fun _ => rfl⟩
          obtain ⟨o', b', h4, h5, h6⟩ := hk.body k i hki
          rw [ho] at h4
          cases h4
          simp only [VRel] at hv ⊢
          obtain ⟨b, rfl, q, hq, hvq, hf⟩ := hv
          rw [ho] at hq
          cases hq
          exact ⟨b, rfl, ⟨0, b'⟩, h6, Nat.le_refl _, fun _ => (in_ρ hw hk hki).trans (hf hver.symm)⟩
        · cases h
      · cases h
    · cases h

theorem passCells_rel (hw : WRel E) (hk : InOk E objs fzs H0) : ∀ {cs cs' : List AV} {vs : List Value}, mapO (passCell E.H objs fzs) cs = some cs' → LRel E cs vs → LRel (inEnv E objs fzs H0) cs' vs
  | [], cs', vs, h, hr => by simp only [mapO, Option.some.injEq] at h; subst h; exact hr
  | c :: cs, cs', vs, h, hr => by
    simp only [LRel] at hr
    obtain ⟨v, r, rfl, h1, h2⟩ := hr
    simp only [mapO] at h
    split at h
    · rename_i b hb
      obtain ⟨l, hl, rfl⟩ := Option.map_eq_some_iff.1 h
      exact ⟨v, r, rfl, (passCell_rel hw hk hb h1).1, passCells_rel hw hk hl h2⟩
    · cases h
theorem passV_rel (hw : WRel E) (hk : InOk E objs fzs H0) {a a' : AV} {v : Value} (h : passV E.H objs fzs a = some a') (hv : VRel E a v) : VRel (inEnv E objs fzs H0) a' v := by
  cases a with
  | agg cs =>
    simp only [passV] at h
    obtain ⟨l, hl, rfl⟩ := Option.map_eq_some_iff.1 h
    simp only [VRel] at hv ⊢
    obtain ⟨arr, rfl, hv⟩ := hv
    exact ⟨arr, rfl, passCells_rel hw hk hl hv⟩
  | fn f xs ys =>
    simp only [passV] at h
    split at h
    · rename_i x y hx hy
      cases h
      simp only [VRel] at hv ⊢
      obtain ⟨a1, a2, rfl, h1, h2⟩ := hv
      exact ⟨a1, a2, rfl, passCells_rel hw hk hx h1, passCells_rel hw hk hy h2⟩
    · cases h
  | _ => exact (passCell_rel hw hk (by simpa only [passV] using h) hv).1
theorem passN_rel (hw : WRel E) (hk : InOk E objs fzs H0) {ret : List (Nat × Nat)} {a a' : AV} {v : Value} (h : passN E.H objs fzs ret a = some a') (hv : VRel E a v) : VRel (inEnv E objs fzs H0) a' v := by
  unfold passN at h
  split at h
  · cases h
    simp only [VRel] at hv ⊢
    exact hv
  · exact passV_rel hw hk h hv
theorem passVs_rel (hw : WRel E) (hk : InOk E objs fzs H0) {ret : List (Nat × Nat)} : ∀ {cs cs' : List AV} {vs : List Value}, mapO (passN E.H objs fzs ret) cs = some cs' → LRel E cs vs → LRel (inEnv E objs fzs H0) cs' vs
  | [], cs', vs, h, hr => by simp only [mapO, Option.some.injEq] at h; subst h; exact hr
  | c :: cs, cs', vs, h, hr => by
    simp only [LRel] at hr
    obtain ⟨v, r, rfl, h1, h2⟩ := hr
    simp only [mapO] at h
    split at h
    · rename_i b hb
      obtain ⟨l, hl, rfl⟩ := Option.map_eq_some_iff.1 h
      exact ⟨v, r, rfl, passN_rel hw hk hb h1, passVs_rel hw hk hl h2⟩
    · cases h
theorem passVC_rel (hw : WRel E) (hk : InOk E objs fzs H0) : ∀ {cs cs' : List AV} {b o : Nat}, mapO (passCell E.H objs fzs) cs = some cs' → VCells E cs b o → VCells (inEnv E objs fzs H0) cs' b o
  | [], cs', b, o, h, _ => by simp only [mapO, Option.some.injEq] at h; subst h; exact fun j c hj => by simp at hj
  | c :: cs, cs', b, o, h, hr => by
    simp only [mapO] at h
    split at h
    · rename_i c' hb
      obtain ⟨l, hl, rfl⟩ := Option.map_eq_some_iff.1 h
      have hrest := passVC_rel (b := b) (o := o + 1) hw hk hl (fun j x hj => by
        have := hr (j + 1) x (by simpa using hj)
        rwa [show o + (j + 1) = o + 1 + j by omega] at this)
      intro j x hj
      cases j with
      | zero =>
        simp at hj; subst hj
        obtain ⟨h1, v, h2, h3⟩ := hr 0 c rfl
        have := passCell_rel hw hk hb h3
        exact ⟨this.2 h1, v, h2, this.1⟩
      | succ j =>
        have := hrest j x (by simpa using hj)
        rwa [show o + 1 + j = o + (j + 1) by omega] at this
    · cases h

theorem in_wrel (hw : WRel E) (hk : InOk E objs fzs H0) : WRel (inEnv E objs fzs H0) where
  len := by simp [inEnv, hk.len]
  obj k q hq := by
    have hlt : k < objs.length := by rw [← hk.len]; exact (List.getElem?_eq_some_iff.1 hq).1
    have hki := List.getElem?_eq_getElem hlt
    obtain ⟨o, b', h4, h5, h6⟩ := hk.body k _ hki
    have hq' : H0[k]? = some q := hq
    rw [h6] at hq'
    cases hq'
    have hold := hw.obj _ o h4
    have hρ := in_ρ hw hk hki
    unfold ObjRel at hold ⊢
    cases hb : o.body with
    | none => rw [hb] at h5; simp only [passBody, Option.some.injEq] at h5; subst h5; trivial
    | map clk es =>
      rw [hb] at h5 hold
      simp only [passBody, Option.some.injEq] at h5
      subst h5
      obtain ⟨b, h1, h2⟩ := hold
      exact ⟨b, hρ.trans h1, h2⟩
    | var cs =>
      rw [hb] at h5 hold
      simp only [passBody] at h5
      obtain ⟨l, hl, rfl⟩ := Option.map_eq_some_iff.1 h5
      obtain ⟨b, base, h1, h2, h3⟩ := hold
      exact ⟨b, base, hρ.trans h1, by rw [mapO_len hl]; exact h2, passVC_rel hw hk hl h3⟩
    | row m s cs =>
      rw [hb] at h5 hold
      simp only [passBody, Option.some.injEq] at h5
      subst h5
      rcases hold with ⟨h1, h2⟩ | ⟨b, base, h1, h2, h3, h7⟩
      · exact .inl ⟨h1, hρ.trans h2⟩
      · exact .inr ⟨b, base, hρ.trans h1, h2, CRel.keepT (in_keep hw hk) cs b base (fun _ => rfl) h3, fun hm => in_X hw hk (h7 hm)⟩
  inj j k b hj hk' := by
    obtain ⟨i1, a1, b1⟩ := in_mut hw hk hj
    obtain ⟨i2, a2, b2⟩ := in_mut hw hk hk'
    have := hw.inj i1 i2 b b1 b2
    subst this
    exact idx_inj hk.nodup a1 a2
  fNot k b hm := by
    obtain ⟨i, h1, h2⟩ := in_mut hw hk hm
    rintro (h | ⟨j, h3, _, h4⟩)
    · exact hw.fNot i b h2 h
    · have := hw.inj i j b h2 h4
      subst this
      exact h3 (List.mem_of_getElem? h1)
  fOld b hF := by
    rcases hF with h | ⟨j, _, _, q, base, h1, h2, h3⟩
    · exact hw.fOld b h
    · exact hw.block_lt h1 h2 h3
end

end Go.Ev
end
section
namespace Go.Ev
variable {P : Program} {E E0 E1 : Env}

theorem layAll_ne : ∀ {ups : List (Nat × AObj)} {H : List AObj} {i : Nat}, i ∉ ups.map (·.1) → (layAll H ups)[i]? = H[i]?
  | [], _, _, _ => rfl
  | (j, o) :: ups, H, i, h => by
    simp only [List.map_cons, List.mem_cons, not_or] at h
    simp only [layAll]
    rw [layAll_ne h.2, set_get_ne (Ne.symm h.1)]
theorem layAll_len : ∀ {ups : List (Nat × AObj)} {H : List AObj}, (layAll H ups).length = H.length
  | [], _ => rfl
  | (j, o) :: ups, H => by simp only [layAll]; rw [layAll_len, List.length_set]
theorem layAll_mem : ∀ {ups : List (Nat × AObj)} {H : List AObj} {i : Nat} {o : AObj}, (ups.map (·.1)).Nodup → (i, o) ∈ ups → i < H.length → (layAll H ups)[i]? = some o
  | (j, q) :: ups, H, i, o, hn, hm, hl => by
    simp only [List.map_cons, List.nodup_cons] at hn
    simp only [layAll]
    cases hm with
    | head =>
      rw [layAll_ne hn.1]
      simp [hl]
    | tail _ hm => exact layAll_mem hn.2 hm (by simpa using hl)

theorem backObjs_ok {H H1 : List AObj} {objs : List Nat} {ret : List (Nat × Nat)} : ∀ {l : List Nat} {L : List AObj} {ups : List (Nat × AObj)}, backObjs H H1 objs ret l L = some ups →
    ups.map (·.1) = l ∧ ∀ (k i : Nat), l[k]? = some i → ∃ oi o b, H[i]? = some oi ∧ L[k]? = some o ∧ backBody H H1 objs ret o.body = some b ∧ (i, (⟨oi.ver + o.ver, b⟩ : AObj)) ∈ ups
  | [], L, ups, h => by simp only [backObjs, Option.some.injEq] at h; subst h; exact ⟨rfl, fun k i h => by simp at h⟩
  | i :: l, [], ups, h => by simp [backObjs] at h
  | i :: l, o :: L, ups, h => by
    simp only [backObjs] at h
    split at h
    · rename_i oi b u h1 h2 h3
      cases h
      obtain ⟨k1, k2⟩ := backObjs_ok h3
      refine ⟨by simp [k1], fun k j hk => ?_⟩
      cases k with
      | zero => simp at hk; subst hk; exact ⟨oi, o, b, h1, rfl, h2, List.mem_cons_self ..⟩
      | succ k =>
        obtain ⟨a, c, d, h4, h5, h6, h7⟩ := k2 k j (by simpa using hk)
        exact ⟨a, c, d, h4, h5, h6, List.mem_cons_of_mem _ h7⟩
    · cases h
theorem adopts_ok {H H1 : List AObj} {objs : List Nat} {R : List (Nat × Nat)} : ∀ {ret : List (Nat × Nat)} {ads : List (Nat × AObj)}, adopts H H1 objs R ret = some ads →
    ads.map (·.1) = ret.map (·.2) ∧ ∀ k t, (k, t) ∈ ret → ∃ o b ot, H1[k]? = some o ∧ backBody H H1 objs R o.body = some b ∧ H[t]? = some ot ∧ (t, (⟨ot.ver + 1, b⟩ : AObj)) ∈ ads
  | [], ads, h => by simp only [adopts, Option.some.injEq] at h; subst h; exact ⟨rfl, fun k t h => by cases h⟩
  | (k, t) :: ret, ads, h => by
    simp only [adopts] at h
    split at h
    · rename_i o ot u h1 h2 h3
      split at h
      · rename_i b hb
        cases h
        obtain ⟨k1, k2⟩ := adopts_ok h3
        refine ⟨by simp [k1], fun k' t' hk => ?_⟩
        cases hk with
        | head => exact ⟨o, b, ot, h1, hb, h2, List.mem_cons_self ..⟩
        | tail _ hk =>
          obtain ⟨a, b, c, h4, h5, h6, h7⟩ := k2 k' t' hk
          exact ⟨a, b, c, h4, h5, h6, List.mem_cons_of_mem _ h7⟩
      · cases h
    · cases h

theorem nodup_inj {ret : List (Nat × Nat)} (hn : (ret.map (·.2)).Nodup) {p q : Nat × Nat} (hp : p ∈ ret) (hq : q ∈ ret) (h : p.2 = q.2) : p = q := by
  induction ret with
  | nil => cases hp
  | cons x ret ih =>
    simp only [List.map_cons, List.nodup_cons] at hn
    cases hp with
    | head =>
      cases hq with
      | head => rfl
      | tail _ hq => exact absurd (h ▸ List.mem_map_of_mem hq) hn.1
    | tail _ hp =>
      cases hq with
      | head => exact absurd (h.symm ▸ List.mem_map_of_mem hp) hn.1
      | tail _ hq => exact ih hn.2 hp hq
theorem nodup_inj1 {ret : List (Nat × Nat)} (hn : (ret.map (·.1)).Nodup) {p q : Nat × Nat} (hp : p ∈ ret) (hq : q ∈ ret) (h : p.1 = q.1) : p = q := by
  induction ret with
  | nil => cases hp
  | cons x ret ih =>
    simp only [List.map_cons, List.nodup_cons] at hn
    cases hp with
    | head =>
      cases hq with
      | head => rfl
      | tail _ hq => exact absurd (h ▸ List.mem_map_of_mem hq) hn.1
    | tail _ hp =>
      cases hq with
      | head => exact absurd (h.symm ▸ List.mem_map_of_mem hp) hn.1
      | tail _ hq => exact ih hn.2 hp hq
theorem lookup_mem {ret : List (Nat × Nat)} {k t : Nat} (h : ret.lookup k = some t) : (k, t) ∈ ret := by
  induction ret with
  | nil => simp at h
  | cons p ret ih =>
    obtain ⟨a, b⟩ := p
    simp only [List.lookup] at h
    split at h
    · rename_i e
      have : k = a := by simpa using e
      subst this
      cases h
      exact List.mem_cons_self ..
    · exact List.mem_cons_of_mem _ (ih h)
theorem lookup_none {ret : List (Nat × Nat)} {k : Nat} (h : ret.lookup k = none) : ∀ t, (k, t) ∉ ret := by
  induction ret with
  | nil => intro t h; cases h
  | cons p ret ih =>
    obtain ⟨a, b⟩ := p
    simp only [List.lookup] at h
    split at h
    · cases h
    · rename_i e
      intro t hm
      cases hm with
      | head => simp at e
      | tail _ hm => exact ih h t hm

def backρ (ρ ρ1 : List (Option (Nat × Nat))) (objs : List Nat) (ret : List (Nat × Nat)) : List (Option (Nat × Nat)) :=
  (List.range ρ.length).map fun i => match objs.idxOf? i with
    | some k => (ρ1[k]?).join
    | none => match ret.find? (fun p => p.2 == i) with
      | some p => (ρ1[p.1]?).join
      | none => (ρ[i]?).join

structure Bk (E Ef E1 : Env) (objs fzs : List Nat) (H0 : List AObj) (ret : List (Nat × Nat)) (ups ads : List (Nat × AObj)) (frz : Bool) : Prop where
  hw : WRel E
  hf : WRel Ef
  hEf : Step E Ef
  Fρ : Ef.ρ = E.ρ
  Fw : Ef.w = E.w
  Fm : ∀ i b, Ef.mutAt i b → E.mutAt i b
  Hf : ∀ i, i ∉ fzs → Ef.H[i]? = E.H[i]?
  Hfz : frz = true → ∀ i ∈ fzs, ∀ q, Ef.H[i]? = some q → q.body.isMut = false
  Hnf : frz = false → ret = []
  hin : InOk E objs fzs H0
  h1 : WRel E1
  s1 : Step (inEnv E objs fzs H0) E1
  rkeys : (ret.map (·.1)).Nodup
  rvals : (ret.map (·.2)).Nodup
  rapart : ∀ p ∈ ret, p.2 ∉ objs ∧ p.2 ∉ fzs ∧ objs.length ≤ p.1
  upk : ups.map (·.1) = objs
  upv : ∀ (k i : Nat), objs[k]? = some i → ∃ oi o b, E.H[i]? = some oi ∧ E1.H[k]? = some o ∧ backBody E.H E1.H objs ret o.body = some b ∧ (i, (⟨oi.ver + o.ver, b⟩ : AObj)) ∈ ups
  adk : ads.map (·.1) = ret.map (·.2)
  adv : ∀ k t, (k, t) ∈ ret → ∃ o b ot, E1.H[k]? = some o ∧ backBody E.H E1.H objs ret o.body = some b ∧ E.H[t]? = some ot ∧ (t, (⟨ot.ver + 1, b⟩ : AObj)) ∈ ads

def bkEnv (E Ef E1 : Env) (objs : List Nat) (ret : List (Nat × Nat)) (ups ads : List (Nat × AObj)) : Env :=
  ⟨E.F, layAll Ef.H (ups ++ ads), backρ E.ρ E1.ρ objs ret, E1.w⟩

theorem backBody_mut {H H1 : List AObj} {objs : List Nat} {ret : List (Nat × Nat)} {b b' : ABody} (h : backBody H H1 objs ret b = some b') : b'.isMut = b.isMut ∧ sameShape b b' := by
  cases b with
  | none => simp only [backBody, Option.some.injEq] at h; subst h; exact ⟨rfl, trivial⟩
  | map _ _ => simp only [backBody, Option.some.injEq] at h; subst h; exact ⟨rfl, trivial⟩
  | var cs =>
    simp only [backBody] at h
    obtain ⟨l, hl, rfl⟩ := Option.map_eq_some_iff.1 h
    exact ⟨rfl, (mapO_len hl).symm⟩
  | row m s cs => simp only [backBody, Option.some.injEq] at h; subst h; exact ⟨rfl, rfl, rfl⟩

section
variable {Ef : Env} {objs fzs : List Nat} {H0 : List AObj} {ret : List (Nat × Nat)} {ups ads : List (Nat × AObj)} {frz : Bool}

theorem bk_len (B : Bk E Ef E1 objs fzs H0 ret ups ads frz) : Ef.H.length = E.H.length := by
  rw [← B.hf.len, B.Fρ, B.hw.len]
theorem bk_keys (B : Bk E Ef E1 objs fzs H0 ret ups ads frz) : ((ups ++ ads).map (·.1)).Nodup := by
  rw [List.map_append, B.upk, B.adk, List.nodup_append]
  refine ⟨B.hin.nodup, B.rvals, fun a ha b hb e => ?_⟩
  subst e
  obtain ⟨p, hp, rfl⟩ := List.mem_map.1 hb
  exact (B.rapart p hp).1 ha

theorem bk_obj (B : Bk E Ef E1 objs fzs H0 ret ups ads frz) {k i : Nat} (h : objs[k]? = some i) : ∃ oi o b, E.H[i]? = some oi ∧ E1.H[k]? = some o ∧ backBody E.H E1.H objs ret o.body = some b ∧
    (bkEnv E Ef E1 objs ret ups ads).H[i]? = some ⟨oi.ver + o.ver, b⟩ ∧ (bkEnv E Ef E1 objs ret ups ads).ρ[i]? = E1.ρ[k]? := by
  obtain ⟨oi, o, b, h1, h2, h3, h4⟩ := B.upv k i h
  have hlt : i < E.H.length := (List.getElem?_eq_some_iff.1 h1).1
  refine ⟨oi, o, b, h1, h2, h3, layAll_mem (bk_keys B) (List.mem_append_left _ h4) (by rw [bk_len B]; exact hlt), ?_⟩
  have hk : k < E1.ρ.length := by rw [B.h1.len]; exact (List.getElem?_eq_some_iff.1 h2).1
  simp only [bkEnv, backρ, List.getElem?_map, List.getElem?_range (show i < E.ρ.length by rw [B.hw.len]; exact hlt), Option.map_some]
  have hidx : objs.idxOf? i = some k := by
    cases hi : objs.idxOf? i with
    | none => exact absurd (List.mem_of_getElem? h) (idx_none hi)
    | some j => rw [idx_inj B.hin.nodup (idx_some hi) h]
  rw [hidx]
  exact (join_get hk).symm

theorem bk_ret (B : Bk E Ef E1 objs fzs H0 ret ups ads frz) {k t : Nat} (h : (k, t) ∈ ret) : ∃ o b ot, E1.H[k]? = some o ∧ backBody E.H E1.H objs ret o.body = some b ∧ E.H[t]? = some ot ∧
    (bkEnv E Ef E1 objs ret ups ads).H[t]? = some ⟨ot.ver + 1, b⟩ ∧ (bkEnv E Ef E1 objs ret ups ads).ρ[t]? = E1.ρ[k]? := by
  obtain ⟨o, bb, ot, h1, hbb, h2, h3⟩ := B.adv k t h
  have hlt : t < E.H.length := (List.getElem?_eq_some_iff.1 h2).1
  refine ⟨o, bb, ot, h1, hbb, h2, layAll_mem (bk_keys B) (List.mem_append_right _ h3) (by rw [bk_len B]; exact hlt), ?_⟩
  have hk : k < E1.ρ.length := by rw [B.h1.len]; exact (List.getElem?_eq_some_iff.1 h1).1
  simp only [bkEnv, backρ, List.getElem?_map, List.getElem?_range (show t < E.ρ.length by rw [B.hw.len]; exact hlt), Option.map_some]
  have hidx : objs.idxOf? t = none := by
    cases hi : objs.idxOf? t with
    | none => rfl
    | some j => exact absurd (List.mem_of_getElem? (idx_some hi)) (B.rapart _ h).1
  have hfind : ret.find? (fun p => p.2 == t) = some (k, t) := by
    cases hfd : ret.find? (fun p => p.2 == t) with
    | none => have := List.find?_eq_none.1 hfd _ h; simp at this
    | some p =>
      have h1 := List.find?_some hfd
      have h2 := List.mem_of_find?_eq_some hfd
      have h3 : p.2 = t := by simpa using h1
      rw [nodup_inj B.rvals h2 h h3]
  rw [hidx, hfind]
  exact (join_get hk).symm

theorem bk_oth (B : Bk E Ef E1 objs fzs H0 ret ups ads frz) {i : Nat} (h1 : i ∉ objs) (h2 : i ∉ ret.map (·.2)) : (bkEnv E Ef E1 objs ret ups ads).H[i]? = Ef.H[i]? ∧ (bkEnv E Ef E1 objs ret ups ads).ρ[i]? = E.ρ[i]? := by
  refine ⟨layAll_ne (by rw [List.map_append, B.upk, B.adk, List.mem_append]; exact fun h => h.elim h1 h2), ?_⟩
  simp only [bkEnv, backρ, List.getElem?_map]
  have hidx : objs.idxOf? i = none := by
    cases hi : objs.idxOf? i with
    | none => rfl
    | some j => exact absurd (List.mem_of_getElem? (idx_some hi)) h1
  have hfind : ret.find? (fun p => p.2 == i) = none := by
    refine List.find?_eq_none.2 fun p hp hq => h2 ?_
    have : p.2 = i := by simpa using hq
    exact List.mem_map.2 ⟨p, hp, this⟩
  rcases Nat.lt_or_ge i E.ρ.length with hlt | hge
  · rw [List.getElem?_range hlt, Option.map_some, hidx, hfind]
    exact (join_get hlt).symm
  · rw [List.getElem?_eq_none (by simpa using hge), List.getElem?_eq_none hge]; rfl

theorem bk_mut (B : Bk E Ef E1 objs fzs H0 ret ups ads frz) {i b : Nat} (h : (bkEnv E Ef E1 objs ret ups ads).mutAt i b) :
    (∃ k, objs[k]? = some i ∧ E1.mutAt k b) ∨ (∃ k, (k, i) ∈ ret ∧ E1.mutAt k b) ∨ (i ∉ objs ∧ i ∉ ret.map (·.2) ∧ Ef.mutAt i b) := by
  obtain ⟨q, base, h1, h2, h3⟩ := h
  by_cases hi : i ∈ objs
  · obtain ⟨k, hk⟩ := List.mem_iff_getElem?.1 hi
    obtain ⟨oi, o, b', a1, a2, a3, a4, a5⟩ := bk_obj B hk
    rw [a4] at h1
    cases h1
    exact .inl ⟨k, hk, o, base, a2, by rw [← (backBody_mut a3).1]; exact h2, by rw [← a5]; exact h3⟩
  · by_cases hr : i ∈ ret.map (·.2)
    · obtain ⟨p, hp, rfl⟩ := List.mem_map.1 hr
      obtain ⟨o, bb, ot, a1, ab, a2, a3, a4⟩ := bk_ret B (k := p.1) (t := p.2) hp
      rw [a3] at h1
      cases h1
      exact .inr (.inl ⟨p.1, hp, o, base, a1, by rw [← (backBody_mut ab).1]; exact h2, by rw [← a4]; exact h3⟩)
    · obtain ⟨a1, a2⟩ := bk_oth B hi hr
      exact .inr (.inr ⟨hi, hr, q, base, by rw [← a1]; exact h1, h2, by rw [B.Fρ, ← a2]; exact h3⟩)

theorem bk_own (B : Bk E Ef E1 objs fzs H0 ret ups ads frz) {k b : Nat} (h : E1.mutAt k b) : E.w.heap.size ≤ b ∨ ∃ (j i : Nat), objs[j]? = some i ∧ E.mutAt i b := by
  rcases Nat.lt_or_ge b E.w.heap.size with hlt | hge
  · by_cases hm : (inEnv E objs fzs H0).Mut b
    · obtain ⟨j, hj⟩ := hm
      obtain ⟨i, h1, h2⟩ := in_mut B.hw B.hin hj
      exact .inr ⟨j, i, h1, h2⟩
    · exact absurd ⟨k, h⟩ (B.s1.w.keep b hlt hm).2
  · exact .inl hge
theorem bk_alien (B : Bk E Ef E1 objs fzs H0 ret ups ads frz) {i b : Nat} (h : E.mutAt i b) (hi : i ∉ objs) : ¬ E1.Mut b := by
  rintro ⟨k, hk⟩
  obtain ⟨q, base, a1, a2, a3⟩ := h
  have hlt := B.hw.block_lt a1 a2 a3
  rcases bk_own B hk with h' | ⟨j, i', h1, h2⟩
  · omega
  · have := B.hw.inj i i' b ⟨q, base, a1, a2, a3⟩ h2
    subst this
    exact hi (List.mem_of_getElem? h1)
theorem bk_nF (B : Bk E Ef E1 objs fzs H0 ret ups ads frz) {k b : Nat} (h : E1.mutAt k b) : ¬ E.F b := fun hF => B.h1.fNot k b h (by rw [B.s1.F]; exact .inl hF)

theorem bk_X (B : Bk E Ef E1 objs fzs H0 ret ups ads frz) (hz : frz = true) {b : Nat} (h : ¬ E1.X b) : ¬ (bkEnv E Ef E1 objs ret ups ads).X b := by
  rintro (hF | ⟨i, hm⟩)
  · exact h (.inl (by rw [B.s1.F]; exact .inl hF))
  · rcases bk_mut B hm with ⟨k, _, hk⟩ | ⟨k, _, hk⟩ | ⟨h1, h2, h3⟩
    · exact h (.inr ⟨k, hk⟩)
    · exact h (.inr ⟨k, hk⟩)
    · by_cases hfz : i ∈ fzs
      · obtain ⟨q, base, a1, a2, a3⟩ := h3
        rw [B.Hfz hz i hfz q a1] at a2
        cases a2
      · exact h (.inl (by rw [B.s1.F]; exact .inr ⟨i, h1, hfz, B.Fm i b h3⟩))

theorem bk_mutwst (B : Bk E Ef E1 objs fzs H0 ret ups ads frz) : Wst E.Mut (bkEnv E Ef E1 objs ret ups ads).Mut E.w E1.w where
  os := B.s1.w.os
  tape := B.s1.w.tape
  output := B.s1.w.output
  size := B.s1.w.size
  keep b hb hn := by
    have h0 : ¬ (inEnv E objs fzs H0).Mut b := fun ⟨k, hk⟩ => by
      obtain ⟨i, _, h2⟩ := in_mut B.hw B.hin hk
      exact hn ⟨i, h2⟩
    obtain ⟨h1, h2⟩ := B.s1.w.keep b hb h0
    refine ⟨h1, fun ⟨i, hm⟩ => ?_⟩
    rcases bk_mut B hm with ⟨k, _, hk⟩ | ⟨k, _, hk⟩ | ⟨_, _, h5⟩
    · exact h2 ⟨k, hk⟩
    · exact h2 ⟨k, hk⟩
    · exact hn ⟨i, B.Fm i b h5⟩
  blk := B.s1.w.blk
  drawn := B.s1.w.drawn

theorem bk_step (B : Bk E Ef E1 objs fzs H0 ret ups ads frz) : Step E (bkEnv E Ef E1 objs ret ups ads) where
  F := rfl
  w := bk_mutwst B
  obj i o ho := by
    by_cases hi : i ∈ objs
    · obtain ⟨k, hk⟩ := List.mem_iff_getElem?.1 hi
      obtain ⟨oi, o1, b', a1, a2, a3, a4, a5⟩ := bk_obj B hk
      rw [ho] at a1
      cases a1
      refine ⟨_, a4, Nat.le_add_right _ _, fun e => ?_⟩
      have hv0 : o1.ver = 0 := by simp at e; exact e
      obtain ⟨o', b0, c1, c2, c3⟩ := B.hin.body k i hk
      rw [ho] at c1
      cases c1
      obtain ⟨o2, d1, _, d3⟩ := B.s1.obj k ⟨0, b0⟩ c3
      rw [a2] at d1
      cases d1
      obtain ⟨d4, d5⟩ := d3 hv0
      exact ⟨(passBody_mut c2).2.trans (d4.trans (backBody_mut a3).2), a5.trans (d5.trans (in_ρ B.hw B.hin hk))⟩
    · by_cases hr : i ∈ ret.map (·.2)
      · obtain ⟨p, hp, rfl⟩ := List.mem_map.1 hr
        obtain ⟨o1, bb, ot, a1, ab, a2, a3, a4⟩ := bk_ret B (k := p.1) (t := p.2) hp
        rw [ho] at a2
        cases a2
        exact ⟨_, a3, Nat.le_succ _, fun e => by simp at e⟩
      · obtain ⟨a1, a2⟩ := bk_oth B hi hr
        obtain ⟨o', c1, c2, c3⟩ := B.hEf.obj i o ho
        exact ⟨o', a1.trans c1, c2, fun e => ⟨(c3 e).1, a2⟩⟩

theorem backCell_rel (B : Bk E Ef E1 objs fzs H0 ret ups ads frz) {a a' : AV} {v : Value} (h : backCell E.H E1.H objs ret a = some a') (hv : VRel E1 a v) (hg : frz = true ∨ a.flat1 = true) :
    VRel (bkEnv E Ef E1 objs ret ups ads) a' v ∧ (a.atom = true → a'.atom = true) := by
  have keep : frz = true → ∀ b, b < E1.w.heap.size → ¬ E1.X b → ¬ (bkEnv E Ef E1 objs ret ups ads).X b ∧ ∀ o, (bkEnv E Ef E1 objs ret ups ads).w.cell? ⟨b, o, none⟩ = E1.w.cell? ⟨b, o, none⟩ :=
    fun hz b _ hx => ⟨bk_X B hz hx, fun _ => rfl⟩
  cases a <;> simp only [backCell, reduceCtorEq, Option.some.injEq] at h
  case undef => subst h; exact ⟨trivial, id⟩
  case bool => subst h; exact ⟨hv, id⟩
  case int => subst h; exact ⟨hv, id⟩
  case str => subst h; exact ⟨hv, id⟩
  case nilptr => subst h; exact ⟨hv, id⟩
  case nilfn => subst h; exact ⟨hv, id⟩
  case nilmp => subst h; exact ⟨hv, id⟩
  case emp => subst h; exact ⟨hv, id⟩
  case ro n cs =>
    subst h
    refine ⟨?_, id⟩
    rcases hg with hz | hz
    · exact VRel.keepT (keep hz) _ _ rfl hv
    · simp only [AV.flat1, List.isEmpty_iff] at hz
      subst hz
      simp only [VRel] at hv ⊢
      obtain ⟨ad, cap, h1, h2, h3, _⟩ := hv
      exact ⟨ad, cap, h1, h2, h3, .inl trivial⟩
  case rptr cs =>
    subst h
    refine ⟨?_, id⟩
    rcases hg with hz | hz
    · exact VRel.keepT (keep hz) _ _ rfl hv
    · simp [AV.flat1] at hz
  case nilsl =>
    subst h
    refine ⟨?_, fun _ => rfl⟩
    simp only [VRel] at hv ⊢
    exact ⟨none, 0, hv, Nat.le_refl _, fun h => by omega, .inl trivial⟩
  case own k ver off len sz =>
    have hz : frz = true := by
      rcases hg with hz | hz
      · exact hz
      · simp [AV.flat1] at hz
    split at h
    · rename_i o ho
      split at h
      · rename_i hver
        split at h
        · rename_i i hki
          split at h
          · rename_i oi hoi
            cases h
            refine ⟨?_, fun _ => rfl⟩
            obtain ⟨oi', o', b', a1, a2, a3, a4, a5⟩ := bk_obj B hki
            rw [ho] at a2; cases a2
            rw [hoi] at a1; cases a1
            simp only [VRel] at hv ⊢
            obtain ⟨ad, cap, rfl, hle, h7, q, hq, hvq, hf⟩ := hv
            rw [ho] at hq
            cases hq
            have hf := hf hver.symm
            refine ⟨ad, cap, rfl, hle, h7, _, a4, by simp [hver], fun _ => ?_⟩
            have hpl : PlacedS E1 k off cap sz ad → PlacedS (bkEnv E Ef E1 objs ret ups ads) i off cap sz ad := by
              rintro ⟨b, base, p1, p2, p3⟩
              exact ⟨b, base, a5.trans p1, p2, p3⟩
            have hsh := (backBody_mut a3).2
            cases hb : o.body with
            | none => rw [hb] at hf; exact hf.elim
            | map _ _ => rw [hb] at hf; exact hf.elim
            | var cs =>
              rw [hb] at hf hsh
              cases hb' : b' <;> rw [hb'] at hsh <;> simp only [sameShape] at hsh
              exact ⟨by omega, hpl hf.2⟩
            | row m s cs =>
              rw [hb] at hf hsh
              cases hb' : b' <;> rw [hb'] at hsh <;> simp only [sameShape] at hsh
              refine ⟨by omega, ?_⟩
              rcases hf.2 with h | ⟨h1, h2, h3, h4⟩
              · exact .inl (hpl h)
              · refine .inr ⟨?_, a5.trans h2, h3, h4⟩
                have := hsh.2
                rw [h1] at this
                exact List.length_eq_zero_iff.1 this.symm
          · cases h
        · rename_i hki
          split at h
          · rename_i t hlk
            split at h
            · rename_i ot hot
              cases h
              refine ⟨?_, fun _ => rfl⟩
              obtain ⟨o', b', ot', a1, ab, a2, a3, a5⟩ := bk_ret B (lookup_mem hlk)
              rw [ho] at a1; cases a1
              rw [hot] at a2; cases a2
              simp only [VRel] at hv ⊢
              obtain ⟨ad, cap, rfl, hle, h7, q, hq, hvq, hf⟩ := hv
              rw [ho] at hq
              cases hq
              have hf := hf hver.symm
              refine ⟨ad, cap, rfl, hle, h7, _, a3, Nat.le_refl _, fun _ => ?_⟩
              have hpl : PlacedS E1 k off cap sz ad → PlacedS (bkEnv E Ef E1 objs ret ups ads) t off cap sz ad := by
                rintro ⟨b, base, p1, p2, p3⟩
                exact ⟨b, base, a5.trans p1, p2, p3⟩
              have hsh := (backBody_mut ab).2
              cases hb : o.body with
              | none => rw [hb] at hf; exact hf.elim
              | map _ _ => rw [hb] at hf; exact hf.elim
              | var cs =>
                rw [hb] at hf hsh
                cases hb' : b' <;> rw [hb'] at hsh <;> simp only [sameShape] at hsh
                exact ⟨by omega, hpl hf.2⟩
              | row m s cs =>
                rw [hb] at hf hsh
                cases hb' : b' <;> rw [hb'] at hsh <;> simp only [sameShape] at hsh
                refine ⟨by omega, ?_⟩
                rcases hf.2 with h | ⟨h1, h2, h3, h4⟩
                · exact .inl (hpl h)
                · refine .inr ⟨?_, a5.trans h2, h3, h4⟩
                  have := hsh.2
                  rw [h1] at this
                  exact List.length_eq_zero_iff.1 this.symm
            · cases h
          · rename_i hlk
            split at h
            · rename_i m s cs hob
              split at h
              · rename_i hle
                cases h
                refine ⟨?_, fun _ => rfl⟩
                have hoc : objCells E1.H k ver = some cs := by simp [objCells, ho, hver, hob, bodyCells]
                obtain ⟨ad, cap, rfl, hlc, _, hpl⟩ := ORel.cells B.h1 (by simpa only [VRel] using hv) hoc
                have hobj := B.h1.obj k o ho
                unfold ObjRel at hobj
                rw [hob] at hobj
                simp only at hobj
                simp only [VRel]
                refine ⟨ad, cap, rfl, hlc, ?_, ?_⟩
                · rcases hpl with ⟨rfl, _, rfl, rfl, _⟩ | ⟨b, base, _, rfl, _⟩
                  · intro h; omega
                  · intro _; rfl
                · rcases hpl with ⟨rfl, _⟩ | ⟨b, base, hρ, rfl, _, _, _, _⟩
                  · exact .inl (by simp)
                  · rcases hobj with ⟨_, h2⟩ | ⟨b', base', h1, h2, h3, h4⟩
                    · rw [hρ] at h2; cases h2
                    · rw [hρ] at h1; cases h1
                      refine .inr ⟨b, base + off, rfl, ?_, CRel.keepT (keep hz) _ b (base + off) (fun _ => rfl) ((h3.drop off).take _)⟩
                      cases m with
                      | false => exact bk_X B hz (h4 (by trivial))
                      | true =>
                        have hm : E1.mutAt k b := ⟨o, base, ho, by rw [hob]; rfl, hρ⟩
                        rintro (hF | ⟨i, hmi⟩)
                        · exact bk_nF B hm hF
                        · rcases bk_mut B hmi with ⟨k', c1, c2⟩ | ⟨k', c1, c2⟩ | ⟨c1, c2, c3⟩
                          · have := B.h1.inj k k' b hm c2
                            subst this
                            rw [c1] at hki; cases hki
                          · have := B.h1.inj k k' b hm c2
                            subst this
                            exact lookup_none hlk _ c1
                          · exact bk_alien B (B.Fm _ _ c3) c1 ⟨k, hm⟩
              · cases h
            · cases h
      · cases h
    · cases h
  case ptr k ver off =>
    split at h
    · rename_i o ho
      split at h
      · rename_i hver
        split at h
        · rename_i i hki
          split at h
          · rename_i oi hoi
            cases h
            refine ⟨?_, fun _ => rfl⟩
            obtain ⟨oi', o', b', a1, a2, a3, a4, a5⟩ := bk_obj B hki
            rw [ho] at a2; cases a2
            rw [hoi] at a1; cases a1
            simp only [VRel] at hv ⊢
            obtain ⟨ad, rfl, q, hq, hvq, hf⟩ := hv
            rw [ho] at hq
            cases hq
            obtain ⟨b, base, p1, p2⟩ := hf hver.symm
            exact ⟨ad, rfl, _, a4, by simp [hver], fun _ => ⟨b, base, a5.trans p1, p2⟩⟩
          · cases h
        · split at h
          · rename_i t hlk
            split at h
            · rename_i ot hot
              cases h
              refine ⟨?_, fun _ => rfl⟩
              obtain ⟨o', b', ot', a1, ab, a2, a3, a5⟩ := bk_ret B (lookup_mem hlk)
              rw [hot] at a2; cases a2
              simp only [VRel] at hv ⊢
              obtain ⟨ad, rfl, q, hq, hvq, hf⟩ := hv
              rw [ho] at hq
              cases hq
              obtain ⟨b, base, p1, p2⟩ := hf hver.symm
              exact ⟨ad, rfl, _, a3, Nat.le_refl _, fun _ => ⟨b, base, a5.trans p1, p2⟩⟩
            · cases h
          · cases h
      · cases h
    · cases h
  case mp k ver =>
    split at h
    · rename_i o ho
      split at h
      · rename_i hver
        split at h
        · rename_i i hki
          split at h
          · rename_i oi hoi
            cases h
            refine ⟨?_, fun _ => rfl⟩
            obtain ⟨oi', o', b', a1, a2, a3, a4, a5⟩ := bk_obj B hki
            rw [ho] at a2; cases a2
            rw [hoi] at a1; cases a1
            simp only [VRel] at hv ⊢
            obtain ⟨b, rfl, q, hq, hvq, hf⟩ := hv
            rw [ho] at hq
            cases hq
            exact ⟨b, rfl, _, a4, by simp [hver], fun _ => a5.trans (hf hver.symm)⟩
          · cases h
        · split at h
          · rename_i t hlk
            split at h
            · rename_i ot hot
              cases h
              refine ⟨?_, fun _ => rfl⟩
              obtain ⟨o', b', ot', a1, ab, a2, a3, a5⟩ := bk_ret B (lookup_mem hlk)
              rw [hot] at a2; cases a2
              simp only [VRel] at hv ⊢
              obtain ⟨b, rfl, q, hq, hvq, hf⟩ := hv
              rw [ho] at hq
              cases hq
              exact ⟨b, rfl, _, a3, Nat.le_refl _, fun _ => a5.trans (hf hver.symm)⟩
            · cases h
          · cases h
      · cases h
    · cases h
end

end Go.Ev
end
