/- Building aggregates; sources; objects that are laid. -/
import Derived.Test.YtfodjphcngidbaaEvOps5
import Derived.Laws.MakeOwn
import Derived.Laws.BytesString
set_option linter.unusedSimpArgs false
set_option linter.unusedVariables false
namespace Go.Ev
variable {P : Program} {E : Env} {o : Oper} {a : Act} {sl : List AV} {cf : CallF} {r : AV} {ups : List (Nat × AObj)}

theorem zeroB_rel {t : TypeId} {zs : List AV} (h : zeroB P t zs = true) : ∃ i z, P.info? t = some i ∧ i.zero = some z ∧ (∀ E : Env, LRel E zs z.cells.toList) ∧ zs.all AV.atom = true := by
  unfold zeroB at h
  split at h
  · rename_i i hi
    split at h
    · rename_i z hz
      simp only [Bool.and_eq_true] at h
      exact ⟨i, z, hi, hz, fun _ => constL_rel _ _ h.1, h.2⟩
    · cases h
  · cases h

theorem places_of : ∀ (fs : List Field), fs.all (fun f => (P.info? f.type).isSome) = true →
    ∃ places, fs.mapM (fun f => (P.info? f.type).map fun i => (f.offset, i.size)) = some places ∧ ∀ (i : Nat) (f : Field) (inf : TypeInfo), fs[i]? = some f → P.info? f.type = some inf → places[i]? = some (f.offset, inf.size)
  | [], _ => ⟨[], rfl, fun i f inf h => by simp at h⟩
  | f :: fs, h => by
    simp only [List.all_cons, Bool.and_eq_true] at h
    obtain ⟨inf, hi⟩ := Option.isSome_iff_exists.1 h.1
    obtain ⟨places, hp, hg⟩ := places_of fs h.2
    refine ⟨(f.offset, inf.size) :: places, by simp [List.mapM_cons, hi, hp], fun i g inf' h1 h2 => ?_⟩
    cases i with
    | zero => simp at h1; subst h1; rw [hi] at h2; cases h2; rfl
    | succ i => simpa using hg i g inf' (by simpa using h1) h2

theorem partsS_rel (hs : ARel E sl a) {fs : Array Field} : ∀ {ps : List (Nat × Nat × MX)} {qs : List (Nat × Operand)}, partsS P fs ps qs = true →
    ps.length = qs.length ∧ ∀ (j : Nat) (p : Nat × Nat × MX) (q : Nat × Operand), ps[j]? = some p → qs[j]? = some q → (∃ f inf, fs[q.1]? = some f ∧ P.info? f.type = some inf ∧ f.offset = p.1 ∧ inf.size = p.2.1) ∧ VRel E (ev sl p.2.2) (a.eval q.2)
  | [], [], _ => ⟨rfl, fun j p q h => by simp at h⟩
  | [], _ :: _, h => by simp [partsS] at h
  | _ :: _, [], h => by simp [partsS] at h
  | (off, n, x) :: ps, (i, y) :: qs, h => by
    simp only [partsS, Bool.and_eq_true] at h
    obtain ⟨⟨h1, h2⟩, h3⟩ := h
    obtain ⟨h4, h5⟩ := partsS_rel hs h3
    refine ⟨by simp [h4], fun j p q hp hq => ?_⟩
    cases j with
    | zero =>
      simp at hp hq
      subst hp; subst hq
      refine ⟨?_, ev_rel hs h2⟩
      split at h1
      · rename_i f hf
        simp only [Bool.and_eq_true, beq_iff_eq] at h1
        obtain ⟨inf, hi, hz⟩ := szB_info h1.2
        exact ⟨f, inf, hf, hi, h1.1, hz⟩
      · cases h1
    | succ j => exact h5 j p q (by simpa using hp) (by simpa using hq)
theorem partsA_rel (hs : ARel E sl a) {sz : Nat} : ∀ {ps : List (Nat × Nat × MX)} {qs : List (Nat × Operand)}, partsA sz ps qs = true →
    ps.length = qs.length ∧ ∀ (j : Nat) (p : Nat × Nat × MX) (q : Nat × Operand), ps[j]? = some p → qs[j]? = some q → (p.1 = q.1 * sz ∧ p.2.1 = sz) ∧ VRel E (ev sl p.2.2) (a.eval q.2)
  | [], [], _ => ⟨rfl, fun j p q h => by simp at h⟩
  | [], _ :: _, h => by simp [partsA] at h
  | _ :: _, [], h => by simp [partsA] at h
  | (off, n, x) :: ps, (i, y) :: qs, h => by
    simp only [partsA, Bool.and_eq_true, beq_iff_eq] at h
    obtain ⟨⟨⟨h1, h1'⟩, h2⟩, h3⟩ := h
    obtain ⟨h4, h5⟩ := partsA_rel hs h3
    refine ⟨by simp [h4], fun j p q hp hq => ?_⟩
    cases j with
    | zero =>
      simp at hp hq
      subst hp; subst hq
      exact ⟨⟨h1, h1'⟩, ev_rel hs h2⟩
    | succ j => exact h5 j p q (by simpa using hp) (by simpa using hq)

theorem op_build (hw : WRel E) (hs : ARel E sl a) {zs : List AV} {ps : List (Nat × Nat × MX)} (hc : chkOp P (.build zs ps) o.op = true) (h : opV cf sl E.H (.build zs ps) = some (r, ups)) : OpOk P E o a.eval r ups := by
  simp only [chkOp] at hc
  split at hc
  · rename_i t qs ho
    simp only [Bool.and_eq_true] at hc
    obtain ⟨hz, hc⟩ := hc
    obtain ⟨it, z, hit, hz, hzr, _⟩ := zeroB_rel hz
    simp only [opV] at h
    cases hf : fillV zs (ps.map fun p => (p.1, p.2.1, ev sl p.2.2)) with
    | none => rw [hf] at h; cases h
    | some cs =>
      rw [hf] at h
      obtain ⟨rfl, rfl⟩ := some_pair h
      have done : ∀ arr, P.built t (qs.map fun (i, x) => (i, a.eval x)).toList = some arr → LRel E cs arr.toList → OpOk P E o a.eval (.agg cs) [] := by
        intro arr hb hr
        refine .pure hw (v := .agg arr) (by simp only [execOp, ho, Sem.run_bind, run_build E.w t _ arr hb, Result.andThen_ok, Sem.run_pure]) ?_
        simp only [VRel]
        exact ⟨_, rfl, hr⟩
      have hml : (qs.map fun (i, x) => (i, a.eval x)).toList = qs.toList.map fun q => (q.1, a.eval q.2) := by simp
      split at hc
      · rename_i fs hu
        simp only [Bool.and_eq_true] at hc
        obtain ⟨hall, hp⟩ := hc
        obtain ⟨hl, hp⟩ := partsS_rel hs hp
        obtain ⟨places, hpl, hg⟩ := places_of (P := P) fs.toList (by simpa using hall)
        obtain ⟨arr, h1, h2⟩ := fill_rel (E := E) (places.toArray[·]?) _ (qs.toList.map fun q => (q.1, a.eval q.2)) zs z.cells cs (hzr E) (by simpa using hl) (fun j p q h1 h2 => by
          rw [List.getElem?_map] at h1 h2
          obtain ⟨p', hp', rfl⟩ := Option.map_eq_some_iff.1 h1
          obtain ⟨q', hq', rfl⟩ := Option.map_eq_some_iff.1 h2
          obtain ⟨⟨f, inf, h3, h4, h5, h6⟩, h7⟩ := hp j p' q' hp' hq'
          refine ⟨?_, h7⟩
          have := hg q'.1 f inf (by simpa using h3) h4
          simpa [h5, h6] using this) hf
        exact done arr (by rw [hml]; simp only [Program.built, hit, hu, hz, hpl]; exact h1) h2
      · rename_i n e hu
        split at hc
        · rename_i ie hie
          obtain ⟨hl, hp⟩ := partsA_rel hs hc
          obtain ⟨arr, h1, h2⟩ := fill_rel (E := E) (fun i => some (i * ie.size, ie.size)) _ (qs.toList.map fun q => (q.1, a.eval q.2)) zs z.cells cs (hzr E) (by simpa using hl) (fun j p q h1 h2 => by
            rw [List.getElem?_map] at h1 h2
            obtain ⟨p', hp', rfl⟩ := Option.map_eq_some_iff.1 h1
            obtain ⟨q', hq', rfl⟩ := Option.map_eq_some_iff.1 h2
            obtain ⟨⟨h5, h6⟩, h7⟩ := hp j p' q' hp' hq'
            exact ⟨by simp [h5, h6], h7⟩) hf
          exact done arr (by rw [hml]; simp only [Program.built, hit, hu, hz, hie]; exact h1) h2
        · cases hc
      · cases hc
  · cases hc

/-! ### What append and copy take from -/
def OCells (E : Env) (i off cap sz : Nat) (cs : List AV) (ad : Option Addr) : Prop :=
  (cs = [] ∧ off = 0 ∧ ad = none ∧ cap = 0 ∧ E.ρ[i]? = some none) ∨
    ∃ b base, E.ρ[i]? = some (some (b, base)) ∧ ad = some ⟨b, base + off, none⟩ ∧ Blk E.w b (base + off + cap * sz) ∧ Blk E.w b (base + cs.length) ∧ VCells E cs b base ∧ VCells E (cs.drop off) b (base + off)
theorem ORel.cells (hw : WRel E) {i ver off len sz : Nat} {v : Value} {cs : List AV} (hx : ORel E i ver off len sz v) (h : objCells E.H i ver = some cs) :
    ∃ ad cap, v = .slice ad len cap ∧ len ≤ cap ∧ off + len * sz ≤ cs.length ∧ OCells E i off cap sz cs ad := by
  obtain ⟨q, hq, hv, hb, hpl⟩ := objCells_rel hw h
  obtain ⟨ad, cap, rfl, hle, _, q', hq', _, hf⟩ := hx
  rw [hq] at hq'
  cases hq'
  have hf := hf hv.symm
  refine ⟨ad, cap, rfl, hle, ?_⟩
  have placed : PlacedS E i off cap sz ad → OCells E i off cap sz cs ad := fun hp => by
    obtain ⟨b, base, h1, h2, h3⟩ := hp
    rcases hpl with ⟨_, h4⟩ | ⟨b', base', h4, h5, h6⟩
    · rw [h1] at h4; cases h4
    · rw [h1] at h4; cases h4
      exact .inr ⟨b, base, h1, h2, h3, h5, h6, h6.drop off⟩
  cases hbb : q.body with
  | none => rw [hbb] at hb; cases hb
  | var ds => rw [hbb] at hb hf; cases hb; exact ⟨hf.1, placed hf.2⟩
  | row _ _ ds =>
    rw [hbb] at hb hf
    cases hb
    refine ⟨hf.1, ?_⟩
    rcases hf.2 with h1 | ⟨h1, h2, h3, h4⟩
    · exact placed h1
    · refine .inl ⟨h1, ?_, h3, h4, h2⟩
      have := hf.1
      rw [h1] at this
      simp at this
      omega

theorem srcCells_rel (hw : WRel E) {ysrc : Option Nat} {sz n : Nat} {y : AV} {cs : List AV} {v : Value} {tx : TypeId} (ht : isSliceB P tx = true) (h : srcCells E.H ysrc sz y = some (n, cs)) (hy : VRel E y v) :
    ∃ vs, Src P sz tx v n vs E.w ∧ LRel E cs vs ∧ cs.all AV.tree = true ∧ cs.length = n * sz := by
  obtain ⟨e', hk⟩ : ∃ e', P.underlying tx = some (.slice e') := by
    unfold isSliceB at ht
    split at ht
    · exact ⟨_, by assumption⟩
    · cases ht
  have fin : ∀ {ds : List AV} {b off cap : Nat}, VCells E ds b off → ds.all AV.tree = true → ds.length = n * sz →
      ∃ vs, Src P sz tx (.slice (some ⟨b, off, none⟩) n cap) n vs E.w ∧ LRel E ds vs ∧ ds.all AV.tree = true ∧ ds.length = n * sz := by
    intro ds b off cap hv htr hl
    obtain ⟨vs, hr, hrange, h1⟩ := hv.vals
    exact ⟨vs, Src.ofSlice E.w hk _ n cap vs (by rw [hr.length, hl]) (fun j u hj => by rw [Addr.add_mid]; exact hrange j u hj) h1, hr, htr, hl⟩
  unfold srcCells at h
  split at h
  · rename_i n' ds
    split at h
    · rename_i hlen
      cases h
      simp only [VRel] at hy
      obtain ⟨ad, cap, rfl, hle, h3, h4⟩ := hy
      rcases h4 with rfl | ⟨b, off, rfl, _, hc⟩
      · cases ad with
        | none =>
          have h0 : n = 0 := by
            rcases Nat.eq_zero_or_pos n with h | h
            · exact h
            · exact absurd (h3 h) (by simp)
          subst h0
          exact ⟨[], Src.ofNil E.w hk cap, rfl, rfl, by simp⟩
        | some ad =>
          refine ⟨[], ?_, rfl, rfl, hlen⟩
          exact Src.ofSlice E.w hk ad n cap [] (by simpa using hlen) (fun j u hj => by simp at hj) (fun u hu => by cases hu)
      · exact fin hc.toV hc.allTree hlen
    · cases h
  · cases h
    simp only [VRel] at hy
    subst hy
    exact ⟨[], Src.ofNil E.w hk 0, rfl, rfl, by simp⟩
  · cases h
    simp only [VRel] at hy
    obtain ⟨ad, cap, rfl, _⟩ := hy
    cases ad with
    | none => exact ⟨[], Src.ofNil E.w hk cap, rfl, rfl, by simp⟩
    | some ad => exact ⟨[], Src.ofSlice E.w hk ad 0 cap [] (by simp) (fun j u hj => by simp at hj) (fun u hu => by cases hu), rfl, rfl, by simp⟩
  · rename_i i ver off len sz'
    split at h
    · rename_i hcond
      obtain ⟨_, rfl⟩ := hcond
      split at h
      · rename_i ds hds
        split at h
        · rename_i hle
          split at h
          · rename_i htr
            cases h
            obtain ⟨ad, cap, rfl, hlc, _, hpl⟩ := ORel.cells hw (by simpa only [VRel] using hy) hds
            rcases hpl with ⟨rfl, rfl, rfl, rfl, _⟩ | ⟨b, base, _, rfl, _, _, _, hv⟩
            · have h0 : n = 0 := by omega
              subst h0
              exact ⟨[], Src.ofNil E.w hk 0, by simp [LRel], by simp, by simp⟩
            · exact fin (hv.take _) htr (by simp; omega)
          · cases h
        · cases h
      · cases h
    · cases h
  · cases h

theorem bytesOf_rel : ∀ {cs : List AV} {vs : List Value} {l : List UInt8}, LRel E cs vs → bytesOf cs = some l → ∃ ns : List Int, vs = ns.map (.int .u8) ∧ l = ns.map fun n => UInt8.ofNat n.toNat
  | [], vs, l, h, hb => by
    simp only [LRel] at h; subst h
    simp only [bytesOf, Option.some.injEq] at hb; subst hb
    exact ⟨[], rfl, rfl⟩
  | c :: cs, vs, l, h, hb => by
    simp only [LRel] at h
    obtain ⟨v, us, rfl, hv, h⟩ := h
    cases c with
    | int k n => cases k with
      | u8 =>
        simp only [bytesOf] at hb
        obtain ⟨l', hl, rfl⟩ := Option.map_eq_some_iff.1 hb
        obtain ⟨ns, rfl, rfl⟩ := bytesOf_rel h hl
        simp only [VRel] at hv
        subst hv
        exact ⟨n :: ns, rfl, rfl⟩
      | _ => simp [bytesOf] at hb
    | _ => simp [bytesOf] at hb

theorem push_data : ∀ (ns : List Int) (s : ByteArray), (ns.foldl (fun r n => r.push (UInt8.ofNat n.toNat)) s).data.toList = s.data.toList ++ ns.map fun n => UInt8.ofNat n.toNat
  | [], s => by simp
  | n :: ns, s => by
    rw [List.foldl_cons, push_data ns]
    simp [ByteArray.push]

theorem op_b2s (hw : WRel E) (hs : ARel E sl a) {ob : Option Nat} {x : MX} (hc : chkOp P (.b2s ob x) o.op = true) (h : opV cf sl E.H (.b2s ob x) = some (r, ups)) : OpOk P E o a.eval r ups := by
  simp only [chkOp] at hc
  split at hc
  · rename_i s d x' ho
    simp only [Bool.and_eq_true] at hc
    obtain ⟨⟨h1, h2⟩, h3⟩ := hc
    have hx := ev_rel hs h3
    have hd : P.underlying d = some .string := by
      split at h2
      · assumption
      · cases h2
    unfold u8SliceB at h1
    split at h1
    · rename_i e hu
      have he : P.underlying e = some (.int .u8) := by
        split at h1
        · assumption
        · cases h1
      have hsl : isSliceB P s = true := by simp [isSliceB, hu]
      simp only [opV] at h
      split at h
      · rename_i n cs hsrc
        cases hb : bytesOf cs with
        | none => rw [hb] at h; cases h
        | some l =>
          rw [hb] at h
          obtain ⟨rfl, rfl⟩ := some_pair h
          obtain ⟨vs, hS, hr, _, hlen⟩ := srcCells_rel hw hsl hsrc hx
          obtain ⟨ns, rfl, rfl⟩ := bytesOf_rel hr hb
          have hcells := hS.cells
          have hsl' : ∃ ad n' c, a.eval x' = .slice ad n' c := by
            generalize ev sl x = y at hx hsrc
            cases y <;> simp only [srcCells, reduceCtorEq] at hsrc
            · simp only [VRel] at hx; exact ⟨_, _, _, hx⟩
            · simp only [VRel] at hx; obtain ⟨ad, cap, hx, _⟩ := hx; exact ⟨_, _, _, hx⟩
            · simp only [VRel] at hx; obtain ⟨ad, cap, hx, _⟩ := hx; exact ⟨_, _, _, hx⟩
            · simp only [VRel] at hx; obtain ⟨ad, cap, hx, _⟩ := hx; exact ⟨_, _, _, hx⟩
          obtain ⟨ad, n', c, e1⟩ := hsl'
          rw [e1] at hcells
          have hn : n' = n := by
            have := hS.len E.w
            rw [e1] at this
            simp [Builtin.lenOf] at this
            exact this
          subst hn
          have hrun : (Conv.bytesToString (.slice ad n' c)).run P E.w = .ok (.string (ns.foldl (fun r n => r.push (UInt8.ofNat n.toNat)) ByteArray.empty)) E.w := by
            cases ad with
            | none =>
              simp [Builtin.firstCells] at hcells
              subst hcells
              simp [Conv.bytesToString]
            | some ad => 
              refine run_bytesToString E.w ad n' c ns ?_
              simpa [Builtin.firstCells] using hcells
          refine .pure hw (v := .string _) (by simp only [execOp, ho, e1, run_convert_bytes_string E.w s d e ad n' c hu he hd, hrun, Sem.run_bind, Result.andThen_ok, Sem.run_pure]; rfl) ?_
          simp only [VRel]
          exact ⟨_, rfl, by rw [push_data]; rfl⟩
      · cases h
    · cases h1
  · cases hc

end Go.Ev
