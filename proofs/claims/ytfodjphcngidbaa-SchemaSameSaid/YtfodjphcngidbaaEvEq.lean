/- '==' of structs and arrays of plain cells. -/
import Derived.Test.YtfodjphcngidbaaEvOps1
import Derived.ChangeKeysEq
set_option linter.unusedSimpArgs false
set_option linter.unusedVariables false
namespace Go.Ev
variable {P : Program}

def eqVals : List (Option IntKind) → List Value → List Value → Option Bool
  | [], [], [] => some true
  | some k :: ks, .int k1 a :: xs, .int k2 b :: ys => if k1 = k ∧ k2 = k then (eqVals ks xs ys).map ((a == b) && ·) else none
  | none :: ks, .bool a :: xs, .bool b :: ys => (eqVals ks xs ys).map ((a == b) && ·)
  | _, _, _ => none

theorem eqVals_of {E : Env} : ∀ {ks : List (Option IntKind)} {a b : List AV} {xs ys : List Value} {r : Bool}, LRel E a xs → LRel E b ys → eqCells ks a b = some r → eqVals ks xs ys = some r
  | [], [], [], xs, ys, r, h1, h2, h => by
    simp only [LRel] at h1 h2; subst h1; subst h2
    simpa [eqCells, eqVals] using h
  | [], [], _ :: _, _, _, _, _, _, h => by simp [eqCells] at h
  | [], _ :: _, _, _, _, _, _, _, h => by simp [eqCells] at h
  | k :: ks, [], _, _, _, _, _, _, h => by cases k <;> simp [eqCells] at h
  | k :: ks, x :: a, [], _, _, _, _, _, h => by cases k <;> cases x <;> simp [eqCells] at h
  | k :: ks, x :: a, y :: b, xs, ys, r, h1, h2, h => by
    simp only [LRel] at h1 h2
    obtain ⟨u, us, rfl, hu, h1⟩ := h1
    obtain ⟨v, vs, rfl, hv, h2⟩ := h2
    cases k with
    | none =>
      cases x <;> cases y <;> simp only [eqCells, reduceCtorEq] at h
      simp only [VRel] at hu hv
      subst hu; subst hv
      obtain ⟨r', h3, rfl⟩ := Option.map_eq_some_iff.1 h
      simp only [eqVals, eqVals_of h1 h2 h3, Option.map_some]
    | some k =>
      cases x <;> cases y <;> simp only [eqCells, reduceCtorEq] at h
      simp only [VRel] at hu hv
      subst hu; subst hv
      split at h
      · rename_i hk
        obtain ⟨r', h3, rfl⟩ := Option.map_eq_some_iff.1 h
        simp only [eqVals, hk, and_self, if_true, eqVals_of h1 h2 h3, Option.map_some]
      · cases h

theorem eqVals_cons {k : Option IntKind} {ks : List (Option IntKind)} {xs ys : List Value} {r : Bool} (h : eqVals (k :: ks) xs ys = some r) :
    ∃ x y us vs r1 r2, xs = x :: us ∧ ys = y :: vs ∧ eqVals [k] [x] [y] = some r1 ∧ eqVals ks us vs = some r2 ∧ r = (r1 && r2) := by
  cases xs with
  | nil => cases k <;> simp [eqVals] at h
  | cons x us =>
    cases ys with
    | nil => cases k <;> cases x <;> simp [eqVals] at h
    | cons y vs =>
      cases k with
      | none =>
        cases x <;> cases y <;> simp only [eqVals, reduceCtorEq] at h
        rename_i a b
        obtain ⟨r', h3, rfl⟩ := Option.map_eq_some_iff.1 h
        exact ⟨_, _, _, _, a == b, r', rfl, rfl, by simp [eqVals], h3, rfl⟩
      | some k =>
        cases x <;> cases y <;> simp only [eqVals, reduceCtorEq] at h
        rename_i k1 a k2 b
        split at h
        · rename_i hk
          obtain ⟨r', h3, rfl⟩ := Option.map_eq_some_iff.1 h
          exact ⟨_, _, _, _, a == b, r', rfl, rfl, by simp [eqVals, hk], h3, rfl⟩
        · cases h

theorem eqVals_len : ∀ {ks : List (Option IntKind)} {xs ys : List Value} {r : Bool}, eqVals ks xs ys = some r → xs.length = ks.length ∧ ys.length = ks.length
  | [], [], [], _, _ => ⟨rfl, rfl⟩
  | [], [], _ :: _, _, h => by simp [eqVals] at h
  | [], _ :: _, _, _, h => by simp [eqVals] at h
  | k :: ks, xs, ys, r, h => by
    obtain ⟨x, y, us, vs, r1, r2, rfl, rfl, _, h2, _⟩ := eqVals_cons h
    have := eqVals_len h2
    simp [this.1, this.2]

theorem eqVals_join {k : Option IntKind} {ks : List (Option IntKind)} {x y : Value} {xs ys : List Value} {r1 r2 : Bool} (h1 : eqVals [k] [x] [y] = some r1) (h2 : eqVals ks xs ys = some r2) :
    eqVals (k :: ks) (x :: xs) (y :: ys) = some (r1 && r2) := by
  cases k with
  | none =>
    cases x <;> cases y <;> simp only [eqVals, reduceCtorEq] at h1
    simp only [Option.map_some, Bool.and_true, Option.some.injEq] at h1; subst h1; simp [eqVals, h2]
  | some k =>
    cases x <;> cases y <;> simp only [eqVals, reduceCtorEq] at h1
    split at h1
    · rename_i hk
      simp only [Option.map_some, Bool.and_true, Option.some.injEq] at h1; subst h1; simp [eqVals, hk, h2]
    · cases h1

theorem eqVals_split : ∀ (ks ls : List (Option IntKind)) {xs ys : List Value} {r : Bool}, eqVals (ks ++ ls) xs ys = some r →
    ∃ r1 r2, eqVals ks (xs.take ks.length) (ys.take ks.length) = some r1 ∧ eqVals ls (xs.drop ks.length) (ys.drop ks.length) = some r2 ∧ r = (r1 && r2)
  | [], ls, xs, ys, r, h => ⟨true, r, by simp [eqVals], by simpa using h, by simp⟩
  | k :: ks, ls, xs, ys, r, h => by
    rw [List.cons_append] at h
    obtain ⟨x, y, us, vs, r1, r2, rfl, rfl, h1, h2, rfl⟩ := eqVals_cons h
    obtain ⟨r3, r4, h3, h4, rfl⟩ := eqVals_split ks ls h2
    exact ⟨r1 && r3, r4, by simpa using eqVals_join h1 h3, by simpa using h4, by simp [Bool.and_assoc]⟩

/-- A value of type t out of its cells. -/
def mkv (P : Program) (t : TypeId) (l : List Value) : Value := if aggB P t then .agg l.toArray else l.getD 0 undef

theorem run_isAgg {t : TypeId} (w : World) (h : (P.underlying t).isSome = true) : (isAgg t).run P w = .ok (aggB P t) w := by
  obtain ⟨d, hd⟩ := Option.isSome_iff_exists.1 h
  unfold isAgg aggB
  simp only [Sem.run_bind, run_underlying hd, Result.andThen_ok, hd]
  cases d <;> rfl

theorem run_part {t : TypeId} {cs : Array Value} {off n : Nat} (w : World) (hu : (P.underlying t).isSome = true) (hz : szB P t n = true) (hn : 0 < n) (h1 : aggB P t = false → n = 1) (hle : off + n ≤ cs.size) :
    (part t cs off).run P w = .ok (mkv P t ((cs.toList.drop off).take n)) w := by
  have hs : (sizeOf t).run P w = .ok n w := by
    unfold szB at hz
    split at hz
    · rename_i i hi
      have : i.size = n := by simpa using hz
      simp [sizeOf, typeInfo, hi, this]
    · cases hz
  unfold part mkv
  simp only [Sem.run_bind, run_isAgg w hu, Result.andThen_ok]
  cases hb : aggB P t with
  | true =>
    simp only [if_true, Sem.run_bind, hs, Result.andThen_ok, Sem.run_pure]
    congr 2
    apply Array.ext'
    simp [Array.toList_extract, List.extract_eq_take_drop]
    
  | false =>
    have := h1 hb
    subst this
    have hlt : off < cs.size := by omega
    simp only [Bool.false_eq_true, if_false]
    rw [Array.getElem?_eq_getElem hlt]
    simp [List.getD_eq_getElem?_getD, hlt]


theorem szB_cellsOf {t : TypeId} {n : Nat} (h : szB P t n = true) : P.cellsOf t = n := by
  unfold szB at h
  split at h
  · rename_i i hi
    have : i.size = n := by simpa using h
    simp [Program.cellsOf, hi, this]
  · cases h
theorem szB_info {t : TypeId} {n : Nat} (h : szB P t n = true) : ∃ i, P.info? t = some i ∧ i.size = n := by
  unfold szB at h
  split at h
  · rename_i i hi
    exact ⟨i, hi, by simpa using h⟩
  · cases h

def EqRun (P : Program) (m : Nat) (t : TypeId) (ks : List (Option IntKind)) : Prop :=
  (P.underlying t).isSome = true ∧ (aggB P t = false → ks.length = 1) ∧
  ∀ (w : World) (xs ys : List Value) (r : Bool), eqVals ks xs ys = some r → (Op.equalIn m t (mkv P t xs) (mkv P t ys)).run P w = .ok r w

theorem eqItems_run {m : Nat} {e : TypeId} {ks : List (Option IntKind)} (IH : EqRun P m e ks) (hz : szB P e ks.length = true) (h0 : 0 < ks.length) (w : World) (xs ys : Array Value) :
    ∀ (n s : Nat) (r : Bool), eqVals (List.replicate n ks).flatten (xs.toList.drop (s * ks.length)) (ys.toList.drop (s * ks.length)) = some r →
      (Op.eqItems m e ks.length xs ys (List.range' s n)).run P w = .ok r w
  | 0, s, r, h => by
    have : r = true := by
      simp only [List.replicate_zero, List.flatten_nil] at h
      generalize xs.toList.drop (s * ks.length) = a at h
      generalize ys.toList.drop (s * ks.length) = b at h
      cases a <;> cases b <;> simp [eqVals] at h
      exact h
    subst this
    simp [Op.eqItems]
  | n + 1, s, r, h => by
    rw [List.replicate_succ, List.flatten_cons] at h
    have hl := eqVals_len h
    obtain ⟨r1, r2, h1, h2, rfl⟩ := eqVals_split _ _ h
    rw [List.drop_drop, List.drop_drop, show s * ks.length + ks.length = (s + 1) * ks.length by rw [Nat.add_mul, Nat.one_mul]] at h2
    simp only [List.length_drop, List.length_append, Array.length_toList] at hl
    have px := run_part (cs := xs) (off := s * ks.length) w IH.1 hz h0 IH.2.1 (by omega)
    have py := run_part (cs := ys) (off := s * ks.length) w IH.1 hz h0 IH.2.1 (by omega)
    rw [List.range'_succ]
    simp only [Op.eqItems, Sem.run_bind, px, py, Result.andThen_ok, IH.2.2 w _ _ r1 h1]
    cases r1
    · simp
    · simpa using eqItems_run IH hz h0 w xs ys n (s + 1) r2 h2

theorem eqFields_run {m d : Nat} (IH : ∀ t ks, kindsOf P d t = some ks → EqRun P m t ks) (w : World) (xs ys : Array Value) :
    ∀ (fs : List Field) (off : Nat) (ks : List (Option IntKind)) (r : Bool), fieldKinds P (kindsOf P d) off fs = some ks → eqVals ks (xs.toList.drop off) (ys.toList.drop off) = some r →
      (Op.eqFields m xs ys fs).run P w = .ok r w
  | [], off, ks, r, hk, h => by
    simp only [fieldKinds, Option.some.injEq] at hk
    subst hk
    have : r = true := by
      generalize xs.toList.drop off = a at h
      generalize ys.toList.drop off = b at h
      cases a <;> cases b <;> simp [eqVals] at h
      exact h
    subst this
    simp [Op.eqFields]
  | f :: fs, off, ks, r, hk, h => by
    unfold fieldKinds at hk
    split at hk
    · rename_i hn
      simp only [Bool.and_eq_true, bne_iff_ne, ne_eq, beq_iff_eq] at hn
      split at hk
      · rename_i ks1 hk1
        split at hk
        · rename_i hz
          simp only [Bool.and_eq_true, decide_eq_true_eq] at hz
          obtain ⟨ks2, hk2, rfl⟩ := Option.map_eq_some_iff.1 hk
          have hl := eqVals_len h
          obtain ⟨r1, r2, h1, h2, rfl⟩ := eqVals_split _ _ h
          rw [List.drop_drop, List.drop_drop] at h2
          simp only [List.length_drop, List.length_append, Array.length_toList] at hl
          have I := IH _ _ hk1
          have px := run_part (cs := xs) (off := off) w I.1 hz.1 hz.2 I.2.1 (by omega)
          have py := run_part (cs := ys) (off := off) w I.1 hz.1 hz.2 I.2.1 (by omega)
          simp only [Op.eqFields, ne_eq, hn.1, not_false_eq_true, if_true, hn.2, Sem.run_bind, px, py, Result.andThen_ok, I.2.2 w _ _ r1 h1]
          cases r1
          · simp
          · simpa using eqFields_run IH w xs ys fs (off + ks1.length) ks2 r2 hk2 h2
        · cases hk
      · cases hk
    · cases hk

theorem eq_run (m : Nat) : ∀ (d : Nat) (t : TypeId) (ks : List (Option IntKind)), kindsOf P d t = some ks → EqRun P (m + d) t ks
  | 0, _, _, h => by simp [kindsOf] at h
  | d + 1, t, ks, h => by
    unfold kindsOf at h
    cases hu : P.underlying t with
    | none => simp [hu] at h
    | some kd =>
      rw [hu] at h
      cases kd <;> simp only [reduceCtorEq] at h
      case bool =>
        split at h
        · cases h
          have ha : aggB P t = false := by simp [aggB, hu]
          refine ⟨by simp [hu], fun _ => rfl, fun w xs ys r hr => ?_⟩
          obtain ⟨x, y, us, vs, r1, r2, rfl, rfl, h1, h2, rfl⟩ := eqVals_cons hr
          have := eqVals_len h2
          cases us <;> cases vs <;> simp at this
          cases x <;> cases y <;> simp [eqVals] at h1
          simp only [eqVals, Option.some.injEq] at h2
          subst h1; subst h2
          rw [show m + (d + 1) = (m + d) + 1 from rfl]
          simpa [mkv, ha] using run_equalIn_bool' w (m + d) t _ _ hu
        · cases h
      case int k =>
        split at h
        · cases h
          have ha : aggB P t = false := by simp [aggB, hu]
          refine ⟨by simp [hu], fun _ => rfl, fun w xs ys r hr => ?_⟩
          obtain ⟨x, y, us, vs, r1, r2, rfl, rfl, h1, h2, rfl⟩ := eqVals_cons hr
          have := eqVals_len h2
          cases us <;> cases vs <;> simp at this
          cases x <;> cases y <;> simp [eqVals] at h1
          simp only [eqVals, Option.some.injEq] at h2
          obtain ⟨⟨rfl, rfl⟩, h1⟩ := h1
          subst h1; subst h2
          rw [show m + (d + 1) = (m + d) + 1 from rfl]
          simpa [mkv, ha] using run_equalIn_int w (m + d) t _ _ _ _ hu
        · cases h
      case array n e =>
        split at h
        · rename_i ks1 hk1
          split at h
          · rename_i hz
            simp only [Bool.and_eq_true, decide_eq_true_eq] at hz
            cases h
            have ha : aggB P t = true := by simp [aggB, hu]
            refine ⟨by simp [hu], (fun q => by rw [ha] at q; cases q), fun w xs ys r hr => ?_⟩
            have IH := eq_run m d e ks1 hk1
            obtain ⟨i, hi, _⟩ := szB_info hz.1.1
            have := eqItems_run IH hz.1.1 hz.1.2 w xs.toArray ys.toArray n 0 r (by simpa using hr)
            simp only [mkv, ha, if_true]
            rw [show m + (d + 1) = (m + d) + 1 from rfl, run_equalIn_array w (m + d) _ _ hu hi, szB_cellsOf hz.1.1, List.range_eq_range']
            exact this
          · cases h
        · cases h
      case struct fs =>
        split at h
        · cases h
        · rename_i hst
          split at h
          · rename_i ks1 hk1
            split at h
            · cases h
              have ha : aggB P t = true := by simp [aggB, hu]
              refine ⟨by simp [hu], (fun q => by rw [ha] at q; cases q), fun w xs ys r hr => ?_⟩
              have hfs : P.fieldsOf t = fs := by simp [Program.fieldsOf, hu]
              have := eqFields_run (fun t ks hk => eq_run m d t ks hk) w xs.toArray ys.toArray fs.toList 0 _ r hk1 (by simpa using hr)
              simp only [mkv, ha, if_true]
              rw [show m + (d + 1) = (m + d) + 1 from rfl, run_equalIn_agg w (m + d) t _ _ (by rw [hfs]; exact hu) (by simpa using hst), hfs]
              exact this
            · cases h
          · cases h

end Go.Ev
