/- Operations that lay nothing: comparisons, sums, places. -/
import Derived.Test.YtfodjphcngidbaaEvEq
set_option linter.unusedSimpArgs false
set_option linter.unusedVariables false
namespace Go.Ev
variable {P : Program} {E : Env} {o : Oper} {ρ : Operand → Value}

theorem execOp_bin {op : BinOp} {t : TypeId} {x y : Operand} {yt : TypeId} (ho : o.op = .binOp op t x y yt) {r : Value} {w : World} (hg : (eqGuard op t x y (ρ x) (ρ y)).run P w = .ok () w)
    (hb : (binOp op t (ρ x) (ρ y)).run P w = .ok r w) : (execOp ρ o).run P w = .ok (.value r) w := by
  simp only [execOp, ho, Sem.run_bind, hg, hb, Result.andThen_ok, Sem.run_pure]

theorem isNilS_rel {x : AV} {b : Bool} {v : Value} (h : isNilS x = some b) (hv : VRel E x v) : ∃ a n c, v = .slice a n c ∧ a.isNone = b := by
  cases x <;> simp only [isNilS, reduceCtorEq, Option.some.injEq] at h
  case nilsl => simp only [VRel] at hv; exact ⟨_, _, _, hv, by simpa using h⟩
  case emp nl =>
    simp only [VRel] at hv
    obtain ⟨a, cap, rfl, hn⟩ := hv
    exact ⟨_, _, _, rfl, hn.trans h⟩
  case ro n cs =>
    split at h
    · cases h
    · cases h
      simp only [VRel] at hv
      obtain ⟨a, cap, rfl, _, h3, _⟩ := hv
      have := h3 (by omega)
      exact ⟨_, _, _, rfl, by cases a <;> simp_all⟩
  case own i ver off len sz =>
    split at h
    · cases h
    · cases h
      simp only [VRel] at hv
      obtain ⟨a, cap, rfl, _, h3, _⟩ := hv
      have := h3 (by omega)
      exact ⟨_, _, _, rfl, by cases a <;> simp_all⟩
theorem isNilP_rel {x : AV} {b : Bool} {v : Value} (h : isNilP x = some b) (hv : VRel E x v) : ∃ a, v = .pointer a ∧ a.isNone = b := by
  cases x <;> simp only [isNilP, reduceCtorEq, Option.some.injEq] at h
  case nilptr => simp only [VRel] at hv; exact ⟨_, hv, by simpa using h⟩
  case ptr i ver off =>
    cases h
    simp only [VRel] at hv
    obtain ⟨a, rfl, _⟩ := hv
    exact ⟨_, rfl, rfl⟩
  case rptr cs =>
    cases h
    simp only [VRel] at hv
    obtain ⟨a, rfl, _⟩ := hv
    exact ⟨_, rfl, rfl⟩

theorem run_equalIn_nilsl {t e : TypeId} (hu : P.underlying t = some (.slice e)) (a : Option Addr) (n c d : Nat) (w : World) : (Op.equalIn (d + 1) t (.slice a n c) (.slice none 0 0)).run P w = .ok a.isNone w := by
  cases a <;> simp [Op.equalIn, run_underlying hu]
theorem run_equalIn_nilptr {t e : TypeId} (hu : P.underlying t = some (.pointer e)) (a : Option Addr) (d : Nat) (w : World) : (Op.equalIn (d + 1) t (.pointer a) (.pointer none)).run P w = .ok a.isNone w := by
  cases a <;> simp [Op.equalIn, run_underlying hu]

theorem notAggI {k : IntKind} {n : Int} : (∀ c, Value.int k n ≠ .agg c) ∧ Value.int k n ≠ .nilIface := ⟨nofun, nofun⟩
theorem notAggB {b : Bool} : (∀ c, Value.bool b ≠ .agg c) ∧ Value.bool b ≠ .nilIface := ⟨nofun, nofun⟩
theorem notAggS {b : ByteArray} : (∀ c, Value.string b ≠ .agg c) ∧ Value.string b ≠ .nilIface := ⟨nofun, nofun⟩
theorem notAggL {a : Option Addr} {n c : Nat} : (∀ x, Value.slice a n c ≠ .agg x) ∧ Value.slice a n c ≠ .nilIface := ⟨nofun, nofun⟩
theorem notAggP {a : Option Addr} : (∀ x, Value.pointer a ≠ .agg x) ∧ Value.pointer a ≠ .nilIface := ⟨nofun, nofun⟩

theorem eqlV (t : TypeId) (a b : Value) (w : World) (h : ∀ k n, a ≠ .int k n) (r : Bool) (hr : (Op.equalIn 10000 t a b).run P w = .ok r w)
    (hs : ∀ s, a ≠ .string s) (hf : ∀ k n, a ≠ .float k n) (hc : ∀ k n m, a ≠ .complex k n m) :
    (binOp .eql t a b).run P w = .ok (.bool r) w ∧ (binOp .neq t a b).run P w = .ok (.bool (!r)) w := by
  have e : (Op.equal t a b).run P w = .ok r w := hr
  cases a <;> first
    | exact absurd rfl (h _ _)
    | exact absurd rfl (hs _)
    | exact absurd rfl (hf _ _)
    | exact absurd rfl (hc _ _ _)
    | (constructor <;> simp only [binOp, Sem.run_bind, e, Result.andThen_ok, Sem.run_pure])

theorem tc_bool {t : TypeId} (h : tcB P .bool t = true) : P.underlying t = some .bool := by
  simp only [tcB] at h
  split at h
  · assumption
  · cases h
theorem tc_sl {t : TypeId} (h : tcB P .sl t = true) : ∃ e, P.underlying t = some (.slice e) := by
  simp only [tcB] at h
  split at h
  · exact ⟨_, by assumption⟩
  · cases h
theorem tc_ptr {t : TypeId} (h : tcB P .ptr t = true) : ∃ e, P.underlying t = some (.pointer e) := by
  simp only [tcB] at h
  split at h
  · exact ⟨_, by assumption⟩
  · cases h

theorem ok_bin (hw : WRel E) {op : BinOp} {tc : TC} {t yt : TypeId} {x y : AV} {x' y' : Operand} (ho : o.op = .binOp op t x' y' yt) (ht : tcB P tc t = true)
    (hx : VRel E x (ρ x')) (hy : VRel E y (ρ y')) {r : AV} (h : binV op tc x y = some r) : OpOk P E o ρ r [] := by
  cases tc with
  | int =>
    cases x <;> cases y <;> simp only [binV, reduceCtorEq] at h
    simp only [VRel] at hx hy
    obtain ⟨v, hv, hr⟩ := binInt_run (P := P) (E := E) op t _ _ _ _ E.w r h
    exact .pure hw (execOp_bin ho (eqGuard_plain _ _ _ _ _ _ _ (by rw [hx]; exact notAggI)) (by rw [hx, hy]; exact hv)) hr
  | bool =>
    have hu := tc_bool ht
    simp only [binV] at h
    split at h <;> simp only [reduceCtorEq, Option.some.injEq] at h
    all_goals
      simp only [VRel] at hx hy
      subst h
      rename_i b1 b2
      have := eqlV (P := P) t (.bool b1) (.bool b2) E.w nofun _ (run_equalIn_bool' E.w 9999 t b1 b2 hu) nofun nofun nofun
      exact .pure hw (execOp_bin (r := .bool _) ho (eqGuard_plain _ _ _ _ _ _ _ (by rw [hx]; exact notAggB)) (by rw [hx, hy]; first | exact this.1 | exact this.2)) rfl
  | str =>
    simp only [binV] at h
    split at h <;> simp only [reduceCtorEq, Option.some.injEq] at h
    all_goals
      simp only [VRel] at hx hy
      obtain ⟨s1, hx, e1⟩ := hx
      obtain ⟨s2, hy, e2⟩ := hy
      subst h; subst e1; subst e2
      exact .pure hw (execOp_bin (r := .bool _) ho (eqGuard_plain _ _ _ _ _ _ _ (by rw [hx]; exact notAggS)) (by rw [hx, hy]; simp [binOp, Op.stringOp, ByteArray.toList_eq])) rfl
  | sl =>
    obtain ⟨e, hu⟩ := tc_sl ht
    simp only [binV] at h
    split at h <;> try (cases h; done)
    all_goals
      obtain ⟨b, hb, rfl⟩ := Option.map_eq_some_iff.1 h
      simp only [VRel] at hy
      obtain ⟨a, n, c, e1, rfl⟩ := isNilS_rel hb hx
      have := eqlV (P := P) t (.slice a n c) (.slice none 0 0) E.w nofun _ (run_equalIn_nilsl hu a n c 9999 E.w) nofun nofun nofun
      exact .pure hw (execOp_bin (r := .bool _) ho (eqGuard_plain _ _ _ _ _ _ _ (by rw [e1]; exact notAggL)) (by rw [e1, hy]; first | exact this.1 | exact this.2)) rfl
  | ptr =>
    obtain ⟨e, hu⟩ := tc_ptr ht
    simp only [binV] at h
    split at h <;> try (cases h; done)
    all_goals
      obtain ⟨b, hb, rfl⟩ := Option.map_eq_some_iff.1 h
      simp only [VRel] at hy
      obtain ⟨a, e1, rfl⟩ := isNilP_rel hb hx
      have := eqlV (P := P) t (.pointer a) (.pointer none) E.w nofun _ (run_equalIn_nilptr hu a 9999 E.w) nofun nofun nofun
      exact .pure hw (execOp_bin (r := .bool _) ho (eqGuard_plain _ _ _ _ _ _ _ (by rw [e1]; exact notAggP)) (by rw [e1, hy]; first | exact this.1 | exact this.2)) rfl
  | agg ks =>
    simp only [tcB, Bool.and_eq_true, beq_iff_eq, Bool.not_eq_true'] at ht
    obtain ⟨⟨ha, hk⟩, hg⟩ := ht
    simp only [binV] at h
    split at h <;> try (cases h; done)
    all_goals
      obtain ⟨b, hb, rfl⟩ := Option.map_eq_some_iff.1 h
      simp only [VRel] at hx hy
      obtain ⟨xs, e1, hx⟩ := hx
      obtain ⟨ys, e2, hy⟩ := hy
      have hr := (eq_run (P := P) 9980 20 t ks hk).2.2 E.w xs.toList ys.toList b (eqVals_of hx hy hb)
      simp only [mkv, ha, if_true, Array.toArray_toList] at hr
      have := eqlV (P := P) t (.agg xs) (.agg ys) E.w nofun _ hr nofun nofun nofun
      exact .pure hw (execOp_bin (r := .bool _) ho (by rw [e1, e2]; exact run_eqGuard_agg E.w _ t _ _ xs ys hg) (by rw [e1, e2]; first | exact this.1 | exact this.2)) rfl

theorem unInt (op : UnOp) (k : IntKind) (n : Int) (r : AV) (h : unV op (.int k n) = some r) (w : World) : ∃ v, (Op.unary op (.int k n)).run P w = .ok v w ∧ VRel E r v := by
  cases op <;> simp only [unV, reduceCtorEq, Option.some.injEq] at h
  case neg => subst h; exact ⟨_, by simp [Op.unary, Op.intArith], rfl⟩
  case xor =>
    simp only [binInt, ne_eq, not_true_eq_false, if_false, Option.some.injEq] at h
    subst h
    exact ⟨_, by simp [Op.unary, Op.intBits], rfl⟩
theorem ok_un (hw : WRel E) {op : UnOp} {t : TypeId} {x : AV} {x' : Operand} (ho : o.op = .unOp op t x') (hx : VRel E x (ρ x')) {r : AV} (h : unV op x = some r) : OpOk P E o ρ r [] := by
  cases x <;> try (cases op <;> simp [unV] at h; done)
  case bool b =>
    cases op <;> simp only [unV, reduceCtorEq, Option.some.injEq] at h
    subst h
    simp only [VRel] at hx
    exact .pure hw (v := .bool !b) (by simp [execOp, ho, hx, Op.unary]) rfl
  case int k n =>
    simp only [VRel] at hx
    obtain ⟨v, hv, hr⟩ := unInt (P := P) (E := E) op k n r h E.w
    exact .pure hw (v := v) (by simp [execOp, ho, hx, hv]) hr

theorem ok_conv (hw : WRel E) {k k' : IntKind} {s d : TypeId} {n : Int} {x' : Operand} (ho : o.op = .convert s d x') (hs : (P.underlying s).isSome = true) (hd : P.underlying d = some (.int k))
    (hx : VRel E (.int k' n) (ρ x')) : OpOk P E o ρ (.int k (k.wrap n)) [] := by
  simp only [VRel] at hx
  have e : P.intKind d = k := by simp [Program.intKind, hd]
  have := run_convert_int (P := P) E.w s d k' n hs (by rw [e]; exact hd)
  rw [e] at this
  exact .pure hw (v := .int k (k.wrap n)) (by simp [execOp, ho, hx, this]) rfl

theorem Addr_add0 (b off n : Nat) : (⟨b, off, none⟩ : Addr).add n = ⟨b, off + n, none⟩ := Addr.add_mid b off n

/-- A pointer some cells on. -/
theorem ptr_add {i ver off : Nat} {v : Value} (n : Nat) (h : VRel E (.ptr i ver off) v) : ∃ a, v = .pointer (some a) ∧ VRel E (.ptr i ver (off + n)) (.pointer (some (a.add n))) := by
  simp only [VRel] at h ⊢
  obtain ⟨a, rfl, q, hq, hle, hf⟩ := h
  refine ⟨a, rfl, _, rfl, q, hq, hle, fun e => ?_⟩
  obtain ⟨b, base, h1, rfl⟩ := hf e
  exact ⟨b, base, h1, by rw [Addr.add_mid, Nat.add_assoc]⟩
theorem rptr_add {cs : List AV} {v : Value} (n : Nat) (h : VRel E (.rptr cs) v) : ∃ a, v = .pointer (some a) ∧ VRel E (.rptr (cs.drop n)) (.pointer (some (a.add n))) := by
  simp only [VRel] at h ⊢
  obtain ⟨a, rfl, h⟩ := h
  refine ⟨a, rfl, _, rfl, ?_⟩
  rcases h with rfl | ⟨b, off, rfl, h1, h2⟩
  · exact .inl (by simp)
  · exact .inr ⟨b, off + n, by rw [Addr.add_mid], h1, h2.drop n⟩

theorem fieldPlace_run {a : Addr} {f : Field} {i : TypeInfo} (hi : P.info? f.type = some i) (hn : i.size ≠ 0) (w : World) : (fieldPlace a f).run P w = .ok (a.add f.offset) w := by
  simp [fieldPlace, sizeOf, typeInfo, hi, hn]

theorem ok_faddr (hw : WRel E) {off f : Nat} {s : TypeId} {fs : Array Field} {fd : Field} {i : TypeInfo} {x : AV} {x' : Operand} (ho : o.op = .fieldAddr s x' f) (hu : P.underlying s = some (.struct fs)) (hf : fs[f]? = some fd)
    (hoff : fd.offset = off) (hi : P.info? fd.type = some i) (hn : i.size ≠ 0) (hx : VRel E x (ρ x')) {r : AV}
    (h : (∃ j ver k, x = .ptr j ver k ∧ r = .ptr j ver (k + off)) ∨ (∃ cs, x = .rptr cs ∧ r = .rptr (cs.drop off))) : OpOk P E o ρ r [] := by
  subst hoff
  obtain ⟨a, e1, hr⟩ : ∃ a, ρ x' = .pointer (some a) ∧ VRel E r (.pointer (some (a.add fd.offset))) := by
    rcases h with ⟨j, ver, k, rfl, rfl⟩ | ⟨cs, rfl, rfl⟩
    · exact ptr_add _ hx
    · exact rptr_add _ hx
  exact .pure hw (by simp only [execOp, ho, e1, Instr.fieldAt, Sem.run_bind, run_underlying hu, Result.andThen_ok, hf, Instr.sureAddr, Sem.run_pure, fieldPlace_run hi hn]) hr

end Go.Ev
