/- Operations that lay nothing. -/
import Derived.Test.YtfodjphcngidbaaEvLay
import Derived.Test.YtfodjphcngidbaaEvChk
import Derived.Laws.Entries
import Derived.Laws.Slices
import Derived.Laws.Tables
import Derived.Laws.StructEq
import Derived.Laws.Strings
set_option linter.unusedSimpArgs false
set_option linter.unusedVariables false
namespace Go.Ev

variable {P : Program} {E : Env}

mutual
theorem constB_rel : ∀ (a : AV) (v : Value), constB a v = true → VRel E a v
  | .bool b, v, h => by
    cases v <;> simp only [constB, Bool.false_eq_true] at h
    simp only [VRel]; rw [beq_iff_eq.1 h]
  | .int k n, v, h => by
    cases v <;> simp only [constB, Bool.false_eq_true, Bool.and_eq_true] at h
    simp only [VRel]; rw [beq_iff_eq.1 h.1, beq_iff_eq.1 h.2]
  | .str l, v, h => by
    cases v <;> simp only [constB, Bool.false_eq_true] at h
    simp only [VRel]; exact ⟨_, rfl, (beq_iff_eq.1 h).symm⟩
  | .nilptr, v, h => by
    cases v <;> simp only [constB, Bool.false_eq_true] at h
    simp only [VRel]; rw [Option.isNone_iff_eq_none.1 h]
  | .nilsl, v, h => by
    cases v <;> simp only [constB, Bool.false_eq_true, Bool.and_eq_true] at h
    simp only [VRel]; rw [Option.isNone_iff_eq_none.1 h.1.1, beq_iff_eq.1 h.1.2, beq_iff_eq.1 h.2]
  | .nilfn, v, h => by
    cases v <;> simp only [constB, Bool.false_eq_true] at h
    simp only [VRel]
  | .agg cs, v, h => by
    cases v <;> simp only [constB, Bool.false_eq_true] at h
    simp only [VRel]
    exact ⟨_, rfl, constL_rel cs _ h⟩
  | .fn f xs ys, v, h => by
    cases v <;> simp only [constB, Bool.false_eq_true, Bool.and_eq_true, List.isEmpty_iff, Array.isEmpty_iff, beq_iff_eq] at h
    obtain ⟨⟨⟨⟨rfl, rfl⟩, rfl⟩, rfl⟩, rfl⟩ := h
    simp only [VRel, LRel]
    exact ⟨#[], #[], rfl, rfl, rfl⟩
  | .undef, v, h => by simp only [constB, Bool.false_eq_true] at h
  | .ro _ _, v, h => by simp only [constB, Bool.false_eq_true] at h
  | .rptr _, v, h => by simp only [constB, Bool.false_eq_true] at h
  | .emp _, v, h => by simp only [constB, Bool.false_eq_true] at h
  | .own _ _ _ _ _, v, h => by simp only [constB, Bool.false_eq_true] at h
  | .ptr _ _ _, v, h => by simp only [constB, Bool.false_eq_true] at h
  | .tup _, v, h => by simp only [constB, Bool.false_eq_true] at h
theorem constL_rel : ∀ (cs : List AV) (vs : List Value), constL cs vs = true → LRel E cs vs
  | [], vs, h => by simp only [constL, List.isEmpty_iff] at h; simp only [LRel]; exact h
  | c :: cs, vs, h => by
    cases vs with
    | nil => simp only [constL, Bool.false_eq_true] at h
    | cons v vs =>
      simp only [constL, Bool.and_eq_true] at h
      exact ⟨v, vs, rfl, constB_rel c v h.1, constL_rel cs vs h.2⟩
end

/-- Slots and temporaries. -/
def ARel (E : Env) (sl : List AV) (a : Act) : Prop := LRel E sl a.tmps.toList

theorem ev_rel {sl : List AV} {a : Act} (hs : ARel E sl a) {x : MX} {y : Operand} (h : chkX x y = true) : VRel E (ev sl x) (a.eval y) := by
  cases x with
  | s n =>
    cases y <;> simp [chkX] at h
    subst h
    simp only [ev, List.getD_eq_getElem?_getD]
    cases hg : sl[n]? with
    | none => trivial
    | some c =>
      obtain ⟨v, hv, hr⟩ := LRel.get hs n c hg
      simp only [Option.getD_some, Act.eval]
      have : a.tmps[n]? = some v := by simpa using hv
      simpa [this] using hr
  | c b =>
    cases y with
    | tmp t => cases b <;> simp [chkX] at h
    | const v =>
      have h' : constB b v = true := by
        cases b <;> first | exact h | (simpa [chkX] using h)
      exact constB_rel b v h'
    | global g => cases b <;> simp [chkX] at h
    | func g =>
      cases b <;> simp [chkX] at h
      rename_i f xs ys
      cases xs <;> cases ys <;> simp [chkX] at h
      subst h
      exact ⟨#[], #[], rfl, rfl, rfl⟩

theorem evs_rel {sl : List AV} {a : Act} (hs : ARel E sl a) : ∀ {xs : List MX} {ys : List Operand}, chkXs xs ys = true → LRel E (xs.map (ev sl)) (ys.map a.eval)
  | [], [], _ => rfl
  | [], _ :: _, h => by simp [chkXs] at h
  | _ :: _, [], h => by simp [chkXs] at h
  | x :: xs, y :: ys, h => by
    simp only [chkXs, Bool.and_eq_true] at h
    exact ⟨_, _, rfl, ev_rel hs h.1, evs_rel hs h.2⟩

def OpOk (P : Program) (E : Env) (o : Oper) (ρ : Operand → Value) (x : AV) (ups : List (Nat × AObj)) : Prop :=
  ∃ v w', ((execOp ρ o).run P E.w = .ok (.value v) w' ∨ ((execOp ρ o).run P E.w = .ok .skip w' ∧ v = undef)) ∧ Out E x ups v w'
theorem OpOk.pure {o : Oper} {ρ : Operand → Value} {x : AV} {v : Value} (hw : WRel E) (h : (execOp ρ o).run P E.w = .ok (.value v) E.w) (hv : VRel E x v) : OpOk P E o ρ x [] :=
  ⟨v, E.w, .inl h, Out.same hw hv⟩

section
variable {o : Oper} {ρ : Operand → Value}

theorem ok_mv (hw : WRel E) {x : AV} {y : Operand} (ho : o.op = .move y ∨ o.op = .assign y) (hx : VRel E x (ρ y)) : OpOk P E o ρ x [] := by
  refine .pure hw (v := ρ y) ?_ hx
  rcases ho with ho | ho <;> simp [execOp, ho]

theorem ok_pick (hw : WRel E) {c a b : AV} {c' a' b' : Operand} (ho : o.op = .pick c' a' b') (hc : VRel E c (ρ c')) (ha : VRel E a (ρ a')) (hb : VRel E b (ρ b'))
    {t : Bool} (ht : c = .bool t) : OpOk P E o ρ (if t then a else b) [] := by
  subst ht
  simp only [VRel] at hc
  refine .pure hw (v := if t then ρ a' else ρ b') ?_ (by cases t <;> simp_all)
  simp only [execOp, ho, hc, asBool]
  cases t <;> simp

/-! Integers -/
theorem binInt_run (op : BinOp) (t : TypeId) (k k' : IntKind) (x y : Int) (w : World) (r : AV) (h : binInt op k x k' y = some r) :
    ∃ v, (binOp op t (.int k x) (.int k' y)).run P w = .ok v w ∧ VRel E r v := by
  by_cases hk : k = k'
  · subst hk
    cases op <;> simp only [binInt, ne_eq, not_true_eq_false, if_false, Option.some.injEq] at h
    all_goals try (subst h; exact ⟨_, by simp [binOp, Op.intArith, Op.intCmp, Op.intBits], rfl⟩)
    case quo =>
      split at h
      · cases h
      · cases h; rename_i h0; exact ⟨_, by simp [binOp, Op.intDiv, h0], rfl⟩
    case rem =>
      split at h
      · cases h
      · cases h; rename_i h0; exact ⟨_, by simp [binOp, Op.intDiv, h0], rfl⟩
    case shl =>
      split at h
      · cases h
      · cases h; rename_i h0; exact ⟨_, by simp [binOp, Op.shift, h0], rfl⟩
    case shr =>
      split at h
      · cases h
      · cases h; rename_i h0; exact ⟨_, by simp [binOp, Op.shift, h0], rfl⟩
  · cases op <;> simp only [binInt, ne_eq, hk, not_false_eq_true, if_true] at h
    all_goals try (cases h; done)
    case shl =>
      split at h
      · cases h
      · cases h; rename_i h0; exact ⟨_, by simp [binOp, Op.shift, h0], rfl⟩
    case shr =>
      split at h
      · cases h
      · cases h; rename_i h0; exact ⟨_, by simp [binOp, Op.shift, h0], rfl⟩

theorem eqGuard_plain (op : BinOp) (t : TypeId) (x y : Operand) (a b : Value) (w : World) (h : (∀ c, a ≠ .agg c) ∧ a ≠ .nilIface) : (eqGuard op t x y a b).run P w = .ok () w := by
  cases op <;> (simp only [eqGuard, Bool.not_true, Bool.not_false, Bool.false_eq_true, if_true, if_false]; try rfl)
  all_goals
    split
    · simp at h
    · simp at h
    · rfl

theorem eq_toList (a b : ByteArray) : (a.toList == b.toList) = (a.data.toList == b.data.toList) := by
  rw [ByteArray.toList_eq, ByteArray.toList_eq]
end
end Go.Ev
