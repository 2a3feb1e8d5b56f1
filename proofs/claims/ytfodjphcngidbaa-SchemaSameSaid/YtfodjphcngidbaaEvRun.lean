/- The rules as equations, for the simplifier. -/
import Derived.Test.YtfodjphcngidbaaEvTot
set_option linter.unusedSimpArgs false
set_option linter.unusedVariables false
namespace Go.Ev

inductive Kt where
  | seq (c : MCode)
  | blk (id : Nat)
  | lp (lv ids : List Nat) (c : MCode)

def runK (M : Tab) (m : Nat) : List Kt → (MExit → St → Prop) → MExit → St → Prop
  | [], Q => Q
  | .seq c :: k, Q => thenQ (fun s => W M m c s (runK M m k Q)) (runK M m k Q)
  | .blk id :: k, Q => blockQ id (runK M m k Q)
  | .lp lv ids c :: k, Q => thenQ (fun s => W M m (.loop lv ids c) s (runK M m k Q)) (runK M m k Q)
/-- Code, what comes behind it, and where it ends. -/
def X (M : Tab) (m : Nat) (c : MCode) (k : List Kt) (st : St) (Q : MExit → St → Prop) : Prop := W M m c st (runK M m k Q)
def XO (M : Tab) (m : Nat) (ops : List MOper) (k : List Kt) (st : St) (Q : MExit → St → Prop) : Prop := WO M ops st (fun s => runK M m k Q .normal s)

section
variable {M : Tab} {m : Nat} {st : St} {Q : MExit → St → Prop} {k : List Kt}

theorem W_det {c : MCode} {n : Nat} {r : MExit × St} (h : evalCode (cfT M) m n c st = some r) {Q : MExit → St → Prop} (hw : W M m c st Q) : Q r.1 r.2 := by
  obtain ⟨n', e, s, h1, h2⟩ := hw
  have a := evalCode_mono (Le.refl _) (Nat.le_max_left n n') h
  have b := evalCode_mono (Le.refl _) (Nat.le_max_right n n') h1
  rw [a] at b
  cases b
  exact h2

theorem W_unroll {lv ids : List Nat} {c : MCode} {st0 : St} (h0 : norm m lv ids st = some st0) : W M m (.loop lv ids c) st Q ↔ W M m c st0 (thenQ (fun s => W M m (.loop lv ids c) s Q) Q) := by
  constructor
  · rintro ⟨n, e, s, h1, h2⟩
    simp only [evalCode] at h1
    cases n with
    | zero => simp [iter] at h1
    | succ n =>
      simp only [iter, h0] at h1
      split at h1
      · rename_i s1 h3
        refine ⟨n + 1, .normal, s1, h3, n + 1, e, s, ?_, h2⟩
        simp only [evalCode]
        exact iter_mono (fun st r h => h) (by omega) h1
      · rename_i hne
        refine ⟨n + 1, e, s, h1, ?_⟩
        cases e with
        | normal => exact absurd h1 (hne _)
        | exit id => exact h2
        | ret => exact h2
  · rintro ⟨n, e, s, h1, h2⟩
    cases e with
    | normal =>
      obtain ⟨n2, e2, s2, h3, h4⟩ := h2
      refine ⟨max n n2 + 1, e2, s2, ?_, h4⟩
      simp only [evalCode, iter, h0] at h3 ⊢
      rw [evalCode_mono (Le.refl _) (by omega) h1]
      exact iter_mono (fun st r h => evalCode_mono (Le.refl _) (by omega) h) (by omega) h3
    | exit id =>
      refine ⟨n + 1, _, s, ?_, h2⟩
      simp only [evalCode, iter, h0]
      rw [evalCode_mono (Le.refl _) (by omega) h1]
    | ret =>
      refine ⟨n + 1, _, s, ?_, h2⟩
      simp only [evalCode, iter, h0]
      rw [evalCode_mono (Le.refl _) (by omega) h1]
theorem W_stuck {lv ids : List Nat} {c : MCode} (h0 : norm m lv ids st = none) : ¬ W M m (.loop lv ids c) st Q := by
  rintro ⟨n, e, s, h1, _⟩
  simp only [evalCode] at h1
  cases n with
  | zero => simp [iter] at h1
  | succ n => simp [iter, h0] at h1
def goN (M : Tab) (m : Nat) (x : Option St) (c : MCode) (k : List Kt) (Q : MExit → St → Prop) : Prop := match x with
  | some s => X M m c k s Q
  | none => False
theorem goN_some {c : MCode} : goN M m (some st) c k Q = X M m c k st Q := rfl
/-- One round more. -/
theorem X_round {lv ids : List Nat} {c : MCode} : X M m (.loop lv ids c) k st Q = goN M m (norm m lv ids st) c (.lp lv ids c :: k) Q := by
  unfold goN
  split
  · rename_i h; exact propext (W_unroll h)
  · rename_i h; exact eq_false (W_stuck h)
theorem X_skip_lp {lv ids : List Nat} {c : MCode} : X M m .skip (.lp lv ids c :: k) st Q = X M m (.loop lv ids c) k st Q := propext ⟨fun ⟨n, e, s, h1, h2⟩ => by simp only [evalCode, Option.some.injEq, Prod.mk.injEq] at h1; obtain ⟨rfl, rfl⟩ := h1; exact h2, fun h => W_skip h⟩
theorem X_exit_lp {i : Nat} {lv ids : List Nat} {c : MCode} : X M m (.exit i) (.lp lv ids c :: k) st Q = X M m (.exit i) k st Q := propext ⟨fun ⟨n, e, s, h1, h2⟩ => by simp only [evalCode, Option.some.injEq, Prod.mk.injEq] at h1; obtain ⟨rfl, rfl⟩ := h1; exact W_exit h2, fun ⟨n, e, s, h1, h2⟩ => by simp only [evalCode, Option.some.injEq, Prod.mk.injEq] at h1; obtain ⟨rfl, rfl⟩ := h1; exact W_exit h2⟩
theorem X_seq {a b : MCode} : X M m (.seq a b) k st Q = X M m a (.seq b :: k) st Q := by
  refine propext ⟨fun h => ?_, fun h => W_seq h⟩
  obtain ⟨n, e, s, h1, h2⟩ := h
  simp only [evalCode] at h1
  split at h1
  · rename_i s1 h3
    exact ⟨n, .normal, s1, h3, ⟨n, e, s, h1, h2⟩⟩
  · rename_i hne
    refine ⟨n, e, s, h1, ?_⟩
    cases e with
    | normal => exact absurd h1 (hne _)
    | exit id => exact h2
    | ret => exact h2
theorem X_block {id : Nat} {c : MCode} : X M m (.block id c) k st Q = X M m c (.blk id :: k) st Q := by
  refine propext ⟨fun h => ?_, fun h => W_block h⟩
  obtain ⟨n, e, s, h1, h2⟩ := h
  simp only [evalCode] at h1
  split at h1
  · rename_i id' s1 h3
    refine ⟨n, .exit id', s1, h3, ?_⟩
    simp only [runK, blockQ]
    split at h1
    · rename_i e'; cases h1; rw [if_pos e']; exact h2
    · rename_i e'; cases h1; rw [if_neg e']; exact h2
  · rename_i hne
    refine ⟨n, e, s, h1, ?_⟩
    cases e with
    | normal => exact h2
    | exit id => exact absurd h1 (hne _ _)
    | ret => exact h2
theorem X_region {d : Bool} {ops : List MOper} : X M m (.region d ops) k st Q = XO M m ops k st Q := by
  refine propext ⟨fun h => ?_, fun h => W_region h⟩
  obtain ⟨n, e, s, h1, h2⟩ := h
  simp only [evalCode] at h1
  split at h1
  · rename_i s1 h3; cases h1; exact ⟨_, h3, h2⟩
  · cases h1
theorem X_skip_nil : X M m .skip [] st Q = Q .normal st := propext ⟨fun ⟨n, e, s, h1, h2⟩ => by simp only [evalCode, Option.some.injEq, Prod.mk.injEq] at h1; obtain ⟨rfl, rfl⟩ := h1; exact h2, fun h => W_skip h⟩
theorem X_skip_seq {c : MCode} : X M m .skip (.seq c :: k) st Q = X M m c k st Q := propext ⟨fun ⟨n, e, s, h1, h2⟩ => by simp only [evalCode, Option.some.injEq, Prod.mk.injEq] at h1; obtain ⟨rfl, rfl⟩ := h1; exact h2, fun h => W_skip h⟩
theorem X_skip_blk {id : Nat} : X M m .skip (.blk id :: k) st Q = X M m .skip k st Q := propext ⟨fun ⟨n, e, s, h1, h2⟩ => by simp only [evalCode, Option.some.injEq, Prod.mk.injEq] at h1; obtain ⟨rfl, rfl⟩ := h1; exact W_skip h2, fun ⟨n, e, s, h1, h2⟩ => by simp only [evalCode, Option.some.injEq, Prod.mk.injEq] at h1; obtain ⟨rfl, rfl⟩ := h1; exact W_skip h2⟩
theorem X_exit_nil {i : Nat} : X M m (.exit i) [] st Q = Q (.exit i) st := propext ⟨fun ⟨n, e, s, h1, h2⟩ => by simp only [evalCode, Option.some.injEq, Prod.mk.injEq] at h1; obtain ⟨rfl, rfl⟩ := h1; exact h2, fun h => W_exit h⟩
theorem X_exit_seq {i : Nat} {c : MCode} : X M m (.exit i) (.seq c :: k) st Q = X M m (.exit i) k st Q := propext ⟨fun ⟨n, e, s, h1, h2⟩ => by simp only [evalCode, Option.some.injEq, Prod.mk.injEq] at h1; obtain ⟨rfl, rfl⟩ := h1; exact W_exit h2, fun ⟨n, e, s, h1, h2⟩ => by simp only [evalCode, Option.some.injEq, Prod.mk.injEq] at h1; obtain ⟨rfl, rfl⟩ := h1; exact W_exit h2⟩
theorem X_exit_blk {i j : Nat} : X M m (.exit i) (.blk j :: k) st Q = if i = j then X M m .skip k st Q else X M m (.exit i) k st Q := by
  by_cases e : i = j
  · rw [if_pos e]
    exact propext ⟨fun h => by obtain ⟨n, e', s, h1, h2⟩ := h; simp only [evalCode, Option.some.injEq, Prod.mk.injEq] at h1; obtain ⟨rfl, rfl⟩ := h1; simp only [runK, blockQ, e, if_true] at h2; exact W_skip h2,
      fun h => by obtain ⟨n, e', s, h1, h2⟩ := h; simp only [evalCode, Option.some.injEq, Prod.mk.injEq] at h1; obtain ⟨rfl, rfl⟩ := h1; exact W_exit (by simp only [runK, blockQ, e, if_true]; exact h2)⟩
  · rw [if_neg e]
    exact propext ⟨fun h => by obtain ⟨n, e', s, h1, h2⟩ := h; simp only [evalCode, Option.some.injEq, Prod.mk.injEq] at h1; obtain ⟨rfl, rfl⟩ := h1; simp only [runK, blockQ, e, if_false] at h2; exact W_exit h2,
      fun h => by obtain ⟨n, e', s, h1, h2⟩ := h; simp only [evalCode, Option.some.injEq, Prod.mk.injEq] at h1; obtain ⟨rfl, rfl⟩ := h1; exact W_exit (by simp only [runK, blockQ, e, if_false]; exact h2)⟩
theorem X_ret_nil : X M m .ret [] st Q = Q .ret st := propext ⟨fun ⟨n, e, s, h1, h2⟩ => by simp only [evalCode, Option.some.injEq, Prod.mk.injEq] at h1; obtain ⟨rfl, rfl⟩ := h1; exact h2, fun h => W_ret h⟩
theorem X_ret_cons {x : Kt} : X M m .ret (x :: k) st Q = X M m .ret k st Q := by
  cases x <;> exact propext ⟨fun ⟨n, e, s, h1, h2⟩ => by simp only [evalCode, Option.some.injEq, Prod.mk.injEq] at h1; obtain ⟨rfl, rfl⟩ := h1; exact W_ret h2, fun ⟨n, e, s, h1, h2⟩ => by simp only [evalCode, Option.some.injEq, Prod.mk.injEq] at h1; obtain ⟨rfl, rfl⟩ := h1; exact W_ret h2⟩
theorem X_cond_t {x : MX} {a b : MCode} (hx : ev st.sl x = .bool true) : X M m (.cond x a b) k st Q = X M m a k st Q :=
  propext ⟨fun ⟨n, e, s, h1, h2⟩ => ⟨n, e, s, by simp only [evalCode, hx] at h1; exact h1, h2⟩, fun ⟨n, e, s, h1, h2⟩ => ⟨n, e, s, by simp only [evalCode, hx]; exact h1, h2⟩⟩
theorem X_cond_f {x : MX} {a b : MCode} (hx : ev st.sl x = .bool false) : X M m (.cond x a b) k st Q = X M m b k st Q :=
  propext ⟨fun ⟨n, e, s, h1, h2⟩ => ⟨n, e, s, by simp only [evalCode, hx] at h1; exact h1, h2⟩, fun ⟨n, e, s, h1, h2⟩ => ⟨n, e, s, by simp only [evalCode, hx]; exact h1, h2⟩⟩
/-- A choice. -/
def pickX (v : AV) (a b : Prop) : Prop := match v with
  | .bool true => a
  | .bool false => b
  | _ => False
theorem pickX_t {a b : Prop} : pickX (.bool true) a b = a := rfl
theorem pickX_f {a b : Prop} : pickX (.bool false) a b = b := rfl
theorem pickX_b {p : Bool} {a b : Prop} : pickX (.bool p) a b = ((p = true → a) ∧ (p = false → b)) := by cases p <;> simp [pickX]
theorem X_cond {x : MX} {a b : MCode} : X M m (.cond x a b) k st Q = pickX (ev st.sl x) (X M m a k st Q) (X M m b k st Q) := by
  unfold pickX
  split
  · rename_i h; exact X_cond_t h
  · rename_i h; exact X_cond_f h
  · rename_i h1 h2
    refine eq_false ?_
    rintro ⟨n, e, s, h3, _⟩
    simp only [evalCode] at h3
    cases h3
theorem XO_nil : XO M m [] k st Q = X M m .skip k st Q := propext ⟨fun ⟨s, h1, h2⟩ => by simp only [runOps, Option.some.injEq] at h1; subst h1; exact W_skip h2, fun ⟨n, e, s, h1, h2⟩ => by simp only [evalCode, Option.some.injEq, Prod.mk.injEq] at h1; obtain ⟨rfl, rfl⟩ := h1; exact WO_nil h2⟩
/-- Behind one operation. -/
def afterX (x : Option St) (f : St → Prop) : Prop := match x with
  | some s => f s
  | none => False
theorem XO_step {d : Option Nat} {op : MOp} {r : List MOper} {sl : List AV} {H : List AObj} {x : AV} {ups : List (Nat × AObj)} (h : opV (cfT M) sl H op = some (x, ups)) :
    XO M m (⟨d, none, op⟩ :: r) k ⟨sl, H⟩ Q = XO M m r k ⟨putV sl d x, layAll H ups⟩ Q := by
  unfold XO WO
  simp only [runOps, stepOp, wanted, h]
def goE (M : Tab) (m : Nat) (e : Eff) (d : Option Nat) (r : List MOper) (k : List Kt) (sl : List AV) (H : List AObj) (Q : MExit → St → Prop) : Prop := match e with
  | some (x, ups) => XO M m r k ⟨putV sl d x, layAll H ups⟩ Q
  | none => False
theorem goE_some {d : Option Nat} {r : List MOper} {sl : List AV} {H : List AObj} {x : AV} {ups : List (Nat × AObj)} : goE M m (some (x, ups)) d r k sl H Q = XO M m r k ⟨putV sl d x, layAll H ups⟩ Q := rfl
theorem XO_go {d : Option Nat} {op : MOp} {r : List MOper} {sl : List AV} {H : List AObj} :
    XO M m (⟨d, none, op⟩ :: r) k ⟨sl, H⟩ Q = goE M m (opV (cfT M) sl H op) d r k sl H Q := by
  unfold XO WO goE
  cases h : opV (cfT M) sl H op with
  | none => simp [runOps, stepOp, wanted, h]
  | some p => obtain ⟨x, ups⟩ := p; simp only [runOps, stepOp, wanted, h, XO, WO]
def goG (M : Tab) (m : Nat) (v : AV) (w : Bool) (d : Option Nat) (op : MOp) (r : List MOper) (k : List Kt) (sl : List AV) (H : List AObj) (Q : MExit → St → Prop) : Prop := match v with
  | .bool b => if b = w then XO M m (⟨d, none, op⟩ :: r) k ⟨sl, H⟩ Q else XO M m r k ⟨putV sl d (.tup []), H⟩ Q
  | .tup [] => XO M m r k ⟨putV sl d (.tup []), H⟩ Q
  | _ => False
theorem XO_gd {d : Option Nat} {op : MOp} {r : List MOper} {sl : List AV} {H : List AObj} {g : Nat} {w : Bool} :
    XO M m (⟨d, some (g, w), op⟩ :: r) k ⟨sl, H⟩ Q = goG M m (sl.getD g .undef) w d op r k sl H Q := by
  unfold goG XO WO
  split
  · rename_i b h
    simp only [runOps, stepOp, wanted, h]
    cases b <;> cases w <;> simp
  · rename_i h
    simp only [runOps, stepOp, wanted, h]
  · rename_i h1 h2
    refine eq_false ?_
    rintro ⟨s, h3, _⟩
    simp only [runOps, stepOp, wanted] at h3
    cases h3
theorem goG_t {b w : Bool} {d : Option Nat} {op : MOp} {r : List MOper} {sl : List AV} {H : List AObj} : goG M m (.bool b) w d op r k sl H Q = if b = w then XO M m (⟨d, none, op⟩ :: r) k ⟨sl, H⟩ Q else XO M m r k ⟨putV sl d (.tup []), H⟩ Q := rfl
theorem goG_u {w : Bool} {d : Option Nat} {op : MOp} {r : List MOper} {sl : List AV} {H : List AObj} : goG M m (.tup []) w d op r k sl H Q = XO M m r k ⟨putV sl d (.tup []), H⟩ Q := rfl
theorem XO_guard {d : Option Nat} {op : MOp} {r : List MOper} {sl : List AV} {H : List AObj} {g : Nat} {w b : Bool} (h : sl.getD g .undef = .bool b) :
    XO M m (⟨d, some (g, w), op⟩ :: r) k ⟨sl, H⟩ Q = if b = w then XO M m (⟨d, none, op⟩ :: r) k ⟨sl, H⟩ Q else XO M m r k ⟨putV sl d (.tup []), H⟩ Q := by
  unfold XO WO
  simp only [runOps, stepOp, wanted, h]
  cases b <;> cases w <;> simp
theorem XO_guard_u {d : Option Nat} {op : MOp} {r : List MOper} {sl : List AV} {H : List AObj} {g : Nat} {w : Bool} (h : sl.getD g .undef = .tup []) :
    XO M m (⟨d, some (g, w), op⟩ :: r) k ⟨sl, H⟩ Q = XO M m r k ⟨putV sl d (.tup []), H⟩ Q := by
  unfold XO WO
  simp only [runOps, stepOp, wanted, h]
def endR (res : List MRes) (r : AV) (H1 : List AObj) (e : MExit) (st : St) : Prop := (e = .normal ∨ e = .ret) ∧ results st res = some r ∧ st.H = H1
theorem endR_n {res : List MRes} {r : AV} {H1 : List AObj} {sl : List AV} {H : List AObj} : endR res r H1 .normal ⟨sl, H⟩ = (results ⟨sl, H⟩ res = some r ∧ H = H1) := by simp [endR]
theorem endR_r {res : List MRes} {r : AV} {H1 : List AObj} {sl : List AV} {H : List AObj} : endR res r H1 .ret ⟨sl, H⟩ = (results ⟨sl, H⟩ res = some r ∧ H = H1) := by simp [endR]
def slots (nt : Nat) (args : List AV) : List AV := args ++ List.replicate (nt - args.length) (.tup [])
def objs0 (no : Nat) (H : List AObj) : List AObj := H ++ List.replicate no ⟨0, .none⟩
theorem cfT_R {M : Tab} {f : FuncId} {mf : MFun} {args : List AV} {H : List AObj} {r : AV} {H1 : List AObj} (hf : M.fn f = some mf) (hl : args.length = mf.np)
    (h : X M H.length mf.body [] ⟨slots mf.nt args, objs0 mf.no H⟩ (endR mf.res r H1)) : cfT M f args H = some (r, H1) := cfT_W hf hl h
/-- The value that a call without objects hands back, rows told as they stand. -/
noncomputable def cvT (M : Tab) (f : FuncId) (as : List AV) : Option AV := (cfT M f as []).bind fun p => backR [] p.2 [] [] p.1
/-- The same of a result without references. -/
noncomputable def cvF (M : Tab) (f : FuncId) (as : List AV) : Option AV := (cfT M f as []).bind fun p => if p.1.flat = true then backR [] p.2 [] [] p.1 else none
def endT (res : List MRes) (r : AV) (e : MExit) (st : St) : Prop := (e = .normal ∨ e = .ret) ∧ (results st res).bind (backR [] st.H [] []) = some r
def fltR (H : List AObj) (x : AV) : Option AV := if x.flat = true then backR [] H [] [] x else none
def endF (res : List MRes) (r : AV) (e : MExit) (st : St) : Prop := (e = .normal ∨ e = .ret) ∧ (results st res).bind (fltR st.H) = some r
theorem endT_n {res : List MRes} {r : AV} {sl : List AV} {H : List AObj} : endT res r .normal ⟨sl, H⟩ = ((results ⟨sl, H⟩ res).bind (backR [] H [] []) = some r) := by simp [endT]
theorem endT_r {res : List MRes} {r : AV} {sl : List AV} {H : List AObj} : endT res r .ret ⟨sl, H⟩ = ((results ⟨sl, H⟩ res).bind (backR [] H [] []) = some r) := by simp [endT]
theorem endF_n {res : List MRes} {r : AV} {sl : List AV} {H : List AObj} : endF res r .normal ⟨sl, H⟩ = ((results ⟨sl, H⟩ res).bind (fltR H) = some r) := by simp [endF]
theorem endF_r {res : List MRes} {r : AV} {sl : List AV} {H : List AObj} : endF res r .ret ⟨sl, H⟩ = ((results ⟨sl, H⟩ res).bind (fltR H) = some r) := by simp [endF]
theorem cv_W {M : Tab} {f : FuncId} {mf : MFun} {args : List AV} {Q : AV → List AObj → Prop} (hf : M.fn f = some mf) (hl : args.length = mf.np)
    (h : X M 0 mf.body [] ⟨slots mf.nt args, objs0 mf.no []⟩ (fun e st => (e = .normal ∨ e = .ret) ∧ ∃ x, results st mf.res = some x ∧ Q x st.H)) : ∃ x H1, cfT M f args [] = some (x, H1) ∧ Q x H1 := by
  obtain ⟨n, e, st, h1, h2, x, h3, h4⟩ := h
  exact ⟨x, st.H, cfT_W hf hl ⟨n, e, st, h1, h2, h3, rfl⟩, h4⟩
theorem cvT_R {M : Tab} {f : FuncId} {mf : MFun} {args : List AV} {r : AV} (hf : M.fn f = some mf) (hl : args.length = mf.np)
    (h : X M 0 mf.body [] ⟨slots mf.nt args, objs0 mf.no []⟩ (endT mf.res r)) : cvT M f args = some r := by
  obtain ⟨x, H1, h1, h2⟩ := cv_W (Q := fun x H1 => backR [] H1 [] [] x = some r) hf hl (W.mono h fun e st ⟨h1, h2⟩ => ⟨h1, Option.bind_eq_some_iff.1 h2⟩)
  unfold cvT
  rw [h1]
  exact h2
theorem cvF_R {M : Tab} {f : FuncId} {mf : MFun} {args : List AV} {r : AV} (hf : M.fn f = some mf) (hl : args.length = mf.np)
    (h : X M 0 mf.body [] ⟨slots mf.nt args, objs0 mf.no []⟩ (endF mf.res r)) : cvF M f args = some r := by
  obtain ⟨x, H1, h1, h2⟩ := cv_W (Q := fun x H1 => (if x.flat = true then backR [] H1 [] [] x else none) = some r) hf hl (W.mono h fun e st ⟨h1, h2⟩ => ⟨h1, Option.bind_eq_some_iff.1 h2⟩)
  unfold cvF
  rw [h1]
  exact h2
theorem cvF_bool {M : Tab} {f : FuncId} {as : List AV} {b : Bool} (h : cvF M f as = some (.bool b)) : ∃ H1, cfT M f as [] = some (.bool b, H1) := by
  unfold cvF at h
  obtain ⟨⟨x, H1⟩, h1, h2⟩ := Option.bind_eq_some_iff.1 h
  refine ⟨H1, ?_⟩
  rw [h1]
  simp only at h2
  split at h2
  · cases x <;> simp [backR, backV, backCell, AV.flat, AV.flat1] at * <;> first | exact h2 | (split at h2 <;> simp_all; done)
  · cases h2
theorem backR_nil (H H1 : List AObj) (r : AV) : backR H H1 [] [] r = backR [] H1 [] [] r := by
  rw [backR_congr (H := H) (H' := []) (fun i h => by cases h) (fun i h => by simp at h)]
theorem okIds_nil (fzs : List Nat) : okIds [] fzs [] = true := by simp [okIds]
theorem callV_T {M : Tab} {H : List AObj} {f : FuncId} {first args caps : List AV} {fzs : List Nat} : callV (cfT M) H (.fn f first caps) args [] fzs [] true =
    (mapO (passV H [] fzs) (first ++ args ++ caps)).bind fun as => (cvT M f as).bind fun r => (freezeAll H fzs).map fun fr => (r, fr) := by
  simp only [callV, okIds_nil, if_true, passObjs]
  cases mapO (passV H [] fzs) (first ++ args ++ caps) with
  | none => rfl
  | some as =>
    simp only [Option.bind_some, cvT]
    cases cfT M f as [] with
    | none => rfl
    | some p =>
      obtain ⟨r, H1⟩ := p
      simp only [Option.bind_some, backR_nil, backObjs, adopts, List.append_nil]
      cases backR [] H1 [] [] r <;> simp
theorem callV_F {M : Tab} {H : List AObj} {f : FuncId} {first args caps : List AV} {fzs : List Nat} : callV (cfT M) H (.fn f first caps) args [] fzs [] false =
    (mapO (passV H [] fzs) (first ++ args ++ caps)).bind fun as => (cvF M f as).map fun r => (r, []) := by
  simp only [callV, okIds_nil, if_true, passObjs]
  cases mapO (passV H [] fzs) (first ++ args ++ caps) with
  | none => rfl
  | some as =>
    simp only [Option.bind_some, cvF]
    cases cfT M f as [] with
    | none => rfl
    | some p =>
      obtain ⟨r, H1⟩ := p
      simp only [Option.bind_some, backR_nil, backObjs, adopts, List.isEmpty_nil, Bool.and_true, List.length_nil, List.take_zero, List.all_nil]
      cases r.flat <;> cases backR [] H1 [] [] r <;> simp
theorem cfT_X {f : FuncId} {mf : MFun} {args : List AV} {H : List AObj} {r : AV} {H1 : List AObj} (hf : M.fn f = some mf) (hl : args.length = mf.np)
    (h : X M H.length mf.body [] (startSt mf args H) (endQ mf r H1)) : cfT M f args H = some (r, H1) := cfT_W hf hl h
/-- A loop: its states at the head, what holds there, what gets less. -/
theorem X_loop {α : Type} {lv ids : List Nat} {c : MCode} (S : α → St) (J : α → Prop) (μ : α → Nat) (x0 : α) (h0 : norm m lv ids st = some (S x0)) (hJ : J x0)
    (hstep : ∀ x, J x → X M m c [] (S x) (thenQ (fun s => ∃ y, norm m lv ids s = some (S y) ∧ J y ∧ μ y < μ x) (runK M m k Q))) : X M m (.loop lv ids c) k st Q :=
  W_loop S J μ x0 h0 hJ hstep
end

section
variable {M : Tab} {m : Nat} {st : St} {Q : MExit → St → Prop} {k : List Kt}
theorem thenQ_n {N : St → Prop} {s : St} : thenQ N Q .normal s = N s := rfl
theorem thenQ_x {N : St → Prop} {s : St} {i : Nat} : thenQ N Q (.exit i) s = Q (.exit i) s := rfl
theorem thenQ_r {N : St → Prop} {s : St} : thenQ N Q .ret s = Q .ret s := rfl
theorem runK_n {s : St} : runK M m k Q .normal s = X M m .skip k s Q := propext ⟨fun h => W_skip h, fun ⟨n, e, s', h1, h2⟩ => by simp only [evalCode, Option.some.injEq, Prod.mk.injEq] at h1; obtain ⟨rfl, rfl⟩ := h1; exact h2⟩
theorem runK_x {s : St} {i : Nat} : runK M m k Q (.exit i) s = X M m (.exit i) k s Q := propext ⟨fun h => W_exit h, fun ⟨n, e, s', h1, h2⟩ => by simp only [evalCode, Option.some.injEq, Prod.mk.injEq] at h1; obtain ⟨rfl, rfl⟩ := h1; exact h2⟩
theorem runK_r {s : St} : runK M m k Q .ret s = X M m .ret k s Q := propext ⟨fun h => W_ret h, fun ⟨n, e, s', h1, h2⟩ => by simp only [evalCode, Option.some.injEq, Prod.mk.injEq] at h1; obtain ⟨rfl, rfl⟩ := h1; exact h2⟩
/-- A loop that counts from x0 to n: its states at the head, what holds there. -/
theorem X_for {lv ids : List Nat} {c : MCode} (S : Nat → St) (J : Nat → Prop) (n x0 : Nat) (hx : x0 ≤ n) (h0 : norm m lv ids st = some (S x0)) (hJ : J x0)
    (hstep : ∀ i, x0 ≤ i → i < n → J i → X M m c [] (S i) (thenQ (fun s => norm m lv ids s = some (S (i + 1)) ∧ J (i + 1)) (runK M m k Q)))
    (hlast : J n → X M m c [] (S n) (thenQ (fun _ => False) (runK M m k Q))) : X M m (.loop lv ids c) k st Q := by
  refine X_loop S (fun i => x0 ≤ i ∧ i ≤ n ∧ J i) (fun i => n - i) x0 h0 ⟨Nat.le_refl _, hx, hJ⟩ fun i ⟨h1, h2, h3⟩ => ?_
  by_cases e : i = n
  · subst e
    refine W.mono (hlast h3) fun ex s h => ?_
    cases ex with
    | normal => exact h.elim
    | exit j => exact h
    | ret => exact h
  · refine W.mono (hstep i h1 (by omega) h3) fun ex s h => ?_
    cases ex with
    | normal => exact ⟨i + 1, h.1, ⟨by omega, by omega, h.2⟩, by omega⟩
    | exit j => exact h
    | ret => exact h
end

theorem wrap_in {k : IntKind} {x : Int} (h1 : k.min ≤ x) (h2 : x ≤ k.max) : k.wrap x = x := by
  cases k <;> simp only [IntKind.min, IntKind.max, IntKind.signed, IntKind.bits, IntKind.wrap] at * <;> simp at * <;> omega
theorem wrap_i64 {x : Int} (h1 : -9223372036854775808 ≤ x) (h2 : x ≤ 9223372036854775807) : IntKind.i64.wrap x = x := wrap_in h1 h2
theorem wrap_i32 {x : Int} (h1 : -2147483648 ≤ x) (h2 : x ≤ 2147483647) : IntKind.i32.wrap x = x := wrap_in h1 h2
theorem wrap_u64 {x : Int} (h1 : 0 ≤ x) (h2 : x ≤ 18446744073709551615) : IntKind.u64.wrap x = x := wrap_in h1 h2
theorem wrap_u32 {x : Int} (h1 : 0 ≤ x) (h2 : x ≤ 4294967295) : IntKind.u32.wrap x = x := wrap_in h1 h2
theorem wrap_u16 {x : Int} (h1 : 0 ≤ x) (h2 : x ≤ 65535) : IntKind.u16.wrap x = x := wrap_in h1 h2
theorem wrap_u8 {x : Int} (h1 : 0 ≤ x) (h2 : x ≤ 255) : IntKind.u8.wrap x = x := wrap_in h1 h2

end Go.Ev
