/- The evaluator once more, its slots as a list of pairs: what an operation does not touch is not gone through. -/
import Derived.Test.YtfodjphcngidbaaEvRow
set_option linter.unusedSimpArgs false
set_option linter.unusedVariables false
namespace Go.Ev

abbrev En := List (Nat × AV)
def lkE (n : Nat) : En → AV
  | [] => .undef
  | (k, v) :: r => if n = k then v else lkE n r
def lkX (en : En) : MX → AV
  | .s n => lkE n en
  | .c a => a
def sx (en : En) (x : MX) : MX := .c (lkX en x)
def substE (en : En) : MOp → MOp
  | .mv x => .mv (sx en x)
  | .vnil t sz => .vnil t sz
  | .pick c a b => .pick (sx en c) (sx en a) (sx en b)
  | .alloc t zs => .alloc t zs
  | .box t x => .box t (sx en x)
  | .build zs ps => .build zs (ps.map fun p => (p.1, p.2.1, sx en p.2.2))
  | .lit t fz len sz zs ps => .lit t fz len sz zs (ps.map fun p => (p.1, p.2.1, sx en p.2.2))
  | .load n o x => .load n o (sx en x)
  | .store n o fz x v => .store n o fz (sx en x) (sx en v)
  | .nilchk x => .nilchk (sx en x)
  | .bin op tc x y => .bin op tc (sx en x) (sx en y)
  | .un op x => .un op (sx en x)
  | .conv k x => .conv k (sx en x)
  | .b2s o x => .b2s o (sx en x)
  | .faddr off x => .faddr off (sx en x)
  | .iaddrA len sz x i => .iaddrA len sz (sx en x) (sx en i)
  | .iaddrS sz x i => .iaddrS sz (sx en x) (sx en i)
  | .index len sz ag x i => .index len sz ag (sx en x) (sx en i)
  | .field off n x => .field off n (sx en x)
  | .len x => .len (sx en x)
  | .lenK n => .lenK n
  | .minmax mx xs => .minmax mx (xs.map (sx en))
  | .sliceS sz x lo hi => .sliceS sz (sx en x) (lo.map (sx en)) (hi.map (sx en))
  | .sliceA n sz o x lo hi => .sliceA n sz o (sx en x) (lo.map (sx en)) (hi.map (sx en))
  | .append b sz t ys x y => .append b sz t ys (sx en x) (sx en y)
  | .call f args objs fzs ret frz => .call (sx en f) (args.map (sx en)) objs fzs ret frz
  | .extract x i => .extract (sx en x) i
  | .make t b sz zs len cap => .make t b sz zs (sx en len) (sx en cap)
  | .copy sz o ys x y => .copy sz o ys (sx en x) (sx en y)
  | .mkfn f a b => .mkfn f (a.map (sx en)) (b.map (sx en))
  | .frz fz x => .frz fz (sx en x)
/-- The operation, its operands looked up. -/
def opVA (cf : CallF) (en : En) (H : List AObj) (op : MOp) : Eff := opV cf [] H (substE en op)
structure StA where
  en : En
  H : List AObj
  deriving Inhabited
def putA (en : En) (dst : Option Nat) (a : AV) : En :=
  match dst with
  | some d => (d, a) :: en
  | none => en
def wantedA (en : En) : Option (Nat × Bool) → Option Bool
  | none => some true
  | some (d, want) => match lkE d en with
    | .bool b => some (b == want)
    | .tup [] => some false
    | _ => none
def stepOpA (cf : CallF) (o : MOper) (st : StA) : Option StA :=
  match wantedA st.en o.guard with
  | some true => match opVA cf st.en st.H o.op with
    | some (a, ups) => some ⟨putA st.en o.dst a, layAll st.H ups⟩
    | none => none
  | some false => some ⟨putA st.en o.dst (.tup []), st.H⟩
  | none => none
def runOpsA (cf : CallF) : List MOper → StA → Option StA
  | [], st => some st
  | o :: r, st => match stepOpA cf o st with
    | some st => runOpsA cf r st
    | none => none
def normA (m : Nat) (lv ids : List Nat) (st : StA) : Option StA :=
  match fixObjs m ids st.H 0 st.H with
  | some H' => some ⟨lv.map fun n => (n, fixV m ids st.H (lkE n st.en)), H'⟩
  | none => none
def iterA (body : StA → Option (MExit × StA)) (nrm : StA → Option StA) : Nat → StA → Option (MExit × StA)
  | 0, _ => none
  | n + 1, st => match nrm st with
    | none => none
    | some st => match body st with
      | some (.normal, st) => iterA body nrm n st
      | r => r
def evalA (cf : CallF) (m fuel : Nat) : MCode → StA → Option (MExit × StA)
  | .skip, st => some (.normal, st)
  | .region _ ops, st => match runOpsA cf ops st with
    | some st => some (.normal, st)
    | none => none
  | .seq a b, st => match evalA cf m fuel a st with
    | some (.normal, st) => evalA cf m fuel b st
    | r => r
  | .cond x a b, st => match lkX st.en x with
    | .bool true => evalA cf m fuel a st
    | .bool false => evalA cf m fuel b st
    | _ => none
  | .block id c, st => match evalA cf m fuel c st with
    | some (.exit id', st) => if id' = id then some (.normal, st) else some (.exit id', st)
    | r => r
  | .loop lv ids c, st => iterA (evalA cf m fuel c) (normA m lv ids) fuel st
  | .exit id, st => some (.exit id, st)
  | .ret, st => some (.ret, st)

/-! ### It is the same -/
structure Rep (nt : Nat) (sl : List AV) (en : En) : Prop where
  len : sl.length = nt
  at' : ∀ n, sl.getD n .undef = lkE n en
def wfOps (nt : Nat) (ops : List MOper) : Bool := ops.all fun o => match o.dst with
  | some d => decide (d < nt)
  | none => true
def wfC (nt : Nat) : MCode → Bool
  | .region _ ops => wfOps nt ops
  | .seq a b => wfC nt a && wfC nt b
  | .cond _ a b => wfC nt a && wfC nt b
  | .block _ c => wfC nt c
  | .loop _ _ c => wfC nt c
  | _ => true
section
variable {nt : Nat} {sl : List AV} {en : En} {cf : CallF}
theorem Rep.ev (h : Rep nt sl en) (x : MX) : Go.Ev.ev sl x = lkX en x := by
  cases x with
  | s n => exact h.at' n
  | c a => rfl
theorem ev_sx (sl' : List AV) (en : En) (x : MX) : Go.Ev.ev sl' (sx en x) = lkX en x := rfl
theorem Rep.op (h : Rep nt sl en) (H : List AObj) (op : MOp) : opV cf sl H op = opVA cf en H op := by
  have e : ∀ x, Go.Ev.ev sl x = Go.Ev.ev [] (sx en x) := fun x => (h.ev x).trans (ev_sx _ _ _).symm
  have e1 : Go.Ev.ev sl = fun x => Go.Ev.ev [] (sx en x) := funext e
  unfold opVA
  cases op with
  | load n o x => cases n <;> simp only [substE, opV, e, e1]
  | _ => simp only [substE, opV, e, e1, List.map_map, Function.comp_def, Option.map_map]
theorem Rep.put (h : Rep nt sl en) {dst : Option Nat} {a : AV} (hd : ∀ d, dst = some d → d < nt) : Rep nt (putV sl dst a) (putA en dst a) := by
  cases dst with
  | none => exact h
  | some d =>
    have hd := hd d rfl
    refine ⟨by simp [putV, h.len], fun n => ?_⟩
    simp only [putV, putA, lkE]
    rw [List.getD_eq_getElem?_getD, List.getElem?_set]
    by_cases e : n = d
    · subst e
      simp [h.len, hd]
    · rw [if_neg (fun c => e c.symm), if_neg e, ← List.getD_eq_getElem?_getD]
      exact h.at' n
theorem Rep.step (h : Rep nt sl en) {o : MOper} {H : List AObj} {st' : StA} (hd : ∀ d, o.dst = some d → d < nt) (he : stepOpA cf o ⟨en, H⟩ = some st') : ∃ sl', Rep nt sl' st'.en ∧ stepOp cf o ⟨sl, H⟩ = some ⟨sl', st'.H⟩ := by
  have hw : wanted sl o.guard = wantedA en o.guard := by
    unfold wanted wantedA
    cases o.guard with
    | none => rfl
    | some p =>
      simp only [h.at']
      generalize lkE p.1 en = v
      cases v with
      | tup l => cases l <;> rfl
      | _ => rfl
  unfold stepOpA at he
  unfold stepOp
  simp only [hw, h.op] at he ⊢
  split at he
  · rename_i h1
    split at he
    · rename_i a ups h2
      cases he
      exact ⟨_, h.put hd, by simp only [h1, h2]⟩
    · cases he
  · rename_i h1
    cases he
    exact ⟨_, h.put hd, by simp only [h1]⟩
  · cases he
theorem Rep.ops : ∀ {ops : List MOper} {sl : List AV} {en : En} {H : List AObj} {st' : StA}, Rep nt sl en → wfOps nt ops = true → runOpsA cf ops ⟨en, H⟩ = some st' → ∃ sl', Rep nt sl' st'.en ∧ runOps cf ops ⟨sl, H⟩ = some ⟨sl', st'.H⟩
  | [], sl, en, H, st', h, _, he => by
    simp only [runOpsA, Option.some.injEq] at he
    subst he
    exact ⟨sl, h, rfl⟩
  | o :: r, sl, en, H, st', h, hw, he => by
    simp only [wfOps, List.all_cons, Bool.and_eq_true] at hw
    simp only [runOpsA] at he
    split at he
    · rename_i st1 h1
      obtain ⟨sl1, h2, h3⟩ := h.step (fun d e => by have := hw.1; rw [e] at this; simpa using this) h1
      obtain ⟨sl2, h4, h5⟩ := Rep.ops (H := st1.H) (en := st1.en) h2 hw.2 he
      exact ⟨sl2, h4, by simp only [runOps, h3, h5]⟩
    · cases he
theorem fixSlots_len (m : Nat) (lv ids : List Nat) (H : List AObj) : ∀ (i : Nat) (sl : List AV), (fixSlots m lv ids H i sl).length = sl.length
  | _, [] => rfl
  | i, a :: r => by simp [fixSlots, fixSlots_len m lv ids H (i + 1) r]
theorem fixSlots_get (m : Nat) (lv ids : List Nat) (H : List AObj) : ∀ (i : Nat) (sl : List AV) (n : Nat), (fixSlots m lv ids H i sl).getD n .undef = if lv.contains (i + n) = true then fixV m ids H (sl.getD n .undef) else .undef
  | i, [], n => by simp [fixSlots, fixV, fixCell]
  | i, a :: r, 0 => by simp [fixSlots]
  | i, a :: r, n + 1 => by
    have := fixSlots_get m lv ids H (i + 1) r n
    simp only [fixSlots, List.getD_cons_succ]
    rw [this, show i + 1 + n = i + (n + 1) from by omega]
theorem lkE_map (f : Nat → AV) (n : Nat) : ∀ (lv : List Nat), lkE n (lv.map fun k => (k, f k)) = if lv.contains n = true then f n else .undef
  | [] => by simp [lkE]
  | k :: r => by
    simp only [List.map_cons, lkE, lkE_map f n r, List.contains_cons]
    by_cases e : n = k
    · subst e; simp
    · simp [e]
theorem Rep.norm (h : Rep nt sl en) {m : Nat} {lv ids : List Nat} {H : List AObj} {st' : StA} (he : normA m lv ids ⟨en, H⟩ = some st') : ∃ sl', Rep nt sl' st'.en ∧ Go.Ev.norm m lv ids ⟨sl, H⟩ = some ⟨sl', st'.H⟩ := by
  unfold normA at he
  unfold Go.Ev.norm
  split at he
  · rename_i H' h1
    cases he
    refine ⟨fixSlots m lv ids H 0 sl, ⟨by rw [fixSlots_len, h.len], fun n => ?_⟩, by simp only [h1]⟩
    rw [fixSlots_get, lkE_map]
    simp only [Nat.zero_add, h.at']
  · cases he
theorem Rep.iter {body : StA → Option (MExit × StA)} {body' : St → Option (MExit × St)} {m : Nat} {lv ids : List Nat}
    (hb : ∀ (sl : List AV) (en : En) (H : List AObj) (e : MExit) (st' : StA), Rep nt sl en → body ⟨en, H⟩ = some (e, st') → ∃ sl', Rep nt sl' st'.en ∧ body' ⟨sl, H⟩ = some (e, ⟨sl', st'.H⟩)) :
    ∀ {n : Nat} {sl : List AV} {en : En} {H : List AObj} {e : MExit} {st' : StA}, Rep nt sl en → iterA body (normA m lv ids) n ⟨en, H⟩ = some (e, st') → ∃ sl', Rep nt sl' st'.en ∧ Go.Ev.iter body' (Go.Ev.norm m lv ids) n ⟨sl, H⟩ = some (e, ⟨sl', st'.H⟩)
  | 0, _, _, _, _, _, _, he => by simp [iterA] at he
  | n + 1, sl, en, H, e, st', h, he => by
    simp only [iterA] at he
    split at he
    · cases he
    · rename_i s0 h0
      obtain ⟨sl1, h1, h2⟩ := h.norm h0
      simp only [Go.Ev.iter, h2]
      split at he
      · rename_i s1 h3
        obtain ⟨sl2, h4, h5⟩ := hb sl1 s0.en s0.H _ _ h1 h3
        simp only [h5]
        exact Rep.iter hb (H := s1.H) (en := s1.en) h4 he
      · rename_i hne
        obtain ⟨sl2, h4, h5⟩ := hb sl1 s0.en s0.H _ _ h1 he
        refine ⟨sl2, h4, ?_⟩
        rw [h5]
        cases e with
        | normal => exact absurd he (hne _)
        | exit id => rfl
        | ret => rfl
theorem Rep.code {m fuel : Nat} : ∀ {c : MCode} {sl : List AV} {en : En} {H : List AObj} {e : MExit} {st' : StA}, Rep nt sl en → wfC nt c = true → evalA cf m fuel c ⟨en, H⟩ = some (e, st') → ∃ sl', Rep nt sl' st'.en ∧ evalCode cf m fuel c ⟨sl, H⟩ = some (e, ⟨sl', st'.H⟩)
  | .skip, sl, en, H, e, st', h, _, he => by
    simp only [evalA, Option.some.injEq, Prod.mk.injEq] at he
    obtain ⟨rfl, rfl⟩ := he
    exact ⟨sl, h, rfl⟩
  | .region _ ops, sl, en, H, e, st', h, hw, he => by
    simp only [evalA] at he
    split at he
    · rename_i s1 h1
      cases he
      obtain ⟨sl1, h2, h3⟩ := h.ops hw h1
      exact ⟨sl1, h2, by simp only [evalCode, h3]⟩
    · cases he
  | .seq a b, sl, en, H, e, st', h, hw, he => by
    simp only [wfC, Bool.and_eq_true] at hw
    simp only [evalA] at he
    split at he
    · rename_i s1 h1
      obtain ⟨sl1, h2, h3⟩ := Rep.code h hw.1 h1
      obtain ⟨sl2, h4, h5⟩ := Rep.code (H := s1.H) h2 hw.2 he
      exact ⟨sl2, h4, by simp only [evalCode, h3, h5]⟩
    · rename_i hne
      obtain ⟨sl1, h2, h3⟩ := Rep.code h hw.1 he
      refine ⟨sl1, h2, ?_⟩
      simp only [evalCode, h3]
      cases e with
      | normal => exact absurd he (hne _)
      | exit id => rfl
      | ret => rfl
  | .cond x a b, sl, en, H, e, st', h, hw, he => by
    simp only [wfC, Bool.and_eq_true] at hw
    simp only [evalA] at he
    simp only [evalCode, h.ev]
    split at he
    · rename_i hx
      obtain ⟨sl1, h2, h3⟩ := Rep.code h hw.1 he
      exact ⟨sl1, h2, by simp only [hx, h3]⟩
    · rename_i hx
      obtain ⟨sl1, h2, h3⟩ := Rep.code h hw.2 he
      exact ⟨sl1, h2, by simp only [hx, h3]⟩
    · cases he
  | .block id c, sl, en, H, e, st', h, hw, he => by
    simp only [wfC] at hw
    simp only [evalA] at he
    split at he
    · rename_i id' s1 h1
      obtain ⟨sl1, h2, h3⟩ := Rep.code h hw h1
      simp only [evalCode, h3]
      split at he
      · rename_i c; cases he; exact ⟨sl1, h2, by rw [if_pos c]⟩
      · rename_i c; cases he; exact ⟨sl1, h2, by rw [if_neg c]⟩
    · rename_i hne
      obtain ⟨sl1, h2, h3⟩ := Rep.code h hw he
      refine ⟨sl1, h2, ?_⟩
      simp only [evalCode, h3]
      cases e with
      | normal => rfl
      | exit id => exact absurd he (hne _ _)
      | ret => rfl
  | .loop lv ids c, sl, en, H, e, st', h, hw, he => by
    simp only [wfC] at hw
    simp only [evalA] at he
    simp only [evalCode]
    exact Rep.iter (fun sl en H e st' h he => Rep.code h hw he) h he
  | .exit id, sl, en, H, e, st', h, _, he => by
    simp only [evalA, Option.some.injEq, Prod.mk.injEq] at he
    obtain ⟨rfl, rfl⟩ := he
    exact ⟨sl, h, rfl⟩
  | .ret, sl, en, H, e, st', h, _, he => by
    simp only [evalA, Option.some.injEq, Prod.mk.injEq] at he
    obtain ⟨rfl, rfl⟩ := he
    exact ⟨sl, h, rfl⟩
end

theorem iterA_mono {b b' : StA → Option (MExit × StA)} {nrm : StA → Option StA} (hb : ∀ st r, b st = some r → b' st = some r) : ∀ {n n' : Nat} {st : StA} {r : MExit × StA}, n ≤ n' → iterA b nrm n st = some r → iterA b' nrm n' st = some r
  | 0, _, _, _, _, h => by simp [iterA] at h
  | n + 1, 0, _, _, hn, _ => by omega
  | n + 1, n' + 1, st, r, hn, h => by
    simp only [iterA] at h ⊢
    split at h
    · cases h
    · rename_i s0 h0
      split at h
      · rename_i s1 h1
        rw [hb _ _ h1]
        exact iterA_mono hb (by omega) h
      · rename_i hne
        rw [hb _ _ h]
        obtain ⟨e, s⟩ := r
        cases e with
        | normal => exact absurd h (hne _)
        | exit id => rfl
        | ret => rfl

theorem evalA_mono {cf : CallF} {m n n' : Nat} (hn : n ≤ n') : ∀ {c : MCode} {st : StA} {r : MExit × StA}, evalA cf m n c st = some r → evalA cf m n' c st = some r
  | .skip, _, _, h => h
  | .region _ ops, st, r, h => by
    simp only [evalA] at h ⊢
    split at h
    · rename_i s1 h1; exact h
    · cases h
  | .seq a b, st, r, h => by
    simp only [evalA] at h ⊢
    split at h
    · rename_i s1 h1
      rw [evalA_mono hn h1]
      exact evalA_mono hn h
    · rename_i hne
      rw [evalA_mono hn h]
      obtain ⟨e, s⟩ := r
      cases e with
      | normal => exact absurd h (hne _)
      | exit id => rfl
      | ret => rfl
  | .cond x a b, st, r, h => by
    simp only [evalA] at h ⊢
    split at h
    · exact evalA_mono hn h
    · exact evalA_mono hn h
    · cases h
  | .block id c, st, r, h => by
    simp only [evalA] at h ⊢
    split at h
    · rename_i id' s1 h1
      rw [evalA_mono hn h1]
      exact h
    · rename_i hne
      rw [evalA_mono hn h]
      obtain ⟨e, s⟩ := r
      cases e with
      | normal => rfl
      | exit id => exact absurd h (hne _ _)
      | ret => rfl
  | .loop lv ids c, st, r, h => by
    simp only [evalA] at h ⊢
    exact iterA_mono (fun st r h => evalA_mono hn h) hn h
  | .exit id, _, _, h => h
  | .ret, _, _, h => h

/-! ### Rules -/
/-- The code comes to an end, there Q. -/
def WA (M : Tab) (m : Nat) (c : MCode) (st : StA) (Q : MExit → StA → Prop) : Prop := ∃ n e st', evalA (cfT M) m n c st = some (e, st') ∧ Q e st'
def WOA (M : Tab) (ops : List MOper) (st : StA) (Q : StA → Prop) : Prop := ∃ st', runOpsA (cfT M) ops st = some st' ∧ Q st'
def thenQA (N : StA → Prop) (Q : MExit → StA → Prop) : MExit → StA → Prop
  | .normal, st => N st
  | e, st => Q e st
def blockQA (id : Nat) (Q : MExit → StA → Prop) : MExit → StA → Prop
  | .exit id', st => if id' = id then Q .normal st else Q (.exit id') st
  | e, st => Q e st

section
variable {M : Tab} {m : Nat} {st : StA} {Q : MExit → StA → Prop}
theorem WA.mono {c : MCode} {Q' : MExit → StA → Prop} (h : WA M m c st Q) (hq : ∀ e st, Q e st → Q' e st) : WA M m c st Q' := by
  obtain ⟨n, e, st', h1, h2⟩ := h
  exact ⟨n, e, st', h1, hq _ _ h2⟩
theorem WA_skip (h : Q .normal st) : WA M m .skip st Q := ⟨0, _, _, rfl, h⟩
theorem WA_exit {id : Nat} (h : Q (.exit id) st) : WA M m (.exit id) st Q := ⟨0, _, _, rfl, h⟩
theorem WA_ret (h : Q .ret st) : WA M m .ret st Q := ⟨0, _, _, rfl, h⟩
theorem WA_region {d : Bool} {ops : List MOper} (h : WOA M ops st (Q .normal)) : WA M m (.region d ops) st Q := by
  obtain ⟨st', h1, h2⟩ := h
  exact ⟨0, _, st', by simp only [evalA, h1], h2⟩
theorem WA_seq {a b : MCode} (h : WA M m a st (thenQA (fun s => WA M m b s Q) Q)) : WA M m (.seq a b) st Q := by
  obtain ⟨n, e, st', h1, h2⟩ := h
  cases e with
  | normal =>
    obtain ⟨n2, e2, st2, h3, h4⟩ := h2
    refine ⟨max n n2, e2, st2, ?_, h4⟩
    simp only [evalA]
    rw [evalA_mono (Nat.le_max_left n n2) h1]
    exact evalA_mono (Nat.le_max_right n n2) h3
  | exit id => exact ⟨n, _, st', by simp only [evalA, h1], h2⟩
  | ret => exact ⟨n, _, st', by simp only [evalA, h1], h2⟩
theorem WA_cond {x : MX} {a b : MCode} {t : Bool} (hx : lkX st.en x = .bool t) (h : (t = true → WA M m a st Q) ∧ (t = false → WA M m b st Q)) : WA M m (.cond x a b) st Q := by
  cases t with
  | true =>
    obtain ⟨n, e, st', h1, h2⟩ := h.1 rfl
    exact ⟨n, e, st', by simp only [evalA, hx]; exact h1, h2⟩
  | false =>
    obtain ⟨n, e, st', h1, h2⟩ := h.2 rfl
    exact ⟨n, e, st', by simp only [evalA, hx]; exact h1, h2⟩
theorem WA_block {id : Nat} {c : MCode} (h : WA M m c st (blockQA id Q)) : WA M m (.block id c) st Q := by
  obtain ⟨n, e, st', h1, h2⟩ := h
  cases e with
  | normal => exact ⟨n, _, st', by simp only [evalA, h1], h2⟩
  | ret => exact ⟨n, _, st', by simp only [evalA, h1], h2⟩
  | exit id' =>
    simp only [blockQA] at h2
    split at h2
    · rename_i e; exact ⟨n, .normal, st', by simp only [evalA, h1, e, if_true], h2⟩
    · rename_i e; exact ⟨n, .exit id', st', by simp only [evalA, h1, e, if_false], h2⟩
/-- A loop: its states at the head, what holds there, what gets less. -/
theorem WA_loop {α : Type} {lv ids : List Nat} {c : MCode} (S : α → StA) (J : α → Prop) (μ : α → Nat) (x0 : α) (h0 : normA m lv ids st = some (S x0)) (hJ : J x0)
    (hstep : ∀ x, J x → WA M m c (S x) (thenQA (fun s => ∃ y, normA m lv ids s = some (S y) ∧ J y ∧ μ y < μ x) Q)) : WA M m (.loop lv ids c) st Q := by
  have key : ∀ (k : Nat) (x : α) (s : StA), μ x = k → J x → normA m lv ids s = some (S x) → ∃ n e st', (∀ n', n ≤ n' → iterA (evalA (cfT M) m n' c) (normA m lv ids) n' s = some (e, st')) ∧ Q e st' := by
    intro k
    induction k using Nat.strongRecOn with
    | _ k ih =>
      intro x s hk hJx hs
      obtain ⟨n, e, st1, h1, h2⟩ := hstep x hJx
      cases e with
      | normal =>
        obtain ⟨y, hy, hJy, hlt⟩ := h2
        obtain ⟨n2, e2, st2, h3, h4⟩ := ih (μ y) (by omega) y st1 rfl hJy hy
        refine ⟨max n n2 + 1, e2, st2, fun n' hn' => ?_, h4⟩
        obtain ⟨n', rfl⟩ : ∃ j, n' = j + 1 := ⟨n' - 1, by omega⟩
        simp only [iterA, hs]
        rw [evalA_mono (by omega) h1]
        exact iterA_mono (fun st r h => evalA_mono (by omega) h) (Nat.le_refl _) (h3 n' (by omega))
      | exit id =>
        refine ⟨n + 1, _, st1, fun n' hn' => ?_, h2⟩
        obtain ⟨n', rfl⟩ : ∃ j, n' = j + 1 := ⟨n' - 1, by omega⟩
        simp only [iterA, hs]
        rw [evalA_mono (by omega) h1]
      | ret =>
        refine ⟨n + 1, _, st1, fun n' hn' => ?_, h2⟩
        obtain ⟨n', rfl⟩ : ∃ j, n' = j + 1 := ⟨n' - 1, by omega⟩
        simp only [iterA, hs]
        rw [evalA_mono (by omega) h1]
  obtain ⟨n, e, st', h1, h2⟩ := key _ x0 st rfl hJ h0
  exact ⟨n, e, st', by simp only [evalA]; exact h1 n (Nat.le_refl _), h2⟩
theorem WOA_nil {K : StA → Prop} (h : K st) : WOA M [] st K := ⟨st, rfl, h⟩
theorem WOA_cons {o : MOper} {r : List MOper} {st1 : StA} {K : StA → Prop} (h1 : stepOpA (cfT M) o st = some st1) (h : WOA M r st1 K) : WOA M (o :: r) st K := by
  obtain ⟨st', h2, h3⟩ := h
  exact ⟨st', by simp only [runOpsA, h1]; exact h2, h3⟩
theorem WOA_run {ops : List MOper} {st1 : StA} {K : StA → Prop} (h1 : runOpsA (cfT M) ops st = some st1) (h : K st1) : WOA M ops st K := ⟨st1, h1, h⟩
end
def runKA (M : Tab) (m : Nat) : List Kt → (MExit → StA → Prop) → MExit → StA → Prop
  | [], Q => Q
  | .seq c :: k, Q => thenQA (fun s => WA M m c s (runKA M m k Q)) (runKA M m k Q)
  | .blk id :: k, Q => blockQA id (runKA M m k Q)
  | .lp lv ids c :: k, Q => thenQA (fun s => WA M m (.loop lv ids c) s (runKA M m k Q)) (runKA M m k Q)
/-- Code, what comes behind it, and where it ends. -/
def XA (M : Tab) (m : Nat) (c : MCode) (k : List Kt) (st : StA) (Q : MExit → StA → Prop) : Prop := WA M m c st (runKA M m k Q)
def XOA (M : Tab) (m : Nat) (ops : List MOper) (k : List Kt) (st : StA) (Q : MExit → StA → Prop) : Prop := WOA M ops st (fun s => runKA M m k Q .normal s)

section
variable {M : Tab} {m : Nat} {st : StA} {Q : MExit → StA → Prop} {k : List Kt}

theorem WA_det {c : MCode} {n : Nat} {r : MExit × StA} (h : evalA (cfT M) m n c st = some r) {Q : MExit → StA → Prop} (hw : WA M m c st Q) : Q r.1 r.2 := by
  obtain ⟨n', e, s, h1, h2⟩ := hw
  have a := evalA_mono (Nat.le_max_left n n') h
  have b := evalA_mono (Nat.le_max_right n n') h1
  rw [a] at b
  cases b
  exact h2

theorem WA_unroll {lv ids : List Nat} {c : MCode} {st0 : StA} (h0 : normA m lv ids st = some st0) : WA M m (.loop lv ids c) st Q ↔ WA M m c st0 (thenQA (fun s => WA M m (.loop lv ids c) s Q) Q) := by
  constructor
  · rintro ⟨n, e, s, h1, h2⟩
    simp only [evalA] at h1
    cases n with
    | zero => simp [iterA] at h1
    | succ n =>
      simp only [iterA, h0] at h1
      split at h1
      · rename_i s1 h3
        refine ⟨n + 1, .normal, s1, h3, n + 1, e, s, ?_, h2⟩
        simp only [evalA]
        exact iterA_mono (fun st r h => h) (by omega) h1
      · rename_i hne
        refine ⟨n + 1, e, s, h1, ?_⟩
        cases e with
        | normal => exact absurd h1 (hne _)
        | exit id => exact h2
        | ret => exact h2
  · rintro ⟨n, e, s, h1, h2⟩
    cases e with
    | normal =>
      obtain ⟨n2, e2, s2, h3, h4⟩ := h2
      refine ⟨max n n2 + 1, e2, s2, ?_, h4⟩
      simp only [evalA, iterA, h0] at h3 ⊢
      rw [evalA_mono (by omega) h1]
      exact iterA_mono (fun st r h => evalA_mono (by omega) h) (by omega) h3
    | exit id =>
      refine ⟨n + 1, _, s, ?_, h2⟩
      simp only [evalA, iterA, h0]
      rw [evalA_mono (by omega) h1]
    | ret =>
      refine ⟨n + 1, _, s, ?_, h2⟩
      simp only [evalA, iterA, h0]
      rw [evalA_mono (by omega) h1]
theorem WA_stuck {lv ids : List Nat} {c : MCode} (h0 : normA m lv ids st = none) : ¬ WA M m (.loop lv ids c) st Q := by
  rintro ⟨n, e, s, h1, _⟩
  simp only [evalA] at h1
  cases n with
  | zero => simp [iterA] at h1
  | succ n => simp [iterA, h0] at h1
def goNA (M : Tab) (m : Nat) (x : Option StA) (c : MCode) (k : List Kt) (Q : MExit → StA → Prop) : Prop := match x with
  | some s => XA M m c k s Q
  | none => False
theorem goN_someA {c : MCode} : goNA M m (some st) c k Q = XA M m c k st Q := rfl
/-- One round more. -/
theorem XA_round {lv ids : List Nat} {c : MCode} : XA M m (.loop lv ids c) k st Q = goNA M m (normA m lv ids st) c (.lp lv ids c :: k) Q := by
  unfold goNA
  split
  · rename_i h; exact propext (WA_unroll h)
  · rename_i h; exact eq_false (WA_stuck h)
theorem XA_skip_lp {lv ids : List Nat} {c : MCode} : XA M m .skip (.lp lv ids c :: k) st Q = XA M m (.loop lv ids c) k st Q := propext ⟨fun ⟨n, e, s, h1, h2⟩ => by simp only [evalA, Option.some.injEq, Prod.mk.injEq] at h1; obtain ⟨rfl, rfl⟩ := h1; exact h2, fun h => WA_skip h⟩
theorem XA_exit_lp {i : Nat} {lv ids : List Nat} {c : MCode} : XA M m (.exit i) (.lp lv ids c :: k) st Q = XA M m (.exit i) k st Q := propext ⟨fun ⟨n, e, s, h1, h2⟩ => by simp only [evalA, Option.some.injEq, Prod.mk.injEq] at h1; obtain ⟨rfl, rfl⟩ := h1; exact WA_exit h2, fun ⟨n, e, s, h1, h2⟩ => by simp only [evalA, Option.some.injEq, Prod.mk.injEq] at h1; obtain ⟨rfl, rfl⟩ := h1; exact WA_exit h2⟩
theorem XA_seq {a b : MCode} : XA M m (.seq a b) k st Q = XA M m a (.seq b :: k) st Q := by
  refine propext ⟨fun h => ?_, fun h => WA_seq h⟩
  obtain ⟨n, e, s, h1, h2⟩ := h
  simp only [evalA] at h1
  split at h1
  · rename_i s1 h3
    exact ⟨n, .normal, s1, h3, ⟨n, e, s, h1, h2⟩⟩
  · rename_i hne
    refine ⟨n, e, s, h1, ?_⟩
    cases e with
    | normal => exact absurd h1 (hne _)
    | exit id => exact h2
    | ret => exact h2
theorem XA_block {id : Nat} {c : MCode} : XA M m (.block id c) k st Q = XA M m c (.blk id :: k) st Q := by
  refine propext ⟨fun h => ?_, fun h => WA_block h⟩
  obtain ⟨n, e, s, h1, h2⟩ := h
  simp only [evalA] at h1
  split at h1
  · rename_i id' s1 h3
    refine ⟨n, .exit id', s1, h3, ?_⟩
    simp only [runKA, blockQA]
    split at h1
    · rename_i e'; cases h1; rw [if_pos e']; exact h2
    · rename_i e'; cases h1; rw [if_neg e']; exact h2
  · rename_i hne
    refine ⟨n, e, s, h1, ?_⟩
    cases e with
    | normal => exact h2
    | exit id => exact absurd h1 (hne _ _)
    | ret => exact h2
theorem XA_region {d : Bool} {ops : List MOper} : XA M m (.region d ops) k st Q = XOA M m ops k st Q := by
  refine propext ⟨fun h => ?_, fun h => WA_region h⟩
  obtain ⟨n, e, s, h1, h2⟩ := h
  simp only [evalA] at h1
  split at h1
  · rename_i s1 h3; cases h1; exact ⟨_, h3, h2⟩
  · cases h1
theorem XA_skip_nil : XA M m .skip [] st Q = Q .normal st := propext ⟨fun ⟨n, e, s, h1, h2⟩ => by simp only [evalA, Option.some.injEq, Prod.mk.injEq] at h1; obtain ⟨rfl, rfl⟩ := h1; exact h2, fun h => WA_skip h⟩
theorem XA_skip_seq {c : MCode} : XA M m .skip (.seq c :: k) st Q = XA M m c k st Q := propext ⟨fun ⟨n, e, s, h1, h2⟩ => by simp only [evalA, Option.some.injEq, Prod.mk.injEq] at h1; obtain ⟨rfl, rfl⟩ := h1; exact h2, fun h => WA_skip h⟩
theorem XA_skip_blk {id : Nat} : XA M m .skip (.blk id :: k) st Q = XA M m .skip k st Q := propext ⟨fun ⟨n, e, s, h1, h2⟩ => by simp only [evalA, Option.some.injEq, Prod.mk.injEq] at h1; obtain ⟨rfl, rfl⟩ := h1; exact WA_skip h2, fun ⟨n, e, s, h1, h2⟩ => by simp only [evalA, Option.some.injEq, Prod.mk.injEq] at h1; obtain ⟨rfl, rfl⟩ := h1; exact WA_skip h2⟩
theorem XA_exit_nil {i : Nat} : XA M m (.exit i) [] st Q = Q (.exit i) st := propext ⟨fun ⟨n, e, s, h1, h2⟩ => by simp only [evalA, Option.some.injEq, Prod.mk.injEq] at h1; obtain ⟨rfl, rfl⟩ := h1; exact h2, fun h => WA_exit h⟩
theorem XA_exit_seq {i : Nat} {c : MCode} : XA M m (.exit i) (.seq c :: k) st Q = XA M m (.exit i) k st Q := propext ⟨fun ⟨n, e, s, h1, h2⟩ => by simp only [evalA, Option.some.injEq, Prod.mk.injEq] at h1; obtain ⟨rfl, rfl⟩ := h1; exact WA_exit h2, fun ⟨n, e, s, h1, h2⟩ => by simp only [evalA, Option.some.injEq, Prod.mk.injEq] at h1; obtain ⟨rfl, rfl⟩ := h1; exact WA_exit h2⟩
theorem XA_exit_blk {i j : Nat} : XA M m (.exit i) (.blk j :: k) st Q = if i = j then XA M m .skip k st Q else XA M m (.exit i) k st Q := by
  by_cases e : i = j
  · rw [if_pos e]
    exact propext ⟨fun h => by obtain ⟨n, e', s, h1, h2⟩ := h; simp only [evalA, Option.some.injEq, Prod.mk.injEq] at h1; obtain ⟨rfl, rfl⟩ := h1; simp only [runKA, blockQA, e, if_true] at h2; exact WA_skip h2,
      fun h => by obtain ⟨n, e', s, h1, h2⟩ := h; simp only [evalA, Option.some.injEq, Prod.mk.injEq] at h1; obtain ⟨rfl, rfl⟩ := h1; exact WA_exit (by simp only [runKA, blockQA, e, if_true]; exact h2)⟩
  · rw [if_neg e]
    exact propext ⟨fun h => by obtain ⟨n, e', s, h1, h2⟩ := h; simp only [evalA, Option.some.injEq, Prod.mk.injEq] at h1; obtain ⟨rfl, rfl⟩ := h1; simp only [runKA, blockQA, e, if_false] at h2; exact WA_exit h2,
      fun h => by obtain ⟨n, e', s, h1, h2⟩ := h; simp only [evalA, Option.some.injEq, Prod.mk.injEq] at h1; obtain ⟨rfl, rfl⟩ := h1; exact WA_exit (by simp only [runKA, blockQA, e, if_false]; exact h2)⟩
theorem XA_ret_nil : XA M m .ret [] st Q = Q .ret st := propext ⟨fun ⟨n, e, s, h1, h2⟩ => by simp only [evalA, Option.some.injEq, Prod.mk.injEq] at h1; obtain ⟨rfl, rfl⟩ := h1; exact h2, fun h => WA_ret h⟩
theorem XA_ret_cons {x : Kt} : XA M m .ret (x :: k) st Q = XA M m .ret k st Q := by
  cases x <;> exact propext ⟨fun ⟨n, e, s, h1, h2⟩ => by simp only [evalA, Option.some.injEq, Prod.mk.injEq] at h1; obtain ⟨rfl, rfl⟩ := h1; exact WA_ret h2, fun ⟨n, e, s, h1, h2⟩ => by simp only [evalA, Option.some.injEq, Prod.mk.injEq] at h1; obtain ⟨rfl, rfl⟩ := h1; exact WA_ret h2⟩
theorem XA_cond_t {x : MX} {a b : MCode} (hx : lkX st.en x = .bool true) : XA M m (.cond x a b) k st Q = XA M m a k st Q :=
  propext ⟨fun ⟨n, e, s, h1, h2⟩ => ⟨n, e, s, by simp only [evalA, hx] at h1; exact h1, h2⟩, fun ⟨n, e, s, h1, h2⟩ => ⟨n, e, s, by simp only [evalA, hx]; exact h1, h2⟩⟩
theorem XA_cond_f {x : MX} {a b : MCode} (hx : lkX st.en x = .bool false) : XA M m (.cond x a b) k st Q = XA M m b k st Q :=
  propext ⟨fun ⟨n, e, s, h1, h2⟩ => ⟨n, e, s, by simp only [evalA, hx] at h1; exact h1, h2⟩, fun ⟨n, e, s, h1, h2⟩ => ⟨n, e, s, by simp only [evalA, hx]; exact h1, h2⟩⟩
theorem XA_cond {x : MX} {a b : MCode} : XA M m (.cond x a b) k st Q = pickX (lkX st.en x) (XA M m a k st Q) (XA M m b k st Q) := by
  unfold pickX
  split
  · rename_i h; exact XA_cond_t h
  · rename_i h; exact XA_cond_f h
  · rename_i h1 h2
    refine eq_false ?_
    rintro ⟨n, e, s, h3, _⟩
    simp only [evalA] at h3
    cases h3
theorem XOA_nil : XOA M m [] k st Q = XA M m .skip k st Q := propext ⟨fun ⟨s, h1, h2⟩ => by simp only [runOpsA, Option.some.injEq] at h1; subst h1; exact WA_skip h2, fun ⟨n, e, s, h1, h2⟩ => by simp only [evalA, Option.some.injEq, Prod.mk.injEq] at h1; obtain ⟨rfl, rfl⟩ := h1; exact WOA_nil h2⟩
def goEA (M : Tab) (m : Nat) (e : Eff) (d : Option Nat) (r : List MOper) (k : List Kt) (sl : En) (H : List AObj) (Q : MExit → StA → Prop) : Prop := match e with
  | some (x, ups) => XOA M m r k ⟨putA sl d x, layAll H ups⟩ Q
  | none => False
theorem goE_someA {d : Option Nat} {r : List MOper} {sl : En} {H : List AObj} {x : AV} {ups : List (Nat × AObj)} : goEA M m (some (x, ups)) d r k sl H Q = XOA M m r k ⟨putA sl d x, layAll H ups⟩ Q := rfl
theorem XOA_go {d : Option Nat} {op : MOp} {r : List MOper} {sl : En} {H : List AObj} :
    XOA M m (⟨d, none, op⟩ :: r) k ⟨sl, H⟩ Q = goEA M m (opVA (cfT M) sl H op) d r k sl H Q := by
  unfold XOA WOA goEA
  cases h : opVA (cfT M) sl H op with
  | none => simp [runOpsA, stepOpA, wantedA, h]
  | some p => obtain ⟨x, ups⟩ := p; simp only [runOpsA, stepOpA, wantedA, h, XOA, WOA]
def goGA (M : Tab) (m : Nat) (v : AV) (w : Bool) (d : Option Nat) (op : MOp) (r : List MOper) (k : List Kt) (sl : En) (H : List AObj) (Q : MExit → StA → Prop) : Prop := match v with
  | .bool b => if b = w then XOA M m (⟨d, none, op⟩ :: r) k ⟨sl, H⟩ Q else XOA M m r k ⟨putA sl d (.tup []), H⟩ Q
  | .tup [] => XOA M m r k ⟨putA sl d (.tup []), H⟩ Q
  | _ => False
theorem XOA_gd {d : Option Nat} {op : MOp} {r : List MOper} {sl : En} {H : List AObj} {g : Nat} {w : Bool} :
    XOA M m (⟨d, some (g, w), op⟩ :: r) k ⟨sl, H⟩ Q = goGA M m (lkE g sl) w d op r k sl H Q := by
  unfold goGA XOA WOA
  split
  · rename_i b h
    simp only [runOpsA, stepOpA, wantedA, h]
    cases b <;> cases w <;> simp
  · rename_i h
    simp only [runOpsA, stepOpA, wantedA, h]
  · rename_i h1 h2
    refine eq_false ?_
    rintro ⟨s, h3, _⟩
    simp only [runOpsA, stepOpA, wantedA] at h3
    cases h3
theorem goG_tA {b w : Bool} {d : Option Nat} {op : MOp} {r : List MOper} {sl : En} {H : List AObj} : goGA M m (.bool b) w d op r k sl H Q = if b = w then XOA M m (⟨d, none, op⟩ :: r) k ⟨sl, H⟩ Q else XOA M m r k ⟨putA sl d (.tup []), H⟩ Q := rfl
theorem goG_uA {w : Bool} {d : Option Nat} {op : MOp} {r : List MOper} {sl : En} {H : List AObj} : goGA M m (.tup []) w d op r k sl H Q = XOA M m r k ⟨putA sl d (.tup []), H⟩ Q := rfl
end
section
variable {M : Tab} {m : Nat} {st : StA} {Q : MExit → StA → Prop} {k : List Kt}
/-- A loop: its states at the head, what holds there, what gets less. -/
theorem XA_loop {α : Type} {lv ids : List Nat} {c : MCode} (S : α → StA) (J : α → Prop) (μ : α → Nat) (x0 : α) (h0 : normA m lv ids st = some (S x0)) (hJ : J x0)
    (hstep : ∀ x, J x → XA M m c [] (S x) (thenQA (fun s => ∃ y, normA m lv ids s = some (S y) ∧ J y ∧ μ y < μ x) (runKA M m k Q))) : XA M m (.loop lv ids c) k st Q :=
  WA_loop S J μ x0 h0 hJ hstep
end

section
variable {M : Tab} {m : Nat} {st : StA} {Q : MExit → StA → Prop} {k : List Kt}
theorem thenQ_nA {N : StA → Prop} {s : StA} : thenQA N Q .normal s = N s := rfl
theorem thenQ_xA {N : StA → Prop} {s : StA} {i : Nat} : thenQA N Q (.exit i) s = Q (.exit i) s := rfl
theorem thenQ_rA {N : StA → Prop} {s : StA} : thenQA N Q .ret s = Q .ret s := rfl
theorem runK_nA {s : StA} : runKA M m k Q .normal s = XA M m .skip k s Q := propext ⟨fun h => WA_skip h, fun ⟨n, e, s', h1, h2⟩ => by simp only [evalA, Option.some.injEq, Prod.mk.injEq] at h1; obtain ⟨rfl, rfl⟩ := h1; exact h2⟩
theorem runK_xA {s : StA} {i : Nat} : runKA M m k Q (.exit i) s = XA M m (.exit i) k s Q := propext ⟨fun h => WA_exit h, fun ⟨n, e, s', h1, h2⟩ => by simp only [evalA, Option.some.injEq, Prod.mk.injEq] at h1; obtain ⟨rfl, rfl⟩ := h1; exact h2⟩
theorem runK_rA {s : StA} : runKA M m k Q .ret s = XA M m .ret k s Q := propext ⟨fun h => WA_ret h, fun ⟨n, e, s', h1, h2⟩ => by simp only [evalA, Option.some.injEq, Prod.mk.injEq] at h1; obtain ⟨rfl, rfl⟩ := h1; exact h2⟩
/-- A loop that counts from x0 to n: its states at the head, what holds there. -/
theorem XA_for {lv ids : List Nat} {c : MCode} (S : Nat → StA) (J : Nat → Prop) (n x0 : Nat) (hx : x0 ≤ n) (h0 : normA m lv ids st = some (S x0)) (hJ : J x0)
    (hstep : ∀ i, x0 ≤ i → i < n → J i → XA M m c [] (S i) (thenQA (fun s => normA m lv ids s = some (S (i + 1)) ∧ J (i + 1)) (runKA M m k Q)))
    (hlast : J n → XA M m c [] (S n) (thenQA (fun _ => False) (runKA M m k Q))) : XA M m (.loop lv ids c) k st Q := by
  refine XA_loop S (fun i => x0 ≤ i ∧ i ≤ n ∧ J i) (fun i => n - i) x0 h0 ⟨Nat.le_refl _, hx, hJ⟩ fun i ⟨h1, h2, h3⟩ => ?_
  by_cases e : i = n
  · subst e
    refine WA.mono (hlast h3) fun ex s h => ?_
    cases ex with
    | normal => exact h.elim
    | exit j => exact h
    | ret => exact h
  · refine WA.mono (hstep i h1 (by omega) h3) fun ex s h => ?_
    cases ex with
    | normal => exact ⟨i + 1, h.1, ⟨by omega, by omega, h.2⟩, by omega⟩
    | exit j => exact h
    | ret => exact h
end


/-! ### Where it begins, where it ends -/
/-- Slots that hold nothing yet. -/
def restE (a b : Nat) : En := (List.range (b - a)).map fun i => (a + i, .tup [])
def startE (rest : En) : Nat → List AV → En
  | _, [] => rest
  | i, a :: r => (i, a) :: startE rest (i + 1) r
theorem lkE_rest (n a b : Nat) : lkE n (restE a b) = if a ≤ n ∧ n < b then .tup [] else .undef := by
  unfold restE
  have : ∀ k, lkE n ((List.range k).map fun i => (a + i, AV.tup [])) = if a ≤ n ∧ n < a + k then .tup [] else .undef := by
    intro k
    induction k with
    | zero => simp [lkE] <;> omega
    | succ k ih =>
      rw [List.range_succ, List.map_append]
      have app : ∀ (l : En) (k' : Nat) (v : AV), (∀ p ∈ l, p.1 ≠ k') → lkE n (l ++ [(k', v)]) = if n = k' then v else lkE n l := by
        intro l
        induction l with
        | nil => intro k' v _; simp [lkE]
        | cons p l ihl =>
          intro k' v h
          simp only [List.cons_append, lkE]
          rw [ihl k' v fun q hq => h q (by simp [hq])]
          by_cases e : n = p.1
          · rw [if_pos e, if_pos e, if_neg]
            rw [e]; exact h p (by simp)
          · rw [if_neg e, if_neg e]
      rw [List.map_cons, List.map_nil, app _ _ _ (by
        intro p hp
        simp only [List.mem_map, List.mem_range] at hp
        obtain ⟨i, hi, rfl⟩ := hp
        simp; omega), ih]
      by_cases e : n = a + k
      · rw [if_pos e, if_pos (by omega)]
      · rw [if_neg e]
        by_cases e2 : a ≤ n ∧ n < a + k
        · rw [if_pos e2, if_pos (by omega)]
        · rw [if_neg e2, if_neg (by omega)]
  rw [this]
  by_cases e : a ≤ b
  · rw [show a + (b - a) = b from by omega]
  · rw [if_neg (by omega), if_neg (by omega)]
theorem lkE_start (rest : En) : ∀ (as : List AV) (i n : Nat), lkE n (startE rest i as) = if i ≤ n ∧ n < i + as.length then as.getD (n - i) .undef else lkE n rest
  | [], i, n => by simp [startE]; omega
  | a :: r, i, n => by
    simp only [startE, lkE, lkE_start rest r (i + 1) n, List.length_cons]
    by_cases e : n = i
    · subst e; simp
    · rw [if_neg e]
      by_cases e2 : i + 1 ≤ n ∧ n < i + 1 + r.length
      · rw [if_pos e2, if_pos (by omega), show n - i = (n - (i + 1)) + 1 from by omega]
        simp
      · rw [if_neg e2, if_neg (by omega)]
theorem rep_start {mf : MFun} {args : List AV} (hl : args.length = mf.np) (hn : mf.np ≤ mf.nt) : Rep mf.nt (slots mf.nt args) (startE (restE mf.np mf.nt) 0 args) := by
  refine ⟨by simp [slots]; omega, fun n => ?_⟩
  rw [lkE_start, lkE_rest]
  unfold slots
  rw [List.getD_eq_getElem?_getD]
  by_cases c : n < args.length
  · rw [if_pos (by omega), List.getElem?_append_left c, ← List.getD_eq_getElem?_getD]
    simp
  · rw [if_neg (by omega), List.getElem?_append_right (by omega)]
    by_cases c2 : n < mf.nt
    · rw [if_pos (by omega), List.getElem?_replicate, if_pos (by omega)]; rfl
    · rw [if_neg (by omega), List.getElem?_replicate, if_neg (by omega)]; rfl
def resA (en : En) (H : List AObj) : MRes → Option AV
  | .slot n => some (lkE n en)
  | .cell s o none => load1 H (some o) (lkE s en)
  | .cell s o (some n) => (loadCells H (some o) (lkE s en) n).map .agg
def resAs (en : En) (H : List AObj) : List MRes → Option (List AV)
  | [] => some []
  | r :: rs => match resA en H r, resAs en H rs with
    | some a, some l => some (a :: l)
    | _, _ => none
def resultsA (en : En) (H : List AObj) (rs : List MRes) : Option AV :=
  match resAs en H rs with
  | some [a] => some a
  | some l => some (.tup l)
  | none => none
theorem rep_results {nt : Nat} {sl : List AV} {en : En} (h : Rep nt sl en) (H : List AObj) (rs : List MRes) : results ⟨sl, H⟩ rs = resultsA en H rs := by
  have h1 : ∀ r, resV ⟨sl, H⟩ r = resA en H r := by
    intro r
    match r with
    | .slot n => simp only [resV, resA, h.at']
    | .cell s o none => simp only [resV, resA, h.at']
    | .cell s o (some n) => simp only [resV, resA, h.at']
  have h2 : ∀ rs, resVs ⟨sl, H⟩ rs = resAs en H rs := by
    intro rs
    induction rs with
    | nil => rfl
    | cons r rs ih =>
      simp only [resVs, resAs, h1, ih]
      cases resA en H r <;> cases resAs en H rs <;> rfl
  simp only [results, resultsA, h2]
  cases resAs en H rs with
  | none => rfl
  | some l => rcases l with _ | ⟨a, _ | ⟨b, l⟩⟩ <;> rfl
def wfMF (mf : MFun) : Bool := wfC mf.nt mf.body && decide (mf.np ≤ mf.nt)
def endRA (res : List MRes) (r : AV) (H1 : List AObj) (e : MExit) (st : StA) : Prop := (e = .normal ∨ e = .ret) ∧ resultsA st.en st.H res = some r ∧ st.H = H1
def endTA (res : List MRes) (r : AV) (e : MExit) (st : StA) : Prop := (e = .normal ∨ e = .ret) ∧ (resultsA st.en st.H res).bind (backR [] st.H [] []) = some r
def endFA (res : List MRes) (r : AV) (e : MExit) (st : StA) : Prop := (e = .normal ∨ e = .ret) ∧ (resultsA st.en st.H res).bind (fltR st.H) = some r
theorem endRA_n {res : List MRes} {r : AV} {H1 : List AObj} {en : En} {H : List AObj} : endRA res r H1 .normal ⟨en, H⟩ = (resultsA en H res = some r ∧ H = H1) := by simp [endRA]
theorem endRA_r {res : List MRes} {r : AV} {H1 : List AObj} {en : En} {H : List AObj} : endRA res r H1 .ret ⟨en, H⟩ = (resultsA en H res = some r ∧ H = H1) := by simp [endRA]
theorem endTA_n {res : List MRes} {r : AV} {en : En} {H : List AObj} : endTA res r .normal ⟨en, H⟩ = ((resultsA en H res).bind (backR [] H [] []) = some r) := by simp [endTA]
theorem endTA_r {res : List MRes} {r : AV} {en : En} {H : List AObj} : endTA res r .ret ⟨en, H⟩ = ((resultsA en H res).bind (backR [] H [] []) = some r) := by simp [endTA]
theorem endFA_n {res : List MRes} {r : AV} {en : En} {H : List AObj} : endFA res r .normal ⟨en, H⟩ = ((resultsA en H res).bind (fltR H) = some r) := by simp [endFA]
theorem endFA_r {res : List MRes} {r : AV} {en : En} {H : List AObj} : endFA res r .ret ⟨en, H⟩ = ((resultsA en H res).bind (fltR H) = some r) := by simp [endFA]
theorem X_of_XA {M : Tab} {m : Nat} {mf : MFun} {args : List AV} {H : List AObj} {QA : MExit → StA → Prop} {Q : MExit → St → Prop} (hw : wfMF mf = true) (hl : args.length = mf.np)
    (hq : ∀ e sl en H, Rep mf.nt sl en → QA e ⟨en, H⟩ → Q e ⟨sl, H⟩) (h : XA M m mf.body [] ⟨startE (restE mf.np mf.nt) 0 args, H⟩ QA) : X M m mf.body [] ⟨slots mf.nt args, H⟩ Q := by
  simp only [wfMF, Bool.and_eq_true, decide_eq_true_eq] at hw
  obtain ⟨n, e, st', h1, h2⟩ := h
  obtain ⟨sl', h3, h4⟩ := (rep_start hl hw.2).code hw.1 h1
  exact ⟨n, e, _, h4, hq e sl' st'.en st'.H h3 h2⟩
theorem cvTA_R {M : Tab} {f : FuncId} {mf : MFun} {args : List AV} {r : AV} (hf : M.fn f = some mf) (hl : args.length = mf.np) (hw : wfMF mf = true)
    (h : XA M 0 mf.body [] ⟨startE (restE mf.np mf.nt) 0 args, objs0 mf.no []⟩ (endTA mf.res r)) : cvT M f args = some r :=
  cvT_R hf hl (X_of_XA hw hl (fun e sl en H hr hq => ⟨hq.1, by rw [rep_results hr]; exact hq.2⟩) h)
theorem cvFA_R {M : Tab} {f : FuncId} {mf : MFun} {args : List AV} {r : AV} (hf : M.fn f = some mf) (hl : args.length = mf.np) (hw : wfMF mf = true)
    (h : XA M 0 mf.body [] ⟨startE (restE mf.np mf.nt) 0 args, objs0 mf.no []⟩ (endFA mf.res r)) : cvF M f args = some r :=
  cvF_R hf hl (X_of_XA hw hl (fun e sl en H hr hq => ⟨hq.1, by rw [rep_results hr]; exact hq.2⟩) h)
theorem cfTA_R {M : Tab} {f : FuncId} {mf : MFun} {args : List AV} {H : List AObj} {r : AV} {H1 : List AObj} (hf : M.fn f = some mf) (hl : args.length = mf.np) (hw : wfMF mf = true)
    (h : XA M H.length mf.body [] ⟨startE (restE mf.np mf.nt) 0 args, objs0 mf.no H⟩ (endRA mf.res r H1)) : cfT M f args H = some (r, H1) :=
  cfT_R hf hl (X_of_XA hw hl (fun e sl en H hr hq => ⟨hq.1, by rw [rep_results hr]; exact hq.2⟩) h)
end Go.Ev
