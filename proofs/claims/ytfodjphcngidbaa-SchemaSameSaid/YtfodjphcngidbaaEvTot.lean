/- The evaluator without a bound on its steps, and rules to run it. -/
import Derived.Test.YtfodjphcngidbaaEvLaw
set_option linter.unusedSimpArgs false
set_option linter.unusedVariables false
namespace Go.Ev

def Le (cf cf' : CallF) : Prop := ∀ f a H r, cf f a H = some r → cf' f a H = some r
theorem Le.refl (cf : CallF) : Le cf cf := fun _ _ _ _ h => h
theorem Le.trans {a b c : CallF} (h : Le a b) (k : Le b c) : Le a c := fun _ _ _ _ e => k _ _ _ _ (h _ _ _ _ e)

theorem callV_mono {cf cf' : CallF} (hle : Le cf cf') {H : List AObj} {f : AV} {args : List AV} {objs fzs : List Nat} {ret : List (Nat × Nat)} {frz : Bool} {r : AV × List (Nat × AObj)}
    (h : callV cf H f args objs fzs ret frz = some r) : callV cf' H f args objs fzs ret frz = some r := by
  unfold callV at h ⊢
  split at h <;> try (cases h; done)
  split at h <;> try (cases h; done)
  rename_i hid
  split at h <;> try (cases h; done)
  rename_i hp ho
  split at h <;> try (cases h; done)
  rename_i hc
  simp only [hid, if_true, hp, ho, hle _ _ _ _ hc]
  exact h
theorem opV_mono {cf cf' : CallF} (hle : Le cf cf') {sl : List AV} {H : List AObj} {op : MOp} {r : AV × List (Nat × AObj)} (h : opV cf sl H op = some r) : opV cf' sl H op = some r := by
  cases op <;> first
    | exact h
    | exact callV_mono hle h
    | (rename_i n o x; cases n <;> exact h)
theorem stepOp_mono {cf cf' : CallF} (hle : Le cf cf') {o : MOper} {st st' : St} (h : stepOp cf o st = some st') : stepOp cf' o st = some st' := by
  unfold stepOp at h ⊢
  split at h
  · rename_i hw
    split at h
    · rename_i a ups ho
      simp only [hw, opV_mono hle ho]
      exact h
    · cases h
  · exact h
  · cases h
theorem runOps_mono {cf cf' : CallF} (hle : Le cf cf') : ∀ {ops : List MOper} {st st' : St}, runOps cf ops st = some st' → runOps cf' ops st = some st'
  | [], _, _, h => h
  | o :: r, st, st', h => by
    simp only [runOps] at h ⊢
    split at h
    · rename_i s1 h1
      rw [stepOp_mono hle h1]
      exact runOps_mono hle h
    · cases h

theorem iter_mono {b b' : St → Option (MExit × St)} {nrm : St → Option St} (hb : ∀ st r, b st = some r → b' st = some r) : ∀ {n n' : Nat} {st : St} {r : MExit × St}, n ≤ n' → iter b nrm n st = some r → iter b' nrm n' st = some r
  | 0, _, _, _, _, h => by simp [iter] at h
  | n + 1, 0, _, _, hn, _ => by omega
  | n + 1, n' + 1, st, r, hn, h => by
    simp only [iter] at h ⊢
    split at h
    · cases h
    · rename_i s0 h0
      split at h
      · rename_i s1 h1
        rw [hb _ _ h1]
        exact iter_mono hb (by omega) h
      · rename_i hne
        rw [hb _ _ h]
        obtain ⟨e, s⟩ := r
        cases e with
        | normal => exact absurd h (hne _)
        | exit id => rfl
        | ret => rfl

theorem evalCode_mono {cf cf' : CallF} (hle : Le cf cf') {m n n' : Nat} (hn : n ≤ n') : ∀ {c : MCode} {st : St} {r : MExit × St}, evalCode cf m n c st = some r → evalCode cf' m n' c st = some r
  | .skip, _, _, h => h
  | .region _ ops, st, r, h => by
    simp only [evalCode] at h ⊢
    split at h
    · rename_i s1 h1; rw [runOps_mono hle h1]; exact h
    · cases h
  | .seq a b, st, r, h => by
    simp only [evalCode] at h ⊢
    split at h
    · rename_i s1 h1
      rw [evalCode_mono hle hn h1]
      exact evalCode_mono hle hn h
    · rename_i hne
      rw [evalCode_mono hle hn h]
      obtain ⟨e, s⟩ := r
      cases e with
      | normal => exact absurd h (hne _)
      | exit id => rfl
      | ret => rfl
  | .cond x a b, st, r, h => by
    simp only [evalCode] at h ⊢
    split at h
    · exact evalCode_mono hle hn h
    · exact evalCode_mono hle hn h
    · cases h
  | .block id c, st, r, h => by
    simp only [evalCode] at h ⊢
    split at h
    · rename_i id' s1 h1
      rw [evalCode_mono hle hn h1]
      exact h
    · rename_i hne
      rw [evalCode_mono hle hn h]
      obtain ⟨e, s⟩ := r
      cases e with
      | normal => rfl
      | exit id => exact absurd h (hne _ _)
      | ret => rfl
  | .loop lv ids c, st, r, h => by
    simp only [evalCode] at h ⊢
    exact iter_mono (fun st r h => evalCode_mono hle hn h) hn h
  | .exit id, _, _, h => h
  | .ret, _, _, h => h

theorem evalFun_mono (M : Tab) : ∀ {k k' : Nat}, k ≤ k' → Le (evalFun M k) (evalFun M k')
  | 0, _, _ => fun f a H r h => by simp [evalFun] at h
  | k + 1, 0, hk => by omega
  | k + 1, k' + 1, hk => fun f a H r h => by
    have ih := evalFun_mono M (show k ≤ k' by omega)
    simp only [evalFun] at h ⊢
    split at h
    · exact h
    · rename_i mf hmf
      split at h
      · cases h
      · rename_i hl
        rw [if_neg hl]
        split at h
        · rename_i st hst; rw [evalCode_mono ih (by omega) hst]; exact h
        · rename_i st hst; rw [evalCode_mono ih (by omega) hst]; exact h
        · cases h

open Classical in
/-- Calls, however many steps they take. -/
noncomputable def cfT (M : Tab) : CallF := fun f a H => if h : ∃ k r, evalFun M k f a H = some r then some (Classical.choose (Classical.choose_spec h)) else none

theorem cfT_of {M : Tab} {k : Nat} {f : FuncId} {a : List AV} {H : List AObj} {r : AV × List AObj} (h : evalFun M k f a H = some r) : cfT M f a H = some r := by
  have hex : ∃ k r, evalFun M k f a H = some r := ⟨k, r, h⟩
  unfold cfT
  rw [dif_pos hex]
  have hs := Classical.choose_spec (Classical.choose_spec hex)
  have h1 := evalFun_mono M (Nat.le_max_left k (Classical.choose hex)) _ _ _ _ h
  have h2 := evalFun_mono M (Nat.le_max_right k (Classical.choose hex)) _ _ _ _ hs
  rw [h1] at h2
  exact h2.symm
theorem of_cfT {M : Tab} {f : FuncId} {a : List AV} {H : List AObj} {r : AV × List AObj} (h : cfT M f a H = some r) : ∃ k, evalFun M k f a H = some r := by
  unfold cfT at h
  split at h
  · rename_i hex
    refine ⟨Classical.choose hex, ?_⟩
    rw [← h]
    exact Classical.choose_spec (Classical.choose_spec hex)
  · cases h

theorem callV_fin {M : Tab} {H : List AObj} {f : AV} {args : List AV} {objs fzs : List Nat} {ret : List (Nat × Nat)} {frz : Bool} {r : AV × List (Nat × AObj)}
    (h : callV (cfT M) H f args objs fzs ret frz = some r) : ∃ k, callV (evalFun M k) H f args objs fzs ret frz = some r := by
  unfold callV at h ⊢
  split at h <;> try (cases h; done)
  split at h <;> try (cases h; done)
  rename_i hid
  split at h <;> try (cases h; done)
  rename_i hp ho
  split at h <;> try (cases h; done)
  rename_i hc
  obtain ⟨k, hk⟩ := of_cfT hc
  exact ⟨k, by simp only [hid, if_true, hp, ho, hk]; exact h⟩
theorem opV_fin {M : Tab} {sl : List AV} {H : List AObj} {op : MOp} {r : AV × List (Nat × AObj)} (h : opV (cfT M) sl H op = some r) : ∃ k, opV (evalFun M k) sl H op = some r := by
  cases op <;> first
    | exact ⟨0, h⟩
    | exact callV_fin h
    | (rename_i n o x; cases n <;> exact ⟨0, h⟩)
theorem runOps_fin {M : Tab} : ∀ {ops : List MOper} {st st' : St}, runOps (cfT M) ops st = some st' → ∃ k, runOps (evalFun M k) ops st = some st'
  | [], _, _, h => ⟨0, h⟩
  | o :: r, st, st', h => by
    simp only [runOps] at h
    split at h
    · rename_i s1 h1
      obtain ⟨k2, hk2⟩ := runOps_fin h
      have : ∃ k, stepOp (evalFun M k) o st = some s1 := by
        unfold stepOp at h1
        split at h1
        · rename_i hw
          split at h1
          · rename_i a ups ho
            obtain ⟨k, hk⟩ := opV_fin ho
            exact ⟨k, by unfold stepOp; simp only [hw, hk]; exact h1⟩
          · cases h1
        · rename_i hw; exact ⟨0, by unfold stepOp; simp only [hw]; exact h1⟩
        · cases h1
      obtain ⟨k1, hk1⟩ := this
      refine ⟨max k1 k2, ?_⟩
      simp only [runOps]
      rw [stepOp_mono (evalFun_mono M (Nat.le_max_left k1 k2)) hk1]
      exact runOps_mono (evalFun_mono M (Nat.le_max_right k1 k2)) hk2
    · cases h

theorem evalCode_fin {M : Tab} {m n : Nat} : ∀ {c : MCode} {st : St} {r : MExit × St}, evalCode (cfT M) m n c st = some r → ∃ k, ∀ k', k ≤ k' → evalCode (evalFun M k') m k' c st = some r
  | .skip, _, _, h => ⟨0, fun _ _ => h⟩
  | .region _ ops, st, r, h => by
    simp only [evalCode] at h ⊢
    split at h
    · rename_i s1 h1
      obtain ⟨k, hk⟩ := runOps_fin h1
      exact ⟨k, fun k' hk' => by rw [runOps_mono (evalFun_mono M hk') hk]; exact h⟩
    · cases h
  | .seq a b, st, r, h => by
    simp only [evalCode] at h ⊢
    split at h
    · rename_i s1 h1
      obtain ⟨k1, h1⟩ := evalCode_fin h1
      obtain ⟨k2, h2⟩ := evalCode_fin h
      exact ⟨max k1 k2, fun k' hk' => by rw [h1 k' (by omega)]; exact h2 k' (by omega)⟩
    · rename_i hne
      obtain ⟨k1, h1⟩ := evalCode_fin h
      refine ⟨k1, fun k' hk' => ?_⟩
      rw [h1 k' hk']
      obtain ⟨e, s⟩ := r
      cases e with
      | normal => exact absurd h (hne _)
      | exit id => rfl
      | ret => rfl
  | .cond x a b, st, r, h => by
    simp only [evalCode] at h ⊢
    split at h
    · exact evalCode_fin h
    · exact evalCode_fin h
    · cases h
  | .block id c, st, r, h => by
    simp only [evalCode] at h ⊢
    split at h
    · rename_i id' s1 h1
      obtain ⟨k1, h1⟩ := evalCode_fin h1
      exact ⟨k1, fun k' hk' => by rw [h1 k' hk']; exact h⟩
    · rename_i hne
      obtain ⟨k1, h1⟩ := evalCode_fin h
      refine ⟨k1, fun k' hk' => ?_⟩
      rw [h1 k' hk']
      obtain ⟨e, s⟩ := r
      cases e with
      | normal => rfl
      | exit id => exact absurd h (hne _ _)
      | ret => rfl
  | .loop lv ids c, st, r, h => by
    simp only [evalCode] at h ⊢
    have key : ∀ (j : Nat) (st : St) (r : MExit × St), iter (evalCode (cfT M) m n c) (norm m lv ids) j st = some r → ∃ k, ∀ k', k ≤ k' → iter (evalCode (evalFun M k') m k' c) (norm m lv ids) j st = some r := by
      intro j
      induction j with
      | zero => intro st r h; simp [iter] at h
      | succ j ih =>
        intro st r h
        simp only [iter] at h ⊢
        split at h
        · cases h
        · rename_i s0 h0
          split at h
          · rename_i s1 h1
            obtain ⟨k1, h1⟩ := evalCode_fin h1
            obtain ⟨k2, h2⟩ := ih _ _ h
            exact ⟨max k1 k2, fun k' hk' => by rw [h1 k' (by omega)]; exact h2 k' (by omega)⟩
          · rename_i hne
            obtain ⟨k1, h1⟩ := evalCode_fin h
            refine ⟨k1, fun k' hk' => ?_⟩
            rw [h1 k' hk']
            obtain ⟨e, s⟩ := r
            cases e with
            | normal => exact absurd h (hne _)
            | exit id => rfl
            | ret => rfl
    obtain ⟨k, hk⟩ := key n st r h
    exact ⟨max k n, fun k' hk' => iter_mono (fun st r h => h) (by omega) (hk k' (by omega))⟩
  | .exit id, _, _, h => ⟨0, fun _ _ => h⟩
  | .ret, _, _, h => ⟨0, fun _ _ => h⟩

theorem cfT_sound {P : Program} {M : Tab} (hM : TabOk P M) : CfSound P (cfT M) := fun f args H r H1 h => by
  obtain ⟨k, hk⟩ := of_cfT h
  exact evalFun_sound hM k f args H r H1 hk
theorem cfT_ext {M : Tab} {f : FuncId} {a : List AV} {H : List AObj} {r : AV × List AObj} (hf : M.fn f = none) (h : M.ext f a H = some r) : cfT M f a H = some r :=
  cfT_of (k := 1) (by simp only [evalFun, hf]; exact h)

/-! ### Rules -/
/-- The code comes to an end, there Q. -/
def W (M : Tab) (m : Nat) (c : MCode) (st : St) (Q : MExit → St → Prop) : Prop := ∃ n e st', evalCode (cfT M) m n c st = some (e, st') ∧ Q e st'
def WO (M : Tab) (ops : List MOper) (st : St) (Q : St → Prop) : Prop := ∃ st', runOps (cfT M) ops st = some st' ∧ Q st'
def thenQ (N : St → Prop) (Q : MExit → St → Prop) : MExit → St → Prop
  | .normal, st => N st
  | e, st => Q e st
def blockQ (id : Nat) (Q : MExit → St → Prop) : MExit → St → Prop
  | .exit id', st => if id' = id then Q .normal st else Q (.exit id') st
  | e, st => Q e st

section
variable {M : Tab} {m : Nat} {st : St} {Q : MExit → St → Prop}
theorem W.mono {c : MCode} {Q' : MExit → St → Prop} (h : W M m c st Q) (hq : ∀ e st, Q e st → Q' e st) : W M m c st Q' := by
  obtain ⟨n, e, st', h1, h2⟩ := h
  exact ⟨n, e, st', h1, hq _ _ h2⟩
theorem W_skip (h : Q .normal st) : W M m .skip st Q := ⟨0, _, _, rfl, h⟩
theorem W_exit {id : Nat} (h : Q (.exit id) st) : W M m (.exit id) st Q := ⟨0, _, _, rfl, h⟩
theorem W_ret (h : Q .ret st) : W M m .ret st Q := ⟨0, _, _, rfl, h⟩
theorem W_region {d : Bool} {ops : List MOper} (h : WO M ops st (Q .normal)) : W M m (.region d ops) st Q := by
  obtain ⟨st', h1, h2⟩ := h
  exact ⟨0, _, st', by simp only [evalCode, h1], h2⟩
theorem W_seq {a b : MCode} (h : W M m a st (thenQ (fun s => W M m b s Q) Q)) : W M m (.seq a b) st Q := by
  obtain ⟨n, e, st', h1, h2⟩ := h
  cases e with
  | normal =>
    obtain ⟨n2, e2, st2, h3, h4⟩ := h2
    refine ⟨max n n2, e2, st2, ?_, h4⟩
    simp only [evalCode]
    rw [evalCode_mono (Le.refl _) (Nat.le_max_left n n2) h1]
    exact evalCode_mono (Le.refl _) (Nat.le_max_right n n2) h3
  | exit id => exact ⟨n, _, st', by simp only [evalCode, h1], h2⟩
  | ret => exact ⟨n, _, st', by simp only [evalCode, h1], h2⟩
theorem W_cond {x : MX} {a b : MCode} {t : Bool} (hx : ev st.sl x = .bool t) (h : (t = true → W M m a st Q) ∧ (t = false → W M m b st Q)) : W M m (.cond x a b) st Q := by
  cases t with
  | true =>
    obtain ⟨n, e, st', h1, h2⟩ := h.1 rfl
    exact ⟨n, e, st', by simp only [evalCode, hx]; exact h1, h2⟩
  | false =>
    obtain ⟨n, e, st', h1, h2⟩ := h.2 rfl
    exact ⟨n, e, st', by simp only [evalCode, hx]; exact h1, h2⟩
theorem W_block {id : Nat} {c : MCode} (h : W M m c st (blockQ id Q)) : W M m (.block id c) st Q := by
  obtain ⟨n, e, st', h1, h2⟩ := h
  cases e with
  | normal => exact ⟨n, _, st', by simp only [evalCode, h1], h2⟩
  | ret => exact ⟨n, _, st', by simp only [evalCode, h1], h2⟩
  | exit id' =>
    simp only [blockQ] at h2
    split at h2
    · rename_i e; exact ⟨n, .normal, st', by simp only [evalCode, h1, e, if_true], h2⟩
    · rename_i e; exact ⟨n, .exit id', st', by simp only [evalCode, h1, e, if_false], h2⟩
/-- A loop: its states at the head, what holds there, what gets less. -/
theorem W_loop {α : Type} {lv ids : List Nat} {c : MCode} (S : α → St) (J : α → Prop) (μ : α → Nat) (x0 : α) (h0 : norm m lv ids st = some (S x0)) (hJ : J x0)
    (hstep : ∀ x, J x → W M m c (S x) (thenQ (fun s => ∃ y, norm m lv ids s = some (S y) ∧ J y ∧ μ y < μ x) Q)) : W M m (.loop lv ids c) st Q := by
  have key : ∀ (k : Nat) (x : α) (s : St), μ x = k → J x → norm m lv ids s = some (S x) → ∃ n e st', (∀ n', n ≤ n' → iter (evalCode (cfT M) m n' c) (norm m lv ids) n' s = some (e, st')) ∧ Q e st' := by
    intro k
    induction k using Nat.strongRecOn with
    | _ k ih =>
      intro x s hk hJx hs
      obtain ⟨n, e, st1, h1, h2⟩ := hstep x hJx
      cases e with
      | normal =>
        obtain ⟨y, hy, hJy, hlt⟩ := h2
        obtain ⟨n2, e2, st2, h3, h4⟩ := ih (μ y) (by omega) y st1 rfl hJy hy
        refine ⟨max n n2 + 1, e2, st2, fun n' hn' => ?_, h4⟩
        obtain ⟨n', rfl⟩ : ∃ j, n' = j + 1 := ⟨n' - 1, by omega⟩
        simp only [iter, hs]
        rw [evalCode_mono (Le.refl _) (by omega) h1]
        exact iter_mono (fun st r h => evalCode_mono (Le.refl _) (by omega) h) (Nat.le_refl _) (h3 n' (by omega))
      | exit id =>
        refine ⟨n + 1, _, st1, fun n' hn' => ?_, h2⟩
        obtain ⟨n', rfl⟩ : ∃ j, n' = j + 1 := ⟨n' - 1, by omega⟩
        simp only [iter, hs]
        rw [evalCode_mono (Le.refl _) (by omega) h1]
      | ret =>
        refine ⟨n + 1, _, st1, fun n' hn' => ?_, h2⟩
        obtain ⟨n', rfl⟩ : ∃ j, n' = j + 1 := ⟨n' - 1, by omega⟩
        simp only [iter, hs]
        rw [evalCode_mono (Le.refl _) (by omega) h1]
  obtain ⟨n, e, st', h1, h2⟩ := key _ x0 st rfl hJ h0
  exact ⟨n, e, st', by simp only [evalCode]; exact h1 n (Nat.le_refl _), h2⟩
theorem WO_nil {K : St → Prop} (h : K st) : WO M [] st K := ⟨st, rfl, h⟩
theorem WO_cons {o : MOper} {r : List MOper} {st1 : St} {K : St → Prop} (h1 : stepOp (cfT M) o st = some st1) (h : WO M r st1 K) : WO M (o :: r) st K := by
  obtain ⟨st', h2, h3⟩ := h
  exact ⟨st', by simp only [runOps, h1]; exact h2, h3⟩
theorem WO_run {ops : List MOper} {st1 : St} {K : St → Prop} (h1 : runOps (cfT M) ops st = some st1) (h : K st1) : WO M ops st K := ⟨st1, h1, h⟩
end

/-- Where a function ends. -/
def endQ (mf : MFun) (r : AV) (H1 : List AObj) (e : MExit) (st : St) : Prop := (e = .normal ∨ e = .ret) ∧ results st mf.res = some r ∧ st.H = H1
def startSt (mf : MFun) (args : List AV) (H : List AObj) : St := ⟨args ++ List.replicate (mf.nt - args.length) (.tup []), H ++ List.replicate mf.no ⟨0, .none⟩⟩
theorem cfT_W {M : Tab} {f : FuncId} {mf : MFun} {args : List AV} {H : List AObj} {r : AV} {H1 : List AObj} (hf : M.fn f = some mf) (hl : args.length = mf.np)
    (h : W M H.length mf.body (startSt mf args H) (endQ mf r H1)) : cfT M f args H = some (r, H1) := by
  obtain ⟨n, e, st', h1, h2, h3, h4⟩ := h
  obtain ⟨k, hk⟩ := evalCode_fin h1
  refine cfT_of (k := k + 1) ?_
  simp only [evalFun, hf]
  rw [if_neg (by simpa using hl)]
  have := hk k (Nat.le_refl _)
  unfold startSt at this
  rw [this]
  rcases h2 with rfl | rfl
  · simp only [h3, Option.map_some, h4]
  · simp only [h3, Option.map_some, h4]

/-- The call of a law. -/
theorem law_calls' {H : Type} {enc : TypeId × Value → H} {P : Program} {M : Tab} (hM : TabOk P M) {f : FuncId} {gs : List GT} {ts : List TypeId} (hg : gtsB P gs ts = true)
    (hev : ∀ as, RDargs gs as → ∃ H1, cfT M f as [] = some (.bool true, H1))
    {W : World} {base : Nat} {args : Array Value} {ds : List (DataW H)} {ps : List MemPlace}
    (hok : ∀ (j : Nat) (t : TypeId) (v : Value), ts[j]? = some t → args[j]? = some v → Value.okWide P W .any base t v) (hA : DataW.TrodAll enc P W 0 (fun _ => true) true ts args.toList ds ps) :
    Calls P f args W fun e W' => e = .returned (.bool true) ∧ RowKit.Below W.heap.size W W' :=
  law_calls hM hg (fun as h => by
    obtain ⟨H1, h1⟩ := hev as h
    obtain ⟨k, hk⟩ := of_cfT h1
    exact ⟨k, H1, hk⟩) hok hA

end Go.Ev
