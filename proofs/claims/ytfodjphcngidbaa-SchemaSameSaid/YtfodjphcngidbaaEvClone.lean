/- slices.Clone: a row of one's own, of the same cells. (Of nil it hands nil back: an own row of no cells stands for both.) -/
import Derived.Test.YtfodjphcngidbaaEvA
set_option linter.unusedSimpArgs false
set_option linter.unusedVariables false
namespace Go.Ev

/-- One function alone. -/
def tab1 (f : FuncId) (mf : MFun) : Tab := ⟨fun g => if g = f then some mf else none, fun _ _ _ => none⟩
theorem tab1_ok {P : Program} {f : FuncId} {fn : Func} {mf : MFun} (hf : P.funcs[f]? = some fn) (hc : chkFun P mf fn = true) : TabOk P (tab1 f mf) where
  fn g m h := by
    simp only [tab1] at h
    split at h
    · rename_i e; cases h; subst e; exact ⟨fn, hf, hc⟩
    · cases h
  ext g args H r H1 h := by cases h

/-- What is asked of a clone's code. -/
structure CloneOk (f : FuncId) (mf : MFun) (bytes sz : Nat) : Prop where
  some' : ∀ n cs, 0 < n → cs.length = n * sz → n * bytes ≤ 140737488355328 → n < 4611686018427387904 → evalFun (tab1 f mf) 2 f [.ro n cs] [] = some (.own 0 2 0 n sz, [⟨2, .row true sz cs⟩])
  none' : evalFun (tab1 f mf) 2 f [.emp false] [] = some (.own 0 2 0 0 sz, [⟨2, .row true sz []⟩])
  nil' : evalFun (tab1 f mf) 2 f [.emp true] [] = some (.nilsl, [⟨0, .none⟩])

theorem clone_post {P : Program} {f : FuncId} {fn : Func} {mf : MFun} (hf : P.funcs[f]? = some fn) (hc : chkFun P mf fn = true) {bytes sz : Nat} (hk : CloneOk f mf bytes sz)
    {n : Nat} {cs : List AV} (hl : cs.length = n * sz) (hb : n * bytes ≤ 140737488355328) (hn : n < 4611686018427387904) :
    CallOk P f ∧ ∀ (E : Env) (vals : Array Value), WRel E → E.H = [] → LRel E [.ro n cs] vals.toList → Calls P f vals E.w (CfPost E (.own 0 2 0 n sz) [⟨2, .row true sz cs⟩]) := by
  have hM := tab1_ok hf hc
  rcases Nat.eq_zero_or_pos n with h0 | h0
  · subst h0
    have hcs : cs = [] := List.length_eq_zero_iff.1 (by simpa using hl)
    subst hcs
    obtain ⟨hok, hB⟩ := evalFun_sound hM 2 f _ _ _ _ hk.none'
    obtain ⟨_, hC⟩ := evalFun_sound hM 2 f _ _ _ _ hk.nil'
    refine ⟨hok, fun E vals hw hH hv => ?_⟩
    simp only [LRel] at hv
    obtain ⟨v, r, hvals, hr, rfl⟩ := hv
    simp only [VRel] at hr
    obtain ⟨a, cap, rfl, _, _, _⟩ := hr
    cases ha : a with
    | some ad =>
      subst ha
      exact hB E vals hw hH (by rw [hvals]; exact ⟨_, [], rfl, ⟨_, _, rfl, rfl⟩, rfl⟩)
    | none =>
      subst ha
      refine Calls.mono (hC E vals hw hH (by rw [hvals]; exact ⟨_, [], rfl, ⟨_, _, rfl, rfl⟩, rfl⟩)) ?_
      rintro e w' ⟨v, rfl, E', rfl, hH', hw', hv', hst⟩
      have hnm : ∀ (i b : Nat), ¬ Env.mutAt ⟨E'.F, [⟨2, .row true sz []⟩], [none], E'.w⟩ i b := by
        rintro i b ⟨o, base, _, _, h3⟩
        cases i with
        | zero => simp at h3
        | succ i => simp at h3
      refine ⟨v, rfl, ⟨E'.F, [⟨2, .row true sz []⟩], [none], E'.w⟩, rfl, rfl, ?_, ?_, ?_⟩
      · refine ⟨rfl, fun i o ho => ?_, fun i j b h => absurd h (hnm i b), fun i b h => absurd h (hnm i b), hw'.fOld⟩
        cases i with
        | zero =>
          simp only [List.getElem?_cons_zero, Option.some.injEq] at ho
          subst ho
          exact .inl ⟨rfl, rfl⟩
        | succ i => simp at ho
      · simp only [VRel] at hv'
        subst hv'
        exact ⟨none, 0, rfl, Nat.le_refl _, fun h => by omega, ⟨2, .row true sz []⟩, rfl, Nat.le_refl _, fun _ => ⟨by simp, .inr ⟨rfl, rfl, rfl, rfl⟩⟩⟩
      · refine ⟨hst.F, fun i o ho => ?_, ⟨hst.w.os, hst.w.tape, hst.w.output, hst.w.size, fun b hb hn => ⟨(hst.w.keep b hb hn).1, ?_⟩, hst.w.blk⟩⟩
        · rw [hH] at ho; simp at ho
        · rintro ⟨i, h⟩; exact hnm i b h
  · exact evalFun_sound hM 2 f _ _ _ _ (hk.some' n cs h0 hl hb hn)

/-- Clones, by number: how many bytes, how many cells an element has. -/
def cloneX (ids : List (FuncId × Nat × Nat)) : CallF := fun f args H =>
  match ids.lookup f, args, H with
  | some (bytes, sz), [.ro n cs], [] => if cs.length = n * sz ∧ n * bytes ≤ 140737488355328 ∧ n < 4611686018427387904 then some (.own 0 2 0 n sz, [⟨2, .row true sz cs⟩]) else none
  | _, _, _ => none
theorem cloneX_sound {P : Program} {ids : List (FuncId × Nat × Nat)} (h : ∀ f bytes sz, ids.lookup f = some (bytes, sz) → ∃ fn mf, P.funcs[f]? = some fn ∧ chkFun P mf fn = true ∧ CloneOk f mf bytes sz) : CfSound P (cloneX ids) := by
  intro f args H r H1 he
  unfold cloneX at he
  split at he
  · rename_i bytes sz n cs hid
    split at he
    · rename_i hc
      cases he
      obtain ⟨fn, mf, h1, h2, h3⟩ := h f bytes sz hid
      exact clone_post h1 h2 h3 hc.1 hc.2.1 hc.2.2
    · cases he
  · cases he

/-- The call of a clone. -/
theorem callV_clone {M : Tab} {H : List AObj} {f : FuncId} {a : AV} {fzs : List Nat} {t bytes sz n : Nat} {cs : List AV} (ob : AObj) (fr : List (Nat × AObj)) (hf : M.fn f = none)
    (hx : ∀ n cs, cs.length = n * sz → n * bytes ≤ 140737488355328 → n < 4611686018427387904 → M.ext f [.ro n cs] [] = some (.own 0 2 0 n sz, [⟨2, .row true sz cs⟩]))
    (hp : passV H [] fzs a = some (.ro n cs)) (hl : cs.length = n * sz) (hb : n * bytes ≤ 140737488355328) (hn : n < 4611686018427387904) (ht : H[t]? = some ob) (hfr : freezeAll H fzs = some fr)
    (hid : okIds [] fzs [(0, t)] = true) :
    callV (cfT M) H (.fn f [] []) [a] [] fzs [(0, t)] true = some (.own t (ob.ver + 1) 0 n sz, fr ++ [(t, ⟨ob.ver + 1, .row true sz cs⟩)]) := by
  have hc := cfT_ext hf (hx n cs hl hb hn)
  simp only [callV, hid, if_true, List.nil_append, List.append_nil, mapO, hp, passObjs, hc, Option.map_some]
  simp [backR, backV, backCell, backObjs, adopts, ht, hfr, List.lookup]
end Go.Ev
