/- Batches: the table with a clone of nil, and the chapter's example. -/
import Derived.Test.YtpohmfihpnineaaBaL
set_option linter.unusedSimpArgs false
set_option linter.unusedVariables false
set_option maxHeartbeats 16000000
set_option maxRecDepth 100000
namespace Go.Proofs.Ytpohmfihpnineaa
open Go.Ev
theorem clone_post_nil {P : Program} {f : FuncId} {fn : Func} {mf : MFun} (hf : P.funcs[f]? = some fn) (hc : chkFun P mf fn = true) {sz : Nat} (hn : evalFun (tab1 f mf) 2 f [.nilsl] [] = some (.nilsl, [⟨0, .none⟩])) :
    CallOk P f ∧ ∀ (E : Env) (vals : Array Value), WRel E → E.H = [] → LRel E [.nilsl] vals.toList → Calls P f vals E.w (CfPost E (.own 0 2 0 0 sz) [⟨2, .row true sz []⟩]) := by
  have hM := tab1_ok hf hc
  obtain ⟨hok, hC⟩ := evalFun_sound hM 2 f _ _ _ _ hn
  refine ⟨hok, fun E vals hw hH hv => ?_⟩
  refine Calls.mono (hC E vals hw hH hv) ?_
  rintro e w' ⟨v, rfl, E', rfl, hH', hw', hv', hst⟩
  have hnm : ∀ (i b : Nat), ¬ Env.mutAt ⟨E'.F, [⟨2, .row true sz []⟩], [none], E'.w⟩ i b := by
    rintro i b ⟨o, base, _, _, h3⟩
    cases i with
    | zero => simp at h3
    | succ i => simp at h3
  refine ⟨v, rfl, ⟨E'.F, [⟨2, .row true sz []⟩], [none], E'.w⟩, rfl, rfl, ?_, ?_, ?_⟩
  · refine ⟨rfl, fun i o ho => ?_, fun i j b h => absurd h (hnm i b), fun i b h => absurd h (hnm i b), hw'.fOld⟩
    cases i with
    | zero =>
      simp only [List.getElem?_cons_zero, Option.some.injEq] at ho
      subst ho
      exact .inl ⟨rfl, rfl⟩
    | succ i => simp at ho
  · simp only [VRel] at hv'
    subst hv'
    exact ⟨none, 0, rfl, Nat.le_refl _, fun h => by omega, ⟨2, .row true sz []⟩, rfl, Nat.le_refl _, fun _ => ⟨by simp, .inr ⟨rfl, rfl, rfl, rfl⟩⟩⟩
  · refine ⟨hst.F, fun i o ho => ?_, ⟨hst.w.os, hst.w.tape, hst.w.output, hst.w.size, fun b hb hn => ⟨(hst.w.keep b hb hn).1, ?_⟩, hst.w.blk, hst.w.drawn⟩⟩
    · rw [hH] at ho; simp at ho
    · rintro ⟨i, h⟩; exact hnm i b h
def nilX : CallF := fun f args H => if f = 53 then (match args, H with
    | [.nilsl], [] => some (.own 0 2 0 0 1, [⟨2, .row true 1 []⟩])
    | _, _ => none) else none
theorem nilX_sound : CfSound Try.prog nilX := fun f args H r H1 h => by
  unfold nilX at h
  split at h
  · rename_i e
    subst e
    split at h
    · cases h
      exact clone_post_nil Try.func53 mf53_ok (by kernel_rfl)
    · cases h
  · cases h
def tabC : Go.Ev.Tab := ⟨tabB.fn, orX tabB.ext nilX⟩
theorem tabC_ok : TabOk Try.prog tabC := ⟨tabB_ok.fn, orX_sound tabB_ok.ext nilX_sound⟩
theorem tabC_le : Le tabB.ext tabC.ext := fun f a H r h => by
  show orX _ _ f a H = _
  unfold orX
  rw [h]
theorem cfC {f : FuncId} {a : List AV} {H : List AObj} {r : AV × List AObj} (h : cfT tabB f a H = some r) : cfT tabC f a H = some r := cfT_more tabC_le h
theorem cvFC {f : FuncId} {a : List AV} {r : AV} (h : cvF tabB f a = some r) : cvF tabC f a = some r := by
  unfold cvF at h ⊢
  obtain ⟨p, h1, h2⟩ := Option.bind_eq_some_iff.1 h
  rw [cfC h1]
  exact h2
theorem cvTC {f : FuncId} {a : List AV} {r : AV} (h : cvT tabB f a = some r) : cvT tabC f a = some r := by
  unfold cvT at h ⊢
  obtain ⟨p, h1, h2⟩ := Option.bind_eq_some_iff.1 h
  rw [cfC h1]
  exact h2
theorem wakeC_ev : cvF tabC 9 [] = some (.bool true) := by
  have h : (evalFun tabC 4000 9 [] []).map (fun p => match p.1 with | .bool b => b | _ => false) = some true := by kernel_rfl
  obtain ⟨⟨r, H1⟩, h1, h2⟩ := Option.map_eq_some_iff.1 h
  have h3 := cfT_of h1
  unfold cvF
  rw [h3]
  cases r <;> simp at h2
  subst h2
  rfl
end Go.Proofs.Ytpohmfihpnineaa
