/- The table of the seat's functions; rows of numbers. -/
import Derived.Test.YtmnafjgkhhdidaaEvMf
import Derived.Test.YtmnafjgkhhdidaaRows
import Derived.Test.YtmnafjgkhhdidaaEvGd
set_option linter.unusedSimpArgs false
set_option linter.unusedVariables false
namespace Go.Proofs.Ytmnafjgkhhdidaa
open Go.Ev
theorem cloneOk_76 : CloneOk 76 Mf.f76 1 1 := by
  constructor
  · intro n cs h0 hl hb hn
    have h1 : ¬ n = 0 := by omega
    have h2 : (0 + n) * 1 ≤ 140737488355328 := by omega
    have h3 : 0 + n < 4611686018427387904 := by omega
    have hl2 := hl
    have hb2 := hb
    try simp at hl2
    try simp at hb2
    simp [evalFun, tab1, Mf.f76, evalCode, runOps, stepOp, wanted, opV, ev, putV, layAll, binV, isNilS, h1, fillV, repeatL, mapO, treeCell, freezeAll, srcCells, hl, hb, hl2, hb2, hn, h2, h3, Ev.results, resVs, resV]
  · kernel_rfl
  · kernel_rfl
theorem cloneOk_52 : CloneOk 52 Mf.f52 24 6 := by
  constructor
  · intro n cs h0 hl hb hn
    have h1 : ¬ n = 0 := by omega
    have h2 : (0 + n) * 24 ≤ 140737488355328 := by omega
    have h3 : 0 + n < 4611686018427387904 := by omega
    have hl2 := hl
    have hb2 := hb
    try simp at hl2
    try simp at hb2
    simp [evalFun, tab1, Mf.f52, evalCode, runOps, stepOp, wanted, opV, ev, putV, layAll, binV, isNilS, h1, fillV, repeatL, mapO, treeCell, freezeAll, srcCells, hl, hb, hl2, hb2, hn, h2, h3, Ev.results, resVs, resV]
  · kernel_rfl
  · kernel_rfl

def cloneIds : List (FuncId × Nat × Nat) := [(76, 1, 1), (52, 24, 6)]
def tab : Tab := ⟨fun f => if (cloneIds.lookup f).isSome = true then none else fnTab f, cloneX cloneIds⟩
theorem clones_ok (f : FuncId) (bytes sz : Nat) (h : cloneIds.lookup f = some (bytes, sz)) : ∃ fn mf, Try.prog.funcs[f]? = some fn ∧ chkFun Try.prog mf fn = true ∧ CloneOk f mf bytes sz := by
  simp only [cloneIds, List.lookup] at h
  split at h
  · rename_i e
    have e := beq_iff_eq.1 e
    subst e
    cases h
    exact ⟨_, Mf.f76, Try.func76, mf76_ok, cloneOk_76⟩
  split at h
  · rename_i e
    have e := beq_iff_eq.1 e
    subst e
    cases h
    exact ⟨_, Mf.f52, Try.func52, mf52_ok, cloneOk_52⟩
  cases h
theorem tab_ok : TabOk Try.prog tab where
  fn f mf h := by
    simp only [tab] at h
    split at h
    · cases h
    · exact fnTab_ok f mf h
  ext := cloneX_sound clones_ok
theorem Try.own : ownKnob Try.prog.godebug = none := by kernel_rfl
theorem Try.laidOut : laidOutB Try.prog = true := by kernel_rfl
/-- A row of ints. -/
def rI (l : List Int) : AV := .ro l.length (l.map (.int .i64))
/-- A row of rows of ints. -/
def rR (l : List (List Int)) : AV := .ro l.length (l.map rI)
def inI (n : Int) : Prop := -9223372036854775808 ≤ n ∧ n ≤ 9223372036854775807
theorem idxI (l : List Int) (i : Nat) (h : i < l.length) : (List.drop i (l.map (AV.int .i64)))[0]? = some (.int .i64 (l[i])) := by
  simp [h]
theorem idxR (l : List (List Int)) (i : Nat) (h : i < l.length) : (List.drop i (l.map rI))[0]? = some (rI (l[i])) := by
  simp [h]
/-- A row's number at a place. -/
def gI (l : List Int) (i : Nat) : Int := l.getD i 0
/-- A row's row at a place. -/
def gR (l : List (List Int)) (i : Nat) : List Int := l.getD i []
theorem gI_get (l : List Int) (i : Nat) (h : i < l.length) : gI l i = l[i] := by
  rw [gI, List.getD_eq_getElem?_getD, List.getElem?_eq_getElem h]; rfl
theorem gR_get (l : List (List Int)) (i : Nat) (h : i < l.length) : gR l i = l[i] := by
  rw [gR, List.getD_eq_getElem?_getD, List.getElem?_eq_getElem h]; rfl
theorem idxI' (l : List Int) (z : Int) (h0 : 0 ≤ z) (h : z < l.length) : (List.drop z.toNat (l.map (AV.int .i64)))[0]? = some (.int .i64 (gI l z.toNat)) := by
  have : z.toNat < l.length := by omega
  rw [idxI l z.toNat this, gI_get _ _ this]
theorem idxR' (l : List (List Int)) (z : Int) (h0 : 0 ≤ z) (h : z < l.length) : (List.drop z.toNat (l.map rI))[0]? = some (rI (gR l z.toNat)) := by
  have : z.toNat < l.length := by omega
  rw [idxR l z.toNat this, gR_get _ _ this]
theorem beqI (x y : Int) : (x == y) = decide (x = y) := by
  by_cases h : x = y <;> simp [h]
theorem bneI (x y : Int) : (x != y) = !decide (x = y) := by
  by_cases h : x = y <;> simp [h]
theorem mm_min2 (k : IntKind) (a b : Int) : mmV false [.int k a, .int k b] = some (.int k (min a b)) := by
  simp [mmV, foldMM]; split <;> omega
theorem mm_max2 (k : IntKind) (a b : Int) : mmV true [.int k a, .int k b] = some (.int k (max a b)) := by
  simp [mmV, foldMM]; split <;> omega
theorem mm_min3 (k : IntKind) (a b c : Int) : mmV false [.int k a, .int k b, .int k c] = some (.int k (min (min a b) c)) := by
  simp [mmV, foldMM]; repeat' split
  all_goals omega
theorem mm_max3 (k : IntKind) (a b c : Int) : mmV true [.int k a, .int k b, .int k c] = some (.int k (max (max a b) c)) := by
  simp [mmV, foldMM]; repeat' split
  all_goals omega
theorem set_map {α β : Type} (f : α → β) (l : List α) (k : Nat) (x : α) (h : k < l.length) : List.take k (l.map f) ++ f x :: List.drop (k + 1) (l.map f) = (l.set k x).map f := by
  rw [List.map_set, List.set_eq_take_append_cons_drop, if_pos (by simpa using h)]
theorem wrap_succ (i n : Nat) (h : i < n) (hn : n ≤ 9223372036854775807) : IntKind.i64.wrap ((i : Int) + 1) = ((i + 1 : Nat) : Int) := by
  rw [wrap_i64 (by omega) (by omega)]; simp
end Go.Proofs.Ytmnafjgkhhdidaa
