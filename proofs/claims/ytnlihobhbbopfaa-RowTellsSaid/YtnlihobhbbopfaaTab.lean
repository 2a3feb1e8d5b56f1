/- The table of the seat's functions; rows of numbers. -/
import Derived.Test.YtnlihobhbbopfaaEvMf
import Derived.Test.YtnlihobhbbopfaaRows
import Derived.Test.YtnlihobhbbopfaaEvGd
set_option linter.unusedSimpArgs false
set_option linter.unusedVariables false
namespace Go.Proofs.Ytnlihobhbbopfaa
open Go.Ev
theorem cloneOk_32 : CloneOk 32 Mf.f32 1 1 := by
  constructor
  · intro n cs h0 hl hb hn
    have h1 : ¬ n = 0 := by omega
    have h2 : (0 + n) * 1 ≤ 140737488355328 := by omega
    have h3 : 0 + n < 4611686018427387904 := by omega
    have hl2 := hl
    have hb2 := hb
    try simp at hl2
    try simp at hb2
    simp [evalFun, tab1, Mf.f32, evalCode, runOps, stepOp, wanted, opV, ev, putV, layAll, binV, isNilS, h1, fillV, repeatL, mapO, treeCell, freezeAll, srcCells, hl, hb, hl2, hb2, hn, h2, h3, Ev.results, resVs, resV]
  · kernel_rfl
  · kernel_rfl
theorem cloneOk_47 : CloneOk 47 Mf.f47 24 6 := by
  constructor
  · intro n cs h0 hl hb hn
    have h1 : ¬ n = 0 := by omega
    have h2 : (0 + n) * 24 ≤ 140737488355328 := by omega
    have h3 : 0 + n < 4611686018427387904 := by omega
    have hl2 := hl
    have hb2 := hb
    try simp at hl2
    try simp at hb2
    simp [evalFun, tab1, Mf.f47, evalCode, runOps, stepOp, wanted, opV, ev, putV, layAll, binV, isNilS, h1, fillV, repeatL, mapO, treeCell, freezeAll, srcCells, hl, hb, hl2, hb2, hn, h2, h3, Ev.results, resVs, resV]
  · kernel_rfl
  · kernel_rfl

def cloneIds : List (FuncId × Nat × Nat) := [(32, 1, 1), (47, 24, 6)]
theorem cloneOwn_32 : CloneOwn 32 Mf.f32o 1 1 := by
  intro b cs off n hb h0 hl ht hy hn
  have e : objCells [⟨0, b⟩] 0 0 = some cs := by simp [objCells, hb]
  have e2 : objCells [⟨0, b⟩, ⟨1, .row true 1 []⟩] 0 0 = some cs := by simp [objCells, hb]
  have h1 : ¬ n = 0 := by omega
  have e3 : srcCells [⟨0, b⟩, ⟨1, .row true 1 []⟩] (some 0) 1 (.own 0 0 off n 1) = some (n, (cs.drop off).take (n * 1)) := by
    simp only [srcCells, e2]
    rw [if_pos ⟨trivial, trivial⟩, if_pos hl, if_pos ht]
  have hy2 := hy
  try simp at hy2
  try simp at e3
  simp [evalFun, tab1, Mf.f32o, evalCode, runOps, stepOp, wanted, opV, ev, putV, layAll, binV, isNilS, h1, h0, fillV, repeatL, mapO, freezeAll, e, e2, e3, hy, hy2, hn, Ev.results, resVs, resV]

def ownIds : List (FuncId × Nat × Nat) := [(32, 1, 1)]
def tab : Tab := ⟨fun f => if (cloneIds.lookup f).isSome = true then none else fnTab f, cloneY cloneIds ownIds⟩
theorem clones_ok (f : FuncId) (bytes sz : Nat) (h : cloneIds.lookup f = some (bytes, sz)) : ∃ fn mf, Try.prog.funcs[f]? = some fn ∧ chkFun Try.prog mf fn = true ∧ CloneOk f mf bytes sz := by
  simp only [cloneIds, List.lookup] at h
  split at h
  · rename_i e
    have e := beq_iff_eq.1 e
    subst e
    cases h
    exact ⟨_, Mf.f32, Try.func32, mf32_ok, cloneOk_32⟩
  split at h
  · rename_i e
    have e := beq_iff_eq.1 e
    subst e
    cases h
    exact ⟨_, Mf.f47, Try.func47, mf47_ok, cloneOk_47⟩
  cases h
theorem owns_ok (f : FuncId) (bytes sz : Nat) (h : ownIds.lookup f = some (bytes, sz)) : ∃ fn mf, Try.prog.funcs[f]? = some fn ∧ chkFun Try.prog mf fn = true ∧ CloneOwn f mf bytes sz := by
  simp only [ownIds, List.lookup] at h
  split at h
  · rename_i e
    have e := beq_iff_eq.1 e
    subst e
    cases h
    exact ⟨_, Mf.f32o, Try.func32, mf32o_ok, cloneOwn_32⟩
  cases h
theorem tab_ok : TabOk Try.prog tab where
  fn f mf h := by
    simp only [tab] at h
    split at h
    · cases h
    · exact fnTab_ok f mf h
  ext := cloneY_sound clones_ok owns_ok
theorem Try.own : ownKnob Try.prog.godebug = none := by kernel_rfl
theorem Try.laidOut : laidOutB Try.prog = true := by kernel_rfl
/-- A row of ints. -/
def rI (l : List Int) : AV := .ro l.length (l.map (.int .i64))
/-- A row of rows of ints. -/
def rR (l : List (List Int)) : AV := .ro l.length (l.map rI)
def inI (n : Int) : Prop := -9223372036854775808 ≤ n ∧ n ≤ 9223372036854775807
theorem idxI (l : List Int) (i : Nat) (h : i < l.length) : (List.drop i (l.map (AV.int .i64)))[0]? = some (.int .i64 (l[i])) := by
  simp [h]
theorem idxR (l : List (List Int)) (i : Nat) (h : i < l.length) : (List.drop i (l.map rI))[0]? = some (rI (l[i])) := by
  simp [h]
/-- A row's number at a place. -/
def gI (l : List Int) (i : Nat) : Int := l.getD i 0
/-- A row's row at a place. -/
def gR (l : List (List Int)) (i : Nat) : List Int := l.getD i []
theorem gI_get (l : List Int) (i : Nat) (h : i < l.length) : gI l i = l[i] := by
  rw [gI, List.getD_eq_getElem?_getD, List.getElem?_eq_getElem h]; rfl
theorem gR_get (l : List (List Int)) (i : Nat) (h : i < l.length) : gR l i = l[i] := by
  rw [gR, List.getD_eq_getElem?_getD, List.getElem?_eq_getElem h]; rfl
theorem idxI' (l : List Int) (z : Int) (h0 : 0 ≤ z) (h : z < l.length) : (List.drop z.toNat (l.map (AV.int .i64)))[0]? = some (.int .i64 (gI l z.toNat)) := by
  have : z.toNat < l.length := by omega
  rw [idxI l z.toNat this, gI_get _ _ this]
theorem idxR' (l : List (List Int)) (z : Int) (h0 : 0 ≤ z) (h : z < l.length) : (List.drop z.toNat (l.map rI))[0]? = some (rI (gR l z.toNat)) := by
  have : z.toNat < l.length := by omega
  rw [idxR l z.toNat this, gR_get _ _ this]
theorem beqI (x y : Int) : (x == y) = decide (x = y) := by
  by_cases h : x = y <;> simp [h]
theorem bneI (x y : Int) : (x != y) = !decide (x = y) := by
  by_cases h : x = y <;> simp [h]
theorem mm_min2 (k : IntKind) (a b : Int) : mmV false [.int k a, .int k b] = some (.int k (min a b)) := by
  simp [mmV, foldMM]; split <;> omega
theorem mm_max2 (k : IntKind) (a b : Int) : mmV true [.int k a, .int k b] = some (.int k (max a b)) := by
  simp [mmV, foldMM]; split <;> omega
theorem mm_min3 (k : IntKind) (a b c : Int) : mmV false [.int k a, .int k b, .int k c] = some (.int k (min (min a b) c)) := by
  simp [mmV, foldMM]; repeat' split
  all_goals omega
theorem mm_max3 (k : IntKind) (a b c : Int) : mmV true [.int k a, .int k b, .int k c] = some (.int k (max (max a b) c)) := by
  simp [mmV, foldMM]; repeat' split
  all_goals omega
theorem set_map {α β : Type} (f : α → β) (l : List α) (k : Nat) (x : α) (h : k < l.length) : List.take k (l.map f) ++ f x :: List.drop (k + 1) (l.map f) = (l.set k x).map f := by
  rw [List.map_set, List.set_eq_take_append_cons_drop, if_pos (by simpa using h)]
theorem wrap_succ (i n : Nat) (h : i < n) (hn : n ≤ 9223372036854775807) : IntKind.i64.wrap ((i : Int) + 1) = ((i + 1 : Nat) : Int) := by
  rw [wrap_i64 (by omega) (by omega)]; simp
end Go.Proofs.Ytnlihobhbbopfaa
