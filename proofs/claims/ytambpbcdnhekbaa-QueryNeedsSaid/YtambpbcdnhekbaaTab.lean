/- The table of the seat's functions; rows of numbers. -/
import Derived.Test.YtambpbcdnhekbaaEvMf
import Derived.Test.YtambpbcdnhekbaaRows
import Derived.Test.YtambpbcdnhekbaaEvGd
import Derived.Shelf.Spec.SlicesGrow
import Derived.Laws.AppendOwn
set_option linter.unusedSimpArgs false
set_option linter.unusedVariables false
namespace Go.Proofs.Ytambpbcdnhekbaa
open Go.Ev
theorem cloneOk_40 : CloneOk 40 Mf.f40 1 1 := by
  constructor
  · intro n cs h0 hl hb hn
    have h1 : ¬ n = 0 := by omega
    have h2 : (0 + n) * 1 ≤ 140737488355328 := by omega
    have h3 : 0 + n < 4611686018427387904 := by omega
    have hl2 := hl
    have hb2 := hb
    try simp at hl2
    try simp at hb2
    simp [evalFun, tab1, Mf.f40, evalCode, runOps, stepOp, wanted, opV, ev, putV, layAll, binV, isNilS, h1, fillV, repeatL, mapO, treeCell, freezeAll, srcCells, hl, hb, hl2, hb2, hn, h2, h3, Ev.results, resVs, resV]
  · kernel_rfl
  · kernel_rfl
theorem cloneOk_71 : CloneOk 71 Mf.f71 8 1 := by
  constructor
  · intro n cs h0 hl hb hn
    have h1 : ¬ n = 0 := by omega
    have h2 : (0 + n) * 8 ≤ 140737488355328 := by omega
    have h3 : 0 + n < 4611686018427387904 := by omega
    have hl2 := hl
    have hb2 := hb
    try simp at hl2
    try simp at hb2
    simp [evalFun, tab1, Mf.f71, evalCode, runOps, stepOp, wanted, opV, ev, putV, layAll, binV, isNilS, h1, fillV, repeatL, mapO, treeCell, freezeAll, srcCells, hl, hb, hl2, hb2, hn, h2, h3, Ev.results, resVs, resV]
  · kernel_rfl
  · kernel_rfl

def cloneIds : List (FuncId × Nat × Nat) := [(40, 1, 1), (71, 8, 1)]
theorem cloneOwn_40 : CloneOwn 40 Mf.f40o 1 1 := by
  intro b cs off n hb h0 hl ht hy hn
  have e : objCells [⟨0, b⟩] 0 0 = some cs := by simp [objCells, hb]
  have e2 : objCells [⟨0, b⟩, ⟨1, .row true 1 []⟩] 0 0 = some cs := by simp [objCells, hb]
  have h1 : ¬ n = 0 := by omega
  have e3 : srcCells [⟨0, b⟩, ⟨1, .row true 1 []⟩] (some 0) 1 (.own 0 0 off n 1) = some (n, (cs.drop off).take (n * 1)) := by
    simp only [srcCells, e2]
    rw [if_pos ⟨trivial, trivial⟩, if_pos hl, if_pos ht]
  have hy2 := hy
  try simp at hy2
  try simp at e3
  simp [evalFun, tab1, Mf.f40o, evalCode, runOps, stepOp, wanted, opV, ev, putV, layAll, binV, isNilS, h1, h0, fillV, repeatL, mapO, freezeAll, e, e2, e3, hy, hy2, hn, Ev.results, resVs, resV]

def ownIds : List (FuncId × Nat × Nat) := [(40, 1, 1)]
def Try.grow76_ren : Go.Shelf.Ren := ⟨fun | 4 => 76 | n => n, fun | 22 => 27 | 25 => 71 | n => n, fun n => n⟩
theorem Try.grow76 : Lays8.n4 Try.prog Try.grow76_ren := {
  mixed := by kernel_rfl
  f4 := ⟨Try.f76.name, by decide, Try.func76.trans (congrArg some (by kernel_rfl))⟩
  t0 := Try.underlying0
  a0 := Try.isAgg0
  z0 := Try.sizeOf0
  v0 := Try.zeroValue0
  t3 := Try.underlying3
  a3 := Try.isAgg3
  z3 := Try.sizeOf3
  v3 := Try.zeroValue3
  t4 := Try.underlying4
  a4 := Try.isAgg4
  z4 := Try.sizeOf4
  v4 := Try.zeroValue4
  t9 := Try.underlying9
  a9 := Try.isAgg9
  z9 := Try.sizeOf9
  v9 := Try.zeroValue9
  t20 := Try.underlying20
  a20 := Try.isAgg20
  z20 := Try.sizeOf20
  v20 := Try.zeroValue20
  t22 := Try.underlying27
  a22 := Try.isAgg27
  z22 := Try.sizeOf27
  v22 := Try.zeroValue27 }
theorem growOk_76 : GrowOk Try.prog 76 40 3 where
  ok := ⟨Try.f76, Try.func76, by decide, rfl⟩
  zero w := Any8.slices_Grow_room Try.grow76 none 0 0 0 w (Nat.le_refl _) (by omega) (by omega) (by omega)
  pos n w h0 hb hn := by
    have h1 : (Try.prog.info? 71).isSome = true := by kernel_rfl
    obtain ⟨i0, hi0⟩ := Option.isSome_iff_exists.1 h1
    have h2 : (Try.prog.info? 71).map (·.size) = some 3 := by kernel_rfl
    have h3 : (Try.prog.info? 71).map (·.bytes) = some 40 := by kernel_rfl
    have h4 : ((Try.prog.info? 71).bind (·.zero)).map (·.cells.size) = some 3 := by kernel_rfl
    rw [hi0] at h2 h3 h4
    simp only [Option.map_some, Option.some.injEq, Option.bind_some] at h2 h3 h4
    obtain ⟨z, hz, hzs⟩ := Option.map_eq_some_iff.1 h4
    refine Calls.mono (Any8.slices_Grow_grow Try.grow76 i0 z hi0 hz (by omega) none 0 0 n [] w (Nat.le_refl _) (by omega) (by rw [h3]; omega) (by omega) (by simp) (fun _ => rfl) (fun a h => by cases h)) ?_
    rintro e w' ⟨rfl, rfl⟩
    refine ⟨_, _, _, rfl, rfl, ?_⟩
    have hge := grownCap_ge w (0 + n) 0 (Try.grow76_ren.t 25)
    simp only [Array.size_append, size_zeroCells, hzs]
    generalize grownCap w (0 + n) 0 (Try.grow76_ren.t 25) = G at *
    simp
    omega

def growIds : List (FuncId × Nat × Nat) := [(76, 40, 3)]
theorem grows_ok (f : FuncId) (bytes sz : Nat) (h : growIds.lookup f = some (bytes, sz)) : GrowOk Try.prog f bytes sz := by
  simp only [growIds, List.lookup] at h
  split at h
  · rename_i e
    have e := beq_iff_eq.1 e
    subst e
    cases h
    exact growOk_76
  cases h
def tab : Tab := ⟨fun f => if (cloneIds.lookup f).isSome = true then none else fnTab f, orX (growX growIds) (cloneY cloneIds ownIds)⟩
theorem clones_ok (f : FuncId) (bytes sz : Nat) (h : cloneIds.lookup f = some (bytes, sz)) : ∃ fn mf, Try.prog.funcs[f]? = some fn ∧ chkFun Try.prog mf fn = true ∧ CloneOk f mf bytes sz := by
  simp only [cloneIds, List.lookup] at h
  split at h
  · rename_i e
    have e := beq_iff_eq.1 e
    subst e
    cases h
    exact ⟨_, Mf.f40, Try.func40, mf40_ok, cloneOk_40⟩
  split at h
  · rename_i e
    have e := beq_iff_eq.1 e
    subst e
    cases h
    exact ⟨_, Mf.f71, Try.func71, mf71_ok, cloneOk_71⟩
  cases h
theorem owns_ok (f : FuncId) (bytes sz : Nat) (h : ownIds.lookup f = some (bytes, sz)) : ∃ fn mf, Try.prog.funcs[f]? = some fn ∧ chkFun Try.prog mf fn = true ∧ CloneOwn f mf bytes sz := by
  simp only [ownIds, List.lookup] at h
  split at h
  · rename_i e
    have e := beq_iff_eq.1 e
    subst e
    cases h
    exact ⟨_, Mf.f40o, Try.func40, mf40o_ok, cloneOwn_40⟩
  cases h
theorem tab_ok : TabOk Try.prog tab where
  fn f mf h := by
    simp only [tab] at h
    split at h
    · cases h
    · exact fnTab_ok f mf h
  ext := orX_sound (growX_sound grows_ok) (cloneY_sound clones_ok owns_ok)
theorem Try.own : ownKnob Try.prog.godebug = none := by kernel_rfl
theorem Try.laidOut : laidOutB Try.prog = true := by kernel_rfl
/-- A row of ints. -/
def rI (l : List Int) : AV := .ro l.length (l.map (.int .i64))
/-- A row of rows of ints. -/
def rR (l : List (List Int)) : AV := .ro l.length (l.map rI)
def inI (n : Int) : Prop := -9223372036854775808 ≤ n ∧ n ≤ 9223372036854775807
theorem idxI (l : List Int) (i : Nat) (h : i < l.length) : (List.drop i (l.map (AV.int .i64)))[0]? = some (.int .i64 (l[i])) := by
  simp [h]
theorem idxR (l : List (List Int)) (i : Nat) (h : i < l.length) : (List.drop i (l.map rI))[0]? = some (rI (l[i])) := by
  simp [h]
/-- A row's number at a place. -/
def gI (l : List Int) (i : Nat) : Int := l.getD i 0
/-- A row's row at a place. -/
def gR (l : List (List Int)) (i : Nat) : List Int := l.getD i []
theorem gI_get (l : List Int) (i : Nat) (h : i < l.length) : gI l i = l[i] := by
  rw [gI, List.getD_eq_getElem?_getD, List.getElem?_eq_getElem h]; rfl
theorem gR_get (l : List (List Int)) (i : Nat) (h : i < l.length) : gR l i = l[i] := by
  rw [gR, List.getD_eq_getElem?_getD, List.getElem?_eq_getElem h]; rfl
theorem idxI' (l : List Int) (z : Int) (h0 : 0 ≤ z) (h : z < l.length) : (List.drop z.toNat (l.map (AV.int .i64)))[0]? = some (.int .i64 (gI l z.toNat)) := by
  have : z.toNat < l.length := by omega
  rw [idxI l z.toNat this, gI_get _ _ this]
theorem idxR' (l : List (List Int)) (z : Int) (h0 : 0 ≤ z) (h : z < l.length) : (List.drop z.toNat (l.map rI))[0]? = some (rI (gR l z.toNat)) := by
  have : z.toNat < l.length := by omega
  rw [idxR l z.toNat this, gR_get _ _ this]
theorem beqI (x y : Int) : (x == y) = decide (x = y) := by
  by_cases h : x = y <;> simp [h]
theorem bneI (x y : Int) : (x != y) = !decide (x = y) := by
  by_cases h : x = y <;> simp [h]
theorem mm_min2 (k : IntKind) (a b : Int) : mmV false [.int k a, .int k b] = some (.int k (min a b)) := by
  simp [mmV, foldMM]; split <;> omega
theorem mm_max2 (k : IntKind) (a b : Int) : mmV true [.int k a, .int k b] = some (.int k (max a b)) := by
  simp [mmV, foldMM]; split <;> omega
theorem mm_min3 (k : IntKind) (a b c : Int) : mmV false [.int k a, .int k b, .int k c] = some (.int k (min (min a b) c)) := by
  simp [mmV, foldMM]; repeat' split
  all_goals omega
theorem mm_max3 (k : IntKind) (a b c : Int) : mmV true [.int k a, .int k b, .int k c] = some (.int k (max (max a b) c)) := by
  simp [mmV, foldMM]; repeat' split
  all_goals omega
theorem set_map {α β : Type} (f : α → β) (l : List α) (k : Nat) (x : α) (h : k < l.length) : List.take k (l.map f) ++ f x :: List.drop (k + 1) (l.map f) = (l.set k x).map f := by
  rw [List.map_set, List.set_eq_take_append_cons_drop, if_pos (by simpa using h)]
theorem wrap_succ (i n : Nat) (h : i < n) (hn : n ≤ 9223372036854775807) : IntKind.i64.wrap ((i : Int) + 1) = ((i + 1 : Nat) : Int) := by
  rw [wrap_i64 (by omega) (by omega)]; simp
end Go.Proofs.Ytambpbcdnhekbaa
