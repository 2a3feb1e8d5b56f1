/- The table of the seat's functions; rows of numbers. -/
import Derived.Test.YtaflkcaebecpfaaEvMf
import Derived.Test.YtaflkcaebecpfaaRows
import Derived.Test.YtaflkcaebecpfaaEvGd
set_option linter.unusedSimpArgs false
set_option linter.unusedVariables false
namespace Go.Proofs.Ytaflkcaebecpfaa
open Go.Ev
def tab : Tab := ⟨fnTab, fun _ _ _ => none⟩
theorem tab_ok : TabOk Try.prog tab := ⟨fnTab_ok, fun f args H r H1 h => by cases h⟩
theorem Try.own : ownKnob Try.prog.godebug = none := by kernel_rfl
theorem Try.laidOut : laidOutB Try.prog = true := by kernel_rfl
/-- A row of ints. -/
def rI (l : List Int) : AV := .ro l.length (l.map (.int .i64))
/-- A row of rows of ints. -/
def rR (l : List (List Int)) : AV := .ro l.length (l.map rI)
def inI (n : Int) : Prop := -9223372036854775808 ≤ n ∧ n ≤ 9223372036854775807
theorem idxI (l : List Int) (i : Nat) (h : i < l.length) : (List.drop i (l.map (AV.int .i64)))[0]? = some (.int .i64 (l[i])) := by
  simp [h]
theorem idxR (l : List (List Int)) (i : Nat) (h : i < l.length) : (List.drop i (l.map rI))[0]? = some (rI (l[i])) := by
  simp [h]
/-- A row's number at a place. -/
def gI (l : List Int) (i : Nat) : Int := l.getD i 0
/-- A row's row at a place. -/
def gR (l : List (List Int)) (i : Nat) : List Int := l.getD i []
theorem gI_get (l : List Int) (i : Nat) (h : i < l.length) : gI l i = l[i] := by
  rw [gI, List.getD_eq_getElem?_getD, List.getElem?_eq_getElem h]; rfl
theorem gR_get (l : List (List Int)) (i : Nat) (h : i < l.length) : gR l i = l[i] := by
  rw [gR, List.getD_eq_getElem?_getD, List.getElem?_eq_getElem h]; rfl
theorem idxI' (l : List Int) (z : Int) (h0 : 0 ≤ z) (h : z < l.length) : (List.drop z.toNat (l.map (AV.int .i64)))[0]? = some (.int .i64 (gI l z.toNat)) := by
  have : z.toNat < l.length := by omega
  rw [idxI l z.toNat this, gI_get _ _ this]
theorem idxR' (l : List (List Int)) (z : Int) (h0 : 0 ≤ z) (h : z < l.length) : (List.drop z.toNat (l.map rI))[0]? = some (rI (gR l z.toNat)) := by
  have : z.toNat < l.length := by omega
  rw [idxR l z.toNat this, gR_get _ _ this]
theorem beqI (x y : Int) : (x == y) = decide (x = y) := by
  by_cases h : x = y <;> simp [h]
theorem bneI (x y : Int) : (x != y) = !decide (x = y) := by
  by_cases h : x = y <;> simp [h]
theorem mm_min2 (k : IntKind) (a b : Int) : mmV false [.int k a, .int k b] = some (.int k (min a b)) := by
  simp [mmV, foldMM]; split <;> omega
theorem mm_max2 (k : IntKind) (a b : Int) : mmV true [.int k a, .int k b] = some (.int k (max a b)) := by
  simp [mmV, foldMM]; split <;> omega
theorem mm_min3 (k : IntKind) (a b c : Int) : mmV false [.int k a, .int k b, .int k c] = some (.int k (min (min a b) c)) := by
  simp [mmV, foldMM]; repeat' split
  all_goals omega
theorem mm_max3 (k : IntKind) (a b c : Int) : mmV true [.int k a, .int k b, .int k c] = some (.int k (max (max a b) c)) := by
  simp [mmV, foldMM]; repeat' split
  all_goals omega
theorem set_map {α β : Type} (f : α → β) (l : List α) (k : Nat) (x : α) (h : k < l.length) : List.take k (l.map f) ++ f x :: List.drop (k + 1) (l.map f) = (l.set k x).map f := by
  rw [List.map_set, List.set_eq_take_append_cons_drop, if_pos (by simpa using h)]
theorem wrap_succ (i n : Nat) (h : i < n) (hn : n ≤ 9223372036854775807) : IntKind.i64.wrap ((i : Int) + 1) = ((i + 1 : Nat) : Int) := by
  rw [wrap_i64 (by omega) (by omega)]; simp
end Go.Proofs.Ytaflkcaebecpfaa
