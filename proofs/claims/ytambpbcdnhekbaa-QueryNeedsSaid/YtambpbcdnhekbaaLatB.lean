/- Nodes: the next one, all, what one covers. -/
import Derived.Test.YtambpbcdnhekbaaLatA
set_option linter.unusedSimpArgs false
set_option linter.unusedVariables false
set_option maxHeartbeats 4000000
set_option maxRecDepth 100000
namespace Go.Proofs.Ytambpbcdnhekbaa
open Go.Ev
/-! ### Rows of nodes -/
def flatN : List (List Int) → List AV
  | [] => []
  | v :: r => v.map (.int .u8) ++ flatN r
def rN (l : List (List Int)) : AV := .ro l.length (flatN l)
theorem flatN_append : ∀ (a b : List (List Int)), flatN (a ++ b) = flatN a ++ flatN b
  | [], b => rfl
  | v :: r, b => by simp [flatN, flatN_append r b]
theorem flatN_len : ∀ {l : List (List Int)}, (∀ v ∈ l, v.length = 4) → (flatN l).length = l.length * 4
  | [], _ => rfl
  | v :: r, h => by
    have h1 := flatN_len (l := r) fun w hw => h w (by simp [hw])
    have h2 := h v (by simp)
    simp [flatN, h1, h2]; omega
theorem dropN : ∀ {l : List (List Int)} {i : Nat}, (∀ v ∈ l, v.length = 4) → i < l.length →
    List.drop (i * 4) (flatN l) = .int .u8 (gI (gR l i) 0) :: .int .u8 (gI (gR l i) 1) :: .int .u8 (gI (gR l i) 2) :: .int .u8 (gI (gR l i) 3) :: flatN (l.drop (i + 1))
  | [], i, _, h => by simp at h
  | v :: r, 0, h, _ => by
    have h2 := h v (by simp)
    match v, h2 with
    | [a, b, c, d], _ => rfl
  | v :: r, i + 1, h, hi => by
    have h2 := h v (by simp)
    have h1 := dropN (l := r) (i := i) (fun w hw => h w (by simp [hw])) (by simpa using hi)
    match v, h2 with
    | [a, b, c, d], _ =>
      rw [show (i + 1) * 4 = i * 4 + 4 from by omega]
      simp only [flatN, List.map, List.cons_append, List.nil_append, List.drop_succ_cons]
      exact h1
theorem gR_mem {l : List (List Int)} {i : Nat} (h : i < l.length) : gR l i ∈ l := by
  rw [gR_get _ _ h]; exact List.getElem_mem h
theorem list4 {v : List Int} (h : v.length = 4) : v = [gI v 0, gI v 1, gI v 2, gI v 3] := by
  match v, h with
  | [a, b, c, d], _ => rfl
/-! ### The next one -/
def nextN : List Int → List Int → List Int
  | [a, b, c, d], [p, q, r, s] => if d < s then [a, b, c, d + 1] else if c < r then [a, b, c + 1, 0] else if b < q then [a, b + 1, 0, 0] else if a < p then [a + 1, 0, 0, 0] else [0, 0, 0, 0]
  | _, _ => []
/-! ### All -/
def full3 (w3 a b c : Nat) : List (List Int) := (List.range (w3 + 1)).map fun (d : Nat) => [(a : Int), (b : Int), (c : Int), (d : Int)]
def full2 (w2 w3 a b : Nat) : List (List Int) := (List.range (w2 + 1)).flatMap fun c => full3 w3 a b c
def full1 (w1 w2 w3 a : Nat) : List (List Int) := (List.range (w1 + 1)).flatMap fun b => full2 w2 w3 a b
def allQ (w0 w1 w2 w3 : Nat) : List (List Int) := (List.range (w0 + 1)).flatMap fun a => full1 w1 w2 w3 a
def pre (w1 w2 w3 a b c d : Nat) : List (List Int) :=
  (List.range a).flatMap (fun a => full1 w1 w2 w3 a) ++ ((List.range b).flatMap (fun b => full2 w2 w3 a b) ++ ((List.range c).flatMap (fun c => full3 w3 a b c) ++ (List.range (d + 1)).map fun (d : Nat) => [(a : Int), (b : Int), (c : Int), (d : Int)]))
section
variable (w0 w1 w2 w3 a b c d : Nat)
theorem pre_d : pre w1 w2 w3 a b c (d + 1) = pre w1 w2 w3 a b c d ++ [[(a : Int), (b : Int), (c : Int), (d : Int) + 1]] := by
  unfold pre
  rw [List.range_succ (n := d + 1), List.map_append]
  simp [List.append_assoc]
theorem pre_c : pre w1 w2 w3 a b (c + 1) 0 = pre w1 w2 w3 a b c w3 ++ [[(a : Int), (b : Int), (c : Int) + 1, 0]] := by
  unfold pre
  rw [List.range_succ (n := c), List.flatMap_append]
  simp [List.append_assoc, full3]
theorem pre_b : pre w1 w2 w3 a (b + 1) 0 0 = pre w1 w2 w3 a b w2 w3 ++ [[(a : Int), (b : Int) + 1, 0, 0]] := by
  unfold pre
  rw [List.range_succ (n := b), List.flatMap_append]
  have h : full2 w2 w3 a b = (List.range w2).flatMap (fun c => full3 w3 a b c) ++ full3 w3 a b w2 := by
    unfold full2
    rw [List.range_succ, List.flatMap_append]
    simp
  simp [List.append_assoc, h, full3]
theorem pre_a : pre w1 w2 w3 (a + 1) 0 0 0 = pre w1 w2 w3 a w1 w2 w3 ++ [[(a : Int) + 1, 0, 0, 0]] := by
  unfold pre
  rw [List.range_succ (n := a), List.flatMap_append]
  have h : ∀ b, full2 w2 w3 a b = (List.range w2).flatMap (fun c => full3 w3 a b c) ++ full3 w3 a b w2 := fun b => by
    unfold full2
    rw [List.range_succ, List.flatMap_append]
    simp
  have h1 : full1 w1 w2 w3 a = (List.range w1).flatMap (fun b => full2 w2 w3 a b) ++ full2 w2 w3 a w1 := by
    unfold full1
    rw [List.range_succ, List.flatMap_append]
    simp
  rw [h w1] at h1
  simp [List.append_assoc, h1, full3]
theorem pre_all : pre w1 w2 w3 w0 w1 w2 w3 = allQ w0 w1 w2 w3 := by
  unfold pre allQ
  rw [List.range_succ (n := w0), List.flatMap_append]
  simp only [List.flatMap_cons, List.flatMap_nil, List.append_nil]
  congr 1
  unfold full1
  rw [List.range_succ (n := w1), List.flatMap_append]
  simp only [List.flatMap_cons, List.flatMap_nil, List.append_nil]
  congr 1
  unfold full2
  rw [List.range_succ (n := w2), List.flatMap_append]
  simp only [List.flatMap_cons, List.flatMap_nil, List.append_nil]
  rfl
theorem pre_zero : pre w1 w2 w3 0 0 0 0 = [[0, 0, 0, 0]] := rfl
end
theorem pre_len4 (w1 w2 w3 a b c d : Nat) : ∀ v ∈ pre w1 w2 w3 a b c d, v.length = 4 := by
  have h3 : ∀ a b c, ∀ v ∈ full3 w3 a b c, v.length = 4 := by
    intro a b c v hv
    unfold full3 at hv
    obtain ⟨d, _, rfl⟩ := List.mem_map.1 hv
    rfl
  have h2 : ∀ a b, ∀ v ∈ full2 w2 w3 a b, v.length = 4 := by
    intro a b v hv
    unfold full2 at hv
    obtain ⟨c, _, hv⟩ := List.mem_flatMap.1 hv
    exact h3 a b c v hv
  have h1 : ∀ a, ∀ v ∈ full1 w1 w2 w3 a, v.length = 4 := by
    intro a v hv
    unfold full1 at hv
    obtain ⟨c, _, hv⟩ := List.mem_flatMap.1 hv
    exact h2 a c v hv
  intro v hv
  unfold pre at hv
  rcases List.mem_append.1 hv with hv | hv
  · obtain ⟨a, _, hv⟩ := List.mem_flatMap.1 hv
    exact h1 a v hv
  · rcases List.mem_append.1 hv with hv | hv
    · obtain ⟨b, _, hv⟩ := List.mem_flatMap.1 hv
      exact h2 a b v hv
    · rcases List.mem_append.1 hv with hv | hv
      · obtain ⟨c, _, hv⟩ := List.mem_flatMap.1 hv
        exact h3 a b c v hv
      · obtain ⟨d, _, rfl⟩ := List.mem_map.1 hv
        rfl
structure N4 where
  a : Nat
  b : Nat
  c : Nat
  d : Nat
def allN (ds : List Dm) (m : Int) : List (List Int) := if goodC ds m = true then allQ (wOf ds 0) (wOf ds 1) (wOf ds 2) (wOf ds 3) else []
/-! ### What a node covers -/
theorem goodAt {ds : List Dm} {m : Int} (g : goodC ds m = true) {v : List Int} (hv : okN v) {i : Nat} (hi : i < 4) : rightAt ds v zero4 i = decide (gI v i ≤ wOf ds i) := by
  have hb := hv.at hi
  unfold byte at hb
  have hz : gI zero4 i = 0 := by
    have : i = 0 ∨ i = 1 ∨ i = 2 ∨ i = 3 := by omega
    rcases this with rfl | rfl | rfl | rfl <;> rfl
  unfold rightAt wOf
  by_cases c : i < ds.length
  · rw [if_pos c, if_pos c, hz]
    have gd := goodC_at g c
    by_cases h : gI v i ≤ ((gD ds i).S.length : Int)
    · have hs : 0 < sizeD (gD ds i).S (gD ds i).U (gI v i) := by
        unfold sizeD
        rw [if_pos ⟨gd, hb.1, h⟩]
        split
        · omega
        · have := good_size gd (i := (gI v i).toNat) (by omega)
          omega
      rw [decide_eq_true h, decide_eq_true hs]
    · have hs : sizeD (gD ds i).S (gD ds i).U (gI v i) = 0 := by
        unfold sizeD
        rw [if_neg (fun c => h c.2.2)]
      rw [decide_eq_false h, hs]
      rfl
  · rw [if_neg c, if_neg c, hz]
    by_cases h : gI v i = 0
    · simp [h]
    · have h' : ¬ gI v i ≤ ((0 : Nat) : Int) := by omega
      rw [decide_eq_false h', decide_eq_false h]
      rfl
theorem goodN_iff {ds : List Dm} {m : Int} (g : goodC ds m = true) {v : List Int} (hv : okN v) : goodN ds m v = true ↔ gI v 0 ≤ wOf ds 0 ∧ gI v 1 ≤ wOf ds 1 ∧ gI v 2 ≤ wOf ds 2 ∧ gI v 3 ≤ wOf ds 3 := by
  unfold goodN rightC
  have hr : List.range 4 = [0, 1, 2, 3] := rfl
  rw [g, hr]
  simp [goodAt g hv]
def coversP (ds : List Dm) (v : List Int) (n : Nat) : List (List Int) := ((List.range n).filter fun i => decide (gI v i < wOf ds i)).map fun i => v.set i (gI v i + 1)
def coversN (ds : List Dm) (m : Int) (v : List Int) : List (List Int) := if goodN ds m v = true then coversP ds v ds.length else []
theorem coversP_succ (ds : List Dm) (v : List Int) (i : Nat) : coversP ds v (i + 1) = if gI v i < wOf ds i then coversP ds v i ++ [v.set i (gI v i + 1)] else coversP ds v i := by
  unfold coversP
  rw [List.range_succ, List.filter_append, List.map_append]
  by_cases h : gI v i < wOf ds i <;> simp [h]
theorem coversP_len (ds : List Dm) (v : List Int) (n : Nat) : (coversP ds v n).length ≤ n := by
  unfold coversP
  rw [List.length_map]
  have := List.length_filter_le (fun i => decide (gI v i < wOf ds i)) (List.range n)
  rw [List.length_range] at this
  exact this
theorem coversP_len4 (ds : List Dm) {v : List Int} (hv : v.length = 4) (n : Nat) : ∀ w ∈ coversP ds v n, w.length = 4 := by
  intro w hw
  unfold coversP at hw
  obtain ⟨i, _, rfl⟩ := List.mem_map.1 hw
  rw [List.length_set, hv]
end Go.Proofs.Ytambpbcdnhekbaa
