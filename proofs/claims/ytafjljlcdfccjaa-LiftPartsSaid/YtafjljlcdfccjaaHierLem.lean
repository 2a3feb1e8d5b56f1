/- Lifting, in plain words. -/
import Derived.Test.YtafjljlcdfccjaaHier
set_option linter.unusedSimpArgs false
set_option linter.unusedVariables false
namespace Go.Proofs.Ytafjljlcdfccjaa
open Go.Ev
theorem liftOk_of {S : List Int} {U : List (List Int)} (h : goodD S U = true) {a b m : Int} (h0 : 0 ≤ a) (h1 : a ≤ b) (h2 : b ≤ S.length) (h3 : 0 ≤ m) (h4 : m < sizeD S U a) : liftOk S U a b m = true := by
  have hb : sizeD S U b ≠ 0 := by
    unfold sizeD
    rw [if_pos ⟨h, by omega, h2⟩]
    split
    · omega
    · have := good_size h (i := b.toNat) (by omega)
      omega
  simp [liftOk, h1, hb, h3, h4]
theorem size_pos {S : List Int} {U : List (List Int)} (h : goodD S U = true) {a : Int} (h0 : 0 ≤ a) (h2 : a ≤ S.length) : 1 ≤ sizeD S U a := by
  unfold sizeD
  rw [if_pos ⟨h, h0, h2⟩]
  split
  · omega
  · have := good_size h (i := a.toNat) (by omega)
    omega
theorem liftN_add (U : List (List Int)) (a n : Nat) (m : Int) : ∀ k, liftN U (a + n) (liftN U a m n) k = liftN U a m (n + k)
  | 0 => rfl
  | k + 1 => by
    rw [← Nat.add_assoc n k 1]
    simp only [liftN]
    rw [liftN_add U a n m k, Nat.add_assoc]
theorem liftD_comp {S : List Int} {U : List (List Int)} {a b c : Nat} (m : Int) (h1 : a ≤ b) (h2 : b ≤ c) (h3 : c ≤ S.length) : liftD S U b c (liftD S U a b m) = liftD S U a c m := by
  unfold liftD
  by_cases e : c = S.length
  · rw [if_pos e, if_pos e]
  · rw [if_neg e, if_neg e, if_neg (by omega)]
    have := liftN_add U a (b - a) m (c - b)
    rw [show a + (b - a) = b from by omega, show b - a + (c - b) = c - a from by omega] at this
    exact this
theorem liftD_self {S : List Int} {U : List (List Int)} (h : goodD S U = true) {a : Nat} {m : Int} (h1 : a ≤ S.length) (h2 : 0 ≤ m) (h3 : m < sizeD S U a) : liftD S U a a m = m := by
  unfold liftD
  by_cases e : a = S.length
  · rw [if_pos e]
    rw [e, sizeD_end h] at h3
    omega
  · rw [if_neg e, Nat.sub_self]; rfl
/-- Parted by their images: as many as there are. -/
theorem parts_len (f : Nat → Int) (q : Int → Bool) (N : Nat) : ∀ (l : List Nat), (∀ v ∈ l, 0 ≤ f v ∧ f v < N) →
    ((((List.range N).filter fun (c : Nat) => q c).map fun (c : Nat) => (l.filter fun v => decide (f v = c)).length).sum) = (l.filter fun v => q (f v)).length
  | [], _ => by
    have : ∀ (r : List Nat), (r.map fun _ => 0).sum = 0 := fun r => by induction r with
      | nil => rfl
      | cons a r ih => rw [List.map_cons, List.sum_cons, ih]
    simpa using this _
  | v :: l, h => by
    have ih := parts_len f q N l fun w hw => h w (by simp [hw])
    obtain ⟨h0, h1⟩ := h v (by simp)
    have key : ∀ (r : List Nat), r.Nodup → (r.map fun (c : Nat) => ((v :: l).filter fun w => decide (f w = c)).length).sum = (r.map fun (c : Nat) => (l.filter fun w => decide (f w = c)).length).sum + (if (f v).toNat ∈ r then 1 else 0) := by
      intro r
      induction r with
      | nil => intro _; simp
      | cons c r ihr =>
        intro hn
        rw [List.nodup_cons] at hn
        rw [List.map_cons, List.map_cons, List.sum_cons, List.sum_cons, ihr hn.2]
        by_cases e : f v = c
        · have e2 : (f v).toNat = c := by omega
          have e3 : (f v).toNat ∉ r := by rw [e2]; exact hn.1
          have e4 : (f v).toNat ∈ c :: r := by rw [e2]; simp
          rw [if_neg e3, if_pos e4, List.filter_cons, if_pos (by simp [e])]
          simp; omega
        · have e2 : (f v).toNat ≠ c := by omega
          rw [List.filter_cons, if_neg (by simp [e])]
          by_cases e3 : (f v).toNat ∈ r
          · rw [if_pos e3, if_pos (by simp [e3])]; omega
          · rw [if_neg e3, if_neg (by simp [e2, e3])]; omega
    rw [key _ (List.nodup_range.filter _), ih, List.filter_cons]
    have hm : (f v).toNat ∈ ((List.range N).filter fun (c : Nat) => q c) ↔ q (f v) = true := by
      rw [List.mem_filter, List.mem_range, Int.toNat_of_nonneg h0]
      exact ⟨fun h => h.2, fun h => ⟨by omega, h⟩⟩
    by_cases e : q (f v) = true
    · rw [if_pos (hm.2 e), if_pos e]; rfl
    · rw [if_neg (fun c => e (hm.1 c)), if_neg e]; rfl
theorem underP_mem' (S : List Int) (U : List (List Int)) (a b : Nat) (m : Int) (n : Nat) (x : Int) (h : x ∈ underP S U b m a n) : ∃ k : Nat, x = k ∧ k < n ∧ liftD S U a b k = m := by
  unfold underP at h
  simp only [List.mem_map, List.mem_filter, List.mem_range, decide_eq_true_eq, Int.toNat_natCast] at h
  obtain ⟨k, ⟨h1, h2⟩, rfl⟩ := h
  exact ⟨k, rfl, h1, h2⟩
theorem underP_sorted' (S : List Int) (U : List (List Int)) (a b m : Int) (n : Nat) : (underP S U b m a n).Pairwise (· < ·) := by
  unfold underP
  rw [List.pairwise_map]
  refine List.Pairwise.filter _ ?_
  exact List.pairwise_lt_range.imp fun h => by omega
end Go.Proofs.Ytafjljlcdfccjaa
