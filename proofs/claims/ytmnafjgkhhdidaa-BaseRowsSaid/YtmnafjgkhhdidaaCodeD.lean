/- The document's Get; what was written is read. -/
import Derived.Test.YtmnafjgkhhdidaaCodeC
set_option linter.unusedSimpArgs false
set_option linter.unusedVariables false
set_option maxHeartbeats 4000000
set_option maxRecDepth 100000
namespace Go.Proofs.Ytmnafjgkhhdidaa
open Go.Ev
theorem digN_ok : ∀ (u : Nat), okB (digN u) := by
  intro u
  induction u using Nat.strongRecOn with
  | _ u ih =>
    intro c hc
    by_cases h : u < 128
    · rw [digN_low h] at hc
      simp at hc
      subst hc
      exact ⟨by omega, by omega⟩
    · rw [digN_high h] at hc
      rcases List.mem_cons.1 hc with rfl | hc
      · exact ⟨by omega, by omega⟩
      · exact ih (u / 128) (by omega) c hc
theorem gv_dig : ∀ (u i : Nat) (a : Int) (r : List Int), i ≤ 9 → (0 < i → 0 < u) → u * 128 ^ i < 18446744073709551616 → gv (digN u ++ r) i a = some (a + u * 128 ^ i, i + (digN u).length) := by
  intro u
  induction u using Nat.strongRecOn with
  | _ u ih =>
    intro i a r hi h0 hlt
    have hi10 : ¬ i = 10 := by omega
    by_cases h : u < 128
    · rw [digN_low h]
      have c1 : ¬ (128 : Int) ≤ (u : Int) := by omega
      have c2 : ¬ ((i = 9 ∧ 1 < (u : Int)) ∨ (0 < i ∧ (u : Int) = 0)) := by
        rintro (⟨h9, h1⟩ | ⟨h1, h2⟩)
        · subst h9
          have : 2 * 128 ^ 9 ≤ u * 128 ^ 9 := Nat.mul_le_mul_right _ (by omega)
          simp at this hlt
          omega
        · have := h0 h1; omega
      simp only [List.cons_append, List.nil_append, gv, if_neg hi10, if_neg c1, if_neg c2]
      simp
    · rw [digN_high h]
      have c1 : (128 : Int) ≤ ((u % 128 + 128 : Nat) : Int) := by omega
      have hq : u / 128 * 128 ^ (i + 1) ≤ u * 128 ^ i := by
        rw [Nat.pow_succ, Nat.mul_comm (128 ^ i) 128, ← Nat.mul_assoc]
        exact Nat.mul_le_mul_right _ (by omega)
      have hi8 : i ≤ 8 := by
        by_cases c : i ≤ 8
        · exact c
        · have h9 : i = 9 := by omega
          subst h9
          have : 128 * 128 ^ 9 ≤ u * 128 ^ 9 := Nat.mul_le_mul_right _ (by omega)
          simp at this hlt
          omega
      have := ih (u / 128) (by omega) (i + 1) (a + ((u % 128 + 128 : Nat) : Int) % 128 * 128 ^ i) r (by omega) (fun _ => by omega) (by omega)
      simp only [List.cons_append, gv, if_neg hi10, if_pos c1, this]
      have e : ((u % 128 + 128 : Nat) : Int) % 128 = ((u % 128 : Nat) : Int) := by omega
      have e2 : (u : Int) = ((u / 128 : Nat) : Int) * 128 + ((u % 128 : Nat) : Int) := by omega
      rw [e, Int.pow_succ]
      generalize ((u % 128 : Nat) : Int) = y at *
      generalize ((u / 128 : Nat) : Int) = z at *
      rw [e2, List.length_cons]
      have e3 : (z * 128 + y) * 128 ^ i = y * 128 ^ i + z * (128 ^ i * 128) := by
        rw [Int.add_mul, Int.mul_assoc, Int.mul_comm 128 (128 ^ i)]
        omega
      rw [e3]
      simp only [Option.some.injEq, Prod.mk.injEq]
      omega
theorem gv_all (u : Nat) (r : List Int) (hu : u < 18446744073709551616) : gv (digN u ++ r) 0 0 = some ((u : Int), (digN u).length) := by
  have := gv_dig u 0 0 r (by omega) (by omega) (by simpa using hu)
  simpa using this
/-! ### The document's -/
def lowS (b : List Int) : Nat → Int
  | 0 => 0
  | i + 1 => lowS b i + gI b i % 128 * 128 ^ i
theorem lowS_in (b : List Int) : ∀ i, 0 ≤ lowS b i ∧ lowS b i < 128 ^ i
  | 0 => by simp [lowS]
  | i + 1 => by
    obtain ⟨h1, h2⟩ := lowS_in b i
    have hp : (0 : Int) ≤ 128 ^ i := by omega
    have hq2 : gI b i % 128 * 128 ^ i ≤ 127 * 128 ^ i := Int.mul_le_mul_of_nonneg_right (by omega) hp
    have hq3 : 0 ≤ gI b i % 128 * 128 ^ i := Int.mul_nonneg (by omega) hp
    simp only [lowS]
    rw [Int.pow_succ]
    omega
theorem gv_low (b : List Int) : ∀ i, i ≤ b.length → i ≤ 10 → (∀ j, j < i → 128 ≤ gI b j) → gv (b.drop i) i (lowS b i) = gv b 0 0
  | 0, _, _, _ => rfl
  | i + 1, hi, h10, hJ => by
    have ih := gv_low b i (by omega) (by omega) fun j hj => hJ j (by omega)
    have hib : i < b.length := by omega
    have h128 := hJ i (by omega)
    rw [List.drop_eq_getElem_cons hib, ← gI_get _ _ hib] at ih
    rw [← ih]
    have hne : ¬ i = 10 := by omega
    simp [gv, hne, h128, lowS]
def hv (b : List Int) (n : Nat) : Nat → Int
  | 0 => 0
  | k + 1 => hv b n k * 128 + gI b (n - k) % 128
theorem hv_low (b : List Int) (n : Nat) : ∀ k, k ≤ n + 1 → hv b n k * 128 ^ (n + 1 - k) + lowS b (n + 1 - k) = lowS b (n + 1)
  | 0, _ => by simp [hv]
  | k + 1, hk => by
    have ih := hv_low b n k (by omega)
    rw [← ih, show n + 1 - k = (n - k) + 1 from by omega, show n + 1 - (k + 1) = n - k from by omega]
    simp only [hv, lowS]
    rw [Int.pow_succ, Int.add_mul, Int.mul_assoc (hv b n k), Int.mul_comm 128 (128 ^ (n - k))]
    omega
theorem hv_nonneg (b : List Int) (n : Nat) : ∀ k, 0 ≤ hv b n k
  | 0 => by simp [hv]
  | k + 1 => by
    have := hv_nonneg b n k
    simp only [hv]
    omega
theorem hv_le (b : List Int) (n k : Nat) (hk : k ≤ n + 1) : hv b n k ≤ lowS b (n + 1) := by
  have h1 := hv_low b n k hk
  have h2 := (lowS_in b (n + 1 - k)).1
  have h3 := hv_nonneg b n k
  have h4 : (1 : Int) ≤ 128 ^ (n + 1 - k) := by
    rw [pow128]
    have := Nat.one_le_two_pow (n := 7 * (n + 1 - k))
    omega
  have h5 : hv b n k * 1 ≤ hv b n k * 128 ^ (n + 1 - k) := Int.mul_le_mul_of_nonneg_left h4 h3
  omega
/-- What the document's Get tells. -/
def rgetV : Option (Int × Nat) → AV
  | some (u, n) => .tup [.int .u64 u, .int .i64 n]
  | none => .tup [.int .u64 0, .int .i64 0]
end Go.Proofs.Ytmnafjgkhhdidaa
