/- Numbers off bytes: what was read was written so. -/
import Derived.Test.YtmnafjgkhhdidaaCodeD
set_option linter.unusedSimpArgs false
set_option linter.unusedVariables false
set_option maxHeartbeats 4000000
set_option maxRecDepth 100000
namespace Go.Proofs.Ytmnafjgkhhdidaa
open Go.Ev
theorem gv_inv : ∀ (l : List Int) (i : Nat) (a v : Int) (n : Nat), okB l → gv l i a = some (v, n) →
    ∃ w : Nat, (0 < i → 0 < w) ∧ v = a + w * 128 ^ i ∧ n = i + (digN w).length ∧ l = digN w ++ l.drop (n - i)
  | [], i, a, v, n, _, h => by simp [gv] at h
  | c :: r, i, a, v, n, hb, h => by
    have hc := hb c (by simp)
    unfold byte at hc
    simp only [gv] at h
    split at h
    · cases h
    · split at h
      · rename_i h128
        obtain ⟨w, h1, h2, h3, h4⟩ := gv_inv r (i + 1) _ v n (fun x hx => hb x (by simp [hx])) h
        have hw : 0 < w := h1 (by omega)
        refine ⟨(c % 128).toNat + 128 * w, fun _ => by omega, ?_, ?_, ?_⟩
        · rw [h2, Int.pow_succ]
          have e : (((c % 128).toNat + 128 * w : Nat) : Int) = c % 128 + 128 * w := by omega
          rw [e, Int.add_mul, Int.add_assoc, Int.mul_comm (128 : Int) w, Int.mul_assoc, Int.mul_comm (128 : Int)]
        · rw [digN_high (show ¬ (c % 128).toNat + 128 * w < 128 by omega), List.length_cons, show ((c % 128).toNat + 128 * w) / 128 = w from by omega]
          omega
        · rw [digN_high (show ¬ (c % 128).toNat + 128 * w < 128 by omega), show ((c % 128).toNat + 128 * w) / 128 = w from by omega]
          rw [show n - i = (n - (i + 1)) + 1 from by omega, List.drop_succ_cons, List.cons_append, ← h4]
          congr 1
          omega
      · split at h
        · cases h
        · rename_i h10 h128 hz
          cases h
          refine ⟨c.toNat, fun h0 => by omega, by rw [Int.toNat_of_nonneg hc.1], ?_, ?_⟩
          · rw [digN_low (by omega)]; rfl
          · rw [digN_low (by omega), show i + 1 - i = 1 from by omega]
            simp
            omega
theorem gv_inv0 {l : List Int} {v : Int} {n : Nat} (hb : okB l) (h : gv l 0 0 = some (v, n)) : 0 ≤ v ∧ l = digN v.toNat ++ l.drop n := by
  obtain ⟨w, _, h2, h3, h4⟩ := gv_inv l 0 0 v n hb h
  simp at h2 h3
  subst h2
  refine ⟨by omega, ?_⟩
  simpa using h4
theorem gv_le : ∀ (l : List Int) (i : Nat) (a v : Int) (n : Nat), gv l i a = some (v, n) → n ≤ i + l.length ∧ i < n
  | [], i, a, v, n, h => by simp [gv] at h
  | c :: r, i, a, v, n, h => by
    simp only [gv] at h
    split at h
    · cases h
    · split at h
      · have := gv_le r (i + 1) _ v n h
        simp only [List.length_cons]; omega
      · split at h
        · cases h
        · cases h; simp
theorem gv_nn {b : List Int} {u : Int} {n : Nat} (hb : okB b) (h : gv b 0 0 = some (u, n)) : 0 ≤ u ∧ n ≤ b.length := by
  have h1 := (gv_inv0 hb h).1
  have h2 := (gv_le b 0 0 u n h).1
  exact ⟨h1, by omega⟩
theorem rB_drop (b : List Int) (n : Nat) (h : n ≤ b.length) : AV.ro (b.length - n) (((b.map (AV.int .u8)).drop n).take (b.length - n)) = rB (b.drop n) := by
  unfold rB
  rw [List.length_drop, List.map_drop, List.take_of_length_le (by simp)]
end Go.Proofs.Ytmnafjgkhhdidaa
