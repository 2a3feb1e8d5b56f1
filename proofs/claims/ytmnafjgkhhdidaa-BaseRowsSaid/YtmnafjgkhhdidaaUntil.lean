/- A loop that counts, and may stop ahead of its end. -/
import Derived.Test.YtmnafjgkhhdidaaTab
set_option linter.unusedSimpArgs false
set_option linter.unusedVariables false
set_option maxHeartbeats 4000000
namespace Go.Proofs.Ytmnafjgkhhdidaa
open Go.Ev
theorem XA_until {M : Go.Ev.Tab} {m : Nat} {st : StA} {Q : MExit → StA → Prop} {k : List Kt} {lv ids : List Nat} {c : MCode} (S : Nat → StA) (J : Nat → Prop) (stop : Nat → Prop) (n x0 : Nat) (hx : x0 ≤ n) (h0 : normA m lv ids st = some (S x0)) (hJ : J x0)
    (hstep : ∀ i, x0 ≤ i → i < n → ¬ stop i → J i → XA M m c [] (S i) (thenQA (fun s => normA m lv ids s = some (S (i + 1)) ∧ J (i + 1)) (runKA M m k Q)))
    (hlast : ∀ i, x0 ≤ i → i ≤ n → (i = n ∨ stop i) → J i → XA M m c [] (S i) (thenQA (fun _ => False) (runKA M m k Q))) : XA M m (.loop lv ids c) k st Q := by
  refine XA_loop S (fun i => x0 ≤ i ∧ i ≤ n ∧ J i) (fun i => n - i) x0 h0 ⟨Nat.le_refl _, hx, hJ⟩ fun i ⟨h1, h2, h3⟩ => ?_
  by_cases e : i = n ∨ stop i
  · refine WA.mono (hlast i h1 h2 e h3) fun ex s h => ?_
    cases ex with
    | normal => exact h.elim
    | exit j => exact h
    | ret => exact h
  · refine WA.mono (hstep i h1 (by omega) (fun h => e (.inr h)) h3) fun ex s h => ?_
    cases ex with
    | normal => exact ⟨i + 1, h.1, ⟨by omega, by omega, h.2⟩, by omega⟩
    | exit j => exact h
    | ret => exact h
end Go.Proofs.Ytmnafjgkhhdidaa
