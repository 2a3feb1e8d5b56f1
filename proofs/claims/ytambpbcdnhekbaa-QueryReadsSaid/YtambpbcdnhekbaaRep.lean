/- Reading of many things, one behind the other. -/
import Derived.Test.YtambpbcdnhekbaaCodeF
set_option linter.unusedSimpArgs false
set_option linter.unusedVariables false
set_option maxHeartbeats 4000000
set_option maxRecDepth 100000
namespace Go.Proofs.Ytambpbcdnhekbaa
open Go.Ev
abbrev RS := List Int × Bool
def rep {α : Type} (st : Bool → Bool) (f : α × RS → α × RS) : Nat → α × RS → α × RS
  | 0, s => s
  | n + 1, s => if st s.2.2 = true then s else rep st f n (f s)
theorem rep_mono {α : Type} {st : Bool → Bool} {f : α × RS → α × RS} (hm : ∀ s, (f s).2.2 = false → s.2.2 = false) : ∀ (n : Nat) (s : α × RS), (rep st f n s).2.2 = false → s.2.2 = false
  | 0, s, he => he
  | n + 1, s, he => by
    simp only [rep] at he
    by_cases c : st s.2.2 = true
    · rw [if_pos c] at he; exact he
    · rw [if_neg c] at he
      exact hm s (rep_mono hm n (f s) he)
theorem rep_sound {α β : Type} {st : Bool → Bool} {f : (List α × RS) → (List α × RS)} (hst : st false = false) (hm : ∀ s, (f s).2.2 = false → s.2.2 = false)
    (w : α → List Int) (P : Nat → α → Prop) (hf : ∀ l b bad, okB b → (f (l, b, bad)).2.2 = false → ∃ x b', f (l, b, bad) = (l ++ [x], b', false) ∧ b = w x ++ b' ∧ P l.length x) :
    ∀ (n : Nat) (l : List α) (b : List Int) (bad : Bool), okB b → (rep st f n (l, b, bad)).2.2 = false →
      ∃ xs b', rep st f n (l, b, bad) = (l ++ xs, b', false) ∧ xs.length = n ∧ b = xs.flatMap w ++ b' ∧ okB b' ∧ ∀ i (h : i < xs.length), P (l.length + i) xs[i]
  | 0, l, b, bad, hb, he => by
    simp only [rep] at he ⊢
    subst he
    exact ⟨[], b, by simp, rfl, by simp, hb, fun i h => absurd h (Nat.not_lt_zero i)⟩
  | n + 1, l, b, bad, hb, he => by
    have hbad := rep_mono hm (n + 1) (l, b, bad) he
    simp only [rep] at he ⊢
    have c : ¬ st (l, b, bad).2.2 = true := by rw [hbad, hst]; decide
    rw [if_neg c] at he ⊢
    obtain ⟨x, b', h1, h2, h3⟩ := hf l b bad hb (rep_mono hm n _ he)
    rw [h1] at he ⊢
    have hb' : okB b' := fun y hy => hb y (by rw [h2]; simp [hy])
    obtain ⟨xs, b'', h4, h5, h6, h7, h8⟩ := rep_sound (β := β) hst hm w P hf n (l ++ [x]) b' false hb' he
    refine ⟨x :: xs, b'', by rw [h4]; simp, by simp [h5], by rw [h2, h6]; simp, h7, ?_⟩
    intro i hi
    cases i with
    | zero => exact h3
    | succ i =>
      have := h8 i (by simpa using hi)
      simp only [List.length_append, List.length_cons, List.length_nil] at this
      rw [show l.length + (i + 1) = l.length + (0 + 1) + i from by omega]
      exact this
theorem rep_full {α : Type} {st : Bool → Bool} {f : (List α × RS) → (List α × RS)} (hst : st false = false)
    (w : α → List Int) (P : Nat → α → Prop) (hf : ∀ l x r, P l.length x → f (l, w x ++ r, false) = (l ++ [x], r, false)) :
    ∀ (xs : List α) (l : List α) (r : List Int), (∀ i (h : i < xs.length), P (l.length + i) xs[i]) → rep st f xs.length (l, xs.flatMap w ++ r, false) = (l ++ xs, r, false)
  | [], l, r, _ => by simp [rep]
  | x :: xs, l, r, h => by
    simp only [List.length_cons, rep, hst, List.flatMap_cons, List.append_assoc]
    rw [if_neg (by decide), hf l x _ (by have := h 0 (by simp); simpa using this), rep_full hst w P hf xs (l ++ [x]) r (fun i hi => by
      have := h (i + 1) (by simpa using hi)
      simp only [List.length_append, List.length_cons, List.length_nil]
      rw [show l.length + (0 + 1) + i = l.length + (i + 1) from by omega]
      exact this)]
    simp
theorem rep_snoc {α : Type} (st : Bool → Bool) (f : α × RS → α × RS) : ∀ (n : Nat) (s : α × RS), rep st f (n + 1) s = if st (rep st f n s).2.2 = true then rep st f n s else f (rep st f n s)
  | 0, s => rfl
  | n + 1, s => by
    by_cases c : st s.2.2 = true
    · rw [show rep st f (n + 1 + 1) s = s from by simp [rep, c], show rep st f (n + 1) s = s from by simp [rep, c], if_pos c]
    · rw [show rep st f (n + 1 + 1) s = rep st f (n + 1) (f s) from by simp [rep, c], show rep st f (n + 1) s = rep st f n (f s) from by simp [rep, c]]
      exact rep_snoc st f n (f s)
theorem rep_inv {α : Type} {st : Bool → Bool} {f : α × RS → α × RS} (P : Nat → α × RS → Prop) (hs : ∀ i s, P i s → P (i + 1) (f s)) (hk : ∀ i s, st s.2.2 = true → P i s → P (i + 1) s) {s : α × RS} (h0 : P 0 s) : ∀ n, P n (rep st f n s)
  | 0 => h0
  | n + 1 => by
    have h := rep_inv P hs hk h0 n
    rw [rep_snoc]
    by_cases c : st (rep st f n s).2.2 = true
    · rw [if_pos c]; exact hk n _ c h
    · rw [if_neg c]; exact hs n _ h
def okS (s : RS) : Prop := okB s.1 ∧ s.1.length ≤ 1000000
theorem okS.drop {b : List Int} {bad : Bool} (h : okS (b, bad)) (n : Nat) (bad' : Bool) : okS (b.drop n, bad') := ⟨fun x hx => h.1 x (List.mem_of_mem_drop hx), by have := h.2; simp only [List.length_drop] at *; omega⟩
theorem okS.same {b : List Int} {bad : Bool} (h : okS (b, bad)) (bad' : Bool) : okS (b, bad') := ⟨h.1, h.2⟩
theorem rep_len {α : Type} {f : List α × RS → List α × RS} (hf : ∀ s, (f s).1.length = s.1.length + 1) (s : List α × RS) (h0 : s.1.length = 0) (n : Nat) : (rep (fun _ => false) f n s).1.length = n :=
  rep_inv (fun (n : Nat) (s : List α × RS) => s.1.length = n) (fun i s h => by rw [hf, h]) (fun i s c _ => by simp at c) h0 n
theorem rep_stuck {α : Type} {st : Bool → Bool} {f : α × RS → α × RS} {s : α × RS} {i : Nat} (h : st (rep st f i s).2.2 = true) : ∀ n, i ≤ n → rep st f n s = rep st f i s := by
  intro n hn
  induction n with
  | zero => rw [show i = 0 from by omega]
  | succ n ih =>
    by_cases e : i = n + 1
    · rw [e]
    · have := ih (by omega)
      rw [rep_snoc, this, if_pos h]
def stS : Bool → Bool := fun _ => false
def stR : Bool → Bool := fun b => b
theorem repR_succ {α : Type} {f : α × RS → α × RS} {s : α × RS} {i : Nat} (h : ¬ (rep stR f i s).2.2 = true) : rep stR f (i + 1) s = f (rep stR f i s) := by
  rw [rep_snoc]; exact if_neg h
end Go.Proofs.Ytambpbcdnhekbaa
