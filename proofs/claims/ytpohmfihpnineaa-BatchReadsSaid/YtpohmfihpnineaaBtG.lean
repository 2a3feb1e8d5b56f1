/- Batches of bytes: the plain laws. -/
import Derived.Test.YtpohmfihpnineaaBtF
set_option linter.unusedSimpArgs false
set_option linter.unusedVariables false
set_option maxHeartbeats 4000000
set_option maxRecDepth 100000
namespace Go.Proofs.Ytpohmfihpnineaa
open Go.Ev
def readsC : Nat → List Int → Option (List Ch)
  | 0, [] => some []
  | 0, _ :: _ => none
  | _ + 1, [] => none
  | n + 1, d :: b => if 1 < d then none else match readW b with
    | some (r, k) => (readsC n (b.drop k)).map ((decide (d = 1), r) :: ·)
    | none => none
def readBat (b : List Int) : Option (List Ch) := match gv b 0 0 with
  | some (u, n) => if ((b.drop n).length : Int) < u then none else readsC u.toNat (b.drop n)
  | none => none
theorem reads_len : ∀ (n : Nat) (b : List Int) (l : List Ch), readsC n b = some l → n ≤ b.length ∧ l.length = n
  | 0, [], l, h => by simp [readsC] at h; subst h; simp
  | 0, _ :: _, l, h => by simp [readsC] at h
  | n + 1, [], l, h => by simp [readsC] at h
  | n + 1, d :: b, l, h => by
    simp only [readsC] at h
    split at h
    · cases h
    · split at h
      · rename_i r k e
        obtain ⟨l', h1, rfl⟩ := Option.map_eq_some_iff.1 h
        have := reads_len n _ _ h1
        rw [List.length_drop] at this
        simp only [List.length_cons]
        omega
      · cases h
theorem bat_ref (b : List Int) : readBat b = match gv b 0 0 with
    | some (u, n) => if ((b.length : Int)) < u then none else readsC u.toNat (b.drop n)
    | none => none := by
  unfold readBat
  cases gv b 0 0 with
  | none => rfl
  | some p =>
    obtain ⟨u, n⟩ := p
    simp only
    by_cases c : (b.length : Int) < u
    · rw [if_pos c, if_pos (by rw [List.length_drop]; omega)]
    · rw [if_neg c]
      by_cases c2 : ((b.drop n).length : Int) < u
      · rw [if_pos c2]
        cases e : readsC u.toNat (b.drop n) with
        | none => rfl
        | some l => have := (reads_len _ _ _ e).1; omega
      · rw [if_neg c2]
theorem bat_len {b : List Int} {l : List Ch} (h : readBat b = some l) : l.length ≤ b.length := by
  rw [bat_ref] at h
  split at h
  · split at h
    · cases h
    · have := reads_len _ _ _ h
      rw [List.length_drop] at this
      omega
  · cases h
end Go.Proofs.Ytpohmfihpnineaa
