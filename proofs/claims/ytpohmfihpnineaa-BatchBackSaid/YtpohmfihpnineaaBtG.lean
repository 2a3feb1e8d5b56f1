/- Batches of bytes: the plain laws. -/
import Derived.Test.YtpohmfihpnineaaBtF
set_option linter.unusedSimpArgs false
set_option linter.unusedVariables false
set_option maxHeartbeats 4000000
set_option maxRecDepth 100000
namespace Go.Proofs.Ytpohmfihpnineaa
open Go.Ev
def readsC : Nat → List Int → Option (List Ch)
  | 0, [] => some []
  | 0, _ :: _ => none
  | _ + 1, [] => none
  | n + 1, d :: b => if 1 < d then none else match readW b with
    | some (r, k) => (readsC n (b.drop k)).map ((decide (d = 1), r) :: ·)
    | none => none
def readBat (b : List Int) : Option (List Ch) := match gv b 0 0 with
  | some (u, n) => if ((b.drop n).length : Int) < u then none else readsC u.toNat (b.drop n)
  | none => none
theorem dB_le (b : Bool) : ¬ 1 < dB b := by unfold dB; split <;> omega
theorem dB_dec (b : Bool) : decide (dB b = 1) = b := by cases b <;> simp [dB]
theorem chsB_cons (c : Ch) (l : List Ch) : chsB (c :: l) = dB c.1 :: (rowB c.2 ++ chsB l) := rfl
theorem reads_self {l : List Ch} (hl : okH l) : readsC l.length (chsB l) = some l := by
  induction l with
  | nil => rfl
  | cons c l ih =>
    rw [chsB_cons]
    simp only [List.length_cons, readsC, if_neg (dB_le c.1), readW_self (hl c (by simp)), List.drop_left, ih fun x hx => hl x (by simp [hx]), Option.map_some, dB_dec]
theorem reads_more {l : List Ch} (hl : okH l) (x : Int) : readsC l.length (chsB l ++ [x]) = none := by
  induction l with
  | nil => rfl
  | cons c l ih =>
    rw [chsB_cons]
    simp only [List.length_cons, List.cons_append, List.append_assoc, readsC, if_neg (dB_le c.1), readW_self (hl c (by simp)), List.drop_left, ih fun x hx => hl x (by simp [hx]), Option.map_none]
theorem reads_less {l : List Ch} (hl : okH l) : ∀ k, k < (chsB l).length → readsC l.length ((chsB l).take k) = none := by
  induction l with
  | nil => intro k h; simp [chsB] at h
  | cons c l ih =>
    intro k h
    rw [chsB_cons] at h ⊢
    cases k with
    | zero => rfl
    | succ k =>
      simp only [List.length_cons, List.take_succ_cons, readsC, if_neg (dB_le c.1)]
      rcases Nat.lt_or_ge k (rowB c.2).length with hk | hk
      · rw [List.take_append_of_le_length (by omega), readW_cut (hl c (by simp)) k hk]
      · have e : (rowB c.2 ++ chsB l).take k = rowB c.2 ++ (chsB l).take (k - (rowB c.2).length) := by
          rw [List.take_append, List.take_of_length_le hk]
        rw [e, readW_self (hl c (by simp))]
        simp only [List.drop_left]
        rw [ih (fun x hx => hl x (by simp [hx]))]
        · rfl
        · simp only [List.length_cons, List.length_append] at h; omega
theorem bat_self {l : List Ch} (hl : okH l) (hn : l.length ≤ 1000000) : readBat (batB l) = some l := by
  unfold readBat batB
  have h := (chsB_len hl).2
  rw [gv_all l.length (chsB l) (by omega)]
  simp only [List.drop_left]
  rw [if_neg (by omega)]
  exact reads_self hl
theorem bat_more {l : List Ch} (hl : okH l) (hn : l.length ≤ 1000000) (x : Int) : readBat (batB l ++ [x]) = none := by
  unfold readBat batB
  rw [List.append_assoc, gv_all l.length _ (by omega)]
  simp only [List.drop_left]
  split
  · rfl
  · exact reads_more hl x
theorem bat_less {l : List Ch} (hl : okH l) (hn : l.length ≤ 1000000) : readBat ((batB l).take ((batB l).length - 1)) = none := by
  have hd := digN_pos l.length
  have h := chsB_len hl
  unfold batB
  cases l with
  | nil =>
    have e : digN ([] : List Ch).length = [0] := digN_low (by simp)
    rw [e]
    rfl
  | cons c l =>
    simp only [List.length_append]
    rw [show (digN (c :: l).length).length + (chsB (c :: l)).length - 1 = (digN (c :: l).length).length + ((chsB (c :: l)).length - 1) by simp only [List.length_cons] at h ⊢; omega]
    rw [List.take_length_add_append]
    unfold readBat
    rw [gv_all (c :: l).length _ (by omega)]
    simp only [List.drop_left]
    split
    · rfl
    · exact reads_less hl _ (by simp only [List.length_cons] at h ⊢; omega)
theorem bat_inj {a b : List Ch} (ha : okH a) (hb : okH b) (h1 : a.length ≤ 1000000) (h2 : b.length ≤ 1000000) : (batB a = batB b) ↔ a = b := by
  refine ⟨fun h => ?_, fun h => h ▸ rfl⟩
  have e1 := bat_self ha h1
  rw [h, bat_self hb h2] at e1
  exact (Option.some.inj e1).symm
end Go.Proofs.Ytpohmfihpnineaa
