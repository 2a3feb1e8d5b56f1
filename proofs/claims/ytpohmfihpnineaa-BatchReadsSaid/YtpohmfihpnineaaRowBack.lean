/- A row is read as it was written, whatever is behind it; cut off it is none; the row of any bytes, or none. -/
import Derived.Test.YtpohmfihpnineaaRowL
import Derived.Test.YtpohmfihpnineaaRowCom
set_option linter.unusedSimpArgs false
set_option linter.unusedVariables false
set_option maxHeartbeats 4000000
set_option maxRecDepth 100000
namespace Go.Proofs.Ytpohmfihpnineaa
open Go.Ev
theorem readW_pre {b : List Int} (hb : okB b) {r : Rw} {n : Nat} (h : readW b = some (r, n)) (more : List Int) : readW (b ++ more) = some (r, n) ∧ n ≤ b.length := by
  unfold readW at h
  split at h
  · rename_i p q s t l
    have hok : okB l := fun x hx => hb x (by simp [hx])
    split at h
    · rename_i u k e1
      split at h
      · rename_i v m e2
        cases h
        have h1 := gv_inv0 hok e1
        have h2 := gv_inv0 (okB_drop hok k) e2
        have b1 := gv_inU hok e1
        have b2 := gv_inU (okB_drop hok k) e2
        have l1 := gv_nn hok e1
        have l2 := gv_nn (okB_drop hok k) e2
        rw [List.length_drop] at l2
        have hk : k = (digN u.toNat).length := by
          have := congrArg List.length h1.2
          simp only [List.length_append, List.length_drop] at this
          omega
        unfold inU at b1 b2
        have f1 := gv_all u.toNat (l.drop k ++ more) (by omega)
        rw [← List.append_assoc, ← h1.2, Int.toNat_of_nonneg h1.1, ← hk] at f1
        have f2 := gv_all v.toNat ((l.drop k).drop m ++ more) (by omega)
        have hm : m = (digN v.toNat).length := by
          have := congrArg List.length h2.2
          simp only [List.length_append, List.length_drop] at this
          omega
        rw [← List.append_assoc, ← h2.2, Int.toNat_of_nonneg h2.1, ← hm] at f2
        refine ⟨?_, by simp only [List.length_cons]; omega⟩
        unfold readW
        simp only [List.cons_append, f1]
        rw [List.drop_append_of_le_length l1.2]
        simp only [f2]
      · cases h
    · cases h
  · cases h
theorem readW_ok {b : List Int} (hb : okB b) {r : Rw} {n : Nat} (h : readW b = some (r, n)) : okW r ∧ 0 < n := by
  unfold readW at h
  split at h
  · rename_i p q s t l
    have hok : okB l := fun x hx => hb x (by simp [hx])
    split at h
    · rename_i u k e1
      split at h
      · rename_i v m e2
        cases h
        have b1 := gv_inU hok e1
        have b2 := gv_inU (okB_drop hok k) e2
        unfold inU at b1 b2
        refine ⟨⟨hb p (by simp), hb q (by simp), hb s (by simp), hb t (by simp), ?_, ?_⟩, by omega⟩
        · unfold inI zagN; simp only; split <;> omega
        · unfold inI zagN; simp only; split <;> omega
      · cases h
    · cases h
  · cases h
theorem rd_bytes {cs : List AV} (h : RD (.slice (.int .u8)) cs) : ∃ l : List Int, cs = [rB l] ∧ l.length ≤ 9223372036854775807 ∧ okB l := by
  obtain ⟨l, h1, h2, h3⟩ := rd_slice (fun cs h => rd_u8 h) h
  exact ⟨l, h1, h2, h3⟩
theorem rdarg_bytes {a : AV} (h : RDarg (.slice (.int .u8)) a) : ∃ l : List Int, a = rB l ∧ l.length ≤ 9223372036854775807 ∧ okB l := by
  simp only [RDarg, isAggG] at h
  obtain ⟨l, h1, h2⟩ := rd_bytes h
  simp at h1
  exact ⟨l, h1, h2⟩
end Go.Proofs.Ytpohmfihpnineaa
