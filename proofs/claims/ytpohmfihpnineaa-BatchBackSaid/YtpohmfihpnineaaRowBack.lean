/- A row is read as it was written, whatever is behind it; cut off it is none; the row of any bytes, or none. -/
import Derived.Test.YtpohmfihpnineaaRowL
import Derived.Test.YtpohmfihpnineaaRowCom
set_option linter.unusedSimpArgs false
set_option linter.unusedVariables false
set_option maxHeartbeats 4000000
set_option maxRecDepth 100000
namespace Go.Proofs.Ytpohmfihpnineaa
open Go.Ev
theorem zag_zig' (v : Int) (hv : inI v) : zagN (zigK v : Int) = v := by
  rw [← (zigK_eq hv).1]
  unfold zagN zigN
  split <;> split <;> omega
theorem readW_self {r : Rw} (hr : okW r) (more : List Int) : readW (rowB r ++ more) = some (r, (rowB r).length) := by
  have e1 := gv_all (zigK r.x) (digN (zigK r.y) ++ more) (zigK_eq hr.x).2
  have e2 := gv_all (zigK r.y) more (zigK_eq hr.y).2
  unfold rowB readW
  simp only [List.cons_append, List.nil_append, List.append_assoc, e1, List.drop_left, e2, zag_zig' _ hr.x, zag_zig' _ hr.y]
  simp
  omega
theorem readW_pre {b : List Int} (hb : okB b) {r : Rw} {n : Nat} (h : readW b = some (r, n)) (more : List Int) : readW (b ++ more) = some (r, n) ∧ n ≤ b.length := by
  unfold readW at h
  split at h
  · rename_i p q s t l
    have hok : okB l := fun x hx => hb x (by simp [hx])
    split at h
    · rename_i u k e1
      split at h
      · rename_i v m e2
        cases h
        have h1 := gv_inv0 hok e1
        have h2 := gv_inv0 (okB_drop hok k) e2
        have b1 := gv_inU hok e1
        have b2 := gv_inU (okB_drop hok k) e2
        have l1 := gv_nn hok e1
        have l2 := gv_nn (okB_drop hok k) e2
        rw [List.length_drop] at l2
        have hk : k = (digN u.toNat).length := by
          have := congrArg List.length h1.2
          simp only [List.length_append, List.length_drop] at this
          omega
        unfold inU at b1 b2
        have f1 := gv_all u.toNat (l.drop k ++ more) (by omega)
        rw [← List.append_assoc, ← h1.2, Int.toNat_of_nonneg h1.1, ← hk] at f1
        have f2 := gv_all v.toNat ((l.drop k).drop m ++ more) (by omega)
        have hm : m = (digN v.toNat).length := by
          have := congrArg List.length h2.2
          simp only [List.length_append, List.length_drop] at this
          omega
        rw [← List.append_assoc, ← h2.2, Int.toNat_of_nonneg h2.1, ← hm] at f2
        refine ⟨?_, by simp only [List.length_cons]; omega⟩
        unfold readW
        simp only [List.cons_append, f1]
        rw [List.drop_append_of_le_length l1.2]
        simp only [f2]
      · cases h
    · cases h
  · cases h
theorem readW_cut {r : Rw} (hr : okW r) (k : Nat) (hk : k < (rowB r).length) : readW ((rowB r).take k) = none := by
  cases e : readW ((rowB r).take k) with
  | none => rfl
  | some p =>
    obtain ⟨r2, n⟩ := p
    have h := readW_pre (fun x hx => rowB_ok hr x (List.mem_of_mem_take hx)) e ((rowB r).drop k)
    rw [List.take_append_drop] at h
    have h2 := readW_self hr []
    rw [List.append_nil, h.1] at h2
    simp at h2
    have h3 := h.2
    rw [List.length_take] at h3
    omega
theorem bytesOfR_map (l : List Int) : Ev.bytesOf (l.map (.int .u8)) = some (l.map fun n => UInt8.ofNat n.toNat) := by
  induction l with
  | nil => rfl
  | cons a l ih => simp only [List.map, Ev.bytesOf, ih, Option.map_some]
end Go.Proofs.Ytpohmfihpnineaa
