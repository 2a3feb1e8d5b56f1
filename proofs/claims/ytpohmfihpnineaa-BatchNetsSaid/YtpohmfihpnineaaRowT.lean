/- Rows in order: the table with the sort by contract. -/
import Derived.Test.YtpohmfihpnineaaSortLay
import Derived.Test.YtpohmfihpnineaaPgA
import Derived.Shelf.SlSortCmp.NoneTotal
set_option linter.unusedSimpArgs false
set_option linter.unusedVariables false
set_option maxHeartbeats 4000000
set_option maxRecDepth 100000
namespace Go.Proofs.Ytpohmfihpnineaa
open Go.Ev
theorem cvF_int {M : Go.Ev.Tab} {f : FuncId} {xs : List AV} {k : IntKind} {n : Int} (h : cvF M f xs = some (.int k n)) : ∃ H1, cfT M f xs [] = some (.int k n, H1) := by
  unfold cvF at h
  obtain ⟨⟨x, H1⟩, h1, h2⟩ := Option.bind_eq_some_iff.1 h
  refine ⟨H1, ?_⟩
  rw [h1]
  simp only at h2
  split at h2
  · cases x <;> simp [backR, backV, backCell, AV.flat, AV.flat1] at * <;> first | exact h2 | (split at h2 <;> simp_all; done)
  · cases h2
instance (r : Rw) : Decidable (okW r) := decidable_of_iff ((0 ≤ r.a ∧ r.a ≤ 255) ∧ (0 ≤ r.b ∧ r.b ≤ 255) ∧ (0 ≤ r.c ∧ r.c ≤ 255) ∧ (0 ≤ r.d ∧ r.d ≤ 255) ∧ (-9223372036854775808 ≤ r.x ∧ r.x ≤ 9223372036854775807) ∧ (-9223372036854775808 ≤ r.y ∧ r.y ≤ 9223372036854775807)) ⟨fun h => ⟨h.1, h.2.1, h.2.2.1, h.2.2.2.1, h.2.2.2.2.1, h.2.2.2.2.2⟩, fun h => ⟨h.a, h.b, h.c, h.d, h.x, h.y⟩⟩
abbrev WR := { r : Rw // okW r }
instance : Inhabited WR := ⟨⟨⟨0, 0, 0, 0, 0, 0⟩, by decide⟩⟩
def encW (r : WR) : List AV := rowC r.1
def decW : List AV → Option (List WR)
  | [] => some []
  | .int .u8 a :: .int .u8 b :: .int .u8 c :: .int .u8 d :: .int .i64 x :: .int .i64 y :: r =>
    if h : okW ⟨a, b, c, d, x, y⟩ then (decW r).map (⟨⟨a, b, c, d, x, y⟩, h⟩ :: ·) else none
  | _ => none
theorem decW_enc : ∀ (cs : List AV) (l : List WR), decW cs = some l → cs = l.flatMap encW := by
  intro cs
  induction cs using decW.induct with
  | case1 => intro l h; simp [decW] at h; subst h; rfl
  | case2 a b c d x y r h ih =>
    intro l hl
    simp only [decW, dif_pos h] at hl
    obtain ⟨l', h1, rfl⟩ := Option.map_eq_some_iff.1 hl
    rw [List.flatMap_cons, ← ih l' h1]
    rfl
  | case3 a b c d x y r h => intro l hl; simp [decW, h] at hl
  | case4 t h1 h2 =>
    intro l hl
    unfold decW at hl
    split at hl
    · exact absurd rfl h1
    · exact absurd rfl (h2 _ _ _ _ _ _ _)
    · cases hl
theorem enc_decW : ∀ l : List WR, decW (l.flatMap encW) = some l
  | [] => rfl
  | ⟨⟨a, b, c, d, x, y⟩, h⟩ :: l => by
    rw [List.flatMap_cons]
    show decW (.int .u8 a :: .int .u8 b :: .int .u8 c :: .int .u8 d :: .int .i64 x :: .int .i64 y :: l.flatMap encW) = _
    simp only [decW, dif_pos h, enc_decW l, Option.map_some]
def ltW (r s : WR) : Bool := decide (ltR r.1 s.1)
theorem swoW : Go.Sort.SWO ltW where
  irrefl x := decide_eq_false (ltR_irrefl x.1)
  trans x y z h1 h2 := decide_eq_true (ltR_trans (of_decide_eq_true h1) (of_decide_eq_true h2))
  ntrans x y z h1 h2 := decide_eq_false (by
    have h1 := of_decide_eq_false h1
    have h2 := of_decide_eq_false h2
    unfold ltR at *
    omega)
theorem triW (r s : WR) (h1 : ltW r s = false) (h2 : ltW s r = false) : r = s := by
  by_cases h : r.1 = s.1
  · exact Subtype.ext h
  · rcases ltR_tri r.2 s.2 h with c | c
    · exact absurd c (of_decide_eq_false h1)
    · exact absurd c (of_decide_eq_false h2)
theorem sortOkW : SortOk Try.prog tab 47 48 6 encW decW ltW where
  hk _ := rfl
  hi r c h := by
    simp only [encW, rowC, List.mem_cons, List.not_mem_nil, or_false] at h
    rcases h with rfl | rfl | rfl | rfl | rfl | rfl <;> exact ⟨_, _, rfl⟩
  hdec := decW_enc
  hO := swoW
  hT := triW
  hcmp := ⟨fun r s => cmpR r.1 s.1, by
    funext r s
    exact decide_eq_decide.2 (cmpR_lt r.1 s.1), fun r s => cvF_int (compare_ev r.1 s.1 r.2 s.2)⟩
  ok := ⟨Try.f47, Try.func47, by decide, rfl⟩
  okg := ⟨Try.f48, Try.func48, by decide, rfl⟩
  zero p cap fv w := AnyF.slices_SortFunc_none Try.sort p cap fv w
  pos encV hk h1 cf hO blk off cap d w eg hcmp hH hblk hsz := AnyQ.slices_SortFunc Try.sort 6 Try.isAgg38 Try.sizeOf38 encV hk h1 cf hO 48 #[] blk off cap d w eg hcmp hH hblk hsz
def tabS : Go.Ev.Tab := ⟨tab.fn, orX tab.ext (sortX 47 48 6 encW decW ltW)⟩
theorem tabS_ok : TabOk Try.prog tabS := ⟨tab_ok.fn, orX_sound tab_ok.ext (sortX_sound tab_ok sortOkW)⟩
theorem tabS_le : Le tab.ext tabS.ext := fun f a H r h => by
  show orX _ _ f a H = _
  unfold orX
  rw [h]
theorem cfS {f : FuncId} {a : List AV} {H : List AObj} {r : AV × List AObj} (h : cfT tab f a H = some r) : cfT tabS f a H = some r := cfT_more tabS_le h
theorem cvFS {f : FuncId} {a : List AV} {r : AV} (h : cvF tab f a = some r) : cvF tabS f a = some r := by
  unfold cvF at h ⊢
  obtain ⟨p, h1, h2⟩ := Option.bind_eq_some_iff.1 h
  rw [cfS h1]
  exact h2
theorem cvTS {f : FuncId} {a : List AV} {r : AV} (h : cvT tab f a = some r) : cvT tabS f a = some r := by
  unfold cvT at h ⊢
  obtain ⟨p, h1, h2⟩ := Option.bind_eq_some_iff.1 h
  rw [cfS h1]
  exact h2
end Go.Proofs.Ytpohmfihpnineaa
