/- Rows in order: row.Sort. -/
import Derived.Test.YtpohmfihpnineaaRowT
import Derived.Test.YtpohmfihpnineaaPgA
set_option linter.unusedSimpArgs false
set_option linter.unusedVariables false
set_option maxHeartbeats 4000000
set_option maxRecDepth 100000
namespace Go.Proofs.Ytpohmfihpnineaa
open Go.Ev
def ltD (r s : Rw) : Bool := decide (ltR r s)
def srt (l : List Rw) : List Rw := insS ltD l
theorem insL_val (x : WR) : ∀ l : List WR, (insL ltW x l).map Subtype.val = insL ltD x.1 (l.map Subtype.val)
  | [] => rfl
  | y :: r => by
    unfold insL
    rw [List.map_cons]
    have e : ltW y x = ltD y.1 x.1 := rfl
    simp only [e]
    split
    · rw [List.map_cons, insL_val x r]
    · rfl
theorem insS_val : ∀ l : List WR, (insS ltW l).map Subtype.val = insS ltD (l.map Subtype.val)
  | [] => rfl
  | x :: l => by
    show (insL ltW x (insS ltW l)).map Subtype.val = insL ltD x.1 (insS ltD (l.map Subtype.val))
    rw [insL_val, insS_val l]
theorem flat_val (l : List WR) : l.flatMap encW = flatW (l.map Subtype.val) := by
  induction l with
  | nil => rfl
  | cons x l ih => rw [List.flatMap_cons, ih]; rfl
theorem ofL : ∀ {l : List Rw}, okL l → ∃ L : List WR, L.map Subtype.val = l
  | [], _ => ⟨[], rfl⟩
  | r :: l, h => by
    obtain ⟨L, hL⟩ := ofL (l := l) fun x hx => h x (by simp [hx])
    exact ⟨⟨r, h r (by simp)⟩ :: L, by simp [hL]⟩
theorem srt_perm (l : List Rw) : (srt l).Perm l := insS_perm _ _
theorem srt_len (l : List Rw) : (srt l).length = l.length := (srt_perm l).length_eq
theorem srt_ok {l : List Rw} (h : okL l) : okL (srt l) := fun r hr => h r ((srt_perm l).mem_iff.1 hr)
theorem sort_cf {l : List Rw} (hl : okL l) (hn : l.length < 4611686018427387904) : cfT tabS 47 [.own 0 0 0 l.length 6, .fn 48 [] []] [⟨0, .row true 6 (flatW l)⟩] = some (.tup [], [⟨0, .row true 6 (flatW (srt l))⟩]) := by
  obtain ⟨L, rfl⟩ := ofL hl
  refine cfT_ext rfl ?_
  simp only [tabS]
  have hx : tab.ext 47 [.own 0 0 0 (L.map Subtype.val).length 6, .fn 48 [] []] [⟨0, .row true 6 (flatW (L.map Subtype.val))⟩] = none := rfl
  unfold orX
  rw [hx]
  simp only [List.length_map] at hn
  have hd := enc_decW L
  have hv := insS_val L
  rw [flat_val] at hd
  unfold srt
  rw [← hv, ← flat_val (insS ltW L)]
  have hml : (L.map Subtype.val).length = L.length := List.length_map ..
  generalize L.map Subtype.val = m at *
  simp [sortX, hd, hn, hml]
theorem sort_ev {l : List Rw} (hl : okL l) (hn : l.length ≤ 1000000) : cvT tabS 27 [rW l] = some (rW (srt l)) := by
  refine cvTA_R (mf := Mf.f27) rfl rfl (by kernel_rfl) ?_
  simp only [Mf.f27]
  have hcl := callV_clone (M := tabS) (H := [⟨0, .none⟩]) (f := 46) (a := rW l) (fzs := []) (t := 0) (bytes := 24) (sz := 6) (n := l.length) (cs := flatW l) ⟨0, .none⟩ [] rfl
    (fun n cs h1 h2 h3 => by
      have hx : tab.ext 46 [.ro n cs] [] = some (.own 0 2 0 n 6, [⟨2, .row true 6 cs⟩]) := by
        simp only [tab]
        rw [cloneY_ro]
        unfold cloneX
        simp [cloneIds, List.lookup]
        exact ⟨h1, h2, h3⟩
      exact tabS_le _ _ _ _ hx) rfl (by rw [flatW_len]) (by omega) (by omega) rfl rfl (by decide)
  have hs := sort_cf hl (by omega)
  have hlen := flatW_len l
  have hlen2 := flatW_len (srt l)
  rw [srt_len] at hlen2
  have ht : List.take (l.length * 6) (flatW (srt l)) = flatW (srt l) := List.take_of_length_le (by omega)
  have hr : rW (srt l) = .ro l.length (flatW (srt l)) := by unfold rW; rw [srt_len]
  rw [hr]
  have hB : ∀ x ∈ flatW (srt l), ∃ k n, x = AV.int k n := by
    intro x hx
    obtain ⟨r, _, h⟩ := List.mem_flatMap.1 hx
    simp only [rowC, List.mem_cons, List.not_mem_nil, or_false] at h
    rcases h with rfl | rfl | rfl | rfl | rfl | rfl <;> exact ⟨_, _, rfl⟩
  generalize flatW (srt l) = B at *
  simp only [rW] at hcl ⊢
  generalize flatW l = A at *
  generalize l.length = n at *
  have hcs : callV (cfT tabS) [⟨1, .row true 6 A⟩] (.fn 47 [] []) [.own 0 1 0 n 6, .fn 48 [] []] [0] [] [] false = some (.tup [], [(0, ⟨1, .row true 6 B⟩)]) := by
    simp [callV, okIds, mapO, passN, passV, passCell, passObjs, passBody, List.idxOf?, List.findIdx?, List.findIdx?.go, hs, backR, backV, backCell, backObjs, backBody, adopts, freezeAll, AV.flat, AV.flat1, bodyFlat]
    intro x hx
    obtain ⟨k, m, rfl⟩ := hB x hx
    rfl
  simp [beqI, bneI, mm_min2, mm_max2, mm_min3, mm_max3, startE, lkE, lkX, lkE_rest, sx, substE, opVA, objs0, List.replicate, XA_seq, XA_region, XOA_go, goE_someA, opV, ev, putA, layAll, XOA_nil, XA_skip_seq, XA_skip_nil, XOA_gd, goG_tA, goG_uA, binV, bi_add, bi_sub, bi_mul, bi_quo, bi_rem, bi_eql, bi_neq, bi_lss, bi_leq, bi_gtr, bi_geq, bi_shl, bi_shr, bi_and, bi_or, bi_xor, unV, XA_ret_nil, XA_ret_cons, endFA_r, endFA_n, endTA_r, endTA_n, endRA_r, endRA_n, endEA_r, endEA_n, List.take, fltR, resultsA, resAs, resA, XA_block, XA_cond, pickX_t, pickX_f, pickX_b, XA_skip_blk, XA_skip_lp, XA_exit_seq, XA_exit_lp, XA_exit_blk, XA_exit_nil, load1, Ev.loadCells, objCells, bodyCells, setCells, AV.flat, AV.flat1, backR, backV, backCell, mapO, AV.cells, AV.atom, AV.tree, fillV, repeatL, treeCell, freezeAll, eqCells, callV_T, callV_F, passN, passV, passCell, srcCells, sliceBounds, hiB, loB, thenQ_nA, thenQ_xA, thenQ_rA, runK_nA, runK_xA, runK_rA, wrap_i64, wrap_u64, wrap_u32, wrap_u8, wrap_u16, callV_O, okIds, passObjs, passBody, backObjs, backBody, adopts, List.idxOf?, List.findIdx?, List.findIdx?.go, hcl, hcs, hlen2, ht]
end Go.Proofs.Ytpohmfihpnineaa
