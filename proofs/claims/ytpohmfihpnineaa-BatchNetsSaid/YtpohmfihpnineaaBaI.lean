/- The base's laws: how much it may hold. -/
import Derived.Test.YtpohmfihpnineaaBaH
import Derived.Test.YtpohmfihpnineaaBaW
set_option linter.unusedSimpArgs false
set_option linter.unusedVariables false
set_option maxHeartbeats 16000000
set_option maxRecDepth 100000
namespace Go.Proofs.Ytpohmfihpnineaa
open Go.Ev
structure RB (S : Bs) (L : List Rw) : Prop where
  ib : IB S
  p : (expand S.es).Perm L
theorem errL_perm {ds : List Dm} {m : Int} {L K : List Rw} (h : L.Perm K) (del : Bool) (r : Rw) : errL ds m L del r = errL ds m K del r := by
  unfold errL
  rw [massG_perm (List.Perm.cons r h)]
  simp only [h.mem_iff]
theorem nxtL_perm {ds : List Dm} {m : Int} {L K : List Rw} (h : L.Perm K) (del : Bool) (r : Rw) : (nxtL ds m L del r).Perm (nxtL ds m K del r) := by
  unfold nxtL
  rw [errL_perm h]
  split
  · split
    · exact h.erase r
    · exact h.cons r
  · exact h
theorem doS_R (ds : List Dm) (m : Int) {S : Bs} {L : List Rw} (del : Bool) {r : Rw} (h : RB S L) (hr : okW r) : (doS ds m S del r).1 = errL ds m L del r ∧ RB (doS ds m S del r).2 (nxtL ds m L del r) := by
  obtain ⟨h1, h2, h3⟩ := doS_spec ds m del h.ib hr
  exact ⟨h1.trans (errL_perm h.p _ _), h2, h3.trans (nxtL_perm h.p _ _)⟩
theorem rb0 : RB bs0 [] := ⟨ib0, .refl _⟩
theorem RB.mx {S : Bs} {L : List Rw} (h : RB S L) : S.mx = sumX L := h.ib.mx.trans (sumX_perm h.p)
theorem RB.my {S : Bs} {L : List Rw} (h : RB S L) : S.my = sumY L := h.ib.my.trans (sumY_perm h.p)
theorem RB.n {S : Bs} {L : List Rw} (h : RB S L) : S.n = L.length := by rw [h.ib.n, h.p.length_eq]
theorem RB.toE {S : Bs} {L : List Rw} (h : RB S L) (hl : L.length ≤ 1000000) : okE S := h.ib.toE (by rw [h.p.length_eq]; exact hl)
theorem rows_R (ds : List Dm) (m : Int) {S : Bs} {L : List Rw} (h : RB S L) (hl : L.length ≤ 1000000) : ∃ H, cfT tabB 31 [.ptr 0 0 0] [bV 0 1 0 ds m S, bM 0 S] = some (rW (srt L), [bV 0 1 0 ds m S, bM 0 S] ++ H) := by
  have e := rows_cf (c0 := .ro ds.length (flatD ds)) (c1 := .int .i64 m) (c3 := .int .i64 S.n) (c4 := .int .i64 S.mx) (c5 := .int .i64 S.my) rfl (h.ib.toX (by rw [h.p.length_eq]; exact hl))
  rw [srt_same (expand_ok h.ib.ro) h.p] at e
  exact ⟨_, e⟩
end Go.Proofs.Ytpohmfihpnineaa
