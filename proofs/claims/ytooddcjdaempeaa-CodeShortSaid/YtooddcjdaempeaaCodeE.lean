/- Each number comes back; the number at the beginning of any bytes; any number behind any bytes. -/
import Derived.Test.YtooddcjdaempeaaCodeD
import Derived.Test.YtooddcjdaempeaaCodeTells
set_option linter.unusedSimpArgs false
set_option linter.unusedVariables false
set_option maxHeartbeats 4000000
set_option maxRecDepth 100000
namespace Go.Proofs.Ytooddcjdaempeaa
open Go.Ev
theorem rd_bytes {cs : List AV} (h : RD (.slice (.int .u8)) cs) : ∃ l : List Int, cs = [rB l] ∧ l.length ≤ 9223372036854775807 ∧ okB l := by
  obtain ⟨l, h1, h2, h3⟩ := rd_slice (fun cs h => rd_u8 h) h
  exact ⟨l, h1, h2, h3⟩
theorem rdarg_bytes {a : AV} (h : RDarg (.slice (.int .u8)) a) : ∃ l : List Int, a = rB l ∧ l.length ≤ 9223372036854775807 ∧ okB l := by
  simp only [RDarg, isAggG] at h
  obtain ⟨l, h1, h2⟩ := rd_bytes h
  simp at h1
  exact ⟨l, h1, h2⟩
theorem rdarg_u64 {a : AV} (h : RDarg (.int .u64) a) : ∃ n : Nat, a = .int .u64 n ∧ n < 18446744073709551616 := by
  simp only [RDarg, isAggG] at h
  obtain ⟨n, h1, h2⟩ := rd_u64 h
  unfold inU at h2
  simp at h1
  obtain ⟨k, rfl⟩ := nat_of h2.1
  exact ⟨k, h1, by omega⟩
theorem bytesOf_map (l : List Int) : Ev.bytesOf (l.map (.int .u8)) = some (l.map fun n => UInt8.ofNat n.toNat) := by
  induction l with
  | nil => rfl
  | cons a l ih => simp only [List.map, Ev.bytesOf, ih, Option.map_some]
theorem zag_zig (v : Int) : zagN (zigN v) = v := by
  unfold zagN zigN
  by_cases c : v < 0
  · rw [if_pos c, if_neg (by omega)]; omega
  · rw [if_neg c, if_pos (by omega)]; omega
theorem zig_zag (u : Int) (hu : 0 ≤ u) : zigN (zagN u) = u := by
  unfold zagN zigN
  by_cases c : u % 2 = 0
  · rw [if_pos c, if_neg (by omega)]; omega
  · rw [if_neg c, if_pos (by omega)]; omega
theorem codeBack_ev (v : Int) (u : Nat) (k a b c d : Int) (hv : inI v) (hu : u < 18446744073709551616) (hk : inU32 k) (ha : byte a) (hb : byte b) (hc : byte c) (hd : byte d) :
    cvF tab 8 [.agg [.int .i64 v, .int .u64 u, .int .u32 k, .int .u8 a, .int .u8 b, .int .u8 c, .int .u8 d]] = some (.bool true) := by
  have huU : inU (u : Int) := ⟨by omega, by omega⟩
  have e1 := put_ev [] u (by simp) hu
  have e2 := get_ev (digN u) (digN_ok u) (by have := digN_ten hu; omega)
  have e3 := gv_all u [] hu
  rw [List.append_nil] at e3
  rw [e3] at e2
  have e4 := flip_ev v hv
  have e5 := back_ev (v + 9223372036854775808) (by unfold inI at hv; exact ⟨by omega, by omega⟩)
  have e6 := back_ev u huU
  have e7 := flip_ev ((u : Int) - 9223372036854775808) ⟨by omega, by omega⟩
  have e8 := zig_ev v hv
  have hzg : inU (zigN v) := by unfold inI at hv; unfold zigN; split <;> exact ⟨by omega, by omega⟩
  have e9 := zag_ev (zigN v) hzg
  have e10 := zag_ev u huU
  have hzz : inI (zagN u) := by unfold zagN; split <;> exact ⟨by omega, by omega⟩
  have e11 := zig_ev (zagN u) hzz
  have e12 := key_ev a b c d ha hb hc hd
  have hk4 : inU32 (key4 a b c d) := by unfold byte at *; unfold key4; exact ⟨by omega, by omega⟩
  have e13 := at_ev (key4 a b c d) hk4
  have e14 := at_ev k hk
  unfold inU32 at hk
  have e15 := key_ev (k / 16777216 % 256) (k / 65536 % 256) (k / 256 % 256) (k % 256) ⟨by omega, by omega⟩ ⟨by omega, by omega⟩ ⟨by omega, by omega⟩ ⟨by omega, by omega⟩
  rw [show key4 (k / 16777216 % 256) (k / 65536 % 256) (k / 256 % 256) (k % 256) = k from by unfold key4; omega] at e15
  rw [zag_zig] at e9
  rw [zig_zag _ (by omega)] at e11
  unfold byte at *
  rw [show key4 a b c d / 16777216 % 256 = a from by unfold key4; omega, show key4 a b c d / 65536 % 256 = b from by unfold key4; omega, show key4 a b c d / 256 % 256 = c from by unfold key4; omega, show key4 a b c d % 256 = d from by unfold key4; omega] at e13
  rw [show v + 9223372036854775808 - 9223372036854775808 = v from by omega] at e5
  rw [show (u : Int) - 9223372036854775808 + 9223372036854775808 = u from by omega] at e7
  simp only [rB, List.nil_append, getV] at e1 e2
  simp at e1
  refine cvFA_R (mf := Mf.f8) rfl rfl (by kernel_rfl) ?_
  simp [Mf.f8, beqI, bneI, mm_min2, mm_max2, mm_min3, mm_max3, startE, lkE, lkX, lkE_rest, sx, substE, opVA, objs0, List.replicate, XA_seq, XA_region, XOA_go, goE_someA, opV, ev, putA, layAll, XOA_nil, XA_skip_seq, XA_skip_nil, XOA_gd, goG_tA, goG_uA, binV, bi_add, bi_sub, bi_mul, bi_quo, bi_rem, bi_eql, bi_neq, bi_lss, bi_leq, bi_gtr, bi_geq, bi_shl, bi_shr, bi_and, bi_or, bi_xor, unV, XA_ret_nil, XA_ret_cons, endFA_r, endFA_n, endTA_r, endTA_n, endRA_r, endRA_n, fltR, resultsA, resAs, resA, XA_block, XA_cond, pickX_t, pickX_f, pickX_b, XA_skip_blk, XA_skip_lp, XA_exit_seq, XA_exit_lp, XA_exit_blk, XA_exit_nil, load1, Ev.loadCells, objCells, bodyCells, setCells, AV.flat, AV.flat1, backR, backV, backCell, mapO, AV.cells, AV.atom, AV.tree, fillV, repeatL, treeCell, freezeAll, eqCells, callV_T, callV_F, passV, passCell, srcCells, sliceBounds, hiB, loB, thenQ_nA, thenQ_xA, thenQ_rA, runK_nA, runK_xA, runK_rA, wrap_i64, wrap_u64, wrap_u32, wrap_u8, wrap_u16, e1, e2, e4, e5, e6, e7, e8, e9, e10, e11, e12, e13, e14, e15, wakes_ev]
theorem codeBack_law (l : List AV) (h : RDargs [gAsk] l) : ∃ H1, cfT tab 8 l [] = some (.bool true, H1) := by
  obtain ⟨x, r, rfl, hx, rfl⟩ := h
  obtain ⟨v, u, k, a, b, c, d, rfl, hv, hu, hk, ha, hb, hc, hd⟩ := rdarg_ask hx
  unfold inU at hu
  obtain ⟨u, rfl⟩ := nat_of hu.1
  exact cvF_bool (codeBack_ev v u k a b c d hv (by omega) hk ha hb hc hd)
theorem codeBack_lifted (os : Os) (started : os.Started) (H : Type) (enc : TypeId × Value → H) :
    ReturnsInHanded {} Try.checked os 8 .any (Rows.codeBackSpec.pre6 enc Try.prog Try.f8 Rows.codeBackRow.domain false) (Rows.codeBackSpec.post enc Try.prog Try.f8 false true false false) := by
  refine returnsInHanded_of_change (C := Try.checked) Try.own started (by kernel_rfl) Try.func8
    (ChangeSpec.witness6 (enc := enc) (C := Try.checked) false ⟨#[], #[.agg #[.int .i64 0, .int .u64 0, .int .u32 0, .int .u8 0, .int .u8 0, .int .u8 0, .int .u8 0]], []⟩ 8 (by kernel_rfl) (by kernel_rfl) (by kernel_rfl) (by kernel_rfl)) ?_
  intro W base args ds gs before hval hW hcnd _
  have hval' : ∀ (j : Nat) (t : TypeId) (v : Value), Try.f8.params.toList[j]? = some t → args[j]? = some v → Value.okWide Try.prog W .any base t v := fun j t v h1 h2 => hval j t v (by simpa using h1) h2
  obtain ⟨p, q, hA, hV, hpq, _, _⟩ := id hW
  have hg : gtsB Try.prog [gAsk] Try.f8.params.toList = true := by kernel_rfl
  refine (law_calls' tab_ok hg codeBack_law hval' hA).mono fun e W' ⟨he, hb⟩ => ?_
  subst he
  refine ⟨_, rfl, post_true Try.laidOut (rt := 4) (fun ds h => ?_) rfl (by kernel_rfl) (by kernel_rfl) (by kernel_rfl) hW hb⟩
  match ds, h with
  | [_], _ => rfl
theorem codeBack_holds : Rows.CodeBackSaid :=
  OpenClaim.holds_of_wide 8 Try.f8 rfl rfl rfl rfl rfl rfl rfl ⟨rfl, rfl, rfl, rfl, rfl⟩ rfl rfl rfl rfl rfl (by kernel_rfl) Try.func8 (by kernel_rfl)
    (of_decide_eq_true (by kernel_rfl)) (by unfold Func.isWrapper; first | (rw [if_pos (by decide +kernel)]; kernel_rfl) | (rw [if_neg (by decide +kernel)]; exact ⟨rfl, rfl⟩))
    (fun os started H enc _ => codeBack_lifted os started H enc)
theorem codeNumbers_ev (b : List Int) (u : Nat) (hb : okB b) (hl : b.length ≤ 9223372036854775807) (hu : u < 18446744073709551616) : cvF tab 4 [rB b, .int .u64 u] = some (.bool true) := by
  refine cvFA_R (mf := Mf.f4) rfl rfl (by kernel_rfl) ?_
  simp only [Mf.f4]
  by_cases c : 3000 < (b.length : Int)
  · simp [beqI, bneI, mm_min2, mm_max2, mm_min3, mm_max3, startE, lkE, lkX, lkE_rest, sx, substE, opVA, objs0, List.replicate, XA_seq, XA_region, XOA_go, goE_someA, opV, ev, putA, layAll, XOA_nil, XA_skip_seq, XA_skip_nil, XOA_gd, goG_tA, goG_uA, binV, bi_add, bi_sub, bi_mul, bi_quo, bi_rem, bi_eql, bi_neq, bi_lss, bi_leq, bi_gtr, bi_geq, bi_shl, bi_shr, bi_and, bi_or, bi_xor, unV, XA_ret_nil, XA_ret_cons, endFA_r, endFA_n, endTA_r, endTA_n, endRA_r, endRA_n, fltR, resultsA, resAs, resA, XA_block, XA_cond, pickX_t, pickX_f, pickX_b, XA_skip_blk, XA_skip_lp, XA_exit_seq, XA_exit_lp, XA_exit_blk, XA_exit_nil, load1, Ev.loadCells, objCells, bodyCells, setCells, AV.flat, AV.flat1, backR, backV, backCell, mapO, AV.cells, AV.atom, AV.tree, fillV, repeatL, treeCell, freezeAll, eqCells, callV_T, callV_F, passV, passCell, srcCells, sliceBounds, hiB, loB, thenQ_nA, thenQ_xA, thenQ_rA, runK_nA, runK_xA, runK_rA, wrap_i64, wrap_u64, wrap_u32, wrap_u8, wrap_u16, rB, c, wakes_ev]
  · have e1 := get_ev b hb hl
    have e2 := rget_ev b hb (by omega)
    have e3 := put_ev b u (by omega) hu
    have e4 := digits_ev u hu
    have e5 := bytes_ev b (digN u) (by omega) (by have := digN_ten hu; omega)
    have hbm := bytesOf_map (b ++ digN u)
    simp only [rB] at e1 e2 e3 e4 e5
    simp at e3 e5 hbm
    cases hg : gv b 0 0 with
    | none =>
      rw [hg] at e1 e2
      simp only [getV, rgetV] at e1 e2
      simp [beqI, bneI, mm_min2, mm_max2, mm_min3, mm_max3, startE, lkE, lkX, lkE_rest, sx, substE, opVA, objs0, List.replicate, XA_seq, XA_region, XOA_go, goE_someA, opV, ev, putA, layAll, XOA_nil, XA_skip_seq, XA_skip_nil, XOA_gd, goG_tA, goG_uA, binV, bi_add, bi_sub, bi_mul, bi_quo, bi_rem, bi_eql, bi_neq, bi_lss, bi_leq, bi_gtr, bi_geq, bi_shl, bi_shr, bi_and, bi_or, bi_xor, unV, XA_ret_nil, XA_ret_cons, endFA_r, endFA_n, endTA_r, endTA_n, endRA_r, endRA_n, fltR, resultsA, resAs, resA, XA_block, XA_cond, pickX_t, pickX_f, pickX_b, XA_skip_blk, XA_skip_lp, XA_exit_seq, XA_exit_lp, XA_exit_blk, XA_exit_nil, load1, Ev.loadCells, objCells, bodyCells, setCells, AV.flat, AV.flat1, backR, backV, backCell, mapO, AV.cells, AV.atom, AV.tree, fillV, repeatL, treeCell, freezeAll, eqCells, callV_T, callV_F, passV, passCell, srcCells, sliceBounds, hiB, loB, thenQ_nA, thenQ_xA, thenQ_rA, runK_nA, runK_xA, runK_rA, wrap_i64, wrap_u64, wrap_u32, wrap_u8, wrap_u16, rB, c, e1, e2, e3, e4, e5, hbm, wakes_ev]
    | some p =>
      obtain ⟨x, n⟩ := p
      rw [hg] at e1 e2
      simp only [getV, rgetV] at e1 e2
      have hn : 0 < n := by
        have : ∀ (l : List Int) (i : Nat) (a : Int), gv l i a = some (x, n) → 0 < n := by
          intro l
          induction l with
          | nil => intro i a h; simp [gv] at h
          | cons c r ih =>
            intro i a h
            simp only [gv] at h
            split at h
            · cases h
            · split at h
              · exact ih _ _ h
              · split at h
                · cases h
                · cases h; omega
        exact this b 0 0 hg
      simp [beqI, bneI, mm_min2, mm_max2, mm_min3, mm_max3, startE, lkE, lkX, lkE_rest, sx, substE, opVA, objs0, List.replicate, XA_seq, XA_region, XOA_go, goE_someA, opV, ev, putA, layAll, XOA_nil, XA_skip_seq, XA_skip_nil, XOA_gd, goG_tA, goG_uA, binV, bi_add, bi_sub, bi_mul, bi_quo, bi_rem, bi_eql, bi_neq, bi_lss, bi_leq, bi_gtr, bi_geq, bi_shl, bi_shr, bi_and, bi_or, bi_xor, unV, XA_ret_nil, XA_ret_cons, endFA_r, endFA_n, endTA_r, endTA_n, endRA_r, endRA_n, fltR, resultsA, resAs, resA, XA_block, XA_cond, pickX_t, pickX_f, pickX_b, XA_skip_blk, XA_skip_lp, XA_exit_seq, XA_exit_lp, XA_exit_blk, XA_exit_nil, load1, Ev.loadCells, objCells, bodyCells, setCells, AV.flat, AV.flat1, backR, backV, backCell, mapO, AV.cells, AV.atom, AV.tree, fillV, repeatL, treeCell, freezeAll, eqCells, callV_T, callV_F, passV, passCell, srcCells, sliceBounds, hiB, loB, thenQ_nA, thenQ_xA, thenQ_rA, runK_nA, runK_xA, runK_rA, wrap_i64, wrap_u64, wrap_u32, wrap_u8, wrap_u16, rB, c, e1, e2, e3, e4, e5, hbm, hn, wakes_ev]
theorem codeNumbers_law (l : List AV) (h : RDargs [.slice (.int .u8), .int .u64] l) : ∃ H1, cfT tab 4 l [] = some (.bool true, H1) := by
  obtain ⟨x, r, rfl, hx, y, r, rfl, hy, rfl⟩ := h
  obtain ⟨b, rfl, hl, hb⟩ := rdarg_bytes hx
  obtain ⟨u, rfl, hu⟩ := rdarg_u64 hy
  exact cvF_bool (codeNumbers_ev b u hb hl hu)
theorem codeNumbers_lifted (os : Os) (started : os.Started) (H : Type) (enc : TypeId × Value → H) :
    ReturnsInHanded {} Try.checked os 4 .any (Rows.codeNumbersSpec.pre6 enc Try.prog Try.f4 Rows.codeNumbersRow.domain false) (Rows.codeNumbersSpec.post enc Try.prog Try.f4 false true false false) := by
  refine returnsInHanded_of_change (C := Try.checked) Try.own started (by kernel_rfl) Try.func4
    (ChangeSpec.witness6 (enc := enc) (C := Try.checked) false ⟨#[], #[.slice none 0 0, .int .u64 0], []⟩ 8 (by kernel_rfl) (by kernel_rfl) (by kernel_rfl) (by kernel_rfl)) ?_
  intro W base args ds gs before hval hW hcnd _
  have hval' : ∀ (j : Nat) (t : TypeId) (v : Value), Try.f4.params.toList[j]? = some t → args[j]? = some v → Value.okWide Try.prog W .any base t v := fun j t v h1 h2 => hval j t v (by simpa using h1) h2
  obtain ⟨p, q, hA, hV, hpq, _, _⟩ := id hW
  have hg : gtsB Try.prog [.slice (.int .u8), .int .u64] Try.f4.params.toList = true := by kernel_rfl
  refine (law_calls' tab_ok hg codeNumbers_law hval' hA).mono fun e W' ⟨he, hb⟩ => ?_
  subst he
  refine ⟨_, rfl, post_true Try.laidOut (rt := 4) (fun ds h => ?_) rfl (by kernel_rfl) (by kernel_rfl) (by kernel_rfl) hW hb⟩
  match ds, h with
  | [_, _], _ => rfl
theorem codeNumbers_holds : Rows.CodeNumbersSaid :=
  OpenClaim.holds_of_wide 4 Try.f4 rfl rfl rfl rfl rfl rfl rfl ⟨rfl, rfl, rfl, rfl, rfl⟩ rfl rfl rfl rfl rfl (by kernel_rfl) Try.func4 (by kernel_rfl)
    (of_decide_eq_true (by kernel_rfl)) (by unfold Func.isWrapper; first | (rw [if_pos (by decide +kernel)]; kernel_rfl) | (rw [if_neg (by decide +kernel)]; exact ⟨rfl, rfl⟩))
    (fun os started H enc _ => codeNumbers_lifted os started H enc)
end Go.Proofs.Ytooddcjdaempeaa
