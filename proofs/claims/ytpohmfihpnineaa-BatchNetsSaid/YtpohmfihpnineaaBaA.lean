/- The base: what it holds, and a new one. -/
import Derived.Test.YtpohmfihpnineaaPgB
import Derived.Test.YtpohmfihpnineaaPgD
set_option linter.unusedSimpArgs false
set_option linter.unusedVariables false
set_option maxHeartbeats 4000000
set_option maxRecDepth 100000
namespace Go.Proofs.Ytpohmfihpnineaa
open Go.Ev
abbrev Me := Rw × Int × Nat
def encE (e : Me) : List AV × Int × Nat := (rowC e.1, e.2.1, e.2.2)
structure Bs where
  clk : Nat
  es : List Me
  n : Int
  mx : Int
  my : Int
def bV (v k kv : Nat) (ds : List Dm) (m : Int) (S : Bs) : AObj := ⟨v, .var [.ro ds.length (flatD ds), .int .i64 m, .mp k kv, .int .i64 S.n, .int .i64 S.mx, .int .i64 S.my]⟩
def bM (v : Nat) (S : Bs) : AObj := ⟨v, .map S.clk (S.es.map encE)⟩
def bs0 : Bs := ⟨0, [], 0, 0, 0⟩
theorem callV_R {M : Go.Ev.Tab} {H : List AObj} {f : FuncId} {first args caps : List AV} {rp0 : Nat × Nat} {ret : List (Nat × Nat)} {fzs : List Nat} : callV (cfT M) H (.fn f first caps) args [] fzs (rp0 :: ret) true =
    if okIds [] fzs (rp0 :: ret) = true then (mapO (passN H [] fzs (rp0 :: ret)) (first ++ args ++ caps)).bind fun xs => (cfT M f xs []).bind fun p =>
      (backR H p.2 [] (rp0 :: ret) p.1).bind fun r' => (adopts H p.2 [] (rp0 :: ret) (rp0 :: ret)).bind fun ads => (freezeAll H fzs).map fun fr => (r', fr ++ ads) else none := by
  simp only [callV]
  by_cases h : okIds [] fzs (rp0 :: ret) = true
  · simp only [h, if_true, passObjs]
    cases mapO (passN H [] fzs (rp0 :: ret)) (first ++ args ++ caps) with
    | none => rfl
    | some xs =>
      simp only [Option.bind_some]
      cases cfT M f xs [] with
      | none => rfl
      | some p =>
        obtain ⟨r, H1⟩ := p
        simp only [Option.bind_some, backObjs]
        cases backR H H1 [] (rp0 :: ret) r with
        | none => rfl
        | some r' =>
          cases adopts H H1 [] (rp0 :: ret) (rp0 :: ret) with
          | none => rfl
          | some ads => simp
  · simp only [h, if_false]
    rfl
theorem new_cf (ds : List Dm) (m : Int) (hC : okC ds) (g : goodC ds m = true) : cfT tab 50 [.agg [.ro ds.length (flatD ds), .int .i64 m]] [] =
    some (.ptr 2 1 0, [⟨1, .var [.ro ds.length (flatD ds), .int .i64 m]⟩, bM 1 bs0, bV 1 1 1 ds m bs0]) := by
  refine cfTA_R (mf := Mf.f50) rfl rfl (by kernel_rfl) ?_
  simp only [Mf.f50]
  have e1 := sgood_ev ds m hC
  have e2 := Bytes_ev ds m hC
  rw [g] at e1
  have hb : bytesC ds m = bytesG ds m := by unfold bytesC; rw [if_pos g]
  rw [hb] at e2
  have hok := bytesG_ok ds m
  have hl := bytesG_len g
  have e3 := Read_ev (bytesG ds m) ⟨hok, by show (bytesG ds m).length ≤ _; omega⟩
  rw [read_self g] at e3
  simp only [catV] at e3
  simp only [rB] at e2 e3
  generalize (bytesG ds m).map (AV.int .u8) = B at *
  generalize (bytesG ds m).length = L at *
  simp [beqI, bneI, mm_min2, mm_max2, mm_min3, mm_max3, startE, lkE, lkX, lkE_rest, sx, substE, opVA, objs0, List.replicate, XA_seq, XA_region, XOA_go, goE_someA, opV, ev, putA, layAll, XOA_nil, XA_skip_seq, XA_skip_nil, XOA_gd, goG_tA, goG_uA, binV, bi_add, bi_sub, bi_mul, bi_quo, bi_rem, bi_eql, bi_neq, bi_lss, bi_leq, bi_gtr, bi_geq, bi_shl, bi_shr, bi_and, bi_or, bi_xor, unV, XA_ret_nil, XA_ret_cons, endFA_r, endFA_n, endTA_r, endTA_n, endRA_r, endRA_n, endEA_r, endEA_n, List.take, fltR, resultsA, resAs, resA, XA_block, XA_cond, pickX_t, pickX_f, pickX_b, XA_skip_blk, XA_skip_lp, XA_exit_seq, XA_exit_lp, XA_exit_blk, XA_exit_nil, load1, Ev.loadCells, objCells, bodyCells, setCells, AV.flat, AV.flat1, backR, backV, backCell, mapO, AV.cells, AV.atom, AV.tree, fillV, repeatL, treeCell, freezeAll, eqCells, callV_T, callV_F, passN, passV, passCell, srcCells, sliceBounds, hiB, loB, thenQ_nA, thenQ_xA, thenQ_rA, runK_nA, runK_xA, runK_rA, wrap_i64, wrap_u64, wrap_u32, wrap_u8, wrap_u16, e1, e2, e3, bV, bM, bs0]
end Go.Proofs.Ytpohmfihpnineaa
