/- Plain texts put together: Tab Bits HGood Dims Cat CodeA RowA Meth. -/
import Derived.Test.YtpohmfihpnineaaEvMf
import Derived.Test.YtpohmfihpnineaaRows
import Derived.Test.YtpohmfihpnineaaEvGd
section
set_option linter.unusedSimpArgs false
set_option linter.unusedVariables false
namespace Go.Proofs.Ytpohmfihpnineaa
open Go.Ev
theorem cloneOk_46 : CloneOk 46 Mf.f46 24 6 := by
  constructor
  · intro n cs h0 hl hb hn
    have h1 : ¬ n = 0 := by omega
    have h2 : (0 + n) * 24 ≤ 140737488355328 := by omega
    have h3 : 0 + n < 4611686018427387904 := by omega
    have hl2 := hl
    have hb2 := hb
    try simp at hl2
    try simp at hb2
    simp [evalFun, tab1, Mf.f46, evalCode, runOps, stepOp, wanted, opV, ev, putV, layAll, binV, isNilS, h1, fillV, repeatL, mapO, treeCell, freezeAll, srcCells, hl, hb, hl2, hb2, hn, h2, h3, Ev.results, resVs, resV]
  · kernel_rfl
  · kernel_rfl
theorem cloneOk_53 : CloneOk 53 Mf.f53 1 1 := by
  constructor
  · intro n cs h0 hl hb hn
    have h1 : ¬ n = 0 := by omega
    have h2 : (0 + n) * 1 ≤ 140737488355328 := by omega
    have h3 : 0 + n < 4611686018427387904 := by omega
    have hl2 := hl
    have hb2 := hb
    try simp at hl2
    try simp at hb2
    simp [evalFun, tab1, Mf.f53, evalCode, runOps, stepOp, wanted, opV, ev, putV, layAll, binV, isNilS, h1, fillV, repeatL, mapO, treeCell, freezeAll, srcCells, hl, hb, hl2, hb2, hn, h2, h3, Ev.results, resVs, resV]
  · kernel_rfl
  · kernel_rfl

def cloneIds : List (FuncId × Nat × Nat) := [(46, 24, 6), (53, 1, 1)]
theorem cloneOwn_53 : CloneOwn 53 Mf.f53o 1 1 := by
  intro b cs off n hb h0 hl ht hy hn
  have e : objCells [⟨0, b⟩] 0 0 = some cs := by simp [objCells, hb]
  have e2 : objCells [⟨0, b⟩, ⟨1, .row true 1 []⟩] 0 0 = some cs := by simp [objCells, hb]
  have h1 : ¬ n = 0 := by omega
  have e3 : srcCells [⟨0, b⟩, ⟨1, .row true 1 []⟩] (some 0) 1 (.own 0 0 off n 1) = some (n, (cs.drop off).take (n * 1)) := by
    simp only [srcCells, e2]
    rw [if_pos ⟨trivial, trivial⟩, if_pos hl, if_pos ht]
  have hy2 := hy
  try simp at hy2
  try simp at e3
  simp [evalFun, tab1, Mf.f53o, evalCode, runOps, stepOp, wanted, opV, ev, putV, layAll, binV, isNilS, h1, h0, fillV, repeatL, mapO, freezeAll, e, e2, e3, hy, hy2, hn, Ev.results, resVs, resV]

def ownIds : List (FuncId × Nat × Nat) := [(53, 1, 1)]
def tab : Tab := ⟨fun f => if (cloneIds.lookup f).isSome = true then none else fnTab f, cloneY cloneIds ownIds⟩
theorem clones_ok (f : FuncId) (bytes sz : Nat) (h : cloneIds.lookup f = some (bytes, sz)) : ∃ fn mf, Try.prog.funcs[f]? = some fn ∧ chkFun Try.prog mf fn = true ∧ CloneOk f mf bytes sz := by
  simp only [cloneIds, List.lookup] at h
  split at h
  · rename_i e
    have e := beq_iff_eq.1 e
    subst e
    cases h
    exact ⟨_, Mf.f46, Try.func46, mf46_ok, cloneOk_46⟩
  split at h
  · rename_i e
    have e := beq_iff_eq.1 e
    subst e
    cases h
    exact ⟨_, Mf.f53, Try.func53, mf53_ok, cloneOk_53⟩
  cases h
theorem owns_ok (f : FuncId) (bytes sz : Nat) (h : ownIds.lookup f = some (bytes, sz)) : ∃ fn mf, Try.prog.funcs[f]? = some fn ∧ chkFun Try.prog mf fn = true ∧ CloneOwn f mf bytes sz := by
  simp only [ownIds, List.lookup] at h
  split at h
  · rename_i e
    have e := beq_iff_eq.1 e
    subst e
    cases h
    exact ⟨_, Mf.f53o, Try.func53, mf53o_ok, cloneOwn_53⟩
  cases h
theorem tab_ok : TabOk Try.prog tab where
  fn f mf h := by
    simp only [tab] at h
    split at h
    · cases h
    · exact fnTab_ok f mf h
  ext := cloneY_sound clones_ok owns_ok
theorem Try.own : ownKnob Try.prog.godebug = none := by kernel_rfl
theorem Try.laidOut : laidOutB Try.prog = true := by kernel_rfl
def rI (l : List Int) : AV := .ro l.length (l.map (.int .i64))
def rR (l : List (List Int)) : AV := .ro l.length (l.map rI)
def inI (n : Int) : Prop := -9223372036854775808 ≤ n ∧ n ≤ 9223372036854775807
theorem idxI (l : List Int) (i : Nat) (h : i < l.length) : (List.drop i (l.map (AV.int .i64)))[0]? = some (.int .i64 (l[i])) := by
  simp [h]
theorem idxR (l : List (List Int)) (i : Nat) (h : i < l.length) : (List.drop i (l.map rI))[0]? = some (rI (l[i])) := by
  simp [h]
def gI (l : List Int) (i : Nat) : Int := l.getD i 0
def gR (l : List (List Int)) (i : Nat) : List Int := l.getD i []
theorem gI_get (l : List Int) (i : Nat) (h : i < l.length) : gI l i = l[i] := by
  rw [gI, List.getD_eq_getElem?_getD, List.getElem?_eq_getElem h]; rfl
theorem gR_get (l : List (List Int)) (i : Nat) (h : i < l.length) : gR l i = l[i] := by
  rw [gR, List.getD_eq_getElem?_getD, List.getElem?_eq_getElem h]; rfl
theorem idxI' (l : List Int) (z : Int) (h0 : 0 ≤ z) (h : z < l.length) : (List.drop z.toNat (l.map (AV.int .i64)))[0]? = some (.int .i64 (gI l z.toNat)) := by
  have : z.toNat < l.length := by omega
  rw [idxI l z.toNat this, gI_get _ _ this]
theorem beqI (x y : Int) : (x == y) = decide (x = y) := by
  by_cases h : x = y <;> simp [h]
theorem bneI (x y : Int) : (x != y) = !decide (x = y) := by
  by_cases h : x = y <;> simp [h]
theorem mm_min2 (k : IntKind) (a b : Int) : mmV false [.int k a, .int k b] = some (.int k (min a b)) := by
  simp [mmV, foldMM]; split <;> omega
theorem mm_max2 (k : IntKind) (a b : Int) : mmV true [.int k a, .int k b] = some (.int k (max a b)) := by
  simp [mmV, foldMM]; split <;> omega
theorem mm_min3 (k : IntKind) (a b c : Int) : mmV false [.int k a, .int k b, .int k c] = some (.int k (min (min a b) c)) := by
  simp [mmV, foldMM]; repeat' split
  all_goals omega
theorem mm_max3 (k : IntKind) (a b c : Int) : mmV true [.int k a, .int k b, .int k c] = some (.int k (max (max a b) c)) := by
  simp [mmV, foldMM]; repeat' split
  all_goals omega
theorem wrap_succ (i n : Nat) (h : i < n) (hn : n ≤ 9223372036854775807) : IntKind.i64.wrap ((i : Int) + 1) = ((i + 1 : Nat) : Int) := by
  rw [wrap_i64 (by omega) (by omega)]; simp
end Go.Proofs.Ytpohmfihpnineaa
end
section
set_option linter.unusedSimpArgs false
set_option linter.unusedVariables false
namespace Go.Proofs.Ytpohmfihpnineaa
open Go.Ev
def bAnd (k : IntKind) (x y : Int) : Int := k.wrap ((BitVec.ofInt k.bits x &&& BitVec.ofInt k.bits y).toNat : Int)
def bOr (k : IntKind) (x y : Int) : Int := k.wrap ((BitVec.ofInt k.bits x ||| BitVec.ofInt k.bits y).toNat : Int)
def bXor (k : IntKind) (x y : Int) : Int := k.wrap ((BitVec.ofInt k.bits x ^^^ BitVec.ofInt k.bits y).toNat : Int)
section
variable (k : IntKind) (x y : Int)
theorem bi_add : binInt .add k x k y = some (.int k (k.wrap (x + y))) := by simp [binInt]
theorem bi_sub : binInt .sub k x k y = some (.int k (k.wrap (x - y))) := by simp [binInt]
theorem bi_mul : binInt .mul k x k y = some (.int k (k.wrap (x * y))) := by simp [binInt]
theorem bi_quo : binInt .quo k x k y = if y = 0 then none else some (.int k (k.wrap (x.tdiv y))) := by simp [binInt]
theorem bi_rem : binInt .rem k x k y = if y = 0 then none else some (.int k (x.tmod y)) := by simp [binInt]
theorem bi_eql : binInt .eql k x k y = some (.bool (decide (x = y))) := by simp [binInt, beqI]
theorem bi_neq : binInt .neq k x k y = some (.bool (!decide (x = y))) := by simp [binInt, bneI]
theorem bi_lss : binInt .lss k x k y = some (.bool (decide (x < y))) := by simp [binInt]
theorem bi_leq : binInt .leq k x k y = some (.bool (decide (x ≤ y))) := by simp [binInt]
theorem bi_gtr : binInt .gtr k x k y = some (.bool (decide (y < x))) := by simp [binInt]
theorem bi_geq : binInt .geq k x k y = some (.bool (decide (y ≤ x))) := by simp [binInt]
theorem bi_and : binInt .and k x k y = some (.int k (bAnd k x y)) := by simp [binInt, bAnd]
theorem bi_or : binInt .or k x k y = some (.int k (bOr k x y)) := by simp [binInt, bOr]
theorem bi_xor : binInt .xor k x k y = some (.int k (bXor k x y)) := by simp [binInt, bXor]
theorem bi_shl (k' : IntKind) : binInt .shl k x k' y = if y < 0 then none else some (.int k (k.wrap (x * 2 ^ (min y.toNat k.bits)))) := by simp [binInt]
theorem bi_shr (k' : IntKind) : binInt .shr k x k' y = if y < 0 then none else some (.int k (x.fdiv (2 ^ (min y.toNat k.bits)))) := by simp [binInt]
end
theorem ofInt_nat (w n : Nat) : BitVec.ofInt w (n : Int) = BitVec.ofNat w n := by
  apply BitVec.eq_of_toNat_eq
  simp
theorem and_nat (w a b : Nat) (ha : a < 2 ^ w) (hb : b < 2 ^ w) : (BitVec.ofInt w (a : Int) &&& BitVec.ofInt w (b : Int)).toNat = a &&& b := by
  rw [ofInt_nat, ofInt_nat, BitVec.toNat_and, BitVec.toNat_ofNat, BitVec.toNat_ofNat, Nat.mod_eq_of_lt ha, Nat.mod_eq_of_lt hb]
theorem or_nat (w a b : Nat) (ha : a < 2 ^ w) (hb : b < 2 ^ w) : (BitVec.ofInt w (a : Int) ||| BitVec.ofInt w (b : Int)).toNat = a ||| b := by
  rw [ofInt_nat, ofInt_nat, BitVec.toNat_or, BitVec.toNat_ofNat, BitVec.toNat_ofNat, Nat.mod_eq_of_lt ha, Nat.mod_eq_of_lt hb]
theorem or_add (x b i : Nat) (hb : b < 2 ^ i) : x * 2 ^ i ||| b = x * 2 ^ i + b := by
  rw [Nat.mul_comm]
  exact (Nat.two_pow_add_eq_or_of_lt hb x).symm
theorem and_low (x i : Nat) : x &&& (2 ^ i - 1) = x % 2 ^ i := Nat.and_two_pow_sub_one_eq_mod x i
theorem nat_of {a : Int} (h : 0 ≤ a) : ∃ n : Nat, a = n := ⟨a.toNat, by omega⟩
theorem bin_and_u8 (a : Int) (h0 : 0 ≤ a) (h1 : a ≤ 255) : bAnd .u8 a 127 = a % 128 := by
  unfold bAnd
  obtain ⟨n, rfl⟩ := nat_of h0
  have := and_nat 8 n 127 (by simp; omega) (by decide)
  rw [show (127 : Nat) = 2 ^ 7 - 1 from rfl, and_low] at this
  have e : (BitVec.ofInt IntKind.u8.bits (n : Int) &&& BitVec.ofInt IntKind.u8.bits 127).toNat = n % 2 ^ 7 := this
  rw [e, wrap_u8 (by omega) (by simp; omega)]
  simp
theorem bin_or_u8 (a : Int) (h0 : 0 ≤ a) (h1 : a ≤ 255) : bOr .u8 a 128 = a % 128 + 128 := by
  unfold bOr
  obtain ⟨n, rfl⟩ := nat_of h0
  have := or_nat 8 n 128 (by simp; omega) (by decide)
  have e : (BitVec.ofInt IntKind.u8.bits (n : Int) ||| BitVec.ofInt IntKind.u8.bits 128).toNat = n ||| 128 := this
  have e2 : n ||| 128 = n % 128 + 128 := by
    by_cases c : n < 128
    · have h := or_add 1 n 7 (by simpa using c)
      simp at h
      rw [Nat.or_comm, h, Nat.mod_eq_of_lt c]; omega
    · have h := or_add 1 (n - 128) 7 (by simp; omega)
      simp at h
      have hn : n = 128 ||| (n - 128) := by rw [h]; omega
      have : n % 128 = n - 128 := by omega
      rw [this]
      conv => lhs; rw [hn]
      rw [Nat.or_comm, ← Nat.or_assoc, Nat.or_self, h]; omega
  rw [e, e2, wrap_u8 (by omega) (by omega)]
  simp
theorem bin_or_u32 (x b : Int) (hx : 0 ≤ x) (hx2 : x * 256 ≤ 4294967295) (hb : 0 ≤ b) (hb2 : b ≤ 255) : bOr .u32 (x * 256) b = x * 256 + b := by
  unfold bOr
  obtain ⟨n, rfl⟩ := nat_of hx
  obtain ⟨m, rfl⟩ := nat_of hb
  have := or_nat 32 (n * 256) m (by simp; omega) (by simp; omega)
  have h := or_add n m 8 (by simp; omega)
  have e : (BitVec.ofInt IntKind.u32.bits ((n : Int) * 256) ||| BitVec.ofInt IntKind.u32.bits (m : Int)).toNat = n * 256 ||| m := this
  rw [e, show n * 256 = n * 2 ^ 8 from rfl, h, wrap_u32 (by omega) (by simp; omega)]
  simp
end Go.Proofs.Ytpohmfihpnineaa
end
section
set_option linter.unusedSimpArgs false
set_option linter.unusedVariables false
namespace Go.Proofs.Ytpohmfihpnineaa
open Go.Ev
theorem between_ev (n lo hi : Int) : cvF tab 91 [.int .i64 n, .int .i64 lo, .int .i64 hi] = some (.bool (decide (lo ≤ n) && decide (n ≤ hi))) := by
  refine cvFA_R (mf := Mf.f91) rfl rfl (by kernel_rfl) ?_
  by_cases h1 : lo ≤ n <;> by_cases h2 : n ≤ hi <;> simp [Mf.f91, beqI, bneI, mm_min2, mm_max2, mm_min3, mm_max3, startE, lkE, lkX, lkE_rest, sx, substE, opVA, objs0, List.replicate, XA_seq, XA_region, XOA_go, goE_someA, opV, ev, putA, layAll, XOA_nil, XA_skip_seq, XA_skip_nil, XOA_gd, goG_tA, goG_uA, binV, binInt, unV, XA_ret_nil, XA_ret_cons, endFA_r, endFA_n, endTA_r, endTA_n, endRA_r, endRA_n, endEA_r, endEA_n, List.take, fltR, resultsA, resAs, resA, XA_block, XA_cond, pickX_t, pickX_f, pickX_b, XA_skip_blk, XA_skip_lp, XA_exit_seq, XA_exit_lp, XA_exit_blk, XA_exit_nil, load1, Ev.loadCells, objCells, bodyCells, setCells, AV.flat, AV.flat1, backR, backV, backCell, mapO, AV.cells, AV.atom, AV.tree, fillV, repeatL, treeCell, freezeAll, eqCells, callV_T, callV_F, passN, passV, passCell, srcCells, sliceBounds, hiB, loB, thenQ_nA, thenQ_xA, thenQ_rA, runK_nA, runK_xA, runK_rA, wrap_i64, wrap_u64, wrap_u32, wrap_u8, wrap_u16, h1, h2]
def inUp (next m : Int) : Bool := decide (0 ≤ m) && decide (m ≤ IntKind.i64.wrap (next - 1))
def upB (l : List Int) (members next : Int) : Bool := decide ((l.length : Int) = members) && l.all (inUp next)
theorem all_take_succ {α : Type} (p : α → Bool) (l : List α) (i : Nat) (h : i < l.length) : (l.take (i + 1)).all p = ((l.take i).all p && p (l[i])) := by
  rw [List.take_succ_eq_append_getElem h, List.all_append]; simp
theorem all_false {α : Type} (p : α → Bool) (l : List α) (i : Nat) (h : i < l.length) (hp : p (l[i]) = false) : l.all p = false := by
  rw [List.all_eq_false]
  exact ⟨l[i], List.getElem_mem h, by simp [hp]⟩
theorem up_ev (l : List Int) (members next : Int) (hl : l.length ≤ 9223372036854775807) : cvF tab 92 [rI l, .int .i64 members, .int .i64 next] = some (.bool (upB l members next)) := by
  refine cvFA_R (mf := Mf.f92) rfl rfl (by kernel_rfl) ?_
  by_cases h1 : members = l.length
  · subst h1
    simp only [Mf.f92, beqI, bneI, mm_min2, mm_max2, mm_min3, mm_max3, startE, lkE, lkX, lkE_rest, sx, substE, opVA, objs0, List.replicate, XA_seq, XA_region, XOA_go, goE_someA, opV, ev, putA, layAll, XOA_nil, XA_skip_seq, XA_skip_nil, XOA_gd, goG_tA, goG_uA, binV, binInt, unV, XA_ret_nil, XA_ret_cons, endFA_r, endFA_n, endTA_r, endTA_n, endRA_r, endRA_n, endEA_r, endEA_n, List.take, fltR, resultsA, resAs, resA, XA_block, XA_cond, pickX_t, pickX_f, pickX_b, XA_skip_blk, XA_skip_lp, XA_exit_seq, XA_exit_lp, XA_exit_blk, XA_exit_nil, load1, Ev.loadCells, objCells, bodyCells, setCells, AV.flat, AV.flat1, backR, backV, backCell, mapO, AV.cells, AV.atom, AV.tree, fillV, repeatL, treeCell, freezeAll, eqCells, callV_T, callV_F, passN, passV, passCell, srcCells, sliceBounds, hiB, loB, thenQ_nA, thenQ_xA, thenQ_rA, runK_nA, runK_xA, runK_rA, wrap_i64, wrap_u64, wrap_u32, wrap_u8, wrap_u16, rI]
    simp [beqI, bneI, mm_min2, mm_max2, mm_min3, mm_max3, startE, lkE, lkX, lkE_rest, sx, substE, opVA, objs0, List.replicate, XA_seq, XA_region, XOA_go, goE_someA, opV, ev, putA, layAll, XOA_nil, XA_skip_seq, XA_skip_nil, XOA_gd, goG_tA, goG_uA, binV, binInt, unV, XA_ret_nil, XA_ret_cons, endFA_r, endFA_n, endTA_r, endTA_n, endRA_r, endRA_n, endEA_r, endEA_n, List.take, fltR, resultsA, resAs, resA, XA_block, XA_cond, pickX_t, pickX_f, pickX_b, XA_skip_blk, XA_skip_lp, XA_exit_seq, XA_exit_lp, XA_exit_blk, XA_exit_nil, load1, Ev.loadCells, objCells, bodyCells, setCells, AV.flat, AV.flat1, backR, backV, backCell, mapO, AV.cells, AV.atom, AV.tree, fillV, repeatL, treeCell, freezeAll, eqCells, callV_T, callV_F, passN, passV, passCell, srcCells, sliceBounds, hiB, loB, thenQ_nA, thenQ_xA, thenQ_rA, runK_nA, runK_xA, runK_rA, wrap_i64, wrap_u64, wrap_u32, wrap_u8, wrap_u16]
    refine XA_for (fun i => ⟨[(2, .int .i64 next), (13, .ro l.length (l.map (.int .i64))), (14, .int .i64 l.length), (15, .int .i64 i)], []⟩)
      (fun i => (l.take i).all (inUp next) = true) l.length 0 (Nat.zero_le _) (by simp [AV.atom, normA, lkE, fixObjs, fixBody, fixV, fixCell]) (by simp) ?_ ?_
    · intro i _ hi hJ
      have hi' : (i : Int) < l.length := by omega
      cases hp : inUp next (l[i]) with
      | true =>
        have hq := hp
        unfold inUp at hq
        simp [beqI, bneI, mm_min2, mm_max2, mm_min3, mm_max3, startE, lkE, lkX, lkE_rest, sx, substE, opVA, objs0, List.replicate, XA_seq, XA_region, XOA_go, goE_someA, opV, ev, putA, layAll, XOA_nil, XA_skip_seq, XA_skip_nil, XOA_gd, goG_tA, goG_uA, binV, binInt, unV, XA_ret_nil, XA_ret_cons, endFA_r, endFA_n, endTA_r, endTA_n, endRA_r, endRA_n, endEA_r, endEA_n, List.take, fltR, resultsA, resAs, resA, XA_block, XA_cond, pickX_t, pickX_f, pickX_b, XA_skip_blk, XA_skip_lp, XA_exit_seq, XA_exit_lp, XA_exit_blk, XA_exit_nil, load1, Ev.loadCells, objCells, bodyCells, setCells, AV.flat, AV.flat1, backR, backV, backCell, mapO, AV.cells, AV.atom, AV.tree, fillV, repeatL, treeCell, freezeAll, eqCells, callV_T, callV_F, passN, passV, passCell, srcCells, sliceBounds, hiB, loB, thenQ_nA, thenQ_xA, thenQ_rA, runK_nA, runK_xA, runK_rA, wrap_i64, wrap_u64, wrap_u32, wrap_u8, wrap_u16, AV.atom, normA, lkE, fixObjs, fixBody, fixV, fixCell, hi', idxI l i hi, between_ev, wrap_succ i l.length hi hl, hq, all_take_succ _ l i hi, hJ, hp]
      | false =>
        have hq := hp
        unfold inUp at hq
        simp [beqI, bneI, mm_min2, mm_max2, mm_min3, mm_max3, startE, lkE, lkX, lkE_rest, sx, substE, opVA, objs0, List.replicate, XA_seq, XA_region, XOA_go, goE_someA, opV, ev, putA, layAll, XOA_nil, XA_skip_seq, XA_skip_nil, XOA_gd, goG_tA, goG_uA, binV, binInt, unV, XA_ret_nil, XA_ret_cons, endFA_r, endFA_n, endTA_r, endTA_n, endRA_r, endRA_n, endEA_r, endEA_n, List.take, fltR, resultsA, resAs, resA, XA_block, XA_cond, pickX_t, pickX_f, pickX_b, XA_skip_blk, XA_skip_lp, XA_exit_seq, XA_exit_lp, XA_exit_blk, XA_exit_nil, load1, Ev.loadCells, objCells, bodyCells, setCells, AV.flat, AV.flat1, backR, backV, backCell, mapO, AV.cells, AV.atom, AV.tree, fillV, repeatL, treeCell, freezeAll, eqCells, callV_T, callV_F, passN, passV, passCell, srcCells, sliceBounds, hiB, loB, thenQ_nA, thenQ_xA, thenQ_rA, runK_nA, runK_xA, runK_rA, wrap_i64, wrap_u64, wrap_u32, wrap_u8, wrap_u16, AV.atom, normA, lkE, fixObjs, fixBody, fixV, fixCell, hi', idxI l i hi, between_ev, hq, upB, all_false _ l i hi hp]
    · intro hJ
      simp [beqI, bneI, mm_min2, mm_max2, mm_min3, mm_max3, startE, lkE, lkX, lkE_rest, sx, substE, opVA, objs0, List.replicate, XA_seq, XA_region, XOA_go, goE_someA, opV, ev, putA, layAll, XOA_nil, XA_skip_seq, XA_skip_nil, XOA_gd, goG_tA, goG_uA, binV, binInt, unV, XA_ret_nil, XA_ret_cons, endFA_r, endFA_n, endTA_r, endTA_n, endRA_r, endRA_n, endEA_r, endEA_n, List.take, fltR, resultsA, resAs, resA, XA_block, XA_cond, pickX_t, pickX_f, pickX_b, XA_skip_blk, XA_skip_lp, XA_exit_seq, XA_exit_lp, XA_exit_blk, XA_exit_nil, load1, Ev.loadCells, objCells, bodyCells, setCells, AV.flat, AV.flat1, backR, backV, backCell, mapO, AV.cells, AV.atom, AV.tree, fillV, repeatL, treeCell, freezeAll, eqCells, callV_T, callV_F, passN, passV, passCell, srcCells, sliceBounds, hiB, loB, thenQ_nA, thenQ_xA, thenQ_rA, runK_nA, runK_xA, runK_rA, wrap_i64, wrap_u64, wrap_u32, wrap_u8, wrap_u16, AV.atom, normA, lkE, fixObjs, fixBody, fixV, fixCell, upB]
      simpa using hJ
  · have h2 : ¬ (l.length : Int) = members := fun e => h1 e.symm
    simp [Mf.f92, beqI, bneI, mm_min2, mm_max2, mm_min3, mm_max3, startE, lkE, lkX, lkE_rest, sx, substE, opVA, objs0, List.replicate, XA_seq, XA_region, XOA_go, goE_someA, opV, ev, putA, layAll, XOA_nil, XA_skip_seq, XA_skip_nil, XOA_gd, goG_tA, goG_uA, binV, binInt, unV, XA_ret_nil, XA_ret_cons, endFA_r, endFA_n, endTA_r, endTA_n, endRA_r, endRA_n, endEA_r, endEA_n, List.take, fltR, resultsA, resAs, resA, XA_block, XA_cond, pickX_t, pickX_f, pickX_b, XA_skip_blk, XA_skip_lp, XA_exit_seq, XA_exit_lp, XA_exit_blk, XA_exit_nil, load1, Ev.loadCells, objCells, bodyCells, setCells, AV.flat, AV.flat1, backR, backV, backCell, mapO, AV.cells, AV.atom, AV.tree, fillV, repeatL, treeCell, freezeAll, eqCells, callV_T, callV_F, passN, passV, passCell, srcCells, sliceBounds, hiB, loB, thenQ_nA, thenQ_xA, thenQ_rA, runK_nA, runK_xA, runK_rA, wrap_i64, wrap_u64, wrap_u32, wrap_u8, wrap_u16, rI, h2, upB]
def inSize (n : Int) : Bool := decide (1 ≤ n) && decide (n ≤ 40)
def upAt (S : List Int) (U : List (List Int)) (i : Nat) : Bool := upB (gR U i) (gI S i) (gI S (i + 1))
def goodD (S : List Int) (U : List (List Int)) : Bool :=
  (decide (1 ≤ S.length) && decide (S.length ≤ 4)) && (decide (U.length + 1 = S.length) && (S.all inSize && (List.range U.length).all (upAt S U)))
def fitsU (U : List (List Int)) : Prop := U.length ≤ 9223372036854775807 ∧ ∀ l ∈ U, l.length ≤ 9223372036854775807
theorem range_take_succ (p : Nat → Bool) (i : Nat) : (List.range (i + 1)).all p = ((List.range i).all p && p i) := by
  rw [List.range_succ, List.all_append]; simp
theorem range_false (p : Nat → Bool) (n i : Nat) (h : i < n) (hp : p i = false) : (List.range n).all p = false := by
  rw [List.all_eq_false]
  exact ⟨i, List.mem_range.2 h, by simp [hp]⟩
theorem good_ev (S : List Int) (U : List (List Int)) (hS : S.length ≤ 9223372036854775807) (hU : fitsU U) : cvF tab 72 [.agg [rI S, rR U]] = some (.bool (goodD S U)) := by
  refine cvFA_R (mf := Mf.f72) rfl rfl (by kernel_rfl) ?_
  have hw : IntKind.i64.wrap ((S.length : Int) - 1) = (S.length : Int) - 1 := wrap_i64 (by omega) (by omega)
  simp only [Mf.f72]
  cases h1 : decide (1 ≤ S.length) && decide (S.length ≤ 4) with
  | false =>
    have h1' : (decide ((1 : Int) ≤ (S.length : Int)) && decide ((S.length : Int) ≤ 4)) = false := by
      rw [← h1]; congr 1 <;> simp <;> omega
    simp [beqI, bneI, mm_min2, mm_max2, mm_min3, mm_max3, startE, lkE, lkX, lkE_rest, sx, substE, opVA, objs0, List.replicate, XA_seq, XA_region, XOA_go, goE_someA, opV, ev, putA, layAll, XOA_nil, XA_skip_seq, XA_skip_nil, XOA_gd, goG_tA, goG_uA, binV, binInt, unV, XA_ret_nil, XA_ret_cons, endFA_r, endFA_n, endTA_r, endTA_n, endRA_r, endRA_n, endEA_r, endEA_n, List.take, fltR, resultsA, resAs, resA, XA_block, XA_cond, pickX_t, pickX_f, pickX_b, XA_skip_blk, XA_skip_lp, XA_exit_seq, XA_exit_lp, XA_exit_blk, XA_exit_nil, load1, Ev.loadCells, objCells, bodyCells, setCells, AV.flat, AV.flat1, backR, backV, backCell, mapO, AV.cells, AV.atom, AV.tree, fillV, repeatL, treeCell, freezeAll, eqCells, callV_T, callV_F, passN, passV, passCell, srcCells, sliceBounds, hiB, loB, thenQ_nA, thenQ_xA, thenQ_rA, runK_nA, runK_xA, runK_rA, wrap_i64, wrap_u64, wrap_u32, wrap_u8, wrap_u16, rI, rR, between_ev, h1', goodD, h1]
  | true =>
    have h1' : (decide ((1 : Int) ≤ (S.length : Int)) && decide ((S.length : Int) ≤ 4)) = true := by
      simp at h1 ⊢; omega
    by_cases h2 : U.length + 1 = S.length
    · have h2' : (U.length : Int) = (S.length : Int) - 1 := by omega
      simp [beqI, bneI, mm_min2, mm_max2, mm_min3, mm_max3, startE, lkE, lkX, lkE_rest, sx, substE, opVA, objs0, List.replicate, XA_seq, XA_region, XOA_go, goE_someA, opV, ev, putA, layAll, XOA_nil, XA_skip_seq, XA_skip_nil, XOA_gd, goG_tA, goG_uA, binV, binInt, unV, XA_ret_nil, XA_ret_cons, endFA_r, endFA_n, endTA_r, endTA_n, endRA_r, endRA_n, endEA_r, endEA_n, List.take, fltR, resultsA, resAs, resA, XA_block, XA_cond, pickX_t, pickX_f, pickX_b, XA_skip_blk, XA_skip_lp, XA_exit_seq, XA_exit_lp, XA_exit_blk, XA_exit_nil, load1, Ev.loadCells, objCells, bodyCells, setCells, AV.flat, AV.flat1, backR, backV, backCell, mapO, AV.cells, AV.atom, AV.tree, fillV, repeatL, treeCell, freezeAll, eqCells, callV_T, callV_F, passN, passV, passCell, srcCells, sliceBounds, hiB, loB, thenQ_nA, thenQ_xA, thenQ_rA, runK_nA, runK_xA, runK_rA, wrap_i64, wrap_u64, wrap_u32, wrap_u8, wrap_u16, rI, rR, between_ev, h1', hw, h2']
      refine XA_for (fun i => ⟨[(1, .ptr 0 0 0), (22, .ro S.length (S.map (.int .i64))), (23, .int .i64 S.length), (24, .int .i64 i)], [⟨0, .var [.ro S.length (S.map (.int .i64)), .ro U.length (U.map rI)]⟩]⟩)
        (fun i => (S.take i).all inSize = true) S.length 0 (Nat.zero_le _) (by simp [AV.atom, normA, lkE, fixObjs, fixBody, fixV, fixCell]) (by simp) ?_ ?_
      · intro i _ hi hJ
        have hi' : (i : Int) < S.length := by omega
        cases hp : inSize (S[i]) with
        | true =>
          have hq := hp
          unfold inSize at hq
          simp [beqI, bneI, mm_min2, mm_max2, mm_min3, mm_max3, startE, lkE, lkX, lkE_rest, sx, substE, opVA, objs0, List.replicate, XA_seq, XA_region, XOA_go, goE_someA, opV, ev, putA, layAll, XOA_nil, XA_skip_seq, XA_skip_nil, XOA_gd, goG_tA, goG_uA, binV, binInt, unV, XA_ret_nil, XA_ret_cons, endFA_r, endFA_n, endTA_r, endTA_n, endRA_r, endRA_n, endEA_r, endEA_n, List.take, fltR, resultsA, resAs, resA, XA_block, XA_cond, pickX_t, pickX_f, pickX_b, XA_skip_blk, XA_skip_lp, XA_exit_seq, XA_exit_lp, XA_exit_blk, XA_exit_nil, load1, Ev.loadCells, objCells, bodyCells, setCells, AV.flat, AV.flat1, backR, backV, backCell, mapO, AV.cells, AV.atom, AV.tree, fillV, repeatL, treeCell, freezeAll, eqCells, callV_T, callV_F, passN, passV, passCell, srcCells, sliceBounds, hiB, loB, thenQ_nA, thenQ_xA, thenQ_rA, runK_nA, runK_xA, runK_rA, wrap_i64, wrap_u64, wrap_u32, wrap_u8, wrap_u16, AV.atom, normA, lkE, fixObjs, fixBody, fixV, fixCell, hi', idxI S i hi, between_ev, wrap_succ i S.length hi hS, hq, all_take_succ _ S i hi, hJ, hp]
        | false =>
          have hq := hp
          unfold inSize at hq
          simp [beqI, bneI, mm_min2, mm_max2, mm_min3, mm_max3, startE, lkE, lkX, lkE_rest, sx, substE, opVA, objs0, List.replicate, XA_seq, XA_region, XOA_go, goE_someA, opV, ev, putA, layAll, XOA_nil, XA_skip_seq, XA_skip_nil, XOA_gd, goG_tA, goG_uA, binV, binInt, unV, XA_ret_nil, XA_ret_cons, endFA_r, endFA_n, endTA_r, endTA_n, endRA_r, endRA_n, endEA_r, endEA_n, List.take, fltR, resultsA, resAs, resA, XA_block, XA_cond, pickX_t, pickX_f, pickX_b, XA_skip_blk, XA_skip_lp, XA_exit_seq, XA_exit_lp, XA_exit_blk, XA_exit_nil, load1, Ev.loadCells, objCells, bodyCells, setCells, AV.flat, AV.flat1, backR, backV, backCell, mapO, AV.cells, AV.atom, AV.tree, fillV, repeatL, treeCell, freezeAll, eqCells, callV_T, callV_F, passN, passV, passCell, srcCells, sliceBounds, hiB, loB, thenQ_nA, thenQ_xA, thenQ_rA, runK_nA, runK_xA, runK_rA, wrap_i64, wrap_u64, wrap_u32, wrap_u8, wrap_u16, AV.atom, normA, lkE, fixObjs, fixBody, fixV, fixCell, hi', idxI S i hi, between_ev, hq, goodD, all_false _ S i hi hp]
      · intro hJ
        rw [List.take_length] at hJ
        simp [beqI, bneI, mm_min2, mm_max2, mm_min3, mm_max3, startE, lkE, lkX, lkE_rest, sx, substE, opVA, objs0, List.replicate, XA_seq, XA_region, XOA_go, goE_someA, opV, ev, putA, layAll, XOA_nil, XA_skip_seq, XA_skip_nil, XOA_gd, goG_tA, goG_uA, binV, binInt, unV, XA_ret_nil, XA_ret_cons, endFA_r, endFA_n, endTA_r, endTA_n, endRA_r, endRA_n, endEA_r, endEA_n, List.take, fltR, resultsA, resAs, resA, XA_block, XA_cond, pickX_t, pickX_f, pickX_b, XA_skip_blk, XA_skip_lp, XA_exit_seq, XA_exit_lp, XA_exit_blk, XA_exit_nil, load1, Ev.loadCells, objCells, bodyCells, setCells, AV.flat, AV.flat1, backR, backV, backCell, mapO, AV.cells, AV.atom, AV.tree, fillV, repeatL, treeCell, freezeAll, eqCells, callV_T, callV_F, passN, passV, passCell, srcCells, sliceBounds, hiB, loB, thenQ_nA, thenQ_xA, thenQ_rA, runK_nA, runK_xA, runK_rA, wrap_i64, wrap_u64, wrap_u32, wrap_u8, wrap_u16, AV.atom, normA, lkE, fixObjs, fixBody, fixV, fixCell]
        refine XA_for (fun i => ⟨[(1, .ptr 0 0 0), (34, .int .i64 U.length), (35, .int .i64 i)], [⟨0, .var [.ro S.length (S.map (.int .i64)), .ro U.length (U.map rI)]⟩]⟩)
          (fun i => (List.range i).all (upAt S U) = true) U.length 0 (Nat.zero_le _) (by simp [AV.atom, normA, lkE, fixObjs, fixBody, fixV, fixCell]) (by simp) ?_ ?_
        · intro i _ hi hJ2
          have hi' : (i : Int) < U.length := by omega
          have hs1 : i < S.length := by omega
          have hs2 : i + 1 < S.length := by omega
          have hs1' : (i : Int) < S.length := by omega
          have hs2' : (i : Int) + 1 < S.length := by omega
          have hs0 : (0 : Int) ≤ (i : Int) + 1 := by omega
          have hsn : ((i : Int) + 1).toNat = i + 1 := by omega
          have hu : (U[i]).length ≤ 9223372036854775807 := hU.2 _ (List.getElem_mem hi)
          have hup : upAt S U i = upB (U[i]) (S[i]) (S[i + 1]) := by
            unfold upAt
            rw [gR_get _ _ hi, gI_get _ _ hs1, gI_get _ _ hs2]
          have hupe := up_ev (U[i]) (S[i]) (S[i + 1]) hu
          simp only [rI] at hupe
          cases hp : upAt S U i with
          | true =>
            rw [hup] at hp
            rw [hp] at hupe
            simp [beqI, bneI, mm_min2, mm_max2, mm_min3, mm_max3, startE, lkE, lkX, lkE_rest, sx, substE, opVA, objs0, List.replicate, XA_seq, XA_region, XOA_go, goE_someA, opV, ev, putA, layAll, XOA_nil, XA_skip_seq, XA_skip_nil, XOA_gd, goG_tA, goG_uA, binV, binInt, unV, XA_ret_nil, XA_ret_cons, endFA_r, endFA_n, endTA_r, endTA_n, endRA_r, endRA_n, endEA_r, endEA_n, List.take, fltR, resultsA, resAs, resA, XA_block, XA_cond, pickX_t, pickX_f, pickX_b, XA_skip_blk, XA_skip_lp, XA_exit_seq, XA_exit_lp, XA_exit_blk, XA_exit_nil, load1, Ev.loadCells, objCells, bodyCells, setCells, AV.flat, AV.flat1, backR, backV, backCell, mapO, AV.cells, AV.atom, AV.tree, fillV, repeatL, treeCell, freezeAll, eqCells, callV_T, callV_F, passN, passV, passCell, srcCells, sliceBounds, hiB, loB, thenQ_nA, thenQ_xA, thenQ_rA, runK_nA, runK_xA, runK_rA, wrap_i64, wrap_u64, wrap_u32, wrap_u8, wrap_u16, AV.atom, normA, lkE, fixObjs, fixBody, fixV, fixCell, hi', idxI S i hs1, idxI S (i + 1) hs2, idxR U i hi, hs1', hs2', hs0, hsn, wrap_succ i U.length hi hU.1, rI, hupe, range_take_succ, hJ2, hup, hp]
          | false =>
            have hf := range_false _ U.length i hi hp
            rw [hup] at hp
            rw [hp] at hupe
            simp [beqI, bneI, mm_min2, mm_max2, mm_min3, mm_max3, startE, lkE, lkX, lkE_rest, sx, substE, opVA, objs0, List.replicate, XA_seq, XA_region, XOA_go, goE_someA, opV, ev, putA, layAll, XOA_nil, XA_skip_seq, XA_skip_nil, XOA_gd, goG_tA, goG_uA, binV, binInt, unV, XA_ret_nil, XA_ret_cons, endFA_r, endFA_n, endTA_r, endTA_n, endRA_r, endRA_n, endEA_r, endEA_n, List.take, fltR, resultsA, resAs, resA, XA_block, XA_cond, pickX_t, pickX_f, pickX_b, XA_skip_blk, XA_skip_lp, XA_exit_seq, XA_exit_lp, XA_exit_blk, XA_exit_nil, load1, Ev.loadCells, objCells, bodyCells, setCells, AV.flat, AV.flat1, backR, backV, backCell, mapO, AV.cells, AV.atom, AV.tree, fillV, repeatL, treeCell, freezeAll, eqCells, callV_T, callV_F, passN, passV, passCell, srcCells, sliceBounds, hiB, loB, thenQ_nA, thenQ_xA, thenQ_rA, runK_nA, runK_xA, runK_rA, wrap_i64, wrap_u64, wrap_u32, wrap_u8, wrap_u16, AV.atom, normA, lkE, fixObjs, fixBody, fixV, fixCell, hi', idxI S i hs1, idxI S (i + 1) hs2, idxR U i hi, hs1', hs2', hs0, hsn, wrap_succ i U.length hi hU.1, rI, hupe, goodD, hf]
        · intro hJ2
          simp [beqI, bneI, mm_min2, mm_max2, mm_min3, mm_max3, startE, lkE, lkX, lkE_rest, sx, substE, opVA, objs0, List.replicate, XA_seq, XA_region, XOA_go, goE_someA, opV, ev, putA, layAll, XOA_nil, XA_skip_seq, XA_skip_nil, XOA_gd, goG_tA, goG_uA, binV, binInt, unV, XA_ret_nil, XA_ret_cons, endFA_r, endFA_n, endTA_r, endTA_n, endRA_r, endRA_n, endEA_r, endEA_n, List.take, fltR, resultsA, resAs, resA, XA_block, XA_cond, pickX_t, pickX_f, pickX_b, XA_skip_blk, XA_skip_lp, XA_exit_seq, XA_exit_lp, XA_exit_blk, XA_exit_nil, load1, Ev.loadCells, objCells, bodyCells, setCells, AV.flat, AV.flat1, backR, backV, backCell, mapO, AV.cells, AV.atom, AV.tree, fillV, repeatL, treeCell, freezeAll, eqCells, callV_T, callV_F, passN, passV, passCell, srcCells, sliceBounds, hiB, loB, thenQ_nA, thenQ_xA, thenQ_rA, runK_nA, runK_xA, runK_rA, wrap_i64, wrap_u64, wrap_u32, wrap_u8, wrap_u16, AV.atom, normA, lkE, fixObjs, fixBody, fixV, fixCell, goodD, h1, h2, hJ, hJ2]
    · have h2' : ¬ (U.length : Int) = (S.length : Int) - 1 := by omega
      simp [beqI, bneI, mm_min2, mm_max2, mm_min3, mm_max3, startE, lkE, lkX, lkE_rest, sx, substE, opVA, objs0, List.replicate, XA_seq, XA_region, XOA_go, goE_someA, opV, ev, putA, layAll, XOA_nil, XA_skip_seq, XA_skip_nil, XOA_gd, goG_tA, goG_uA, binV, binInt, unV, XA_ret_nil, XA_ret_cons, endFA_r, endFA_n, endTA_r, endTA_n, endRA_r, endRA_n, endEA_r, endEA_n, List.take, fltR, resultsA, resAs, resA, XA_block, XA_cond, pickX_t, pickX_f, pickX_b, XA_skip_blk, XA_skip_lp, XA_exit_seq, XA_exit_lp, XA_exit_blk, XA_exit_nil, load1, Ev.loadCells, objCells, bodyCells, setCells, AV.flat, AV.flat1, backR, backV, backCell, mapO, AV.cells, AV.atom, AV.tree, fillV, repeatL, treeCell, freezeAll, eqCells, callV_T, callV_F, passN, passV, passCell, srcCells, sliceBounds, hiB, loB, thenQ_nA, thenQ_xA, thenQ_rA, runK_nA, runK_xA, runK_rA, wrap_i64, wrap_u64, wrap_u32, wrap_u8, wrap_u16, rI, rR, between_ev, h1', hw, h2', goodD, h2]
def sizeD (S : List Int) (U : List (List Int)) (lv : Int) : Int :=
  if goodD S U = true ∧ 0 ≤ lv ∧ lv ≤ S.length then (if lv = S.length then 1 else gI S lv.toNat) else 0
theorem size_ev (S : List Int) (U : List (List Int)) (lv : Int) (hS : S.length ≤ 9223372036854775807) (hU : fitsU U) : cvF tab 78 [.agg [rI S, rR U], .int .i64 lv] = some (.int .i64 (sizeD S U lv)) := by
  refine cvFA_R (mf := Mf.f78) rfl rfl (by kernel_rfl) ?_
  have hg := good_ev S U hS hU
  simp only [rI, rR] at hg
  simp only [Mf.f78]
  cases h1 : goodD S U with
  | false => simp [beqI, bneI, mm_min2, mm_max2, mm_min3, mm_max3, startE, lkE, lkX, lkE_rest, sx, substE, opVA, objs0, List.replicate, XA_seq, XA_region, XOA_go, goE_someA, opV, ev, putA, layAll, XOA_nil, XA_skip_seq, XA_skip_nil, XOA_gd, goG_tA, goG_uA, binV, binInt, unV, XA_ret_nil, XA_ret_cons, endFA_r, endFA_n, endTA_r, endTA_n, endRA_r, endRA_n, endEA_r, endEA_n, List.take, fltR, resultsA, resAs, resA, XA_block, XA_cond, pickX_t, pickX_f, pickX_b, XA_skip_blk, XA_skip_lp, XA_exit_seq, XA_exit_lp, XA_exit_blk, XA_exit_nil, load1, Ev.loadCells, objCells, bodyCells, setCells, AV.flat, AV.flat1, backR, backV, backCell, mapO, AV.cells, AV.atom, AV.tree, fillV, repeatL, treeCell, freezeAll, eqCells, callV_T, callV_F, passN, passV, passCell, srcCells, sliceBounds, hiB, loB, thenQ_nA, thenQ_xA, thenQ_rA, runK_nA, runK_xA, runK_rA, wrap_i64, wrap_u64, wrap_u32, wrap_u8, wrap_u16, rI, rR, hg, h1, sizeD]
  | true =>
    by_cases h2 : 0 ≤ lv
    · by_cases h3 : lv ≤ S.length
      · by_cases h4 : lv = S.length
        · subst h4
          simp [beqI, bneI, mm_min2, mm_max2, mm_min3, mm_max3, startE, lkE, lkX, lkE_rest, sx, substE, opVA, objs0, List.replicate, XA_seq, XA_region, XOA_go, goE_someA, opV, ev, putA, layAll, XOA_nil, XA_skip_seq, XA_skip_nil, XOA_gd, goG_tA, goG_uA, binV, binInt, unV, XA_ret_nil, XA_ret_cons, endFA_r, endFA_n, endTA_r, endTA_n, endRA_r, endRA_n, endEA_r, endEA_n, List.take, fltR, resultsA, resAs, resA, XA_block, XA_cond, pickX_t, pickX_f, pickX_b, XA_skip_blk, XA_skip_lp, XA_exit_seq, XA_exit_lp, XA_exit_blk, XA_exit_nil, load1, Ev.loadCells, objCells, bodyCells, setCells, AV.flat, AV.flat1, backR, backV, backCell, mapO, AV.cells, AV.atom, AV.tree, fillV, repeatL, treeCell, freezeAll, eqCells, callV_T, callV_F, passN, passV, passCell, srcCells, sliceBounds, hiB, loB, thenQ_nA, thenQ_xA, thenQ_rA, runK_nA, runK_xA, runK_rA, wrap_i64, wrap_u64, wrap_u32, wrap_u8, wrap_u16, rI, rR, hg, h1, between_ev, sizeD]
        · have h5 : lv < S.length := by omega
          simp [beqI, bneI, mm_min2, mm_max2, mm_min3, mm_max3, startE, lkE, lkX, lkE_rest, sx, substE, opVA, objs0, List.replicate, XA_seq, XA_region, XOA_go, goE_someA, opV, ev, putA, layAll, XOA_nil, XA_skip_seq, XA_skip_nil, XOA_gd, goG_tA, goG_uA, binV, binInt, unV, XA_ret_nil, XA_ret_cons, endFA_r, endFA_n, endTA_r, endTA_n, endRA_r, endRA_n, endEA_r, endEA_n, List.take, fltR, resultsA, resAs, resA, XA_block, XA_cond, pickX_t, pickX_f, pickX_b, XA_skip_blk, XA_skip_lp, XA_exit_seq, XA_exit_lp, XA_exit_blk, XA_exit_nil, load1, Ev.loadCells, objCells, bodyCells, setCells, AV.flat, AV.flat1, backR, backV, backCell, mapO, AV.cells, AV.atom, AV.tree, fillV, repeatL, treeCell, freezeAll, eqCells, callV_T, callV_F, passN, passV, passCell, srcCells, sliceBounds, hiB, loB, thenQ_nA, thenQ_xA, thenQ_rA, runK_nA, runK_xA, runK_rA, wrap_i64, wrap_u64, wrap_u32, wrap_u8, wrap_u16, rI, rR, hg, h1, between_ev, sizeD, h2, h3, h4, h5, idxI' S lv h2 h5]
      · simp [beqI, bneI, mm_min2, mm_max2, mm_min3, mm_max3, startE, lkE, lkX, lkE_rest, sx, substE, opVA, objs0, List.replicate, XA_seq, XA_region, XOA_go, goE_someA, opV, ev, putA, layAll, XOA_nil, XA_skip_seq, XA_skip_nil, XOA_gd, goG_tA, goG_uA, binV, binInt, unV, XA_ret_nil, XA_ret_cons, endFA_r, endFA_n, endTA_r, endTA_n, endRA_r, endRA_n, endEA_r, endEA_n, List.take, fltR, resultsA, resAs, resA, XA_block, XA_cond, pickX_t, pickX_f, pickX_b, XA_skip_blk, XA_skip_lp, XA_exit_seq, XA_exit_lp, XA_exit_blk, XA_exit_nil, load1, Ev.loadCells, objCells, bodyCells, setCells, AV.flat, AV.flat1, backR, backV, backCell, mapO, AV.cells, AV.atom, AV.tree, fillV, repeatL, treeCell, freezeAll, eqCells, callV_T, callV_F, passN, passV, passCell, srcCells, sliceBounds, hiB, loB, thenQ_nA, thenQ_xA, thenQ_rA, runK_nA, runK_xA, runK_rA, wrap_i64, wrap_u64, wrap_u32, wrap_u8, wrap_u16, rI, rR, hg, h1, between_ev, sizeD, h2, h3]
    · simp [beqI, bneI, mm_min2, mm_max2, mm_min3, mm_max3, startE, lkE, lkX, lkE_rest, sx, substE, opVA, objs0, List.replicate, XA_seq, XA_region, XOA_go, goE_someA, opV, ev, putA, layAll, XOA_nil, XA_skip_seq, XA_skip_nil, XOA_gd, goG_tA, goG_uA, binV, binInt, unV, XA_ret_nil, XA_ret_cons, endFA_r, endFA_n, endTA_r, endTA_n, endRA_r, endRA_n, endEA_r, endEA_n, List.take, fltR, resultsA, resAs, resA, XA_block, XA_cond, pickX_t, pickX_f, pickX_b, XA_skip_blk, XA_skip_lp, XA_exit_seq, XA_exit_lp, XA_exit_blk, XA_exit_nil, load1, Ev.loadCells, objCells, bodyCells, setCells, AV.flat, AV.flat1, backR, backV, backCell, mapO, AV.cells, AV.atom, AV.tree, fillV, repeatL, treeCell, freezeAll, eqCells, callV_T, callV_F, passN, passV, passCell, srcCells, sliceBounds, hiB, loB, thenQ_nA, thenQ_xA, thenQ_rA, runK_nA, runK_xA, runK_rA, wrap_i64, wrap_u64, wrap_u32, wrap_u8, wrap_u16, rI, rR, hg, h1, between_ev, sizeD, h2]
theorem good_len {S : List Int} {U : List (List Int)} (h : goodD S U = true) : 1 ≤ S.length ∧ S.length ≤ 4 ∧ U.length + 1 = S.length := by
  simp [goodD] at h
  omega
theorem good_size {S : List Int} {U : List (List Int)} (h : goodD S U = true) {i : Nat} (hi : i < S.length) : 1 ≤ gI S i ∧ gI S i ≤ 40 := by
  simp [goodD, inSize] at h
  rw [gI_get S i hi]
  exact h.2.2.1 _ (List.getElem_mem hi)
theorem good_up {S : List Int} {U : List (List Int)} (h : goodD S U = true) {i : Nat} (hi : i < U.length) :
    ((gR U i).length : Int) = gI S i ∧ ∀ k, k < (gR U i).length → 0 ≤ gI (gR U i) k ∧ gI (gR U i) k < gI S (i + 1) := by
  have hl := good_len h
  have hs := good_size h (i := i + 1) (by omega)
  have h2 : upAt S U i = true := by
    unfold goodD at h
    simp only [Bool.and_eq_true, List.all_eq_true, List.mem_range] at h
    exact h.2.2.2 i hi
  unfold upAt upB at h2
  simp only [Bool.and_eq_true, decide_eq_true_eq, List.all_eq_true] at h2
  refine ⟨h2.1, fun k hk => ?_⟩
  have h3 := h2.2 _ (List.getElem_mem hk)
  unfold inUp at h3
  simp only [Bool.and_eq_true, decide_eq_true_eq] at h3
  rw [wrap_i64 (by omega) (by omega)] at h3
  rw [gI_get _ k hk]
  omega
end Go.Proofs.Ytpohmfihpnineaa
end
section
set_option linter.unusedSimpArgs false
set_option linter.unusedVariables false
namespace Go.Proofs.Ytpohmfihpnineaa
open Go.Ev
theorem rd_i64 {cs : List AV} (h : RD (.int .i64) cs) : ∃ n, cs = [.int .i64 n] ∧ inI n := by
  obtain ⟨n, h1, h2, h3⟩ := h
  refine ⟨n, h1, ?_⟩
  simp only [IntKind.min, IntKind.max, IntKind.signed, IntKind.bits] at h2 h3
  exact ⟨by simpa using h2, by simpa using h3⟩
theorem rd_u8 {cs : List AV} (h : RD (.int .u8) cs) : ∃ n, cs = [.int .u8 n] ∧ 0 ≤ n ∧ n ≤ 255 := by
  obtain ⟨n, h1, h2, h3⟩ := h
  refine ⟨n, h1, ?_⟩
  simp only [IntKind.min, IntKind.max, IntKind.signed, IntKind.bits] at h2 h3
  exact ⟨by simpa using h2, by simpa using h3⟩
theorem rd_map {α : Type} {g : GT} {f : α → AV} {P : α → Prop} (hg : ∀ cs, RD g cs → ∃ x, cs = [f x] ∧ P x) : ∀ {L : List (List AV)}, (∀ x ∈ L, RD g x) → ∃ l : List α, L.length = l.length ∧ L.flatten = l.map f ∧ ∀ x ∈ l, P x
  | [], _ => ⟨[], rfl, rfl, fun x hx => by cases hx⟩
  | c :: L, h => by
    obtain ⟨x, rfl, hx⟩ := hg c (h c (by simp))
    obtain ⟨l, h1, h2, h3⟩ := rd_map hg (L := L) fun y hy => h y (by simp [hy])
    refine ⟨x :: l, by simp [h1], by simp [h2], fun y hy => ?_⟩
    rcases List.mem_cons.1 hy with rfl | hy
    · exact hx
    · exact h3 y hy
theorem rd_slice {α : Type} {g : GT} {f : α → AV} {P : α → Prop} (hg : ∀ cs, RD g cs → ∃ x, cs = [f x] ∧ P x) {cs : List AV} (h : RD (.slice g) cs) : ∃ l : List α, cs = [.ro l.length (l.map f)] ∧ l.length ≤ 9223372036854775807 ∧ ∀ x ∈ l, P x := by
  obtain ⟨L, rfl, h2, h3⟩ := h
  obtain ⟨l, h4, h5, h6⟩ := rd_map hg h3
  refine ⟨l, by rw [h4, h5], ?_, h6⟩
  rw [← h4]
  exact Nat.le_trans h2 (by decide)
def okI (l : List Int) : Prop := l.length ≤ 9223372036854775807 ∧ ∀ x ∈ l, inI x
theorem rd_ints {cs : List AV} (h : RD (.slice (.int .i64)) cs) : ∃ l : List Int, cs = [rI l] ∧ okI l := by
  obtain ⟨l, h1, h2, h3⟩ := rd_slice (fun cs h => rd_i64 h) h
  exact ⟨l, h1, h2, h3⟩
theorem rd_rows {cs : List AV} (h : RD (.slice (.slice (.int .i64))) cs) : ∃ l : List (List Int), cs = [rR l] ∧ l.length ≤ 9223372036854775807 ∧ ∀ x ∈ l, okI x := by
  obtain ⟨l, h1, h2, h3⟩ := rd_slice (fun cs h => rd_ints h) h
  exact ⟨l, h1, h2, h3⟩
def gDim : GT := .pair (.slice (.int .i64)) (.pair (.slice (.slice (.int .i64))) .unit)
def okD (S : List Int) (U : List (List Int)) : Prop := okI S ∧ U.length ≤ 9223372036854775807 ∧ ∀ x ∈ U, okI x
theorem rd_dim {cs : List AV} (h : RD gDim cs) : ∃ S U, cs = [rI S, rR U] ∧ okD S U := by
  obtain ⟨a, b, rfl, ha, c, d, rfl, hc, rfl⟩ := h
  obtain ⟨S, rfl, hS⟩ := rd_ints ha
  obtain ⟨U, rfl, hU⟩ := rd_rows hc
  exact ⟨S, U, rfl, hS, hU⟩
end Go.Proofs.Ytpohmfihpnineaa
end
section
set_option linter.unusedSimpArgs false
set_option linter.unusedVariables false
set_option maxHeartbeats 4000000
set_option maxRecDepth 100000
namespace Go.Proofs.Ytpohmfihpnineaa
open Go.Ev
structure Dm where
  S : List Int
  U : List (List Int)
def flatD : List Dm → List AV
  | [] => []
  | d :: r => rI d.S :: rR d.U :: flatD r
def gD (ds : List Dm) (i : Nat) : Dm := ds.getD i ⟨[], []⟩
theorem gD_mem {ds : List Dm} {i : Nat} (h : i < ds.length) : gD ds i ∈ ds := by
  unfold gD
  rw [List.getD_eq_getElem?_getD, List.getElem?_eq_getElem h]
  exact List.getElem_mem h
theorem gD_get {ds : List Dm} {i : Nat} (h : i < ds.length) : gD ds i = ds[i] := by
  unfold gD
  rw [List.getD_eq_getElem?_getD, List.getElem?_eq_getElem h]; rfl
theorem dropD : ∀ (ds : List Dm) (i : Nat), i < ds.length → List.drop (i * 2) (flatD ds) = rI (gD ds i).S :: rR (gD ds i).U :: flatD (ds.drop (i + 1))
  | [], i, h => by simp at h
  | d :: r, 0, _ => rfl
  | d :: r, i + 1, h => by
    rw [show (i + 1) * 2 = i * 2 + 2 from by omega]
    simp only [flatD, List.drop_succ_cons]
    exact dropD r i (by simpa using h)
theorem flatD_len : ∀ (ds : List Dm), (flatD ds).length = ds.length * 2
  | [] => rfl
  | d :: r => by simp [flatD, flatD_len r]; omega
def okC (ds : List Dm) : Prop := ds.length ≤ 9223372036854775807 ∧ ∀ d ∈ ds, okD d.S d.U
theorem okC.at {ds : List Dm} (h : okC ds) {i : Nat} (hi : i < ds.length) : okD (gD ds i).S (gD ds i).U := h.2 _ (gD_mem hi)
theorem fits_of {S : List Int} {U : List (List Int)} (h : okD S U) : S.length ≤ 9223372036854775807 ∧ fitsU U := ⟨h.1.1, h.2.1, fun l hl => (h.2.2 l hl).1⟩
def gCat : GT := .pair (.slice gDim) (.pair (.int .i64) .unit)
theorem rd_cat {cs : List AV} (h : RD gCat cs) : ∃ ds m, cs = [.ro ds.length (flatD ds), .int .i64 m] ∧ okC ds ∧ inI m := by
  obtain ⟨a, b, rfl, ⟨L, rfl, h1, h2⟩, c, d, rfl, hc, rfl⟩ := h
  obtain ⟨m, rfl, hm⟩ := rd_i64 hc
  have key : ∀ (L : List (List AV)), (∀ x ∈ L, RD gDim x) → ∃ ds : List Dm, L.length = ds.length ∧ L.flatten = flatD ds ∧ ∀ d ∈ ds, okD d.S d.U := by
    intro L
    induction L with
    | nil => intro _; exact ⟨[], rfl, rfl, fun d hd => by cases hd⟩
    | cons c L ih =>
      intro h
      obtain ⟨S, U, rfl, hD⟩ := rd_dim (h c (by simp))
      obtain ⟨ds, h1, h2, h3⟩ := ih fun x hx => h x (by simp [hx])
      refine ⟨⟨S, U⟩ :: ds, by simp [h1], by simp [h2, flatD], fun d hd => ?_⟩
      rcases List.mem_cons.1 hd with rfl | hd
      · exact hD
      · exact h3 d hd
  obtain ⟨ds, h3, h4, h5⟩ := key L h2
  refine ⟨ds, m, by rw [h3, h4]; rfl, ⟨?_, h5⟩, hm⟩
  rw [← h3]
  exact Nat.le_trans h1 (by decide)
def byte (x : Int) : Prop := 0 ≤ x ∧ x ≤ 255
def okN (v : List Int) : Prop := v.length = 4 ∧ ∀ x ∈ v, byte x
theorem okN.at {v : List Int} (h : okN v) {i : Nat} (hi : i < 4) : byte (gI v i) := by
  rw [gI_get _ _ (by rw [h.1]; exact hi)]
  exact h.2 _ (List.getElem_mem _)
theorem getN {v : List Int} (h : okN v) {i : Nat} (hi : i < 4) : (v.map (AV.int .u8))[i]? = some (.int .u8 (gI v i)) := by
  have hi' : i < v.length := by rw [h.1]; exact hi
  rw [List.getElem?_map, List.getElem?_eq_getElem hi', gI_get _ _ hi']
  rfl
def goodC (ds : List Dm) (m : Int) : Bool := (decide (1 ≤ ds.length) && decide (ds.length ≤ 4)) && ((decide (1 ≤ m) && decide (m ≤ 2)) && ds.all fun d => goodD d.S d.U)
theorem goodC_len {ds : List Dm} {m : Int} (h : goodC ds m = true) : 1 ≤ ds.length ∧ ds.length ≤ 4 ∧ 1 ≤ m ∧ m ≤ 2 := by
  simp [goodC] at h
  omega
theorem goodC_at {ds : List Dm} {m : Int} (h : goodC ds m = true) {i : Nat} (hi : i < ds.length) : goodD (gD ds i).S (gD ds i).U = true := by
  unfold goodC at h
  simp only [Bool.and_eq_true, List.all_eq_true] at h
  exact h.2.2 _ (gD_mem hi)
theorem sbetween_ev (n lo hi : Int) : cvF tab 71 [.int .i64 n, .int .i64 lo, .int .i64 hi] = some (.bool (decide (lo ≤ n) && decide (n ≤ hi))) := by
  refine cvFA_R (mf := Mf.f71) rfl rfl (by kernel_rfl) ?_
  by_cases h1 : lo ≤ n <;> by_cases h2 : n ≤ hi <;> simp [Mf.f71, beqI, bneI, mm_min2, mm_max2, mm_min3, mm_max3, startE, lkE, lkX, lkE_rest, sx, substE, opVA, objs0, List.replicate, XA_seq, XA_region, XOA_go, goE_someA, opV, ev, putA, layAll, XOA_nil, XA_skip_seq, XA_skip_nil, XOA_gd, goG_tA, goG_uA, binV, binInt, unV, XA_ret_nil, XA_ret_cons, endFA_r, endFA_n, endTA_r, endTA_n, endRA_r, endRA_n, endEA_r, endEA_n, List.take, fltR, resultsA, resAs, resA, XA_block, XA_cond, pickX_t, pickX_f, pickX_b, XA_skip_blk, XA_skip_lp, XA_exit_seq, XA_exit_lp, XA_exit_blk, XA_exit_nil, load1, Ev.loadCells, objCells, bodyCells, setCells, AV.flat, AV.flat1, backR, backV, backCell, mapO, AV.cells, AV.atom, AV.tree, fillV, repeatL, treeCell, freezeAll, eqCells, callV_T, callV_F, passN, passV, passCell, srcCells, sliceBounds, hiB, loB, thenQ_nA, thenQ_xA, thenQ_rA, runK_nA, runK_xA, runK_rA, wrap_i64, wrap_u64, wrap_u32, wrap_u8, wrap_u16, h1, h2]
theorem sgood_ev (ds : List Dm) (m : Int) (hC : okC ds) : cvF tab 49 [.agg [.ro ds.length (flatD ds), .int .i64 m]] = some (.bool (goodC ds m)) := by
  refine cvFA_R (mf := Mf.f49) rfl rfl (by kernel_rfl) ?_
  simp only [Mf.f49]
  by_cases c1 : 1 ≤ ds.length ∧ ds.length ≤ 4
  · have c1' : (1 : Int) ≤ (ds.length : Int) ∧ (ds.length : Int) ≤ 4 := by omega
    by_cases c2 : 1 ≤ m ∧ m ≤ 2
    · simp [beqI, bneI, mm_min2, mm_max2, mm_min3, mm_max3, startE, lkE, lkX, lkE_rest, sx, substE, opVA, objs0, List.replicate, XA_seq, XA_region, XOA_go, goE_someA, opV, ev, putA, layAll, XOA_nil, XA_skip_seq, XA_skip_nil, XOA_gd, goG_tA, goG_uA, binV, binInt, unV, XA_ret_nil, XA_ret_cons, endFA_r, endFA_n, endTA_r, endTA_n, endRA_r, endRA_n, endEA_r, endEA_n, List.take, fltR, resultsA, resAs, resA, XA_block, XA_cond, pickX_t, pickX_f, pickX_b, XA_skip_blk, XA_skip_lp, XA_exit_seq, XA_exit_lp, XA_exit_blk, XA_exit_nil, load1, Ev.loadCells, objCells, bodyCells, setCells, AV.flat, AV.flat1, backR, backV, backCell, mapO, AV.cells, AV.atom, AV.tree, fillV, repeatL, treeCell, freezeAll, eqCells, callV_T, callV_F, passN, passV, passCell, srcCells, sliceBounds, hiB, loB, thenQ_nA, thenQ_xA, thenQ_rA, runK_nA, runK_xA, runK_rA, wrap_i64, wrap_u64, wrap_u32, wrap_u8, wrap_u16, sbetween_ev, c1', c2]
      refine XA_for (fun i => ⟨[(17, .ro ds.length (flatD ds)), (18, .int .i64 ds.length), (19, .int .i64 i)], [⟨0, .none⟩, ⟨0, .none⟩]⟩)
        (fun i => (ds.take i).all (fun d => goodD d.S d.U) = true) ds.length 0 (Nat.zero_le _) (by simp [AV.atom, normA, lkE, fixObjs, fixBody, fixV, fixCell]) (by simp) ?_ ?_
      · intro i _ hi hJ
        have hi' : (i : Int) < ds.length := by omega
        obtain ⟨hS, hU⟩ := fits_of (hC.at hi)
        have hg := good_ev (gD ds i).S (gD ds i).U hS hU
        simp only [rI, rR] at hg
        have ht := all_take_succ (fun d : Dm => goodD d.S d.U) ds i hi
        rw [hJ, ← gD_get hi] at ht
        cases c : goodD (gD ds i).S (gD ds i).U with
        | true =>
          rw [c] at ht
          simp [beqI, bneI, mm_min2, mm_max2, mm_min3, mm_max3, startE, lkE, lkX, lkE_rest, sx, substE, opVA, objs0, List.replicate, XA_seq, XA_region, XOA_go, goE_someA, opV, ev, putA, layAll, XOA_nil, XA_skip_seq, XA_skip_nil, XOA_gd, goG_tA, goG_uA, binV, binInt, unV, XA_ret_nil, XA_ret_cons, endFA_r, endFA_n, endTA_r, endTA_n, endRA_r, endRA_n, endEA_r, endEA_n, List.take, fltR, resultsA, resAs, resA, XA_block, XA_cond, pickX_t, pickX_f, pickX_b, XA_skip_blk, XA_skip_lp, XA_exit_seq, XA_exit_lp, XA_exit_blk, XA_exit_nil, load1, Ev.loadCells, objCells, bodyCells, setCells, AV.flat, AV.flat1, backR, backV, backCell, mapO, AV.cells, AV.atom, AV.tree, fillV, repeatL, treeCell, freezeAll, eqCells, callV_T, callV_F, passN, passV, passCell, srcCells, sliceBounds, hiB, loB, thenQ_nA, thenQ_xA, thenQ_rA, runK_nA, runK_xA, runK_rA, wrap_i64, wrap_u64, wrap_u32, wrap_u8, wrap_u16, AV.atom, normA, lkE, fixObjs, fixBody, fixV, fixCell, hi', dropD ds i hi, rI, rR, hg, c, wrap_succ i ds.length hi (by omega)]
          simpa using ht
        | false =>
          have hf : goodC ds m = false := by
            unfold goodC
            rw [all_false (fun d : Dm => goodD d.S d.U) ds i hi (by rw [← gD_get hi]; exact c)]
            simp
          simp [beqI, bneI, mm_min2, mm_max2, mm_min3, mm_max3, startE, lkE, lkX, lkE_rest, sx, substE, opVA, objs0, List.replicate, XA_seq, XA_region, XOA_go, goE_someA, opV, ev, putA, layAll, XOA_nil, XA_skip_seq, XA_skip_nil, XOA_gd, goG_tA, goG_uA, binV, binInt, unV, XA_ret_nil, XA_ret_cons, endFA_r, endFA_n, endTA_r, endTA_n, endRA_r, endRA_n, endEA_r, endEA_n, List.take, fltR, resultsA, resAs, resA, XA_block, XA_cond, pickX_t, pickX_f, pickX_b, XA_skip_blk, XA_skip_lp, XA_exit_seq, XA_exit_lp, XA_exit_blk, XA_exit_nil, load1, Ev.loadCells, objCells, bodyCells, setCells, AV.flat, AV.flat1, backR, backV, backCell, mapO, AV.cells, AV.atom, AV.tree, fillV, repeatL, treeCell, freezeAll, eqCells, callV_T, callV_F, passN, passV, passCell, srcCells, sliceBounds, hiB, loB, thenQ_nA, thenQ_xA, thenQ_rA, runK_nA, runK_xA, runK_rA, wrap_i64, wrap_u64, wrap_u32, wrap_u8, wrap_u16, AV.atom, normA, lkE, fixObjs, fixBody, fixV, fixCell, hi', dropD ds i hi, rI, rR, hg, c, hf]
      · intro hJ
        rw [List.take_length] at hJ
        have hf : goodC ds m = true := by
          simp only [goodC, hJ, c1, c2, decide_true, Bool.and_true]
        simp [beqI, bneI, mm_min2, mm_max2, mm_min3, mm_max3, startE, lkE, lkX, lkE_rest, sx, substE, opVA, objs0, List.replicate, XA_seq, XA_region, XOA_go, goE_someA, opV, ev, putA, layAll, XOA_nil, XA_skip_seq, XA_skip_nil, XOA_gd, goG_tA, goG_uA, binV, binInt, unV, XA_ret_nil, XA_ret_cons, endFA_r, endFA_n, endTA_r, endTA_n, endRA_r, endRA_n, endEA_r, endEA_n, List.take, fltR, resultsA, resAs, resA, XA_block, XA_cond, pickX_t, pickX_f, pickX_b, XA_skip_blk, XA_skip_lp, XA_exit_seq, XA_exit_lp, XA_exit_blk, XA_exit_nil, load1, Ev.loadCells, objCells, bodyCells, setCells, AV.flat, AV.flat1, backR, backV, backCell, mapO, AV.cells, AV.atom, AV.tree, fillV, repeatL, treeCell, freezeAll, eqCells, callV_T, callV_F, passN, passV, passCell, srcCells, sliceBounds, hiB, loB, thenQ_nA, thenQ_xA, thenQ_rA, runK_nA, runK_xA, runK_rA, wrap_i64, wrap_u64, wrap_u32, wrap_u8, wrap_u16, AV.atom, normA, lkE, fixObjs, fixBody, fixV, fixCell, hf]
    · have c2' : (decide (1 ≤ m) && decide (m ≤ 2)) = false := by simp; omega
      have hf : goodC ds m = false := by unfold goodC; rw [c2']; simp
      simp [beqI, bneI, mm_min2, mm_max2, mm_min3, mm_max3, startE, lkE, lkX, lkE_rest, sx, substE, opVA, objs0, List.replicate, XA_seq, XA_region, XOA_go, goE_someA, opV, ev, putA, layAll, XOA_nil, XA_skip_seq, XA_skip_nil, XOA_gd, goG_tA, goG_uA, binV, binInt, unV, XA_ret_nil, XA_ret_cons, endFA_r, endFA_n, endTA_r, endTA_n, endRA_r, endRA_n, endEA_r, endEA_n, List.take, fltR, resultsA, resAs, resA, XA_block, XA_cond, pickX_t, pickX_f, pickX_b, XA_skip_blk, XA_skip_lp, XA_exit_seq, XA_exit_lp, XA_exit_blk, XA_exit_nil, load1, Ev.loadCells, objCells, bodyCells, setCells, AV.flat, AV.flat1, backR, backV, backCell, mapO, AV.cells, AV.atom, AV.tree, fillV, repeatL, treeCell, freezeAll, eqCells, callV_T, callV_F, passN, passV, passCell, srcCells, sliceBounds, hiB, loB, thenQ_nA, thenQ_xA, thenQ_rA, runK_nA, runK_xA, runK_rA, wrap_i64, wrap_u64, wrap_u32, wrap_u8, wrap_u16, sbetween_ev, c1', c2', hf]
  · have c1' : (decide ((1 : Int) ≤ (ds.length : Int)) && decide ((ds.length : Int) ≤ 4)) = false := by simp; omega
    have hf : goodC ds m = false := by
      unfold goodC
      rw [show (decide (1 ≤ ds.length) && decide (ds.length ≤ 4)) = false from by simp; omega]
      simp
    simp [beqI, bneI, mm_min2, mm_max2, mm_min3, mm_max3, startE, lkE, lkX, lkE_rest, sx, substE, opVA, objs0, List.replicate, XA_seq, XA_region, XOA_go, goE_someA, opV, ev, putA, layAll, XOA_nil, XA_skip_seq, XA_skip_nil, XOA_gd, goG_tA, goG_uA, binV, binInt, unV, XA_ret_nil, XA_ret_cons, endFA_r, endFA_n, endTA_r, endTA_n, endRA_r, endRA_n, endEA_r, endEA_n, List.take, fltR, resultsA, resAs, resA, XA_block, XA_cond, pickX_t, pickX_f, pickX_b, XA_skip_blk, XA_skip_lp, XA_exit_seq, XA_exit_lp, XA_exit_blk, XA_exit_nil, load1, Ev.loadCells, objCells, bodyCells, setCells, AV.flat, AV.flat1, backR, backV, backCell, mapO, AV.cells, AV.atom, AV.tree, fillV, repeatL, treeCell, freezeAll, eqCells, callV_T, callV_F, passN, passV, passCell, srcCells, sliceBounds, hiB, loB, thenQ_nA, thenQ_xA, thenQ_rA, runK_nA, runK_xA, runK_rA, wrap_i64, wrap_u64, wrap_u32, wrap_u8, wrap_u16, sbetween_ev, c1', hf]
def rightAt (ds : List Dm) (v a : List Int) (i : Nat) : Bool :=
  if i < ds.length then decide (gI a i < sizeD (gD ds i).S (gD ds i).U (gI v i)) else decide (gI v i = 0) && decide (gI a i = 0)
def rightC (ds : List Dm) (m : Int) (v a : List Int) : Bool := goodC ds m && (List.range 4).all (rightAt ds v a)
theorem sright_ev (ds : List Dm) (m : Int) (v a : List Int) (hC : okC ds) (hv : okN v) (ha : okN a) : cvF tab 61 [.agg [.ro ds.length (flatD ds), .int .i64 m], .agg (v.map (.int .u8)), .agg (a.map (.int .u8))] = some (.bool (rightC ds m v a)) := by
  refine cvFA_R (mf := Mf.f61) rfl rfl (by kernel_rfl) ?_
  simp only [Mf.f61]
  cases g : goodC ds m with
  | false => simp [beqI, bneI, mm_min2, mm_max2, mm_min3, mm_max3, startE, lkE, lkX, lkE_rest, sx, substE, opVA, objs0, List.replicate, XA_seq, XA_region, XOA_go, goE_someA, opV, ev, putA, layAll, XOA_nil, XA_skip_seq, XA_skip_nil, XOA_gd, goG_tA, goG_uA, binV, binInt, unV, XA_ret_nil, XA_ret_cons, endFA_r, endFA_n, endTA_r, endTA_n, endRA_r, endRA_n, endEA_r, endEA_n, List.take, fltR, resultsA, resAs, resA, XA_block, XA_cond, pickX_t, pickX_f, pickX_b, XA_skip_blk, XA_skip_lp, XA_exit_seq, XA_exit_lp, XA_exit_blk, XA_exit_nil, load1, Ev.loadCells, objCells, bodyCells, setCells, AV.flat, AV.flat1, backR, backV, backCell, mapO, AV.cells, AV.atom, AV.tree, fillV, repeatL, treeCell, freezeAll, eqCells, callV_T, callV_F, passN, passV, passCell, srcCells, sliceBounds, hiB, loB, thenQ_nA, thenQ_xA, thenQ_rA, runK_nA, runK_xA, runK_rA, wrap_i64, wrap_u64, wrap_u32, wrap_u8, wrap_u16, sgood_ev ds m hC, g, rightC]
  | true =>
    have hl := goodC_len g
    simp [beqI, bneI, mm_min2, mm_max2, mm_min3, mm_max3, startE, lkE, lkX, lkE_rest, sx, substE, opVA, objs0, List.replicate, XA_seq, XA_region, XOA_go, goE_someA, opV, ev, putA, layAll, XOA_nil, XA_skip_seq, XA_skip_nil, XOA_gd, goG_tA, goG_uA, binV, binInt, unV, XA_ret_nil, XA_ret_cons, endFA_r, endFA_n, endTA_r, endTA_n, endRA_r, endRA_n, endEA_r, endEA_n, List.take, fltR, resultsA, resAs, resA, XA_block, XA_cond, pickX_t, pickX_f, pickX_b, XA_skip_blk, XA_skip_lp, XA_exit_seq, XA_exit_lp, XA_exit_blk, XA_exit_nil, load1, Ev.loadCells, objCells, bodyCells, setCells, AV.flat, AV.flat1, backR, backV, backCell, mapO, AV.cells, AV.atom, AV.tree, fillV, repeatL, treeCell, freezeAll, eqCells, callV_T, callV_F, passN, passV, passCell, srcCells, sliceBounds, hiB, loB, thenQ_nA, thenQ_xA, thenQ_rA, runK_nA, runK_xA, runK_rA, wrap_i64, wrap_u64, wrap_u32, wrap_u8, wrap_u16, sgood_ev ds m hC, g]
    refine XA_for (fun i => ⟨[(3, .ptr 0 0 0), (4, .ptr 1 0 0), (5, .ptr 2 0 0), (11, .int .i64 i)], [⟨0, .var [.ro ds.length (flatD ds), .int .i64 m]⟩, ⟨0, .var (v.map (.int .u8))⟩, ⟨0, .var (a.map (.int .u8))⟩]⟩)
      (fun i => (List.range i).all (rightAt ds v a) = true) 4 0 (by omega) (by simp [AV.atom, normA, lkE, fixObjs, fixBody, fixV, fixCell]) (by simp) ?_ ?_
    · intro i _ hi hJ
      have hi4 : (i : Int) < 4 := by omega
      have hbv := hv.at hi
      have hba := ha.at hi
      unfold byte at hbv hba
      have w1 : IntKind.i64.wrap (gI v i) = gI v i := wrap_i64 (by omega) (by omega)
      have w2 : IntKind.i64.wrap (gI a i) = gI a i := wrap_i64 (by omega) (by omega)
      have hs := range_take_succ (rightAt ds v a) i
      rw [hJ] at hs
      have hfalse : rightAt ds v a i = false → rightC ds m v a = false := fun h => by
        unfold rightC
        rw [range_false (rightAt ds v a) 4 i hi h]
        simp
      by_cases c : i < ds.length
      · have c' : ¬ (ds.length : Int) ≤ (i : Int) := by omega
        have c'' : (i : Int) < ds.length := by omega
        obtain ⟨hS, hU⟩ := fits_of (hC.at c)
        have he := size_ev (gD ds i).S (gD ds i).U (gI v i) hS hU
        simp only [rI, rR] at he
        by_cases h : gI a i < sizeD (gD ds i).S (gD ds i).U (gI v i)
        · have h' : ¬ sizeD (gD ds i).S (gD ds i).U (gI v i) ≤ gI a i := by omega
          have hr : rightAt ds v a i = true := by simp [rightAt, c, h]
          rw [hr] at hs
          simp [beqI, bneI, mm_min2, mm_max2, mm_min3, mm_max3, startE, lkE, lkX, lkE_rest, sx, substE, opVA, objs0, List.replicate, XA_seq, XA_region, XOA_go, goE_someA, opV, ev, putA, layAll, XOA_nil, XA_skip_seq, XA_skip_nil, XOA_gd, goG_tA, goG_uA, binV, binInt, unV, XA_ret_nil, XA_ret_cons, endFA_r, endFA_n, endTA_r, endTA_n, endRA_r, endRA_n, endEA_r, endEA_n, List.take, fltR, resultsA, resAs, resA, XA_block, XA_cond, pickX_t, pickX_f, pickX_b, XA_skip_blk, XA_skip_lp, XA_exit_seq, XA_exit_lp, XA_exit_blk, XA_exit_nil, load1, Ev.loadCells, objCells, bodyCells, setCells, AV.flat, AV.flat1, backR, backV, backCell, mapO, AV.cells, AV.atom, AV.tree, fillV, repeatL, treeCell, freezeAll, eqCells, callV_T, callV_F, passN, passV, passCell, srcCells, sliceBounds, hiB, loB, thenQ_nA, thenQ_xA, thenQ_rA, runK_nA, runK_xA, runK_rA, wrap_i64, wrap_u64, wrap_u32, wrap_u8, wrap_u16, AV.atom, normA, lkE, fixObjs, fixBody, fixV, fixCell, hi4, c', c'', getN ha hi, getN hv hi, w1, w2, dropD ds i c, rI, rR, he, h', wrap_succ i 4 hi (by omega)]
          simpa using hs
        · have h' : sizeD (gD ds i).S (gD ds i).U (gI v i) ≤ gI a i := by omega
          have hr : rightAt ds v a i = false := by simp [rightAt, c, h]
          simp [beqI, bneI, mm_min2, mm_max2, mm_min3, mm_max3, startE, lkE, lkX, lkE_rest, sx, substE, opVA, objs0, List.replicate, XA_seq, XA_region, XOA_go, goE_someA, opV, ev, putA, layAll, XOA_nil, XA_skip_seq, XA_skip_nil, XOA_gd, goG_tA, goG_uA, binV, binInt, unV, XA_ret_nil, XA_ret_cons, endFA_r, endFA_n, endTA_r, endTA_n, endRA_r, endRA_n, endEA_r, endEA_n, List.take, fltR, resultsA, resAs, resA, XA_block, XA_cond, pickX_t, pickX_f, pickX_b, XA_skip_blk, XA_skip_lp, XA_exit_seq, XA_exit_lp, XA_exit_blk, XA_exit_nil, load1, Ev.loadCells, objCells, bodyCells, setCells, AV.flat, AV.flat1, backR, backV, backCell, mapO, AV.cells, AV.atom, AV.tree, fillV, repeatL, treeCell, freezeAll, eqCells, callV_T, callV_F, passN, passV, passCell, srcCells, sliceBounds, hiB, loB, thenQ_nA, thenQ_xA, thenQ_rA, runK_nA, runK_xA, runK_rA, wrap_i64, wrap_u64, wrap_u32, wrap_u8, wrap_u16, AV.atom, normA, lkE, fixObjs, fixBody, fixV, fixCell, hi4, c', c'', getN ha hi, getN hv hi, w1, w2, dropD ds i c, rI, rR, he, h', hfalse hr]
      · have c' : (ds.length : Int) ≤ (i : Int) := by omega
        by_cases h1 : gI v i = 0
        · by_cases h2 : gI a i = 0
          · have hr : rightAt ds v a i = true := by simp [rightAt, c, h1, h2]
            rw [hr] at hs
            simp [beqI, bneI, mm_min2, mm_max2, mm_min3, mm_max3, startE, lkE, lkX, lkE_rest, sx, substE, opVA, objs0, List.replicate, XA_seq, XA_region, XOA_go, goE_someA, opV, ev, putA, layAll, XOA_nil, XA_skip_seq, XA_skip_nil, XOA_gd, goG_tA, goG_uA, binV, binInt, unV, XA_ret_nil, XA_ret_cons, endFA_r, endFA_n, endTA_r, endTA_n, endRA_r, endRA_n, endEA_r, endEA_n, List.take, fltR, resultsA, resAs, resA, XA_block, XA_cond, pickX_t, pickX_f, pickX_b, XA_skip_blk, XA_skip_lp, XA_exit_seq, XA_exit_lp, XA_exit_blk, XA_exit_nil, load1, Ev.loadCells, objCells, bodyCells, setCells, AV.flat, AV.flat1, backR, backV, backCell, mapO, AV.cells, AV.atom, AV.tree, fillV, repeatL, treeCell, freezeAll, eqCells, callV_T, callV_F, passN, passV, passCell, srcCells, sliceBounds, hiB, loB, thenQ_nA, thenQ_xA, thenQ_rA, runK_nA, runK_xA, runK_rA, wrap_i64, wrap_u64, wrap_u32, wrap_u8, wrap_u16, AV.atom, normA, lkE, fixObjs, fixBody, fixV, fixCell, hi4, c', getN ha hi, getN hv hi, h1, h2, wrap_succ i 4 hi (by omega)]
            simpa using hs
          · have hr : rightAt ds v a i = false := by simp [rightAt, c, h1, h2]
            simp [beqI, bneI, mm_min2, mm_max2, mm_min3, mm_max3, startE, lkE, lkX, lkE_rest, sx, substE, opVA, objs0, List.replicate, XA_seq, XA_region, XOA_go, goE_someA, opV, ev, putA, layAll, XOA_nil, XA_skip_seq, XA_skip_nil, XOA_gd, goG_tA, goG_uA, binV, binInt, unV, XA_ret_nil, XA_ret_cons, endFA_r, endFA_n, endTA_r, endTA_n, endRA_r, endRA_n, endEA_r, endEA_n, List.take, fltR, resultsA, resAs, resA, XA_block, XA_cond, pickX_t, pickX_f, pickX_b, XA_skip_blk, XA_skip_lp, XA_exit_seq, XA_exit_lp, XA_exit_blk, XA_exit_nil, load1, Ev.loadCells, objCells, bodyCells, setCells, AV.flat, AV.flat1, backR, backV, backCell, mapO, AV.cells, AV.atom, AV.tree, fillV, repeatL, treeCell, freezeAll, eqCells, callV_T, callV_F, passN, passV, passCell, srcCells, sliceBounds, hiB, loB, thenQ_nA, thenQ_xA, thenQ_rA, runK_nA, runK_xA, runK_rA, wrap_i64, wrap_u64, wrap_u32, wrap_u8, wrap_u16, AV.atom, normA, lkE, fixObjs, fixBody, fixV, fixCell, hi4, c', getN ha hi, getN hv hi, h1, h2, hfalse hr]
        · have hr : rightAt ds v a i = false := by simp [rightAt, c, h1]
          simp [beqI, bneI, mm_min2, mm_max2, mm_min3, mm_max3, startE, lkE, lkX, lkE_rest, sx, substE, opVA, objs0, List.replicate, XA_seq, XA_region, XOA_go, goE_someA, opV, ev, putA, layAll, XOA_nil, XA_skip_seq, XA_skip_nil, XOA_gd, goG_tA, goG_uA, binV, binInt, unV, XA_ret_nil, XA_ret_cons, endFA_r, endFA_n, endTA_r, endTA_n, endRA_r, endRA_n, endEA_r, endEA_n, List.take, fltR, resultsA, resAs, resA, XA_block, XA_cond, pickX_t, pickX_f, pickX_b, XA_skip_blk, XA_skip_lp, XA_exit_seq, XA_exit_lp, XA_exit_blk, XA_exit_nil, load1, Ev.loadCells, objCells, bodyCells, setCells, AV.flat, AV.flat1, backR, backV, backCell, mapO, AV.cells, AV.atom, AV.tree, fillV, repeatL, treeCell, freezeAll, eqCells, callV_T, callV_F, passN, passV, passCell, srcCells, sliceBounds, hiB, loB, thenQ_nA, thenQ_xA, thenQ_rA, runK_nA, runK_xA, runK_rA, wrap_i64, wrap_u64, wrap_u32, wrap_u8, wrap_u16, AV.atom, normA, lkE, fixObjs, fixBody, fixV, fixCell, hi4, c', getN ha hi, getN hv hi, h1, hfalse hr]
    · intro hJ
      have hr : rightC ds m v a = true := by
        unfold rightC
        rw [g, hJ]; rfl
      simp [beqI, bneI, mm_min2, mm_max2, mm_min3, mm_max3, startE, lkE, lkX, lkE_rest, sx, substE, opVA, objs0, List.replicate, XA_seq, XA_region, XOA_go, goE_someA, opV, ev, putA, layAll, XOA_nil, XA_skip_seq, XA_skip_nil, XOA_gd, goG_tA, goG_uA, binV, binInt, unV, XA_ret_nil, XA_ret_cons, endFA_r, endFA_n, endTA_r, endTA_n, endRA_r, endRA_n, endEA_r, endEA_n, List.take, fltR, resultsA, resAs, resA, XA_block, XA_cond, pickX_t, pickX_f, pickX_b, XA_skip_blk, XA_skip_lp, XA_exit_seq, XA_exit_lp, XA_exit_blk, XA_exit_nil, load1, Ev.loadCells, objCells, bodyCells, setCells, AV.flat, AV.flat1, backR, backV, backCell, mapO, AV.cells, AV.atom, AV.tree, fillV, repeatL, treeCell, freezeAll, eqCells, callV_T, callV_F, passN, passV, passCell, srcCells, sliceBounds, hiB, loB, thenQ_nA, thenQ_xA, thenQ_rA, runK_nA, runK_xA, runK_rA, wrap_i64, wrap_u64, wrap_u32, wrap_u8, wrap_u16, AV.atom, normA, lkE, fixObjs, fixBody, fixV, fixCell, hr]
end Go.Proofs.Ytpohmfihpnineaa
end
section
set_option linter.unusedSimpArgs false
set_option linter.unusedVariables false
set_option maxHeartbeats 4000000
set_option maxRecDepth 100000
namespace Go.Proofs.Ytpohmfihpnineaa
open Go.Ev
theorem wrapu_neg {v : Int} (h1 : -9223372036854775808 ≤ v) (h2 : v < 0) : IntKind.u64.wrap v = v + 18446744073709551616 := by
  simp only [IntKind.wrap, IntKind.signed, IntKind.bits]
  simp
  omega
theorem wrap8 (x : Int) : IntKind.u8.wrap x = x % 256 := by
  simp only [IntKind.wrap, IntKind.signed, IntKind.bits]
  simp
theorem fdiv_eq (a : Int) (b : Nat) : a.fdiv (b : Int) = a / (b : Int) := Int.fdiv_eq_ediv_of_nonneg a (by omega)
def key4 (a b c d : Int) : Int := ((a * 256 + b) * 256 + c) * 256 + d
theorem key_ev (a b c d : Int) (ha : byte a) (hb : byte b) (hc : byte c) (hd : byte d) : cvF tab 69 [.agg [.int .u8 a, .int .u8 b, .int .u8 c, .int .u8 d]] = some (.int .u32 (key4 a b c d)) := by
  unfold byte at *
  refine cvFA_R (mf := Mf.f69) rfl rfl (by kernel_rfl) ?_
  have e1 : IntKind.u32.wrap a = a := wrap_u32 (by omega) (by omega)
  have e2 : IntKind.u32.wrap b = b := wrap_u32 (by omega) (by omega)
  have e3 : IntKind.u32.wrap c = c := wrap_u32 (by omega) (by omega)
  have e4 : IntKind.u32.wrap d = d := wrap_u32 (by omega) (by omega)
  have e5 : IntKind.u32.wrap (a * 256) = a * 256 := wrap_u32 (by omega) (by omega)
  have e7 : IntKind.u32.wrap ((a * 256 + b) * 256) = (a * 256 + b) * 256 := wrap_u32 (by omega) (by omega)
  have e9 : IntKind.u32.wrap (((a * 256 + b) * 256 + c) * 256) = ((a * 256 + b) * 256 + c) * 256 := wrap_u32 (by omega) (by omega)
  have e0 : IntKind.u32.wrap 0 = 0 := by decide
  have o0 := bin_or_u32 0 a (by omega) (by omega) ha.1 ha.2
  have o1 := bin_or_u32 a b (by omega) (by omega) hb.1 hb.2
  have o2 := bin_or_u32 (a * 256 + b) c (by omega) (by omega) hc.1 hc.2
  have o3 := bin_or_u32 ((a * 256 + b) * 256 + c) d (by omega) (by omega) hd.1 hd.2
  simp at o0
  simp [Mf.f69, beqI, bneI, mm_min2, mm_max2, mm_min3, mm_max3, startE, lkE, lkX, lkE_rest, sx, substE, opVA, objs0, List.replicate, XA_seq, XA_region, XOA_go, goE_someA, opV, ev, putA, layAll, XOA_nil, XA_skip_seq, XA_skip_nil, XOA_gd, goG_tA, goG_uA, binV, bi_add, bi_sub, bi_mul, bi_quo, bi_rem, bi_eql, bi_neq, bi_lss, bi_leq, bi_gtr, bi_geq, bi_shl, bi_shr, bi_and, bi_or, bi_xor, unV, XA_ret_nil, XA_ret_cons, endFA_r, endFA_n, endTA_r, endTA_n, endRA_r, endRA_n, endEA_r, endEA_n, List.take, fltR, resultsA, resAs, resA, XA_block, XA_cond, pickX_t, pickX_f, pickX_b, XA_skip_blk, XA_skip_lp, XA_exit_seq, XA_exit_lp, XA_exit_blk, XA_exit_nil, load1, Ev.loadCells, objCells, bodyCells, setCells, AV.flat, AV.flat1, backR, backV, backCell, mapO, AV.cells, AV.atom, AV.tree, fillV, repeatL, treeCell, freezeAll, eqCells, callV_T, callV_F, passN, passV, passCell, srcCells, sliceBounds, hiB, loB, thenQ_nA, thenQ_xA, thenQ_rA, runK_nA, runK_xA, runK_rA, wrap_i64, wrap_u64, wrap_u32, wrap_u8, wrap_u16, XA_round, normA, lkE, fixObjs, fixBody, fixV, fixCell, goN_someA, e0, e1, e2, e3, e4, e5, e7, e9, o0, o1, o2, o3, key4, IntKind.bits]
theorem rkey_ev (a b c d : Int) (ha : byte a) (hb : byte b) (hc : byte c) (hd : byte d) : cvF tab 28 [.agg [.int .u8 a, .int .u8 b, .int .u8 c, .int .u8 d]] = some (.int .u32 (key4 a b c d)) := by
  unfold byte at *
  refine cvFA_R (mf := Mf.f28) rfl rfl (by kernel_rfl) ?_
  have e1 : IntKind.u32.wrap a = a := wrap_u32 (by omega) (by omega)
  have e2 : IntKind.u32.wrap b = b := wrap_u32 (by omega) (by omega)
  have e3 : IntKind.u32.wrap c = c := wrap_u32 (by omega) (by omega)
  have e4 : IntKind.u32.wrap d = d := wrap_u32 (by omega) (by omega)
  have e5 : IntKind.u32.wrap (a * 256) = a * 256 := wrap_u32 (by omega) (by omega)
  have e6 : IntKind.u32.wrap (a * 256 + b) = a * 256 + b := wrap_u32 (by omega) (by omega)
  have e7 : IntKind.u32.wrap ((a * 256 + b) * 256) = (a * 256 + b) * 256 := wrap_u32 (by omega) (by omega)
  have e8 : IntKind.u32.wrap ((a * 256 + b) * 256 + c) = (a * 256 + b) * 256 + c := wrap_u32 (by omega) (by omega)
  have e9 : IntKind.u32.wrap (((a * 256 + b) * 256 + c) * 256) = ((a * 256 + b) * 256 + c) * 256 := wrap_u32 (by omega) (by omega)
  have e10 : IntKind.u32.wrap (((a * 256 + b) * 256 + c) * 256 + d) = ((a * 256 + b) * 256 + c) * 256 + d := wrap_u32 (by omega) (by omega)
  simp [Mf.f28, beqI, bneI, mm_min2, mm_max2, mm_min3, mm_max3, startE, lkE, lkX, lkE_rest, sx, substE, opVA, objs0, List.replicate, XA_seq, XA_region, XOA_go, goE_someA, opV, ev, putA, layAll, XOA_nil, XA_skip_seq, XA_skip_nil, XOA_gd, goG_tA, goG_uA, binV, bi_add, bi_sub, bi_mul, bi_quo, bi_rem, bi_eql, bi_neq, bi_lss, bi_leq, bi_gtr, bi_geq, bi_shl, bi_shr, bi_and, bi_or, bi_xor, unV, XA_ret_nil, XA_ret_cons, endFA_r, endFA_n, endTA_r, endTA_n, endRA_r, endRA_n, endEA_r, endEA_n, List.take, fltR, resultsA, resAs, resA, XA_block, XA_cond, pickX_t, pickX_f, pickX_b, XA_skip_blk, XA_skip_lp, XA_exit_seq, XA_exit_lp, XA_exit_blk, XA_exit_nil, load1, Ev.loadCells, objCells, bodyCells, setCells, AV.flat, AV.flat1, backR, backV, backCell, mapO, AV.cells, AV.atom, AV.tree, fillV, repeatL, treeCell, freezeAll, eqCells, callV_T, callV_F, passN, passV, passCell, srcCells, sliceBounds, hiB, loB, thenQ_nA, thenQ_xA, thenQ_rA, runK_nA, runK_xA, runK_rA, wrap_i64, wrap_u64, wrap_u32, wrap_u8, wrap_u16, XA_round, normA, lkE, fixObjs, fixBody, fixV, fixCell, goN_someA, e1, e2, e3, e4, e5, e6, e7, e8, e9, e10, key4]
end Go.Proofs.Ytpohmfihpnineaa
end
section
set_option linter.unusedSimpArgs false
set_option linter.unusedVariables false
set_option maxHeartbeats 4000000
set_option maxRecDepth 100000
namespace Go.Proofs.Ytpohmfihpnineaa
open Go.Ev
structure Rw where
  a : Int
  b : Int
  c : Int
  d : Int
  x : Int
  y : Int
  deriving DecidableEq
structure okW (r : Rw) : Prop where
  a : byte r.a
  b : byte r.b
  c : byte r.c
  d : byte r.d
  x : inI r.x
  y : inI r.y
def rowC (r : Rw) : List AV := [.int .u8 r.a, .int .u8 r.b, .int .u8 r.c, .int .u8 r.d, .int .i64 r.x, .int .i64 r.y]
def gRow : GT := .pair (.arr 4 (.int .u8)) (.pair (.arr 2 (.int .i64)) .unit)
theorem rd_row {cs : List AV} (h : RD gRow cs) : ∃ r, cs = rowC r ∧ okW r := by
  obtain ⟨p, q, rfl, ⟨L, hL, rfl, hx⟩, s, t, rfl, ⟨K, hK, rfl, hy⟩, rfl⟩ := h
  match L, hL, hx, K, hK, hy with
  | [l1, l2, l3, l4], _, hx, [k1, k2], _, hy =>
    obtain ⟨a, rfl, ha⟩ := rd_u8 (hx l1 (by simp))
    obtain ⟨b, rfl, hb⟩ := rd_u8 (hx l2 (by simp))
    obtain ⟨c, rfl, hc⟩ := rd_u8 (hx l3 (by simp))
    obtain ⟨d, rfl, hd⟩ := rd_u8 (hx l4 (by simp))
    obtain ⟨x, rfl, hx'⟩ := rd_i64 (hy k1 (by simp))
    obtain ⟨y, rfl, hy'⟩ := rd_i64 (hy k2 (by simp))
    exact ⟨⟨a, b, c, d, x, y⟩, rfl, ⟨ha, hb, hc, hd, hx', hy'⟩⟩
def flatW (l : List Rw) : List AV := l.flatMap rowC
def rW (l : List Rw) : AV := .ro l.length (flatW l)
def okL (l : List Rw) : Prop := ∀ r ∈ l, okW r
theorem rdarg_rows {a : AV} (h : RDarg (.slice gRow) a) : ∃ l, a = rW l ∧ okL l := by
  simp only [RDarg, isAggG] at h
  obtain ⟨L, h1, h2, h3⟩ := h
  simp at h1
  subst h1
  have key : ∀ (L : List (List AV)), (∀ x ∈ L, RD gRow x) → ∃ l : List Rw, L.length = l.length ∧ L.flatten = flatW l ∧ okL l := by
    intro L
    induction L with
    | nil => intro _; exact ⟨[], rfl, rfl, fun d hd => by cases hd⟩
    | cons c L ih =>
      intro h
      obtain ⟨r, rfl, hr⟩ := rd_row (h c (by simp))
      obtain ⟨l, h1, h2, h3⟩ := ih fun x hx => h x (by simp [hx])
      refine ⟨r :: l, by simp [h1], by simp [h2, flatW], fun d hd => ?_⟩
      rcases List.mem_cons.1 hd with rfl | hd
      · exact hr
      · exact h3 d hd
  obtain ⟨l, h4, h5, h6⟩ := key L h3
  exact ⟨l, by rw [h4, h5]; rfl, h6⟩
theorem flatW_len (l : List Rw) : (flatW l).length = l.length * 6 := by
  induction l with
  | nil => rfl
  | cons r l ih =>
    simp only [flatW, List.flatMap_cons, List.length_append] at *
    rw [ih]
    simp [rowC]; omega
theorem flatW_append (a b : List Rw) : flatW (a ++ b) = flatW a ++ flatW b := List.flatMap_append ..
theorem flatW_drop (l : List Rw) (i : Nat) : (flatW l).drop (i * 6) = flatW (l.drop i) := by
  induction l generalizing i with
  | nil => simp [flatW]
  | cons r l ih =>
    cases i with
    | zero => simp
    | succ i =>
      rw [show (i + 1) * 6 = i * 6 + 6 from by omega]
      simp only [flatW, List.flatMap_cons, rowC, List.cons_append, List.nil_append, List.drop_succ_cons]
      exact ih i
theorem flatW_take (l : List Rw) (i : Nat) : (flatW l).take (i * 6) = flatW (l.take i) := by
  induction l generalizing i with
  | nil => simp [flatW]
  | cons r l ih =>
    cases i with
    | zero => simp [flatW]
    | succ i =>
      rw [show (i + 1) * 6 = i * 6 + 6 from by omega]
      simp only [flatW, List.flatMap_cons, rowC, List.cons_append, List.nil_append, List.take_succ_cons]
      exact congrArg _ (congrArg _ (congrArg _ (congrArg _ (congrArg _ (congrArg _ (ih i))))))
theorem dropW (l : List Rw) (i : Nat) (h : i < l.length) : (flatW l).drop (i * 6) = rowC l[i] ++ flatW (l.drop (i + 1)) := by
  rw [flatW_drop, List.drop_eq_getElem_cons h]
  rfl
theorem flatW_tree (l : List Rw) : (flatW l).all AV.tree = true := by
  refine List.all_eq_true.2 fun x hx => ?_
  obtain ⟨r, _, h⟩ := List.mem_flatMap.1 hx
  simp only [rowC, List.mem_cons, List.not_mem_nil, or_false] at h
  rcases h with rfl | rfl | rfl | rfl | rfl | rfl <;> rfl
def cmpI (x y : Int) : Int := if x < y then -1 else if y < x then 1 else 0
theorem nan32_ev (x : Int) : cvF tab 89 [.int .u32 x] = some (.bool false) := by
  refine cvFA_R (mf := Mf.f89) rfl rfl (by kernel_rfl) ?_
  simp only [Mf.f89]
  simp [beqI, bneI, mm_min2, mm_max2, mm_min3, mm_max3, startE, lkE, lkX, lkE_rest, sx, substE, opVA, objs0, List.replicate, XA_seq, XA_region, XOA_go, goE_someA, opV, ev, putA, layAll, XOA_nil, XA_skip_seq, XA_skip_nil, XOA_gd, goG_tA, goG_uA, binV, bi_add, bi_sub, bi_mul, bi_quo, bi_rem, bi_eql, bi_neq, bi_lss, bi_leq, bi_gtr, bi_geq, bi_shl, bi_shr, bi_and, bi_or, bi_xor, unV, XA_ret_nil, XA_ret_cons, endFA_r, endFA_n, endTA_r, endTA_n, endRA_r, endRA_n, endEA_r, endEA_n, List.take, fltR, resultsA, resAs, resA, XA_block, XA_cond, pickX_t, pickX_f, pickX_b, XA_skip_blk, XA_skip_lp, XA_exit_seq, XA_exit_lp, XA_exit_blk, XA_exit_nil, load1, Ev.loadCells, objCells, bodyCells, setCells, AV.flat, AV.flat1, backR, backV, backCell, mapO, AV.cells, AV.atom, AV.tree, fillV, repeatL, treeCell, freezeAll, eqCells, callV_T, callV_F, passN, passV, passCell, srcCells, sliceBounds, hiB, loB, thenQ_nA, thenQ_xA, thenQ_rA, runK_nA, runK_xA, runK_rA, wrap_i64, wrap_u64, wrap_u32, wrap_u8, wrap_u16]
theorem nan64_ev (x : Int) : cvF tab 103 [.int .i64 x] = some (.bool false) := by
  refine cvFA_R (mf := Mf.f103) rfl rfl (by kernel_rfl) ?_
  simp only [Mf.f103]
  simp [beqI, bneI, mm_min2, mm_max2, mm_min3, mm_max3, startE, lkE, lkX, lkE_rest, sx, substE, opVA, objs0, List.replicate, XA_seq, XA_region, XOA_go, goE_someA, opV, ev, putA, layAll, XOA_nil, XA_skip_seq, XA_skip_nil, XOA_gd, goG_tA, goG_uA, binV, bi_add, bi_sub, bi_mul, bi_quo, bi_rem, bi_eql, bi_neq, bi_lss, bi_leq, bi_gtr, bi_geq, bi_shl, bi_shr, bi_and, bi_or, bi_xor, unV, XA_ret_nil, XA_ret_cons, endFA_r, endFA_n, endTA_r, endTA_n, endRA_r, endRA_n, endEA_r, endEA_n, List.take, fltR, resultsA, resAs, resA, XA_block, XA_cond, pickX_t, pickX_f, pickX_b, XA_skip_blk, XA_skip_lp, XA_exit_seq, XA_exit_lp, XA_exit_blk, XA_exit_nil, load1, Ev.loadCells, objCells, bodyCells, setCells, AV.flat, AV.flat1, backR, backV, backCell, mapO, AV.cells, AV.atom, AV.tree, fillV, repeatL, treeCell, freezeAll, eqCells, callV_T, callV_F, passN, passV, passCell, srcCells, sliceBounds, hiB, loB, thenQ_nA, thenQ_xA, thenQ_rA, runK_nA, runK_xA, runK_rA, wrap_i64, wrap_u64, wrap_u32, wrap_u8, wrap_u16]
theorem cmp32_ev (x y : Int) : cvF tab 68 [.int .u32 x, .int .u32 y] = some (.int .i64 (cmpI x y)) := by
  refine cvFA_R (mf := Mf.f68) rfl rfl (by kernel_rfl) ?_
  simp only [Mf.f68]
  unfold cmpI
  by_cases h1 : x < y
  · simp [beqI, bneI, mm_min2, mm_max2, mm_min3, mm_max3, startE, lkE, lkX, lkE_rest, sx, substE, opVA, objs0, List.replicate, XA_seq, XA_region, XOA_go, goE_someA, opV, ev, putA, layAll, XOA_nil, XA_skip_seq, XA_skip_nil, XOA_gd, goG_tA, goG_uA, binV, bi_add, bi_sub, bi_mul, bi_quo, bi_rem, bi_eql, bi_neq, bi_lss, bi_leq, bi_gtr, bi_geq, bi_shl, bi_shr, bi_and, bi_or, bi_xor, unV, XA_ret_nil, XA_ret_cons, endFA_r, endFA_n, endTA_r, endTA_n, endRA_r, endRA_n, endEA_r, endEA_n, List.take, fltR, resultsA, resAs, resA, XA_block, XA_cond, pickX_t, pickX_f, pickX_b, XA_skip_blk, XA_skip_lp, XA_exit_seq, XA_exit_lp, XA_exit_blk, XA_exit_nil, load1, Ev.loadCells, objCells, bodyCells, setCells, AV.flat, AV.flat1, backR, backV, backCell, mapO, AV.cells, AV.atom, AV.tree, fillV, repeatL, treeCell, freezeAll, eqCells, callV_T, callV_F, passN, passV, passCell, srcCells, sliceBounds, hiB, loB, thenQ_nA, thenQ_xA, thenQ_rA, runK_nA, runK_xA, runK_rA, wrap_i64, wrap_u64, wrap_u32, wrap_u8, wrap_u16, nan32_ev, h1]
  · by_cases h2 : y < x <;> simp [beqI, bneI, mm_min2, mm_max2, mm_min3, mm_max3, startE, lkE, lkX, lkE_rest, sx, substE, opVA, objs0, List.replicate, XA_seq, XA_region, XOA_go, goE_someA, opV, ev, putA, layAll, XOA_nil, XA_skip_seq, XA_skip_nil, XOA_gd, goG_tA, goG_uA, binV, bi_add, bi_sub, bi_mul, bi_quo, bi_rem, bi_eql, bi_neq, bi_lss, bi_leq, bi_gtr, bi_geq, bi_shl, bi_shr, bi_and, bi_or, bi_xor, unV, XA_ret_nil, XA_ret_cons, endFA_r, endFA_n, endTA_r, endTA_n, endRA_r, endRA_n, endEA_r, endEA_n, List.take, fltR, resultsA, resAs, resA, XA_block, XA_cond, pickX_t, pickX_f, pickX_b, XA_skip_blk, XA_skip_lp, XA_exit_seq, XA_exit_lp, XA_exit_blk, XA_exit_nil, load1, Ev.loadCells, objCells, bodyCells, setCells, AV.flat, AV.flat1, backR, backV, backCell, mapO, AV.cells, AV.atom, AV.tree, fillV, repeatL, treeCell, freezeAll, eqCells, callV_T, callV_F, passN, passV, passCell, srcCells, sliceBounds, hiB, loB, thenQ_nA, thenQ_xA, thenQ_rA, runK_nA, runK_xA, runK_rA, wrap_i64, wrap_u64, wrap_u32, wrap_u8, wrap_u16, nan32_ev, h1, h2]
theorem cmp64_ev (x y : Int) : cvF tab 90 [.int .i64 x, .int .i64 y] = some (.int .i64 (cmpI x y)) := by
  refine cvFA_R (mf := Mf.f90) rfl rfl (by kernel_rfl) ?_
  simp only [Mf.f90]
  unfold cmpI
  by_cases h1 : x < y
  · simp [beqI, bneI, mm_min2, mm_max2, mm_min3, mm_max3, startE, lkE, lkX, lkE_rest, sx, substE, opVA, objs0, List.replicate, XA_seq, XA_region, XOA_go, goE_someA, opV, ev, putA, layAll, XOA_nil, XA_skip_seq, XA_skip_nil, XOA_gd, goG_tA, goG_uA, binV, bi_add, bi_sub, bi_mul, bi_quo, bi_rem, bi_eql, bi_neq, bi_lss, bi_leq, bi_gtr, bi_geq, bi_shl, bi_shr, bi_and, bi_or, bi_xor, unV, XA_ret_nil, XA_ret_cons, endFA_r, endFA_n, endTA_r, endTA_n, endRA_r, endRA_n, endEA_r, endEA_n, List.take, fltR, resultsA, resAs, resA, XA_block, XA_cond, pickX_t, pickX_f, pickX_b, XA_skip_blk, XA_skip_lp, XA_exit_seq, XA_exit_lp, XA_exit_blk, XA_exit_nil, load1, Ev.loadCells, objCells, bodyCells, setCells, AV.flat, AV.flat1, backR, backV, backCell, mapO, AV.cells, AV.atom, AV.tree, fillV, repeatL, treeCell, freezeAll, eqCells, callV_T, callV_F, passN, passV, passCell, srcCells, sliceBounds, hiB, loB, thenQ_nA, thenQ_xA, thenQ_rA, runK_nA, runK_xA, runK_rA, wrap_i64, wrap_u64, wrap_u32, wrap_u8, wrap_u16, nan64_ev, h1]
  · by_cases h2 : y < x <;> simp [beqI, bneI, mm_min2, mm_max2, mm_min3, mm_max3, startE, lkE, lkX, lkE_rest, sx, substE, opVA, objs0, List.replicate, XA_seq, XA_region, XOA_go, goE_someA, opV, ev, putA, layAll, XOA_nil, XA_skip_seq, XA_skip_nil, XOA_gd, goG_tA, goG_uA, binV, bi_add, bi_sub, bi_mul, bi_quo, bi_rem, bi_eql, bi_neq, bi_lss, bi_leq, bi_gtr, bi_geq, bi_shl, bi_shr, bi_and, bi_or, bi_xor, unV, XA_ret_nil, XA_ret_cons, endFA_r, endFA_n, endTA_r, endTA_n, endRA_r, endRA_n, endEA_r, endEA_n, List.take, fltR, resultsA, resAs, resA, XA_block, XA_cond, pickX_t, pickX_f, pickX_b, XA_skip_blk, XA_skip_lp, XA_exit_seq, XA_exit_lp, XA_exit_blk, XA_exit_nil, load1, Ev.loadCells, objCells, bodyCells, setCells, AV.flat, AV.flat1, backR, backV, backCell, mapO, AV.cells, AV.atom, AV.tree, fillV, repeatL, treeCell, freezeAll, eqCells, callV_T, callV_F, passN, passV, passCell, srcCells, sliceBounds, hiB, loB, thenQ_nA, thenQ_xA, thenQ_rA, runK_nA, runK_xA, runK_rA, wrap_i64, wrap_u64, wrap_u32, wrap_u8, wrap_u16, nan64_ev, h1, h2]
theorem scmp_ev (x y u v : Int) : cvF tab 70 [.ro 2 [.int .i64 x, .int .i64 y], .ro 2 [.int .i64 u, .int .i64 v]] = some (.int .i64 (if cmpI x u = 0 then cmpI y v else cmpI x u)) := by
  refine cvFA_R (mf := Mf.f70) rfl rfl (by kernel_rfl) ?_
  simp only [Mf.f70]
  have e1 := cmp64_ev x u
  have e2 := cmp64_ev y v
  simp [beqI, bneI, mm_min2, mm_max2, mm_min3, mm_max3, startE, lkE, lkX, lkE_rest, sx, substE, opVA, objs0, List.replicate, XA_seq, XA_region, XOA_go, goE_someA, opV, ev, putA, layAll, XOA_nil, XA_skip_seq, XA_skip_nil, XOA_gd, goG_tA, goG_uA, binV, bi_add, bi_sub, bi_mul, bi_quo, bi_rem, bi_eql, bi_neq, bi_lss, bi_leq, bi_gtr, bi_geq, bi_shl, bi_shr, bi_and, bi_or, bi_xor, unV, XA_ret_nil, XA_ret_cons, endFA_r, endFA_n, endTA_r, endTA_n, endRA_r, endRA_n, endEA_r, endEA_n, List.take, fltR, resultsA, resAs, resA, XA_block, XA_cond, pickX_t, pickX_f, pickX_b, XA_skip_blk, XA_skip_lp, XA_exit_seq, XA_exit_lp, XA_exit_blk, XA_exit_nil, load1, Ev.loadCells, objCells, bodyCells, setCells, AV.flat, AV.flat1, backR, backV, backCell, mapO, AV.cells, AV.atom, AV.tree, fillV, repeatL, treeCell, freezeAll, eqCells, callV_T, callV_F, passN, passV, passCell, srcCells, sliceBounds, hiB, loB, thenQ_nA, thenQ_xA, thenQ_rA, runK_nA, runK_xA, runK_rA, wrap_i64, wrap_u64, wrap_u32, wrap_u8, wrap_u16]
  refine XA_for (fun i => ⟨[(0, .ro 2 [.int .i64 x, .int .i64 y]), (1, .ro 2 [.int .i64 u, .int .i64 v]), (9, .ro 2 [.int .i64 x, .int .i64 y]), (10, .int .i64 2), (11, .int .i64 i)], []⟩)
    (fun i => (0 < i → cmpI x u = 0) ∧ (1 < i → cmpI y v = 0)) 2 0 (by omega) (by simp [AV.atom, normA, lkE, fixObjs, fixBody, fixV, fixCell]) (by omega) ?_ ?_
  · intro i _ hi hJ
    have h01 : i = 0 ∨ i = 1 := by omega
    rcases h01 with rfl | rfl
    · by_cases c : cmpI x u = 0
      · have w := wrap_succ 0 2 (by omega) (by omega)
        simp at w
        rw [c] at e1
        simp [beqI, bneI, mm_min2, mm_max2, mm_min3, mm_max3, startE, lkE, lkX, lkE_rest, sx, substE, opVA, objs0, List.replicate, XA_seq, XA_region, XOA_go, goE_someA, opV, ev, putA, layAll, XOA_nil, XA_skip_seq, XA_skip_nil, XOA_gd, goG_tA, goG_uA, binV, bi_add, bi_sub, bi_mul, bi_quo, bi_rem, bi_eql, bi_neq, bi_lss, bi_leq, bi_gtr, bi_geq, bi_shl, bi_shr, bi_and, bi_or, bi_xor, unV, XA_ret_nil, XA_ret_cons, endFA_r, endFA_n, endTA_r, endTA_n, endRA_r, endRA_n, endEA_r, endEA_n, List.take, fltR, resultsA, resAs, resA, XA_block, XA_cond, pickX_t, pickX_f, pickX_b, XA_skip_blk, XA_skip_lp, XA_exit_seq, XA_exit_lp, XA_exit_blk, XA_exit_nil, load1, Ev.loadCells, objCells, bodyCells, setCells, AV.flat, AV.flat1, backR, backV, backCell, mapO, AV.cells, AV.atom, AV.tree, fillV, repeatL, treeCell, freezeAll, eqCells, callV_T, callV_F, passN, passV, passCell, srcCells, sliceBounds, hiB, loB, thenQ_nA, thenQ_xA, thenQ_rA, runK_nA, runK_xA, runK_rA, wrap_i64, wrap_u64, wrap_u32, wrap_u8, wrap_u16, AV.atom, normA, lkE, fixObjs, fixBody, fixV, fixCell, e1, w, c]
      · simp [beqI, bneI, mm_min2, mm_max2, mm_min3, mm_max3, startE, lkE, lkX, lkE_rest, sx, substE, opVA, objs0, List.replicate, XA_seq, XA_region, XOA_go, goE_someA, opV, ev, putA, layAll, XOA_nil, XA_skip_seq, XA_skip_nil, XOA_gd, goG_tA, goG_uA, binV, bi_add, bi_sub, bi_mul, bi_quo, bi_rem, bi_eql, bi_neq, bi_lss, bi_leq, bi_gtr, bi_geq, bi_shl, bi_shr, bi_and, bi_or, bi_xor, unV, XA_ret_nil, XA_ret_cons, endFA_r, endFA_n, endTA_r, endTA_n, endRA_r, endRA_n, endEA_r, endEA_n, List.take, fltR, resultsA, resAs, resA, XA_block, XA_cond, pickX_t, pickX_f, pickX_b, XA_skip_blk, XA_skip_lp, XA_exit_seq, XA_exit_lp, XA_exit_blk, XA_exit_nil, load1, Ev.loadCells, objCells, bodyCells, setCells, AV.flat, AV.flat1, backR, backV, backCell, mapO, AV.cells, AV.atom, AV.tree, fillV, repeatL, treeCell, freezeAll, eqCells, callV_T, callV_F, passN, passV, passCell, srcCells, sliceBounds, hiB, loB, thenQ_nA, thenQ_xA, thenQ_rA, runK_nA, runK_xA, runK_rA, wrap_i64, wrap_u64, wrap_u32, wrap_u8, wrap_u16, AV.atom, normA, lkE, fixObjs, fixBody, fixV, fixCell, e1, c]
    · have c := hJ.1 (by omega)
      by_cases c2 : cmpI y v = 0
      · have w := wrap_succ 1 2 (by omega) (by omega)
        simp at w
        rw [c2] at e2
        simp [beqI, bneI, mm_min2, mm_max2, mm_min3, mm_max3, startE, lkE, lkX, lkE_rest, sx, substE, opVA, objs0, List.replicate, XA_seq, XA_region, XOA_go, goE_someA, opV, ev, putA, layAll, XOA_nil, XA_skip_seq, XA_skip_nil, XOA_gd, goG_tA, goG_uA, binV, bi_add, bi_sub, bi_mul, bi_quo, bi_rem, bi_eql, bi_neq, bi_lss, bi_leq, bi_gtr, bi_geq, bi_shl, bi_shr, bi_and, bi_or, bi_xor, unV, XA_ret_nil, XA_ret_cons, endFA_r, endFA_n, endTA_r, endTA_n, endRA_r, endRA_n, endEA_r, endEA_n, List.take, fltR, resultsA, resAs, resA, XA_block, XA_cond, pickX_t, pickX_f, pickX_b, XA_skip_blk, XA_skip_lp, XA_exit_seq, XA_exit_lp, XA_exit_blk, XA_exit_nil, load1, Ev.loadCells, objCells, bodyCells, setCells, AV.flat, AV.flat1, backR, backV, backCell, mapO, AV.cells, AV.atom, AV.tree, fillV, repeatL, treeCell, freezeAll, eqCells, callV_T, callV_F, passN, passV, passCell, srcCells, sliceBounds, hiB, loB, thenQ_nA, thenQ_xA, thenQ_rA, runK_nA, runK_xA, runK_rA, wrap_i64, wrap_u64, wrap_u32, wrap_u8, wrap_u16, AV.atom, normA, lkE, fixObjs, fixBody, fixV, fixCell, e2, w, c, c2]
      · simp [beqI, bneI, mm_min2, mm_max2, mm_min3, mm_max3, startE, lkE, lkX, lkE_rest, sx, substE, opVA, objs0, List.replicate, XA_seq, XA_region, XOA_go, goE_someA, opV, ev, putA, layAll, XOA_nil, XA_skip_seq, XA_skip_nil, XOA_gd, goG_tA, goG_uA, binV, bi_add, bi_sub, bi_mul, bi_quo, bi_rem, bi_eql, bi_neq, bi_lss, bi_leq, bi_gtr, bi_geq, bi_shl, bi_shr, bi_and, bi_or, bi_xor, unV, XA_ret_nil, XA_ret_cons, endFA_r, endFA_n, endTA_r, endTA_n, endRA_r, endRA_n, endEA_r, endEA_n, List.take, fltR, resultsA, resAs, resA, XA_block, XA_cond, pickX_t, pickX_f, pickX_b, XA_skip_blk, XA_skip_lp, XA_exit_seq, XA_exit_lp, XA_exit_blk, XA_exit_nil, load1, Ev.loadCells, objCells, bodyCells, setCells, AV.flat, AV.flat1, backR, backV, backCell, mapO, AV.cells, AV.atom, AV.tree, fillV, repeatL, treeCell, freezeAll, eqCells, callV_T, callV_F, passN, passV, passCell, srcCells, sliceBounds, hiB, loB, thenQ_nA, thenQ_xA, thenQ_rA, runK_nA, runK_xA, runK_rA, wrap_i64, wrap_u64, wrap_u32, wrap_u8, wrap_u16, AV.atom, normA, lkE, fixObjs, fixBody, fixV, fixCell, e2, c, c2]
  · intro hJ
    have c := hJ.1 (by omega)
    have c2 := hJ.2 (by omega)
    simp [beqI, bneI, mm_min2, mm_max2, mm_min3, mm_max3, startE, lkE, lkX, lkE_rest, sx, substE, opVA, objs0, List.replicate, XA_seq, XA_region, XOA_go, goE_someA, opV, ev, putA, layAll, XOA_nil, XA_skip_seq, XA_skip_nil, XOA_gd, goG_tA, goG_uA, binV, bi_add, bi_sub, bi_mul, bi_quo, bi_rem, bi_eql, bi_neq, bi_lss, bi_leq, bi_gtr, bi_geq, bi_shl, bi_shr, bi_and, bi_or, bi_xor, unV, XA_ret_nil, XA_ret_cons, endFA_r, endFA_n, endTA_r, endTA_n, endRA_r, endRA_n, endEA_r, endEA_n, List.take, fltR, resultsA, resAs, resA, XA_block, XA_cond, pickX_t, pickX_f, pickX_b, XA_skip_blk, XA_skip_lp, XA_exit_seq, XA_exit_lp, XA_exit_blk, XA_exit_nil, load1, Ev.loadCells, objCells, bodyCells, setCells, AV.flat, AV.flat1, backR, backV, backCell, mapO, AV.cells, AV.atom, AV.tree, fillV, repeatL, treeCell, freezeAll, eqCells, callV_T, callV_F, passN, passV, passCell, srcCells, sliceBounds, hiB, loB, thenQ_nA, thenQ_xA, thenQ_rA, runK_nA, runK_xA, runK_rA, wrap_i64, wrap_u64, wrap_u32, wrap_u8, wrap_u16, AV.atom, normA, lkE, fixObjs, fixBody, fixV, fixCell, c, c2]
theorem or_ev (x y : Int) : cvF tab 67 [.ro 2 [.int .i64 x, .int .i64 y]] = some (.int .i64 (if x = 0 then y else x)) := by
  refine cvFA_R (mf := Mf.f67) rfl rfl (by kernel_rfl) ?_
  simp only [Mf.f67]
  simp [beqI, bneI, mm_min2, mm_max2, mm_min3, mm_max3, startE, lkE, lkX, lkE_rest, sx, substE, opVA, objs0, List.replicate, XA_seq, XA_region, XOA_go, goE_someA, opV, ev, putA, layAll, XOA_nil, XA_skip_seq, XA_skip_nil, XOA_gd, goG_tA, goG_uA, binV, bi_add, bi_sub, bi_mul, bi_quo, bi_rem, bi_eql, bi_neq, bi_lss, bi_leq, bi_gtr, bi_geq, bi_shl, bi_shr, bi_and, bi_or, bi_xor, unV, XA_ret_nil, XA_ret_cons, endFA_r, endFA_n, endTA_r, endTA_n, endRA_r, endRA_n, endEA_r, endEA_n, List.take, fltR, resultsA, resAs, resA, XA_block, XA_cond, pickX_t, pickX_f, pickX_b, XA_skip_blk, XA_skip_lp, XA_exit_seq, XA_exit_lp, XA_exit_blk, XA_exit_nil, load1, Ev.loadCells, objCells, bodyCells, setCells, AV.flat, AV.flat1, backR, backV, backCell, mapO, AV.cells, AV.atom, AV.tree, fillV, repeatL, treeCell, freezeAll, eqCells, callV_T, callV_F, passN, passV, passCell, srcCells, sliceBounds, hiB, loB, thenQ_nA, thenQ_xA, thenQ_rA, runK_nA, runK_xA, runK_rA, wrap_i64, wrap_u64, wrap_u32, wrap_u8, wrap_u16]
  refine XA_for (fun i => ⟨[(3, .int .i64 0), (6, .ro 2 [.int .i64 x, .int .i64 y]), (7, .int .i64 2), (8, .int .i64 i)], []⟩)
    (fun i => (0 < i → x = 0) ∧ (1 < i → y = 0)) 2 0 (by omega) (by simp [AV.atom, normA, lkE, fixObjs, fixBody, fixV, fixCell]) (by omega) ?_ ?_
  · intro i _ hi hJ
    have h01 : i = 0 ∨ i = 1 := by omega
    rcases h01 with rfl | rfl
    · by_cases c : x = 0
      · have w := wrap_succ 0 2 (by omega) (by omega)
        simp at w
        simp [beqI, bneI, mm_min2, mm_max2, mm_min3, mm_max3, startE, lkE, lkX, lkE_rest, sx, substE, opVA, objs0, List.replicate, XA_seq, XA_region, XOA_go, goE_someA, opV, ev, putA, layAll, XOA_nil, XA_skip_seq, XA_skip_nil, XOA_gd, goG_tA, goG_uA, binV, bi_add, bi_sub, bi_mul, bi_quo, bi_rem, bi_eql, bi_neq, bi_lss, bi_leq, bi_gtr, bi_geq, bi_shl, bi_shr, bi_and, bi_or, bi_xor, unV, XA_ret_nil, XA_ret_cons, endFA_r, endFA_n, endTA_r, endTA_n, endRA_r, endRA_n, endEA_r, endEA_n, List.take, fltR, resultsA, resAs, resA, XA_block, XA_cond, pickX_t, pickX_f, pickX_b, XA_skip_blk, XA_skip_lp, XA_exit_seq, XA_exit_lp, XA_exit_blk, XA_exit_nil, load1, Ev.loadCells, objCells, bodyCells, setCells, AV.flat, AV.flat1, backR, backV, backCell, mapO, AV.cells, AV.atom, AV.tree, fillV, repeatL, treeCell, freezeAll, eqCells, callV_T, callV_F, passN, passV, passCell, srcCells, sliceBounds, hiB, loB, thenQ_nA, thenQ_xA, thenQ_rA, runK_nA, runK_xA, runK_rA, wrap_i64, wrap_u64, wrap_u32, wrap_u8, wrap_u16, AV.atom, normA, lkE, fixObjs, fixBody, fixV, fixCell, w, c]
      · simp [beqI, bneI, mm_min2, mm_max2, mm_min3, mm_max3, startE, lkE, lkX, lkE_rest, sx, substE, opVA, objs0, List.replicate, XA_seq, XA_region, XOA_go, goE_someA, opV, ev, putA, layAll, XOA_nil, XA_skip_seq, XA_skip_nil, XOA_gd, goG_tA, goG_uA, binV, bi_add, bi_sub, bi_mul, bi_quo, bi_rem, bi_eql, bi_neq, bi_lss, bi_leq, bi_gtr, bi_geq, bi_shl, bi_shr, bi_and, bi_or, bi_xor, unV, XA_ret_nil, XA_ret_cons, endFA_r, endFA_n, endTA_r, endTA_n, endRA_r, endRA_n, endEA_r, endEA_n, List.take, fltR, resultsA, resAs, resA, XA_block, XA_cond, pickX_t, pickX_f, pickX_b, XA_skip_blk, XA_skip_lp, XA_exit_seq, XA_exit_lp, XA_exit_blk, XA_exit_nil, load1, Ev.loadCells, objCells, bodyCells, setCells, AV.flat, AV.flat1, backR, backV, backCell, mapO, AV.cells, AV.atom, AV.tree, fillV, repeatL, treeCell, freezeAll, eqCells, callV_T, callV_F, passN, passV, passCell, srcCells, sliceBounds, hiB, loB, thenQ_nA, thenQ_xA, thenQ_rA, runK_nA, runK_xA, runK_rA, wrap_i64, wrap_u64, wrap_u32, wrap_u8, wrap_u16, AV.atom, normA, lkE, fixObjs, fixBody, fixV, fixCell, c]
    · have c := hJ.1 (by omega)
      by_cases c2 : y = 0
      · have w := wrap_succ 1 2 (by omega) (by omega)
        simp at w
        simp [beqI, bneI, mm_min2, mm_max2, mm_min3, mm_max3, startE, lkE, lkX, lkE_rest, sx, substE, opVA, objs0, List.replicate, XA_seq, XA_region, XOA_go, goE_someA, opV, ev, putA, layAll, XOA_nil, XA_skip_seq, XA_skip_nil, XOA_gd, goG_tA, goG_uA, binV, bi_add, bi_sub, bi_mul, bi_quo, bi_rem, bi_eql, bi_neq, bi_lss, bi_leq, bi_gtr, bi_geq, bi_shl, bi_shr, bi_and, bi_or, bi_xor, unV, XA_ret_nil, XA_ret_cons, endFA_r, endFA_n, endTA_r, endTA_n, endRA_r, endRA_n, endEA_r, endEA_n, List.take, fltR, resultsA, resAs, resA, XA_block, XA_cond, pickX_t, pickX_f, pickX_b, XA_skip_blk, XA_skip_lp, XA_exit_seq, XA_exit_lp, XA_exit_blk, XA_exit_nil, load1, Ev.loadCells, objCells, bodyCells, setCells, AV.flat, AV.flat1, backR, backV, backCell, mapO, AV.cells, AV.atom, AV.tree, fillV, repeatL, treeCell, freezeAll, eqCells, callV_T, callV_F, passN, passV, passCell, srcCells, sliceBounds, hiB, loB, thenQ_nA, thenQ_xA, thenQ_rA, runK_nA, runK_xA, runK_rA, wrap_i64, wrap_u64, wrap_u32, wrap_u8, wrap_u16, AV.atom, normA, lkE, fixObjs, fixBody, fixV, fixCell, w, c, c2]
      · simp [beqI, bneI, mm_min2, mm_max2, mm_min3, mm_max3, startE, lkE, lkX, lkE_rest, sx, substE, opVA, objs0, List.replicate, XA_seq, XA_region, XOA_go, goE_someA, opV, ev, putA, layAll, XOA_nil, XA_skip_seq, XA_skip_nil, XOA_gd, goG_tA, goG_uA, binV, bi_add, bi_sub, bi_mul, bi_quo, bi_rem, bi_eql, bi_neq, bi_lss, bi_leq, bi_gtr, bi_geq, bi_shl, bi_shr, bi_and, bi_or, bi_xor, unV, XA_ret_nil, XA_ret_cons, endFA_r, endFA_n, endTA_r, endTA_n, endRA_r, endRA_n, endEA_r, endEA_n, List.take, fltR, resultsA, resAs, resA, XA_block, XA_cond, pickX_t, pickX_f, pickX_b, XA_skip_blk, XA_skip_lp, XA_exit_seq, XA_exit_lp, XA_exit_blk, XA_exit_nil, load1, Ev.loadCells, objCells, bodyCells, setCells, AV.flat, AV.flat1, backR, backV, backCell, mapO, AV.cells, AV.atom, AV.tree, fillV, repeatL, treeCell, freezeAll, eqCells, callV_T, callV_F, passN, passV, passCell, srcCells, sliceBounds, hiB, loB, thenQ_nA, thenQ_xA, thenQ_rA, runK_nA, runK_xA, runK_rA, wrap_i64, wrap_u64, wrap_u32, wrap_u8, wrap_u16, AV.atom, normA, lkE, fixObjs, fixBody, fixV, fixCell, c, c2]
  · intro hJ
    have c := hJ.1 (by omega)
    have c2 := hJ.2 (by omega)
    simp [beqI, bneI, mm_min2, mm_max2, mm_min3, mm_max3, startE, lkE, lkX, lkE_rest, sx, substE, opVA, objs0, List.replicate, XA_seq, XA_region, XOA_go, goE_someA, opV, ev, putA, layAll, XOA_nil, XA_skip_seq, XA_skip_nil, XOA_gd, goG_tA, goG_uA, binV, bi_add, bi_sub, bi_mul, bi_quo, bi_rem, bi_eql, bi_neq, bi_lss, bi_leq, bi_gtr, bi_geq, bi_shl, bi_shr, bi_and, bi_or, bi_xor, unV, XA_ret_nil, XA_ret_cons, endFA_r, endFA_n, endTA_r, endTA_n, endRA_r, endRA_n, endEA_r, endEA_n, List.take, fltR, resultsA, resAs, resA, XA_block, XA_cond, pickX_t, pickX_f, pickX_b, XA_skip_blk, XA_skip_lp, XA_exit_seq, XA_exit_lp, XA_exit_blk, XA_exit_nil, load1, Ev.loadCells, objCells, bodyCells, setCells, AV.flat, AV.flat1, backR, backV, backCell, mapO, AV.cells, AV.atom, AV.tree, fillV, repeatL, treeCell, freezeAll, eqCells, callV_T, callV_F, passN, passV, passCell, srcCells, sliceBounds, hiB, loB, thenQ_nA, thenQ_xA, thenQ_rA, runK_nA, runK_xA, runK_rA, wrap_i64, wrap_u64, wrap_u32, wrap_u8, wrap_u16, AV.atom, normA, lkE, fixObjs, fixBody, fixV, fixCell, c, c2]
def keyR (r : Rw) : Int := key4 r.a r.b r.c r.d
def cmpR (r s : Rw) : Int := if cmpI (keyR r) (keyR s) = 0 then (if cmpI r.x s.x = 0 then cmpI r.y s.y else cmpI r.x s.x) else cmpI (keyR r) (keyR s)
theorem compare_ev (r s : Rw) (hr : okW r) (hs : okW s) : cvF tab 48 [.agg (rowC r), .agg (rowC s)] = some (.int .i64 (cmpR r s)) := by
  refine cvFA_R (mf := Mf.f48) rfl rfl (by kernel_rfl) ?_
  simp only [Mf.f48]
  have e1 := key_ev r.a r.b r.c r.d hr.a hr.b hr.c hr.d
  have e2 := key_ev s.a s.b s.c s.d hs.a hs.b hs.c hs.d
  have e3 := cmp32_ev (keyR r) (keyR s)
  have e4 := scmp_ev r.x r.y s.x s.y
  have e5 := or_ev (cmpI (keyR r) (keyR s)) (if cmpI r.x s.x = 0 then cmpI r.y s.y else cmpI r.x s.x)
  unfold cmpR
  generalize (if cmpI r.x s.x = 0 then cmpI r.y s.y else cmpI r.x s.x) = z at *
  unfold keyR at *
  simp [beqI, bneI, mm_min2, mm_max2, mm_min3, mm_max3, startE, lkE, lkX, lkE_rest, sx, substE, opVA, objs0, List.replicate, XA_seq, XA_region, XOA_go, goE_someA, opV, ev, putA, layAll, XOA_nil, XA_skip_seq, XA_skip_nil, XOA_gd, goG_tA, goG_uA, binV, bi_add, bi_sub, bi_mul, bi_quo, bi_rem, bi_eql, bi_neq, bi_lss, bi_leq, bi_gtr, bi_geq, bi_shl, bi_shr, bi_and, bi_or, bi_xor, unV, XA_ret_nil, XA_ret_cons, endFA_r, endFA_n, endTA_r, endTA_n, endRA_r, endRA_n, endEA_r, endEA_n, List.take, fltR, resultsA, resAs, resA, XA_block, XA_cond, pickX_t, pickX_f, pickX_b, XA_skip_blk, XA_skip_lp, XA_exit_seq, XA_exit_lp, XA_exit_blk, XA_exit_nil, load1, Ev.loadCells, objCells, bodyCells, setCells, AV.flat, AV.flat1, backR, backV, backCell, mapO, AV.cells, AV.atom, AV.tree, fillV, repeatL, treeCell, freezeAll, eqCells, callV_T, callV_F, passN, passV, passCell, srcCells, sliceBounds, hiB, loB, thenQ_nA, thenQ_xA, thenQ_rA, runK_nA, runK_xA, runK_rA, wrap_i64, wrap_u64, wrap_u32, wrap_u8, wrap_u16, rowC, e1, e2, e3, e4, e5]
def ltR (r s : Rw) : Prop := keyR r < keyR s ∨ (keyR r = keyR s ∧ (r.x < s.x ∨ (r.x = s.x ∧ r.y < s.y)))
instance (r s : Rw) : Decidable (ltR r s) := by unfold ltR; exact inferInstance
theorem cmpR_lt (r s : Rw) : cmpR r s < 0 ↔ ltR r s := by
  unfold cmpR ltR cmpI
  repeat' split
  all_goals omega
theorem keyR_inj {r s : Rw} (hr : okW r) (hs : okW s) (h : keyR r = keyR s) : r.a = s.a ∧ r.b = s.b ∧ r.c = s.c ∧ r.d = s.d := by
  obtain ⟨h1, h2, h3, h4, _, _⟩ := hr
  obtain ⟨g1, g2, g3, g4, _, _⟩ := hs
  unfold keyR key4 at h
  unfold byte at *
  omega
theorem ltR_irrefl (r : Rw) : ¬ ltR r r := by unfold ltR; omega
theorem ltR_trans {r s t : Rw} (h1 : ltR r s) (h2 : ltR s t) : ltR r t := by unfold ltR at *; omega
theorem ltR_tri {r s : Rw} (hr : okW r) (hs : okW s) (h : r ≠ s) : ltR r s ∨ ltR s r := by
  by_cases c : ltR r s ∨ ltR s r
  · exact c
  · exfalso
    unfold ltR at c
    have hk : keyR r = keyR s := by omega
    have hi := keyR_inj hr hs hk
    have hx : r.x = s.x := by omega
    have hy : r.y = s.y := by omega
    apply h
    cases r; cases s
    simp only at hi hx hy
    obtain ⟨rfl, rfl, rfl, rfl⟩ := hi
    subst hx; subst hy; rfl
theorem eq_rowB (r s : Rw) : (decide (r.a = s.a) && (decide (r.b = s.b) && (decide (r.c = s.c) && (decide (r.d = s.d) && (decide (r.x = s.x) && decide (r.y = s.y)))))) = decide (r = s) := by
  cases r; cases s
  simp only [Rw.mk.injEq, Bool.decide_and]
theorem eq_rowC (r s : Rw) : eqCells [some .u8, some .u8, some .u8, some .u8, some .i64, some .i64] (rowC r) (rowC s) = some (decide (r = s)) := by
  have : decide (r = s) = ((r.a == s.a) && ((r.b == s.b) && ((r.c == s.c) && ((r.d == s.d) && ((r.x == s.x) && ((r.y == s.y) && true)))))) := by
    cases r; cases s
    simp only [Rw.mk.injEq, Bool.decide_and]
    simp [beqI]
  rw [this]
  simp [rowC, eqCells]
end Go.Proofs.Ytpohmfihpnineaa
end
section
set_option linter.unusedSimpArgs false
set_option linter.unusedVariables false
set_option maxHeartbeats 4000000
set_option maxRecDepth 100000
namespace Go.Proofs.Ytpohmfihpnineaa
open Go.Ev
theorem callV_O {M : Go.Ev.Tab} {H : List AObj} {f : FuncId} {first args caps : List AV} {i : Nat} {objs fzs : List Nat} : callV (cfT M) H (.fn f first caps) args (i :: objs) fzs [] true =
    if okIds (i :: objs) fzs [] = true then (mapO (passV H (i :: objs) fzs) (first ++ args ++ caps)).bind fun xs => (passObjs H (i :: objs) fzs (i :: objs)).bind fun H0 => (cfT M f xs H0).bind fun p =>
      (backR H p.2 (i :: objs) [] p.1).bind fun r' => (backObjs H p.2 (i :: objs) [] (i :: objs) p.2).bind fun ups => (freezeAll H fzs).map fun fr => (r', fr ++ ups) else none := by
  simp only [callV, passN_nil]
  by_cases h : okIds (i :: objs) fzs [] = true
  · simp only [h, if_true]
    cases mapO (passV H (i :: objs) fzs) (first ++ args ++ caps) with
    | none => rfl
    | some xs =>
      simp only [Option.bind_some]
      cases passObjs H (i :: objs) fzs (i :: objs) with
      | none => rfl
      | some H0 =>
        simp only [Option.bind_some]
        cases cfT M f xs H0 with
        | none => rfl
        | some p =>
          obtain ⟨r, H1⟩ := p
          simp only [Option.bind_some, adopts]
          cases backR H H1 (i :: objs) [] r with
          | none => rfl
          | some r' =>
            cases backObjs H H1 (i :: objs) [] (i :: objs) H1 with
            | none => rfl
            | some ups => simp
  · simp only [h, if_false]
    rfl
end Go.Proofs.Ytpohmfihpnineaa
end
