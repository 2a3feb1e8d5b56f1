/- Plain texts put together: Tab Bits HGood Dims Cat CodeA RowA Meth. -/
import Derived.Test.YtpohmfihpnineaaEvMf
import Derived.Test.YtpohmfihpnineaaRows
import Derived.Test.YtpohmfihpnineaaEvGd
section
set_option linter.unusedSimpArgs false
set_option linter.unusedVariables false
namespace Go.Proofs.Ytpohmfihpnineaa
open Go.Ev
theorem cloneOk_46 : CloneOk 46 Mf.f46 24 6 := by
  constructor
  · intro n cs h0 hl hb hn
    have h1 : ¬ n = 0 := by omega
    have h2 : (0 + n) * 24 ≤ 140737488355328 := by omega
    have h3 : 0 + n < 4611686018427387904 := by omega
    have hl2 := hl
    have hb2 := hb
    try simp at hl2
    try simp at hb2
    simp [evalFun, tab1, Mf.f46, evalCode, runOps, stepOp, wanted, opV, ev, putV, layAll, binV, isNilS, h1, fillV, repeatL, mapO, treeCell, freezeAll, srcCells, hl, hb, hl2, hb2, hn, h2, h3, Ev.results, resVs, resV]
  · kernel_rfl
  · kernel_rfl
theorem cloneOk_53 : CloneOk 53 Mf.f53 1 1 := by
  constructor
  · intro n cs h0 hl hb hn
    have h1 : ¬ n = 0 := by omega
    have h2 : (0 + n) * 1 ≤ 140737488355328 := by omega
    have h3 : 0 + n < 4611686018427387904 := by omega
    have hl2 := hl
    have hb2 := hb
    try simp at hl2
    try simp at hb2
    simp [evalFun, tab1, Mf.f53, evalCode, runOps, stepOp, wanted, opV, ev, putV, layAll, binV, isNilS, h1, fillV, repeatL, mapO, treeCell, freezeAll, srcCells, hl, hb, hl2, hb2, hn, h2, h3, Ev.results, resVs, resV]
  · kernel_rfl
  · kernel_rfl

def cloneIds : List (FuncId × Nat × Nat) := [(46, 24, 6), (53, 1, 1)]
theorem cloneOwn_53 : CloneOwn 53 Mf.f53o 1 1 := by
  intro b cs off n hb h0 hl ht hy hn
  have e : objCells [⟨0, b⟩] 0 0 = some cs := by simp [objCells, hb]
  have e2 : objCells [⟨0, b⟩, ⟨1, .row true 1 []⟩] 0 0 = some cs := by simp [objCells, hb]
  have h1 : ¬ n = 0 := by omega
  have e3 : srcCells [⟨0, b⟩, ⟨1, .row true 1 []⟩] (some 0) 1 (.own 0 0 off n 1) = some (n, (cs.drop off).take (n * 1)) := by
    simp only [srcCells, e2]
    rw [if_pos ⟨trivial, trivial⟩, if_pos hl, if_pos ht]
  have hy2 := hy
  try simp at hy2
  try simp at e3
  simp [evalFun, tab1, Mf.f53o, evalCode, runOps, stepOp, wanted, opV, ev, putV, layAll, binV, isNilS, h1, h0, fillV, repeatL, mapO, freezeAll, e, e2, e3, hy, hy2, hn, Ev.results, resVs, resV]

def ownIds : List (FuncId × Nat × Nat) := [(53, 1, 1)]
def tab : Tab := ⟨fun f => if (cloneIds.lookup f).isSome = true then none else fnTab f, cloneY cloneIds ownIds⟩
theorem clones_ok (f : FuncId) (bytes sz : Nat) (h : cloneIds.lookup f = some (bytes, sz)) : ∃ fn mf, Try.prog.funcs[f]? = some fn ∧ chkFun Try.prog mf fn = true ∧ CloneOk f mf bytes sz := by
  simp only [cloneIds, List.lookup] at h
  split at h
  · rename_i e
    have e := beq_iff_eq.1 e
    subst e
    cases h
    exact ⟨_, Mf.f46, Try.func46, mf46_ok, cloneOk_46⟩
  split at h
  · rename_i e
    have e := beq_iff_eq.1 e
    subst e
    cases h
    exact ⟨_, Mf.f53, Try.func53, mf53_ok, cloneOk_53⟩
  cases h
theorem owns_ok (f : FuncId) (bytes sz : Nat) (h : ownIds.lookup f = some (bytes, sz)) : ∃ fn mf, Try.prog.funcs[f]? = some fn ∧ chkFun Try.prog mf fn = true ∧ CloneOwn f mf bytes sz := by
  simp only [ownIds, List.lookup] at h
  split at h
  · rename_i e
    have e := beq_iff_eq.1 e
    subst e
    cases h
    exact ⟨_, Mf.f53o, Try.func53, mf53o_ok, cloneOwn_53⟩
  cases h
theorem tab_ok : TabOk Try.prog tab where
  fn f mf h := by
    simp only [tab] at h
    split at h
    · cases h
    · exact fnTab_ok f mf h
  ext := cloneY_sound clones_ok owns_ok
theorem Try.own : ownKnob Try.prog.godebug = none := by kernel_rfl
theorem Try.laidOut : laidOutB Try.prog = true := by kernel_rfl
def inI (n : Int) : Prop := -9223372036854775808 ≤ n ∧ n ≤ 9223372036854775807
def gI (l : List Int) (i : Nat) : Int := l.getD i 0
def gR (l : List (List Int)) (i : Nat) : List Int := l.getD i []
theorem gI_get (l : List Int) (i : Nat) (h : i < l.length) : gI l i = l[i] := by
  rw [gI, List.getD_eq_getElem?_getD, List.getElem?_eq_getElem h]; rfl
theorem beqI (x y : Int) : (x == y) = decide (x = y) := by
  by_cases h : x = y <;> simp [h]
theorem bneI (x y : Int) : (x != y) = !decide (x = y) := by
  by_cases h : x = y <;> simp [h]
theorem mm_min2 (k : IntKind) (a b : Int) : mmV false [.int k a, .int k b] = some (.int k (min a b)) := by
  simp [mmV, foldMM]; split <;> omega
theorem mm_max2 (k : IntKind) (a b : Int) : mmV true [.int k a, .int k b] = some (.int k (max a b)) := by
  simp [mmV, foldMM]; split <;> omega
theorem mm_min3 (k : IntKind) (a b c : Int) : mmV false [.int k a, .int k b, .int k c] = some (.int k (min (min a b) c)) := by
  simp [mmV, foldMM]; repeat' split
  all_goals omega
theorem mm_max3 (k : IntKind) (a b c : Int) : mmV true [.int k a, .int k b, .int k c] = some (.int k (max (max a b) c)) := by
  simp [mmV, foldMM]; repeat' split
  all_goals omega
theorem wrap_succ (i n : Nat) (h : i < n) (hn : n ≤ 9223372036854775807) : IntKind.i64.wrap ((i : Int) + 1) = ((i + 1 : Nat) : Int) := by
  rw [wrap_i64 (by omega) (by omega)]; simp
end Go.Proofs.Ytpohmfihpnineaa
end
section
set_option linter.unusedSimpArgs false
set_option linter.unusedVariables false
namespace Go.Proofs.Ytpohmfihpnineaa
open Go.Ev
def bAnd (k : IntKind) (x y : Int) : Int := k.wrap ((BitVec.ofInt k.bits x &&& BitVec.ofInt k.bits y).toNat : Int)
def bOr (k : IntKind) (x y : Int) : Int := k.wrap ((BitVec.ofInt k.bits x ||| BitVec.ofInt k.bits y).toNat : Int)
def bXor (k : IntKind) (x y : Int) : Int := k.wrap ((BitVec.ofInt k.bits x ^^^ BitVec.ofInt k.bits y).toNat : Int)
section
variable (k : IntKind) (x y : Int)
theorem bi_add : binInt .add k x k y = some (.int k (k.wrap (x + y))) := by simp [binInt]
theorem bi_sub : binInt .sub k x k y = some (.int k (k.wrap (x - y))) := by simp [binInt]
theorem bi_mul : binInt .mul k x k y = some (.int k (k.wrap (x * y))) := by simp [binInt]
theorem bi_quo : binInt .quo k x k y = if y = 0 then none else some (.int k (k.wrap (x.tdiv y))) := by simp [binInt]
theorem bi_rem : binInt .rem k x k y = if y = 0 then none else some (.int k (x.tmod y)) := by simp [binInt]
theorem bi_eql : binInt .eql k x k y = some (.bool (decide (x = y))) := by simp [binInt, beqI]
theorem bi_neq : binInt .neq k x k y = some (.bool (!decide (x = y))) := by simp [binInt, bneI]
theorem bi_lss : binInt .lss k x k y = some (.bool (decide (x < y))) := by simp [binInt]
theorem bi_leq : binInt .leq k x k y = some (.bool (decide (x ≤ y))) := by simp [binInt]
theorem bi_gtr : binInt .gtr k x k y = some (.bool (decide (y < x))) := by simp [binInt]
theorem bi_geq : binInt .geq k x k y = some (.bool (decide (y ≤ x))) := by simp [binInt]
theorem bi_and : binInt .and k x k y = some (.int k (bAnd k x y)) := by simp [binInt, bAnd]
theorem bi_or : binInt .or k x k y = some (.int k (bOr k x y)) := by simp [binInt, bOr]
theorem bi_xor : binInt .xor k x k y = some (.int k (bXor k x y)) := by simp [binInt, bXor]
theorem bi_shl (k' : IntKind) : binInt .shl k x k' y = if y < 0 then none else some (.int k (k.wrap (x * 2 ^ (min y.toNat k.bits)))) := by simp [binInt]
theorem bi_shr (k' : IntKind) : binInt .shr k x k' y = if y < 0 then none else some (.int k (x.fdiv (2 ^ (min y.toNat k.bits)))) := by simp [binInt]
end
theorem ofInt_nat (w n : Nat) : BitVec.ofInt w (n : Int) = BitVec.ofNat w n := by
  apply BitVec.eq_of_toNat_eq
  simp
theorem and_nat (w a b : Nat) (ha : a < 2 ^ w) (hb : b < 2 ^ w) : (BitVec.ofInt w (a : Int) &&& BitVec.ofInt w (b : Int)).toNat = a &&& b := by
  rw [ofInt_nat, ofInt_nat, BitVec.toNat_and, BitVec.toNat_ofNat, BitVec.toNat_ofNat, Nat.mod_eq_of_lt ha, Nat.mod_eq_of_lt hb]
theorem or_nat (w a b : Nat) (ha : a < 2 ^ w) (hb : b < 2 ^ w) : (BitVec.ofInt w (a : Int) ||| BitVec.ofInt w (b : Int)).toNat = a ||| b := by
  rw [ofInt_nat, ofInt_nat, BitVec.toNat_or, BitVec.toNat_ofNat, BitVec.toNat_ofNat, Nat.mod_eq_of_lt ha, Nat.mod_eq_of_lt hb]
theorem xor_nat (w a b : Nat) (ha : a < 2 ^ w) (hb : b < 2 ^ w) : (BitVec.ofInt w (a : Int) ^^^ BitVec.ofInt w (b : Int)).toNat = a ^^^ b := by
  rw [ofInt_nat, ofInt_nat, BitVec.toNat_xor, BitVec.toNat_ofNat, BitVec.toNat_ofNat, Nat.mod_eq_of_lt ha, Nat.mod_eq_of_lt hb]
theorem or_add (x b i : Nat) (hb : b < 2 ^ i) : x * 2 ^ i ||| b = x * 2 ^ i + b := by
  rw [Nat.mul_comm]
  exact (Nat.two_pow_add_eq_or_of_lt hb x).symm
theorem xor_ones (x : Nat) (h : x < 2 ^ 64) : x ^^^ 18446744073709551615 = 18446744073709551615 - x := by
  have h1 : (BitVec.ofNat 64 x ^^^ BitVec.allOnes 64) = ~~~ (BitVec.ofNat 64 x) := BitVec.xor_allOnes
  have h2 := congrArg BitVec.toNat h1
  rw [BitVec.toNat_xor, BitVec.toNat_not, BitVec.toNat_ofNat, BitVec.toNat_allOnes, Nat.mod_eq_of_lt h] at h2
  simpa using h2
theorem and_low (x i : Nat) : x &&& (2 ^ i - 1) = x % 2 ^ i := Nat.and_two_pow_sub_one_eq_mod x i
theorem nat_of {a : Int} (h : 0 ≤ a) : ∃ n : Nat, a = n := ⟨a.toNat, by omega⟩
theorem bin_and_u8 (a : Int) (h0 : 0 ≤ a) (h1 : a ≤ 255) : bAnd .u8 a 127 = a % 128 := by
  unfold bAnd
  obtain ⟨n, rfl⟩ := nat_of h0
  have := and_nat 8 n 127 (by simp; omega) (by decide)
  rw [show (127 : Nat) = 2 ^ 7 - 1 from rfl, and_low] at this
  have e : (BitVec.ofInt IntKind.u8.bits (n : Int) &&& BitVec.ofInt IntKind.u8.bits 127).toNat = n % 2 ^ 7 := this
  rw [e, wrap_u8 (by omega) (by simp; omega)]
  simp
theorem bin_or_u8 (a : Int) (h0 : 0 ≤ a) (h1 : a ≤ 255) : bOr .u8 a 128 = a % 128 + 128 := by
  unfold bOr
  obtain ⟨n, rfl⟩ := nat_of h0
  have := or_nat 8 n 128 (by simp; omega) (by decide)
  have e : (BitVec.ofInt IntKind.u8.bits (n : Int) ||| BitVec.ofInt IntKind.u8.bits 128).toNat = n ||| 128 := this
  have e2 : n ||| 128 = n % 128 + 128 := by
    by_cases c : n < 128
    · have h := or_add 1 n 7 (by simpa using c)
      simp at h
      rw [Nat.or_comm, h, Nat.mod_eq_of_lt c]; omega
    · have h := or_add 1 (n - 128) 7 (by simp; omega)
      simp at h
      have hn : n = 128 ||| (n - 128) := by rw [h]; omega
      have : n % 128 = n - 128 := by omega
      rw [this]
      conv => lhs; rw [hn]
      rw [Nat.or_comm, ← Nat.or_assoc, Nat.or_self, h]; omega
  rw [e, e2, wrap_u8 (by omega) (by omega)]
  simp
theorem bin_and1_u64 (a : Int) (h0 : 0 ≤ a) (h1 : a ≤ 18446744073709551615) : bAnd .u64 a 1 = a % 2 := by
  unfold bAnd
  obtain ⟨n, rfl⟩ := nat_of h0
  have := and_nat 64 n 1 (by simp; omega) (by decide)
  rw [show (1 : Nat) = 2 ^ 1 - 1 from rfl, and_low] at this
  have e : (BitVec.ofInt IntKind.u64.bits (n : Int) &&& BitVec.ofInt IntKind.u64.bits 1).toNat = n % 2 ^ 1 := this
  rw [e, wrap_u64 (by omega) (by simp; omega)]
  simp
theorem bin_xor0 (a : Int) (h0 : 0 ≤ a) (h1 : a ≤ 18446744073709551615) : bXor .u64 a 0 = a := by
  unfold bXor
  obtain ⟨n, rfl⟩ := nat_of h0
  have := xor_nat 64 n 0 (by simp; omega) (by decide)
  have e : (BitVec.ofInt IntKind.u64.bits (n : Int) ^^^ BitVec.ofInt IntKind.u64.bits 0).toNat = n ^^^ 0 := this
  rw [e, Nat.xor_zero, wrap_u64 (by omega) (by omega)]
theorem bin_xor1 (a : Int) (h0 : 0 ≤ a) (h1 : a ≤ 18446744073709551615) : bXor .u64 a 18446744073709551615 = 18446744073709551615 - a := by
  unfold bXor
  obtain ⟨n, rfl⟩ := nat_of h0
  have := xor_nat 64 n 18446744073709551615 (by simp; omega) (by decide)
  rw [xor_ones n (by simp; omega)] at this
  have e : (BitVec.ofInt IntKind.u64.bits (n : Int) ^^^ BitVec.ofInt IntKind.u64.bits 18446744073709551615).toNat = _ := this
  rw [e, wrap_u64 (by omega) (by omega)]; omega
theorem bin_ixor0 (a : Int) (h0 : 0 ≤ a) (h1 : a ≤ 9223372036854775807) : bXor .i64 a 0 = a := by
  unfold bXor
  obtain ⟨n, rfl⟩ := nat_of h0
  have := xor_nat 64 n 0 (by simp; omega) (by decide)
  have e : (BitVec.ofInt IntKind.i64.bits (n : Int) ^^^ BitVec.ofInt IntKind.i64.bits 0).toNat = n ^^^ 0 := this
  rw [e, Nat.xor_zero, wrap_i64 (by omega) (by omega)]
theorem bin_ixor1 (a : Int) (h0 : 0 ≤ a) (h1 : a ≤ 9223372036854775807) : bXor .i64 a (-1) = -a - 1 := by
  unfold bXor
  obtain ⟨n, rfl⟩ := nat_of h0
  have h2 : BitVec.ofInt 64 (-1) = BitVec.ofInt 64 ((18446744073709551615 : Nat) : Int) := by decide
  have := xor_nat 64 n 18446744073709551615 (by simp; omega) (by decide)
  rw [xor_ones n (by simp; omega)] at this
  have e : (BitVec.ofInt IntKind.i64.bits (n : Int) ^^^ BitVec.ofInt IntKind.i64.bits (-1)).toNat = 18446744073709551615 - n := by
    rw [← this]
    show (BitVec.ofInt 64 (n : Int) ^^^ BitVec.ofInt 64 (-1)).toNat = _
    rw [h2]
  rw [e]
  simp only [IntKind.wrap, IntKind.signed, IntKind.bits]
  simp
  omega
theorem bin_or_u32 (x b : Int) (hx : 0 ≤ x) (hx2 : x * 256 ≤ 4294967295) (hb : 0 ≤ b) (hb2 : b ≤ 255) : bOr .u32 (x * 256) b = x * 256 + b := by
  unfold bOr
  obtain ⟨n, rfl⟩ := nat_of hx
  obtain ⟨m, rfl⟩ := nat_of hb
  have := or_nat 32 (n * 256) m (by simp; omega) (by simp; omega)
  have h := or_add n m 8 (by simp; omega)
  have e : (BitVec.ofInt IntKind.u32.bits ((n : Int) * 256) ||| BitVec.ofInt IntKind.u32.bits (m : Int)).toNat = n * 256 ||| m := this
  rw [e, show n * 256 = n * 2 ^ 8 from rfl, h, wrap_u32 (by omega) (by simp; omega)]
  simp
end Go.Proofs.Ytpohmfihpnineaa
end
section
set_option linter.unusedSimpArgs false
set_option linter.unusedVariables false
namespace Go.Proofs.Ytpohmfihpnineaa
open Go.Ev
end Go.Proofs.Ytpohmfihpnineaa
end
section
set_option linter.unusedSimpArgs false
set_option linter.unusedVariables false
namespace Go.Proofs.Ytpohmfihpnineaa
open Go.Ev
theorem rd_i64 {cs : List AV} (h : RD (.int .i64) cs) : ∃ n, cs = [.int .i64 n] ∧ inI n := by
  obtain ⟨n, h1, h2, h3⟩ := h
  refine ⟨n, h1, ?_⟩
  simp only [IntKind.min, IntKind.max, IntKind.signed, IntKind.bits] at h2 h3
  exact ⟨by simpa using h2, by simpa using h3⟩
theorem rd_u8 {cs : List AV} (h : RD (.int .u8) cs) : ∃ n, cs = [.int .u8 n] ∧ 0 ≤ n ∧ n ≤ 255 := by
  obtain ⟨n, h1, h2, h3⟩ := h
  refine ⟨n, h1, ?_⟩
  simp only [IntKind.min, IntKind.max, IntKind.signed, IntKind.bits] at h2 h3
  exact ⟨by simpa using h2, by simpa using h3⟩
def okI (l : List Int) : Prop := l.length ≤ 9223372036854775807 ∧ ∀ x ∈ l, inI x
def okD (S : List Int) (U : List (List Int)) : Prop := okI S ∧ U.length ≤ 9223372036854775807 ∧ ∀ x ∈ U, okI x
theorem rdarg_u8 {a : AV} (h : RDarg (.int .u8) a) : ∃ n, a = .int .u8 n ∧ 0 ≤ n ∧ n ≤ 255 := by
  simp only [RDarg, isAggG] at h
  obtain ⟨n, h1, h2⟩ := rd_u8 h
  simp at h1
  exact ⟨n, h1, h2⟩
end Go.Proofs.Ytpohmfihpnineaa
end
section
set_option linter.unusedSimpArgs false
set_option linter.unusedVariables false
set_option maxHeartbeats 4000000
set_option maxRecDepth 100000
namespace Go.Proofs.Ytpohmfihpnineaa
open Go.Ev
structure Dm where
  S : List Int
  U : List (List Int)
def gD (ds : List Dm) (i : Nat) : Dm := ds.getD i ⟨[], []⟩
theorem gD_mem {ds : List Dm} {i : Nat} (h : i < ds.length) : gD ds i ∈ ds := by
  unfold gD
  rw [List.getD_eq_getElem?_getD, List.getElem?_eq_getElem h]
  exact List.getElem_mem h
def okC (ds : List Dm) : Prop := ds.length ≤ 9223372036854775807 ∧ ∀ d ∈ ds, okD d.S d.U
theorem okC.at {ds : List Dm} (h : okC ds) {i : Nat} (hi : i < ds.length) : okD (gD ds i).S (gD ds i).U := h.2 _ (gD_mem hi)
def byte (x : Int) : Prop := 0 ≤ x ∧ x ≤ 255
def okN (v : List Int) : Prop := v.length = 4 ∧ ∀ x ∈ v, byte x
theorem okN.at {v : List Int} (h : okN v) {i : Nat} (hi : i < 4) : byte (gI v i) := by
  rw [gI_get _ _ (by rw [h.1]; exact hi)]
  exact h.2 _ (List.getElem_mem _)
end Go.Proofs.Ytpohmfihpnineaa
end
section
set_option linter.unusedSimpArgs false
set_option linter.unusedVariables false
set_option maxHeartbeats 4000000
set_option maxRecDepth 100000
namespace Go.Proofs.Ytpohmfihpnineaa
open Go.Ev
theorem wrapu_neg {v : Int} (h1 : -9223372036854775808 ≤ v) (h2 : v < 0) : IntKind.u64.wrap v = v + 18446744073709551616 := by
  simp only [IntKind.wrap, IntKind.signed, IntKind.bits]
  simp
  omega
theorem wrap8 (x : Int) : IntKind.u8.wrap x = x % 256 := by
  simp only [IntKind.wrap, IntKind.signed, IntKind.bits]
  simp
theorem wrapu_over {x : Int} (h1 : 18446744073709551616 ≤ x) (h2 : x < 36893488147419103232) : IntKind.u64.wrap x = x - 18446744073709551616 := by
  simp only [IntKind.wrap, IntKind.signed, IntKind.bits]
  simp
  omega
def inU (u : Int) : Prop := 0 ≤ u ∧ u ≤ 18446744073709551615
def zigN (v : Int) : Int := if v < 0 then -2 * v - 1 else 2 * v
def zagN (u : Int) : Int := if u % 2 = 0 then u / 2 else -(u / 2) - 1
theorem fdiv_eq (a : Int) (b : Nat) : a.fdiv (b : Int) = a / (b : Int) := Int.fdiv_eq_ediv_of_nonneg a (by omega)
theorem zig_ev (v : Int) (hv : inI v) : cvF tab 54 [.int .i64 v] = some (.int .u64 (zigN v)) := by
  unfold inI at hv
  refine cvFA_R (mf := Mf.f54) rfl rfl (by kernel_rfl) ?_
  by_cases c : v < 0
  · have s1 : IntKind.u64.wrap ((v + 18446744073709551616) * 2) = 2 * v + 18446744073709551616 := by
      rw [wrapu_over (by omega) (by omega)]; omega
    have s2 : v.fdiv 9223372036854775808 = -1 := by
      rw [show (9223372036854775808 : Int) = ((9223372036854775808 : Nat) : Int) from rfl, fdiv_eq]; omega
    have s3 : IntKind.u64.wrap (-1) = 18446744073709551615 := by decide
    have e := bin_xor1 (2 * v + 18446744073709551616) (by omega) (by omega)
    simp [Mf.f54, beqI, bneI, mm_min2, mm_max2, mm_min3, mm_max3, startE, lkE, lkX, lkE_rest, sx, substE, opVA, objs0, List.replicate, XA_seq, XA_region, XOA_go, goE_someA, opV, ev, putA, layAll, XOA_nil, XA_skip_seq, XA_skip_nil, XOA_gd, goG_tA, goG_uA, binV, bi_add, bi_sub, bi_mul, bi_quo, bi_rem, bi_eql, bi_neq, bi_lss, bi_leq, bi_gtr, bi_geq, bi_shl, bi_shr, bi_and, bi_or, bi_xor, unV, XA_ret_nil, XA_ret_cons, endFA_r, endFA_n, endTA_r, endTA_n, endRA_r, endRA_n, endEA_r, endEA_n, List.take, fltR, resultsA, resAs, resA, XA_block, XA_cond, pickX_t, pickX_f, pickX_b, XA_skip_blk, XA_skip_lp, XA_exit_seq, XA_exit_lp, XA_exit_blk, XA_exit_nil, load1, Ev.loadCells, objCells, bodyCells, setCells, AV.flat, AV.flat1, backR, backV, backCell, mapO, AV.cells, AV.atom, AV.tree, fillV, repeatL, treeCell, freezeAll, eqCells, callV_T, callV_F, passN, passV, passCell, srcCells, sliceBounds, hiB, loB, thenQ_nA, thenQ_xA, thenQ_rA, runK_nA, runK_xA, runK_rA, wrap_i64, wrap_u64, wrap_u32, wrap_u8, wrap_u16, wrapu_neg hv.1 c, s1, s2, s3, e, zigN, c, IntKind.bits]
    omega
  · have w : IntKind.u64.wrap v = v := wrap_u64 (by omega) (by omega)
    have s1 : IntKind.u64.wrap (v * 2) = v * 2 := wrap_u64 (by omega) (by omega)
    have s2 : v.fdiv 9223372036854775808 = 0 := by
      rw [show (9223372036854775808 : Int) = ((9223372036854775808 : Nat) : Int) from rfl, fdiv_eq]; omega
    have s3 : IntKind.u64.wrap 0 = 0 := by decide
    have e := bin_xor0 (v * 2) (by omega) (by omega)
    simp [Mf.f54, beqI, bneI, mm_min2, mm_max2, mm_min3, mm_max3, startE, lkE, lkX, lkE_rest, sx, substE, opVA, objs0, List.replicate, XA_seq, XA_region, XOA_go, goE_someA, opV, ev, putA, layAll, XOA_nil, XA_skip_seq, XA_skip_nil, XOA_gd, goG_tA, goG_uA, binV, bi_add, bi_sub, bi_mul, bi_quo, bi_rem, bi_eql, bi_neq, bi_lss, bi_leq, bi_gtr, bi_geq, bi_shl, bi_shr, bi_and, bi_or, bi_xor, unV, XA_ret_nil, XA_ret_cons, endFA_r, endFA_n, endTA_r, endTA_n, endRA_r, endRA_n, endEA_r, endEA_n, List.take, fltR, resultsA, resAs, resA, XA_block, XA_cond, pickX_t, pickX_f, pickX_b, XA_skip_blk, XA_skip_lp, XA_exit_seq, XA_exit_lp, XA_exit_blk, XA_exit_nil, load1, Ev.loadCells, objCells, bodyCells, setCells, AV.flat, AV.flat1, backR, backV, backCell, mapO, AV.cells, AV.atom, AV.tree, fillV, repeatL, treeCell, freezeAll, eqCells, callV_T, callV_F, passN, passV, passCell, srcCells, sliceBounds, hiB, loB, thenQ_nA, thenQ_xA, thenQ_rA, runK_nA, runK_xA, runK_rA, wrap_i64, wrap_u64, wrap_u32, wrap_u8, wrap_u16, w, s1, s2, s3, e, zigN, c, IntKind.bits]
    omega
theorem zag_ev (u : Int) (hu : inU u) : cvF tab 56 [.int .u64 u] = some (.int .i64 (zagN u)) := by
  unfold inU at hu
  refine cvFA_R (mf := Mf.f56) rfl rfl (by kernel_rfl) ?_
  have s1 : u.fdiv 2 = u / 2 := fdiv_eq u 2
  have s2 : IntKind.i64.wrap (u / 2) = u / 2 := wrap_i64 (by omega) (by omega)
  have s3 := bin_and1_u64 u hu.1 hu.2
  by_cases c : u % 2 = 0
  · have e := bin_ixor0 (u / 2) (by omega) (by omega)
    have s4 : IntKind.i64.wrap 0 = 0 := by decide
    simp [Mf.f56, beqI, bneI, mm_min2, mm_max2, mm_min3, mm_max3, startE, lkE, lkX, lkE_rest, sx, substE, opVA, objs0, List.replicate, XA_seq, XA_region, XOA_go, goE_someA, opV, ev, putA, layAll, XOA_nil, XA_skip_seq, XA_skip_nil, XOA_gd, goG_tA, goG_uA, binV, bi_add, bi_sub, bi_mul, bi_quo, bi_rem, bi_eql, bi_neq, bi_lss, bi_leq, bi_gtr, bi_geq, bi_shl, bi_shr, bi_and, bi_or, bi_xor, unV, XA_ret_nil, XA_ret_cons, endFA_r, endFA_n, endTA_r, endTA_n, endRA_r, endRA_n, endEA_r, endEA_n, List.take, fltR, resultsA, resAs, resA, XA_block, XA_cond, pickX_t, pickX_f, pickX_b, XA_skip_blk, XA_skip_lp, XA_exit_seq, XA_exit_lp, XA_exit_blk, XA_exit_nil, load1, Ev.loadCells, objCells, bodyCells, setCells, AV.flat, AV.flat1, backR, backV, backCell, mapO, AV.cells, AV.atom, AV.tree, fillV, repeatL, treeCell, freezeAll, eqCells, callV_T, callV_F, passN, passV, passCell, srcCells, sliceBounds, hiB, loB, thenQ_nA, thenQ_xA, thenQ_rA, runK_nA, runK_xA, runK_rA, wrap_i64, wrap_u64, wrap_u32, wrap_u8, wrap_u16, s1, s2, s3, s4, c, e, zagN, IntKind.bits]
  · have c' : u % 2 = 1 := by omega
    have e := bin_ixor1 (u / 2) (by omega) (by omega)
    have s4 : IntKind.i64.wrap 1 = 1 := by decide
    have s5 : IntKind.i64.wrap (-1) = -1 := by decide
    simp [Mf.f56, beqI, bneI, mm_min2, mm_max2, mm_min3, mm_max3, startE, lkE, lkX, lkE_rest, sx, substE, opVA, objs0, List.replicate, XA_seq, XA_region, XOA_go, goE_someA, opV, ev, putA, layAll, XOA_nil, XA_skip_seq, XA_skip_nil, XOA_gd, goG_tA, goG_uA, binV, bi_add, bi_sub, bi_mul, bi_quo, bi_rem, bi_eql, bi_neq, bi_lss, bi_leq, bi_gtr, bi_geq, bi_shl, bi_shr, bi_and, bi_or, bi_xor, unV, XA_ret_nil, XA_ret_cons, endFA_r, endFA_n, endTA_r, endTA_n, endRA_r, endRA_n, endEA_r, endEA_n, List.take, fltR, resultsA, resAs, resA, XA_block, XA_cond, pickX_t, pickX_f, pickX_b, XA_skip_blk, XA_skip_lp, XA_exit_seq, XA_exit_lp, XA_exit_blk, XA_exit_nil, load1, Ev.loadCells, objCells, bodyCells, setCells, AV.flat, AV.flat1, backR, backV, backCell, mapO, AV.cells, AV.atom, AV.tree, fillV, repeatL, treeCell, freezeAll, eqCells, callV_T, callV_F, passN, passV, passCell, srcCells, sliceBounds, hiB, loB, thenQ_nA, thenQ_xA, thenQ_rA, runK_nA, runK_xA, runK_rA, wrap_i64, wrap_u64, wrap_u32, wrap_u8, wrap_u16, s1, s2, s3, s4, s5, c', e, zagN, IntKind.bits]
theorem rzig_ev (v : Int) (hv : inI v) : cvF tab 55 [.int .i64 v] = some (.int .u64 (zigN v)) := by
  unfold inI at hv
  refine cvFA_R (mf := Mf.f55) rfl rfl (by kernel_rfl) ?_
  by_cases c : v < 0
  · have s1 : IntKind.i64.wrap (v + 1) = v + 1 := wrap_i64 (by omega) (by omega)
    have s2 : IntKind.i64.wrap (-(v + 1)) = -(v + 1) := wrap_i64 (by omega) (by omega)
    have s2' : IntKind.i64.wrap (0 - (v + 1)) = -(v + 1) := by rw [wrap_i64 (by omega) (by omega)]; omega
    have s3 : IntKind.u64.wrap (-(v + 1)) = -(v + 1) := wrap_u64 (by omega) (by omega)
    have s4 : IntKind.u64.wrap (2 * -(v + 1)) = 2 * -(v + 1) := wrap_u64 (by omega) (by omega)
    have s5 : IntKind.u64.wrap (2 * -(v + 1) + 1) = 2 * -(v + 1) + 1 := wrap_u64 (by omega) (by omega)
    simp [Mf.f55, beqI, bneI, mm_min2, mm_max2, mm_min3, mm_max3, startE, lkE, lkX, lkE_rest, sx, substE, opVA, objs0, List.replicate, XA_seq, XA_region, XOA_go, goE_someA, opV, ev, putA, layAll, XOA_nil, XA_skip_seq, XA_skip_nil, XOA_gd, goG_tA, goG_uA, binV, bi_add, bi_sub, bi_mul, bi_quo, bi_rem, bi_eql, bi_neq, bi_lss, bi_leq, bi_gtr, bi_geq, bi_shl, bi_shr, bi_and, bi_or, bi_xor, unV, XA_ret_nil, XA_ret_cons, endFA_r, endFA_n, endTA_r, endTA_n, endRA_r, endRA_n, endEA_r, endEA_n, List.take, fltR, resultsA, resAs, resA, XA_block, XA_cond, pickX_t, pickX_f, pickX_b, XA_skip_blk, XA_skip_lp, XA_exit_seq, XA_exit_lp, XA_exit_blk, XA_exit_nil, load1, Ev.loadCells, objCells, bodyCells, setCells, AV.flat, AV.flat1, backR, backV, backCell, mapO, AV.cells, AV.atom, AV.tree, fillV, repeatL, treeCell, freezeAll, eqCells, callV_T, callV_F, passN, passV, passCell, srcCells, sliceBounds, hiB, loB, thenQ_nA, thenQ_xA, thenQ_rA, runK_nA, runK_xA, runK_rA, wrap_i64, wrap_u64, wrap_u32, wrap_u8, wrap_u16, c, s1, s2, s2', s3, s4, s5, zigN]
    try omega
  · have w : IntKind.u64.wrap v = v := wrap_u64 (by omega) (by omega)
    have s1 : IntKind.u64.wrap (2 * v) = 2 * v := wrap_u64 (by omega) (by omega)
    simp [Mf.f55, beqI, bneI, mm_min2, mm_max2, mm_min3, mm_max3, startE, lkE, lkX, lkE_rest, sx, substE, opVA, objs0, List.replicate, XA_seq, XA_region, XOA_go, goE_someA, opV, ev, putA, layAll, XOA_nil, XA_skip_seq, XA_skip_nil, XOA_gd, goG_tA, goG_uA, binV, bi_add, bi_sub, bi_mul, bi_quo, bi_rem, bi_eql, bi_neq, bi_lss, bi_leq, bi_gtr, bi_geq, bi_shl, bi_shr, bi_and, bi_or, bi_xor, unV, XA_ret_nil, XA_ret_cons, endFA_r, endFA_n, endTA_r, endTA_n, endRA_r, endRA_n, endEA_r, endEA_n, List.take, fltR, resultsA, resAs, resA, XA_block, XA_cond, pickX_t, pickX_f, pickX_b, XA_skip_blk, XA_skip_lp, XA_exit_seq, XA_exit_lp, XA_exit_blk, XA_exit_nil, load1, Ev.loadCells, objCells, bodyCells, setCells, AV.flat, AV.flat1, backR, backV, backCell, mapO, AV.cells, AV.atom, AV.tree, fillV, repeatL, treeCell, freezeAll, eqCells, callV_T, callV_F, passN, passV, passCell, srcCells, sliceBounds, hiB, loB, thenQ_nA, thenQ_xA, thenQ_rA, runK_nA, runK_xA, runK_rA, wrap_i64, wrap_u64, wrap_u32, wrap_u8, wrap_u16, c, w, s1, zigN]
def key4 (a b c d : Int) : Int := ((a * 256 + b) * 256 + c) * 256 + d
theorem key_ev (a b c d : Int) (ha : byte a) (hb : byte b) (hc : byte c) (hd : byte d) : cvF tab 69 [.agg [.int .u8 a, .int .u8 b, .int .u8 c, .int .u8 d]] = some (.int .u32 (key4 a b c d)) := by
  unfold byte at *
  refine cvFA_R (mf := Mf.f69) rfl rfl (by kernel_rfl) ?_
  have e1 : IntKind.u32.wrap a = a := wrap_u32 (by omega) (by omega)
  have e2 : IntKind.u32.wrap b = b := wrap_u32 (by omega) (by omega)
  have e3 : IntKind.u32.wrap c = c := wrap_u32 (by omega) (by omega)
  have e4 : IntKind.u32.wrap d = d := wrap_u32 (by omega) (by omega)
  have e5 : IntKind.u32.wrap (a * 256) = a * 256 := wrap_u32 (by omega) (by omega)
  have e7 : IntKind.u32.wrap ((a * 256 + b) * 256) = (a * 256 + b) * 256 := wrap_u32 (by omega) (by omega)
  have e9 : IntKind.u32.wrap (((a * 256 + b) * 256 + c) * 256) = ((a * 256 + b) * 256 + c) * 256 := wrap_u32 (by omega) (by omega)
  have e0 : IntKind.u32.wrap 0 = 0 := by decide
  have o0 := bin_or_u32 0 a (by omega) (by omega) ha.1 ha.2
  have o1 := bin_or_u32 a b (by omega) (by omega) hb.1 hb.2
  have o2 := bin_or_u32 (a * 256 + b) c (by omega) (by omega) hc.1 hc.2
  have o3 := bin_or_u32 ((a * 256 + b) * 256 + c) d (by omega) (by omega) hd.1 hd.2
  simp at o0
  simp [Mf.f69, beqI, bneI, mm_min2, mm_max2, mm_min3, mm_max3, startE, lkE, lkX, lkE_rest, sx, substE, opVA, objs0, List.replicate, XA_seq, XA_region, XOA_go, goE_someA, opV, ev, putA, layAll, XOA_nil, XA_skip_seq, XA_skip_nil, XOA_gd, goG_tA, goG_uA, binV, bi_add, bi_sub, bi_mul, bi_quo, bi_rem, bi_eql, bi_neq, bi_lss, bi_leq, bi_gtr, bi_geq, bi_shl, bi_shr, bi_and, bi_or, bi_xor, unV, XA_ret_nil, XA_ret_cons, endFA_r, endFA_n, endTA_r, endTA_n, endRA_r, endRA_n, endEA_r, endEA_n, List.take, fltR, resultsA, resAs, resA, XA_block, XA_cond, pickX_t, pickX_f, pickX_b, XA_skip_blk, XA_skip_lp, XA_exit_seq, XA_exit_lp, XA_exit_blk, XA_exit_nil, load1, Ev.loadCells, objCells, bodyCells, setCells, AV.flat, AV.flat1, backR, backV, backCell, mapO, AV.cells, AV.atom, AV.tree, fillV, repeatL, treeCell, freezeAll, eqCells, callV_T, callV_F, passN, passV, passCell, srcCells, sliceBounds, hiB, loB, thenQ_nA, thenQ_xA, thenQ_rA, runK_nA, runK_xA, runK_rA, wrap_i64, wrap_u64, wrap_u32, wrap_u8, wrap_u16, XA_round, normA, lkE, fixObjs, fixBody, fixV, fixCell, goN_someA, e0, e1, e2, e3, e4, e5, e7, e9, o0, o1, o2, o3, key4, IntKind.bits]
end Go.Proofs.Ytpohmfihpnineaa
end
section
set_option linter.unusedSimpArgs false
set_option linter.unusedVariables false
set_option maxHeartbeats 4000000
set_option maxRecDepth 100000
namespace Go.Proofs.Ytpohmfihpnineaa
open Go.Ev
structure Rw where
  a : Int
  b : Int
  c : Int
  d : Int
  x : Int
  y : Int
  deriving DecidableEq
structure okW (r : Rw) : Prop where
  a : byte r.a
  b : byte r.b
  c : byte r.c
  d : byte r.d
  x : inI r.x
  y : inI r.y
def rowC (r : Rw) : List AV := [.int .u8 r.a, .int .u8 r.b, .int .u8 r.c, .int .u8 r.d, .int .i64 r.x, .int .i64 r.y]
def gRow : GT := .pair (.arr 4 (.int .u8)) (.pair (.arr 2 (.int .i64)) .unit)
theorem rd_row {cs : List AV} (h : RD gRow cs) : ∃ r, cs = rowC r ∧ okW r := by
  obtain ⟨p, q, rfl, ⟨L, hL, rfl, hx⟩, s, t, rfl, ⟨K, hK, rfl, hy⟩, rfl⟩ := h
  match L, hL, hx, K, hK, hy with
  | [l1, l2, l3, l4], _, hx, [k1, k2], _, hy =>
    obtain ⟨a, rfl, ha⟩ := rd_u8 (hx l1 (by simp))
    obtain ⟨b, rfl, hb⟩ := rd_u8 (hx l2 (by simp))
    obtain ⟨c, rfl, hc⟩ := rd_u8 (hx l3 (by simp))
    obtain ⟨d, rfl, hd⟩ := rd_u8 (hx l4 (by simp))
    obtain ⟨x, rfl, hx'⟩ := rd_i64 (hy k1 (by simp))
    obtain ⟨y, rfl, hy'⟩ := rd_i64 (hy k2 (by simp))
    exact ⟨⟨a, b, c, d, x, y⟩, rfl, ⟨ha, hb, hc, hd, hx', hy'⟩⟩
def flatW (l : List Rw) : List AV := l.flatMap rowC
def rW (l : List Rw) : AV := .ro l.length (flatW l)
def okL (l : List Rw) : Prop := ∀ r ∈ l, okW r
theorem flatW_len (l : List Rw) : (flatW l).length = l.length * 6 := by
  induction l with
  | nil => rfl
  | cons r l ih =>
    simp only [flatW, List.flatMap_cons, List.length_append] at *
    rw [ih]
    simp [rowC]; omega
theorem flatW_append (a b : List Rw) : flatW (a ++ b) = flatW a ++ flatW b := List.flatMap_append ..
theorem flatW_drop (l : List Rw) (i : Nat) : (flatW l).drop (i * 6) = flatW (l.drop i) := by
  induction l generalizing i with
  | nil => simp [flatW]
  | cons r l ih =>
    cases i with
    | zero => simp
    | succ i =>
      rw [show (i + 1) * 6 = i * 6 + 6 from by omega]
      simp only [flatW, List.flatMap_cons, rowC, List.cons_append, List.nil_append, List.drop_succ_cons]
      exact ih i
theorem flatW_take (l : List Rw) (i : Nat) : (flatW l).take (i * 6) = flatW (l.take i) := by
  induction l generalizing i with
  | nil => simp [flatW]
  | cons r l ih =>
    cases i with
    | zero => simp [flatW]
    | succ i =>
      rw [show (i + 1) * 6 = i * 6 + 6 from by omega]
      simp only [flatW, List.flatMap_cons, rowC, List.cons_append, List.nil_append, List.take_succ_cons]
      exact congrArg _ (congrArg _ (congrArg _ (congrArg _ (congrArg _ (congrArg _ (ih i))))))
theorem flatW_tree (l : List Rw) : (flatW l).all AV.tree = true := by
  refine List.all_eq_true.2 fun x hx => ?_
  obtain ⟨r, _, h⟩ := List.mem_flatMap.1 hx
  simp only [rowC, List.mem_cons, List.not_mem_nil, or_false] at h
  rcases h with rfl | rfl | rfl | rfl | rfl | rfl <;> rfl
def cmpI (x y : Int) : Int := if x < y then -1 else if y < x then 1 else 0
theorem nan32_ev (x : Int) : cvF tab 89 [.int .u32 x] = some (.bool false) := by
  refine cvFA_R (mf := Mf.f89) rfl rfl (by kernel_rfl) ?_
  simp only [Mf.f89]
  simp [beqI, bneI, mm_min2, mm_max2, mm_min3, mm_max3, startE, lkE, lkX, lkE_rest, sx, substE, opVA, objs0, List.replicate, XA_seq, XA_region, XOA_go, goE_someA, opV, ev, putA, layAll, XOA_nil, XA_skip_seq, XA_skip_nil, XOA_gd, goG_tA, goG_uA, binV, bi_add, bi_sub, bi_mul, bi_quo, bi_rem, bi_eql, bi_neq, bi_lss, bi_leq, bi_gtr, bi_geq, bi_shl, bi_shr, bi_and, bi_or, bi_xor, unV, XA_ret_nil, XA_ret_cons, endFA_r, endFA_n, endTA_r, endTA_n, endRA_r, endRA_n, endEA_r, endEA_n, List.take, fltR, resultsA, resAs, resA, XA_block, XA_cond, pickX_t, pickX_f, pickX_b, XA_skip_blk, XA_skip_lp, XA_exit_seq, XA_exit_lp, XA_exit_blk, XA_exit_nil, load1, Ev.loadCells, objCells, bodyCells, setCells, AV.flat, AV.flat1, backR, backV, backCell, mapO, AV.cells, AV.atom, AV.tree, fillV, repeatL, treeCell, freezeAll, eqCells, callV_T, callV_F, passN, passV, passCell, srcCells, sliceBounds, hiB, loB, thenQ_nA, thenQ_xA, thenQ_rA, runK_nA, runK_xA, runK_rA, wrap_i64, wrap_u64, wrap_u32, wrap_u8, wrap_u16]
theorem nan64_ev (x : Int) : cvF tab 103 [.int .i64 x] = some (.bool false) := by
  refine cvFA_R (mf := Mf.f103) rfl rfl (by kernel_rfl) ?_
  simp only [Mf.f103]
  simp [beqI, bneI, mm_min2, mm_max2, mm_min3, mm_max3, startE, lkE, lkX, lkE_rest, sx, substE, opVA, objs0, List.replicate, XA_seq, XA_region, XOA_go, goE_someA, opV, ev, putA, layAll, XOA_nil, XA_skip_seq, XA_skip_nil, XOA_gd, goG_tA, goG_uA, binV, bi_add, bi_sub, bi_mul, bi_quo, bi_rem, bi_eql, bi_neq, bi_lss, bi_leq, bi_gtr, bi_geq, bi_shl, bi_shr, bi_and, bi_or, bi_xor, unV, XA_ret_nil, XA_ret_cons, endFA_r, endFA_n, endTA_r, endTA_n, endRA_r, endRA_n, endEA_r, endEA_n, List.take, fltR, resultsA, resAs, resA, XA_block, XA_cond, pickX_t, pickX_f, pickX_b, XA_skip_blk, XA_skip_lp, XA_exit_seq, XA_exit_lp, XA_exit_blk, XA_exit_nil, load1, Ev.loadCells, objCells, bodyCells, setCells, AV.flat, AV.flat1, backR, backV, backCell, mapO, AV.cells, AV.atom, AV.tree, fillV, repeatL, treeCell, freezeAll, eqCells, callV_T, callV_F, passN, passV, passCell, srcCells, sliceBounds, hiB, loB, thenQ_nA, thenQ_xA, thenQ_rA, runK_nA, runK_xA, runK_rA, wrap_i64, wrap_u64, wrap_u32, wrap_u8, wrap_u16]
theorem cmp32_ev (x y : Int) : cvF tab 68 [.int .u32 x, .int .u32 y] = some (.int .i64 (cmpI x y)) := by
  refine cvFA_R (mf := Mf.f68) rfl rfl (by kernel_rfl) ?_
  simp only [Mf.f68]
  unfold cmpI
  by_cases h1 : x < y
  · simp [beqI, bneI, mm_min2, mm_max2, mm_min3, mm_max3, startE, lkE, lkX, lkE_rest, sx, substE, opVA, objs0, List.replicate, XA_seq, XA_region, XOA_go, goE_someA, opV, ev, putA, layAll, XOA_nil, XA_skip_seq, XA_skip_nil, XOA_gd, goG_tA, goG_uA, binV, bi_add, bi_sub, bi_mul, bi_quo, bi_rem, bi_eql, bi_neq, bi_lss, bi_leq, bi_gtr, bi_geq, bi_shl, bi_shr, bi_and, bi_or, bi_xor, unV, XA_ret_nil, XA_ret_cons, endFA_r, endFA_n, endTA_r, endTA_n, endRA_r, endRA_n, endEA_r, endEA_n, List.take, fltR, resultsA, resAs, resA, XA_block, XA_cond, pickX_t, pickX_f, pickX_b, XA_skip_blk, XA_skip_lp, XA_exit_seq, XA_exit_lp, XA_exit_blk, XA_exit_nil, load1, Ev.loadCells, objCells, bodyCells, setCells, AV.flat, AV.flat1, backR, backV, backCell, mapO, AV.cells, AV.atom, AV.tree, fillV, repeatL, treeCell, freezeAll, eqCells, callV_T, callV_F, passN, passV, passCell, srcCells, sliceBounds, hiB, loB, thenQ_nA, thenQ_xA, thenQ_rA, runK_nA, runK_xA, runK_rA, wrap_i64, wrap_u64, wrap_u32, wrap_u8, wrap_u16, nan32_ev, h1]
  · by_cases h2 : y < x <;> simp [beqI, bneI, mm_min2, mm_max2, mm_min3, mm_max3, startE, lkE, lkX, lkE_rest, sx, substE, opVA, objs0, List.replicate, XA_seq, XA_region, XOA_go, goE_someA, opV, ev, putA, layAll, XOA_nil, XA_skip_seq, XA_skip_nil, XOA_gd, goG_tA, goG_uA, binV, bi_add, bi_sub, bi_mul, bi_quo, bi_rem, bi_eql, bi_neq, bi_lss, bi_leq, bi_gtr, bi_geq, bi_shl, bi_shr, bi_and, bi_or, bi_xor, unV, XA_ret_nil, XA_ret_cons, endFA_r, endFA_n, endTA_r, endTA_n, endRA_r, endRA_n, endEA_r, endEA_n, List.take, fltR, resultsA, resAs, resA, XA_block, XA_cond, pickX_t, pickX_f, pickX_b, XA_skip_blk, XA_skip_lp, XA_exit_seq, XA_exit_lp, XA_exit_blk, XA_exit_nil, load1, Ev.loadCells, objCells, bodyCells, setCells, AV.flat, AV.flat1, backR, backV, backCell, mapO, AV.cells, AV.atom, AV.tree, fillV, repeatL, treeCell, freezeAll, eqCells, callV_T, callV_F, passN, passV, passCell, srcCells, sliceBounds, hiB, loB, thenQ_nA, thenQ_xA, thenQ_rA, runK_nA, runK_xA, runK_rA, wrap_i64, wrap_u64, wrap_u32, wrap_u8, wrap_u16, nan32_ev, h1, h2]
theorem cmp64_ev (x y : Int) : cvF tab 90 [.int .i64 x, .int .i64 y] = some (.int .i64 (cmpI x y)) := by
  refine cvFA_R (mf := Mf.f90) rfl rfl (by kernel_rfl) ?_
  simp only [Mf.f90]
  unfold cmpI
  by_cases h1 : x < y
  · simp [beqI, bneI, mm_min2, mm_max2, mm_min3, mm_max3, startE, lkE, lkX, lkE_rest, sx, substE, opVA, objs0, List.replicate, XA_seq, XA_region, XOA_go, goE_someA, opV, ev, putA, layAll, XOA_nil, XA_skip_seq, XA_skip_nil, XOA_gd, goG_tA, goG_uA, binV, bi_add, bi_sub, bi_mul, bi_quo, bi_rem, bi_eql, bi_neq, bi_lss, bi_leq, bi_gtr, bi_geq, bi_shl, bi_shr, bi_and, bi_or, bi_xor, unV, XA_ret_nil, XA_ret_cons, endFA_r, endFA_n, endTA_r, endTA_n, endRA_r, endRA_n, endEA_r, endEA_n, List.take, fltR, resultsA, resAs, resA, XA_block, XA_cond, pickX_t, pickX_f, pickX_b, XA_skip_blk, XA_skip_lp, XA_exit_seq, XA_exit_lp, XA_exit_blk, XA_exit_nil, load1, Ev.loadCells, objCells, bodyCells, setCells, AV.flat, AV.flat1, backR, backV, backCell, mapO, AV.cells, AV.atom, AV.tree, fillV, repeatL, treeCell, freezeAll, eqCells, callV_T, callV_F, passN, passV, passCell, srcCells, sliceBounds, hiB, loB, thenQ_nA, thenQ_xA, thenQ_rA, runK_nA, runK_xA, runK_rA, wrap_i64, wrap_u64, wrap_u32, wrap_u8, wrap_u16, nan64_ev, h1]
  · by_cases h2 : y < x <;> simp [beqI, bneI, mm_min2, mm_max2, mm_min3, mm_max3, startE, lkE, lkX, lkE_rest, sx, substE, opVA, objs0, List.replicate, XA_seq, XA_region, XOA_go, goE_someA, opV, ev, putA, layAll, XOA_nil, XA_skip_seq, XA_skip_nil, XOA_gd, goG_tA, goG_uA, binV, bi_add, bi_sub, bi_mul, bi_quo, bi_rem, bi_eql, bi_neq, bi_lss, bi_leq, bi_gtr, bi_geq, bi_shl, bi_shr, bi_and, bi_or, bi_xor, unV, XA_ret_nil, XA_ret_cons, endFA_r, endFA_n, endTA_r, endTA_n, endRA_r, endRA_n, endEA_r, endEA_n, List.take, fltR, resultsA, resAs, resA, XA_block, XA_cond, pickX_t, pickX_f, pickX_b, XA_skip_blk, XA_skip_lp, XA_exit_seq, XA_exit_lp, XA_exit_blk, XA_exit_nil, load1, Ev.loadCells, objCells, bodyCells, setCells, AV.flat, AV.flat1, backR, backV, backCell, mapO, AV.cells, AV.atom, AV.tree, fillV, repeatL, treeCell, freezeAll, eqCells, callV_T, callV_F, passN, passV, passCell, srcCells, sliceBounds, hiB, loB, thenQ_nA, thenQ_xA, thenQ_rA, runK_nA, runK_xA, runK_rA, wrap_i64, wrap_u64, wrap_u32, wrap_u8, wrap_u16, nan64_ev, h1, h2]
theorem scmp_ev (x y u v : Int) : cvF tab 70 [.ro 2 [.int .i64 x, .int .i64 y], .ro 2 [.int .i64 u, .int .i64 v]] = some (.int .i64 (if cmpI x u = 0 then cmpI y v else cmpI x u)) := by
  refine cvFA_R (mf := Mf.f70) rfl rfl (by kernel_rfl) ?_
  simp only [Mf.f70]
  have e1 := cmp64_ev x u
  have e2 := cmp64_ev y v
  simp [beqI, bneI, mm_min2, mm_max2, mm_min3, mm_max3, startE, lkE, lkX, lkE_rest, sx, substE, opVA, objs0, List.replicate, XA_seq, XA_region, XOA_go, goE_someA, opV, ev, putA, layAll, XOA_nil, XA_skip_seq, XA_skip_nil, XOA_gd, goG_tA, goG_uA, binV, bi_add, bi_sub, bi_mul, bi_quo, bi_rem, bi_eql, bi_neq, bi_lss, bi_leq, bi_gtr, bi_geq, bi_shl, bi_shr, bi_and, bi_or, bi_xor, unV, XA_ret_nil, XA_ret_cons, endFA_r, endFA_n, endTA_r, endTA_n, endRA_r, endRA_n, endEA_r, endEA_n, List.take, fltR, resultsA, resAs, resA, XA_block, XA_cond, pickX_t, pickX_f, pickX_b, XA_skip_blk, XA_skip_lp, XA_exit_seq, XA_exit_lp, XA_exit_blk, XA_exit_nil, load1, Ev.loadCells, objCells, bodyCells, setCells, AV.flat, AV.flat1, backR, backV, backCell, mapO, AV.cells, AV.atom, AV.tree, fillV, repeatL, treeCell, freezeAll, eqCells, callV_T, callV_F, passN, passV, passCell, srcCells, sliceBounds, hiB, loB, thenQ_nA, thenQ_xA, thenQ_rA, runK_nA, runK_xA, runK_rA, wrap_i64, wrap_u64, wrap_u32, wrap_u8, wrap_u16]
  refine XA_for (fun i => ⟨[(0, .ro 2 [.int .i64 x, .int .i64 y]), (1, .ro 2 [.int .i64 u, .int .i64 v]), (9, .ro 2 [.int .i64 x, .int .i64 y]), (10, .int .i64 2), (11, .int .i64 i)], []⟩)
    (fun i => (0 < i → cmpI x u = 0) ∧ (1 < i → cmpI y v = 0)) 2 0 (by omega) (by simp [AV.atom, normA, lkE, fixObjs, fixBody, fixV, fixCell]) (by omega) ?_ ?_
  · intro i _ hi hJ
    have h01 : i = 0 ∨ i = 1 := by omega
    rcases h01 with rfl | rfl
    · by_cases c : cmpI x u = 0
      · have w := wrap_succ 0 2 (by omega) (by omega)
        simp at w
        rw [c] at e1
        simp [beqI, bneI, mm_min2, mm_max2, mm_min3, mm_max3, startE, lkE, lkX, lkE_rest, sx, substE, opVA, objs0, List.replicate, XA_seq, XA_region, XOA_go, goE_someA, opV, ev, putA, layAll, XOA_nil, XA_skip_seq, XA_skip_nil, XOA_gd, goG_tA, goG_uA, binV, bi_add, bi_sub, bi_mul, bi_quo, bi_rem, bi_eql, bi_neq, bi_lss, bi_leq, bi_gtr, bi_geq, bi_shl, bi_shr, bi_and, bi_or, bi_xor, unV, XA_ret_nil, XA_ret_cons, endFA_r, endFA_n, endTA_r, endTA_n, endRA_r, endRA_n, endEA_r, endEA_n, List.take, fltR, resultsA, resAs, resA, XA_block, XA_cond, pickX_t, pickX_f, pickX_b, XA_skip_blk, XA_skip_lp, XA_exit_seq, XA_exit_lp, XA_exit_blk, XA_exit_nil, load1, Ev.loadCells, objCells, bodyCells, setCells, AV.flat, AV.flat1, backR, backV, backCell, mapO, AV.cells, AV.atom, AV.tree, fillV, repeatL, treeCell, freezeAll, eqCells, callV_T, callV_F, passN, passV, passCell, srcCells, sliceBounds, hiB, loB, thenQ_nA, thenQ_xA, thenQ_rA, runK_nA, runK_xA, runK_rA, wrap_i64, wrap_u64, wrap_u32, wrap_u8, wrap_u16, AV.atom, normA, lkE, fixObjs, fixBody, fixV, fixCell, e1, w, c]
      · simp [beqI, bneI, mm_min2, mm_max2, mm_min3, mm_max3, startE, lkE, lkX, lkE_rest, sx, substE, opVA, objs0, List.replicate, XA_seq, XA_region, XOA_go, goE_someA, opV, ev, putA, layAll, XOA_nil, XA_skip_seq, XA_skip_nil, XOA_gd, goG_tA, goG_uA, binV, bi_add, bi_sub, bi_mul, bi_quo, bi_rem, bi_eql, bi_neq, bi_lss, bi_leq, bi_gtr, bi_geq, bi_shl, bi_shr, bi_and, bi_or, bi_xor, unV, XA_ret_nil, XA_ret_cons, endFA_r, endFA_n, endTA_r, endTA_n, endRA_r, endRA_n, endEA_r, endEA_n, List.take, fltR, resultsA, resAs, resA, XA_block, XA_cond, pickX_t, pickX_f, pickX_b, XA_skip_blk, XA_skip_lp, XA_exit_seq, XA_exit_lp, XA_exit_blk, XA_exit_nil, load1, Ev.loadCells, objCells, bodyCells, setCells, AV.flat, AV.flat1, backR, backV, backCell, mapO, AV.cells, AV.atom, AV.tree, fillV, repeatL, treeCell, freezeAll, eqCells, callV_T, callV_F, passN, passV, passCell, srcCells, sliceBounds, hiB, loB, thenQ_nA, thenQ_xA, thenQ_rA, runK_nA, runK_xA, runK_rA, wrap_i64, wrap_u64, wrap_u32, wrap_u8, wrap_u16, AV.atom, normA, lkE, fixObjs, fixBody, fixV, fixCell, e1, c]
    · have c := hJ.1 (by omega)
      by_cases c2 : cmpI y v = 0
      · have w := wrap_succ 1 2 (by omega) (by omega)
        simp at w
        rw [c2] at e2
        simp [beqI, bneI, mm_min2, mm_max2, mm_min3, mm_max3, startE, lkE, lkX, lkE_rest, sx, substE, opVA, objs0, List.replicate, XA_seq, XA_region, XOA_go, goE_someA, opV, ev, putA, layAll, XOA_nil, XA_skip_seq, XA_skip_nil, XOA_gd, goG_tA, goG_uA, binV, bi_add, bi_sub, bi_mul, bi_quo, bi_rem, bi_eql, bi_neq, bi_lss, bi_leq, bi_gtr, bi_geq, bi_shl, bi_shr, bi_and, bi_or, bi_xor, unV, XA_ret_nil, XA_ret_cons, endFA_r, endFA_n, endTA_r, endTA_n, endRA_r, endRA_n, endEA_r, endEA_n, List.take, fltR, resultsA, resAs, resA, XA_block, XA_cond, pickX_t, pickX_f, pickX_b, XA_skip_blk, XA_skip_lp, XA_exit_seq, XA_exit_lp, XA_exit_blk, XA_exit_nil, load1, Ev.loadCells, objCells, bodyCells, setCells, AV.flat, AV.flat1, backR, backV, backCell, mapO, AV.cells, AV.atom, AV.tree, fillV, repeatL, treeCell, freezeAll, eqCells, callV_T, callV_F, passN, passV, passCell, srcCells, sliceBounds, hiB, loB, thenQ_nA, thenQ_xA, thenQ_rA, runK_nA, runK_xA, runK_rA, wrap_i64, wrap_u64, wrap_u32, wrap_u8, wrap_u16, AV.atom, normA, lkE, fixObjs, fixBody, fixV, fixCell, e2, w, c, c2]
      · simp [beqI, bneI, mm_min2, mm_max2, mm_min3, mm_max3, startE, lkE, lkX, lkE_rest, sx, substE, opVA, objs0, List.replicate, XA_seq, XA_region, XOA_go, goE_someA, opV, ev, putA, layAll, XOA_nil, XA_skip_seq, XA_skip_nil, XOA_gd, goG_tA, goG_uA, binV, bi_add, bi_sub, bi_mul, bi_quo, bi_rem, bi_eql, bi_neq, bi_lss, bi_leq, bi_gtr, bi_geq, bi_shl, bi_shr, bi_and, bi_or, bi_xor, unV, XA_ret_nil, XA_ret_cons, endFA_r, endFA_n, endTA_r, endTA_n, endRA_r, endRA_n, endEA_r, endEA_n, List.take, fltR, resultsA, resAs, resA, XA_block, XA_cond, pickX_t, pickX_f, pickX_b, XA_skip_blk, XA_skip_lp, XA_exit_seq, XA_exit_lp, XA_exit_blk, XA_exit_nil, load1, Ev.loadCells, objCells, bodyCells, setCells, AV.flat, AV.flat1, backR, backV, backCell, mapO, AV.cells, AV.atom, AV.tree, fillV, repeatL, treeCell, freezeAll, eqCells, callV_T, callV_F, passN, passV, passCell, srcCells, sliceBounds, hiB, loB, thenQ_nA, thenQ_xA, thenQ_rA, runK_nA, runK_xA, runK_rA, wrap_i64, wrap_u64, wrap_u32, wrap_u8, wrap_u16, AV.atom, normA, lkE, fixObjs, fixBody, fixV, fixCell, e2, c, c2]
  · intro hJ
    have c := hJ.1 (by omega)
    have c2 := hJ.2 (by omega)
    simp [beqI, bneI, mm_min2, mm_max2, mm_min3, mm_max3, startE, lkE, lkX, lkE_rest, sx, substE, opVA, objs0, List.replicate, XA_seq, XA_region, XOA_go, goE_someA, opV, ev, putA, layAll, XOA_nil, XA_skip_seq, XA_skip_nil, XOA_gd, goG_tA, goG_uA, binV, bi_add, bi_sub, bi_mul, bi_quo, bi_rem, bi_eql, bi_neq, bi_lss, bi_leq, bi_gtr, bi_geq, bi_shl, bi_shr, bi_and, bi_or, bi_xor, unV, XA_ret_nil, XA_ret_cons, endFA_r, endFA_n, endTA_r, endTA_n, endRA_r, endRA_n, endEA_r, endEA_n, List.take, fltR, resultsA, resAs, resA, XA_block, XA_cond, pickX_t, pickX_f, pickX_b, XA_skip_blk, XA_skip_lp, XA_exit_seq, XA_exit_lp, XA_exit_blk, XA_exit_nil, load1, Ev.loadCells, objCells, bodyCells, setCells, AV.flat, AV.flat1, backR, backV, backCell, mapO, AV.cells, AV.atom, AV.tree, fillV, repeatL, treeCell, freezeAll, eqCells, callV_T, callV_F, passN, passV, passCell, srcCells, sliceBounds, hiB, loB, thenQ_nA, thenQ_xA, thenQ_rA, runK_nA, runK_xA, runK_rA, wrap_i64, wrap_u64, wrap_u32, wrap_u8, wrap_u16, AV.atom, normA, lkE, fixObjs, fixBody, fixV, fixCell, c, c2]
theorem or_ev (x y : Int) : cvF tab 67 [.ro 2 [.int .i64 x, .int .i64 y]] = some (.int .i64 (if x = 0 then y else x)) := by
  refine cvFA_R (mf := Mf.f67) rfl rfl (by kernel_rfl) ?_
  simp only [Mf.f67]
  simp [beqI, bneI, mm_min2, mm_max2, mm_min3, mm_max3, startE, lkE, lkX, lkE_rest, sx, substE, opVA, objs0, List.replicate, XA_seq, XA_region, XOA_go, goE_someA, opV, ev, putA, layAll, XOA_nil, XA_skip_seq, XA_skip_nil, XOA_gd, goG_tA, goG_uA, binV, bi_add, bi_sub, bi_mul, bi_quo, bi_rem, bi_eql, bi_neq, bi_lss, bi_leq, bi_gtr, bi_geq, bi_shl, bi_shr, bi_and, bi_or, bi_xor, unV, XA_ret_nil, XA_ret_cons, endFA_r, endFA_n, endTA_r, endTA_n, endRA_r, endRA_n, endEA_r, endEA_n, List.take, fltR, resultsA, resAs, resA, XA_block, XA_cond, pickX_t, pickX_f, pickX_b, XA_skip_blk, XA_skip_lp, XA_exit_seq, XA_exit_lp, XA_exit_blk, XA_exit_nil, load1, Ev.loadCells, objCells, bodyCells, setCells, AV.flat, AV.flat1, backR, backV, backCell, mapO, AV.cells, AV.atom, AV.tree, fillV, repeatL, treeCell, freezeAll, eqCells, callV_T, callV_F, passN, passV, passCell, srcCells, sliceBounds, hiB, loB, thenQ_nA, thenQ_xA, thenQ_rA, runK_nA, runK_xA, runK_rA, wrap_i64, wrap_u64, wrap_u32, wrap_u8, wrap_u16]
  refine XA_for (fun i => ⟨[(3, .int .i64 0), (6, .ro 2 [.int .i64 x, .int .i64 y]), (7, .int .i64 2), (8, .int .i64 i)], []⟩)
    (fun i => (0 < i → x = 0) ∧ (1 < i → y = 0)) 2 0 (by omega) (by simp [AV.atom, normA, lkE, fixObjs, fixBody, fixV, fixCell]) (by omega) ?_ ?_
  · intro i _ hi hJ
    have h01 : i = 0 ∨ i = 1 := by omega
    rcases h01 with rfl | rfl
    · by_cases c : x = 0
      · have w := wrap_succ 0 2 (by omega) (by omega)
        simp at w
        simp [beqI, bneI, mm_min2, mm_max2, mm_min3, mm_max3, startE, lkE, lkX, lkE_rest, sx, substE, opVA, objs0, List.replicate, XA_seq, XA_region, XOA_go, goE_someA, opV, ev, putA, layAll, XOA_nil, XA_skip_seq, XA_skip_nil, XOA_gd, goG_tA, goG_uA, binV, bi_add, bi_sub, bi_mul, bi_quo, bi_rem, bi_eql, bi_neq, bi_lss, bi_leq, bi_gtr, bi_geq, bi_shl, bi_shr, bi_and, bi_or, bi_xor, unV, XA_ret_nil, XA_ret_cons, endFA_r, endFA_n, endTA_r, endTA_n, endRA_r, endRA_n, endEA_r, endEA_n, List.take, fltR, resultsA, resAs, resA, XA_block, XA_cond, pickX_t, pickX_f, pickX_b, XA_skip_blk, XA_skip_lp, XA_exit_seq, XA_exit_lp, XA_exit_blk, XA_exit_nil, load1, Ev.loadCells, objCells, bodyCells, setCells, AV.flat, AV.flat1, backR, backV, backCell, mapO, AV.cells, AV.atom, AV.tree, fillV, repeatL, treeCell, freezeAll, eqCells, callV_T, callV_F, passN, passV, passCell, srcCells, sliceBounds, hiB, loB, thenQ_nA, thenQ_xA, thenQ_rA, runK_nA, runK_xA, runK_rA, wrap_i64, wrap_u64, wrap_u32, wrap_u8, wrap_u16, AV.atom, normA, lkE, fixObjs, fixBody, fixV, fixCell, w, c]
      · simp [beqI, bneI, mm_min2, mm_max2, mm_min3, mm_max3, startE, lkE, lkX, lkE_rest, sx, substE, opVA, objs0, List.replicate, XA_seq, XA_region, XOA_go, goE_someA, opV, ev, putA, layAll, XOA_nil, XA_skip_seq, XA_skip_nil, XOA_gd, goG_tA, goG_uA, binV, bi_add, bi_sub, bi_mul, bi_quo, bi_rem, bi_eql, bi_neq, bi_lss, bi_leq, bi_gtr, bi_geq, bi_shl, bi_shr, bi_and, bi_or, bi_xor, unV, XA_ret_nil, XA_ret_cons, endFA_r, endFA_n, endTA_r, endTA_n, endRA_r, endRA_n, endEA_r, endEA_n, List.take, fltR, resultsA, resAs, resA, XA_block, XA_cond, pickX_t, pickX_f, pickX_b, XA_skip_blk, XA_skip_lp, XA_exit_seq, XA_exit_lp, XA_exit_blk, XA_exit_nil, load1, Ev.loadCells, objCells, bodyCells, setCells, AV.flat, AV.flat1, backR, backV, backCell, mapO, AV.cells, AV.atom, AV.tree, fillV, repeatL, treeCell, freezeAll, eqCells, callV_T, callV_F, passN, passV, passCell, srcCells, sliceBounds, hiB, loB, thenQ_nA, thenQ_xA, thenQ_rA, runK_nA, runK_xA, runK_rA, wrap_i64, wrap_u64, wrap_u32, wrap_u8, wrap_u16, AV.atom, normA, lkE, fixObjs, fixBody, fixV, fixCell, c]
    · have c := hJ.1 (by omega)
      by_cases c2 : y = 0
      · have w := wrap_succ 1 2 (by omega) (by omega)
        simp at w
        simp [beqI, bneI, mm_min2, mm_max2, mm_min3, mm_max3, startE, lkE, lkX, lkE_rest, sx, substE, opVA, objs0, List.replicate, XA_seq, XA_region, XOA_go, goE_someA, opV, ev, putA, layAll, XOA_nil, XA_skip_seq, XA_skip_nil, XOA_gd, goG_tA, goG_uA, binV, bi_add, bi_sub, bi_mul, bi_quo, bi_rem, bi_eql, bi_neq, bi_lss, bi_leq, bi_gtr, bi_geq, bi_shl, bi_shr, bi_and, bi_or, bi_xor, unV, XA_ret_nil, XA_ret_cons, endFA_r, endFA_n, endTA_r, endTA_n, endRA_r, endRA_n, endEA_r, endEA_n, List.take, fltR, resultsA, resAs, resA, XA_block, XA_cond, pickX_t, pickX_f, pickX_b, XA_skip_blk, XA_skip_lp, XA_exit_seq, XA_exit_lp, XA_exit_blk, XA_exit_nil, load1, Ev.loadCells, objCells, bodyCells, setCells, AV.flat, AV.flat1, backR, backV, backCell, mapO, AV.cells, AV.atom, AV.tree, fillV, repeatL, treeCell, freezeAll, eqCells, callV_T, callV_F, passN, passV, passCell, srcCells, sliceBounds, hiB, loB, thenQ_nA, thenQ_xA, thenQ_rA, runK_nA, runK_xA, runK_rA, wrap_i64, wrap_u64, wrap_u32, wrap_u8, wrap_u16, AV.atom, normA, lkE, fixObjs, fixBody, fixV, fixCell, w, c, c2]
      · simp [beqI, bneI, mm_min2, mm_max2, mm_min3, mm_max3, startE, lkE, lkX, lkE_rest, sx, substE, opVA, objs0, List.replicate, XA_seq, XA_region, XOA_go, goE_someA, opV, ev, putA, layAll, XOA_nil, XA_skip_seq, XA_skip_nil, XOA_gd, goG_tA, goG_uA, binV, bi_add, bi_sub, bi_mul, bi_quo, bi_rem, bi_eql, bi_neq, bi_lss, bi_leq, bi_gtr, bi_geq, bi_shl, bi_shr, bi_and, bi_or, bi_xor, unV, XA_ret_nil, XA_ret_cons, endFA_r, endFA_n, endTA_r, endTA_n, endRA_r, endRA_n, endEA_r, endEA_n, List.take, fltR, resultsA, resAs, resA, XA_block, XA_cond, pickX_t, pickX_f, pickX_b, XA_skip_blk, XA_skip_lp, XA_exit_seq, XA_exit_lp, XA_exit_blk, XA_exit_nil, load1, Ev.loadCells, objCells, bodyCells, setCells, AV.flat, AV.flat1, backR, backV, backCell, mapO, AV.cells, AV.atom, AV.tree, fillV, repeatL, treeCell, freezeAll, eqCells, callV_T, callV_F, passN, passV, passCell, srcCells, sliceBounds, hiB, loB, thenQ_nA, thenQ_xA, thenQ_rA, runK_nA, runK_xA, runK_rA, wrap_i64, wrap_u64, wrap_u32, wrap_u8, wrap_u16, AV.atom, normA, lkE, fixObjs, fixBody, fixV, fixCell, c, c2]
  · intro hJ
    have c := hJ.1 (by omega)
    have c2 := hJ.2 (by omega)
    simp [beqI, bneI, mm_min2, mm_max2, mm_min3, mm_max3, startE, lkE, lkX, lkE_rest, sx, substE, opVA, objs0, List.replicate, XA_seq, XA_region, XOA_go, goE_someA, opV, ev, putA, layAll, XOA_nil, XA_skip_seq, XA_skip_nil, XOA_gd, goG_tA, goG_uA, binV, bi_add, bi_sub, bi_mul, bi_quo, bi_rem, bi_eql, bi_neq, bi_lss, bi_leq, bi_gtr, bi_geq, bi_shl, bi_shr, bi_and, bi_or, bi_xor, unV, XA_ret_nil, XA_ret_cons, endFA_r, endFA_n, endTA_r, endTA_n, endRA_r, endRA_n, endEA_r, endEA_n, List.take, fltR, resultsA, resAs, resA, XA_block, XA_cond, pickX_t, pickX_f, pickX_b, XA_skip_blk, XA_skip_lp, XA_exit_seq, XA_exit_lp, XA_exit_blk, XA_exit_nil, load1, Ev.loadCells, objCells, bodyCells, setCells, AV.flat, AV.flat1, backR, backV, backCell, mapO, AV.cells, AV.atom, AV.tree, fillV, repeatL, treeCell, freezeAll, eqCells, callV_T, callV_F, passN, passV, passCell, srcCells, sliceBounds, hiB, loB, thenQ_nA, thenQ_xA, thenQ_rA, runK_nA, runK_xA, runK_rA, wrap_i64, wrap_u64, wrap_u32, wrap_u8, wrap_u16, AV.atom, normA, lkE, fixObjs, fixBody, fixV, fixCell, c, c2]
def keyR (r : Rw) : Int := key4 r.a r.b r.c r.d
def cmpR (r s : Rw) : Int := if cmpI (keyR r) (keyR s) = 0 then (if cmpI r.x s.x = 0 then cmpI r.y s.y else cmpI r.x s.x) else cmpI (keyR r) (keyR s)
theorem compare_ev (r s : Rw) (hr : okW r) (hs : okW s) : cvF tab 48 [.agg (rowC r), .agg (rowC s)] = some (.int .i64 (cmpR r s)) := by
  refine cvFA_R (mf := Mf.f48) rfl rfl (by kernel_rfl) ?_
  simp only [Mf.f48]
  have e1 := key_ev r.a r.b r.c r.d hr.a hr.b hr.c hr.d
  have e2 := key_ev s.a s.b s.c s.d hs.a hs.b hs.c hs.d
  have e3 := cmp32_ev (keyR r) (keyR s)
  have e4 := scmp_ev r.x r.y s.x s.y
  have e5 := or_ev (cmpI (keyR r) (keyR s)) (if cmpI r.x s.x = 0 then cmpI r.y s.y else cmpI r.x s.x)
  unfold cmpR
  generalize (if cmpI r.x s.x = 0 then cmpI r.y s.y else cmpI r.x s.x) = z at *
  unfold keyR at *
  simp [beqI, bneI, mm_min2, mm_max2, mm_min3, mm_max3, startE, lkE, lkX, lkE_rest, sx, substE, opVA, objs0, List.replicate, XA_seq, XA_region, XOA_go, goE_someA, opV, ev, putA, layAll, XOA_nil, XA_skip_seq, XA_skip_nil, XOA_gd, goG_tA, goG_uA, binV, bi_add, bi_sub, bi_mul, bi_quo, bi_rem, bi_eql, bi_neq, bi_lss, bi_leq, bi_gtr, bi_geq, bi_shl, bi_shr, bi_and, bi_or, bi_xor, unV, XA_ret_nil, XA_ret_cons, endFA_r, endFA_n, endTA_r, endTA_n, endRA_r, endRA_n, endEA_r, endEA_n, List.take, fltR, resultsA, resAs, resA, XA_block, XA_cond, pickX_t, pickX_f, pickX_b, XA_skip_blk, XA_skip_lp, XA_exit_seq, XA_exit_lp, XA_exit_blk, XA_exit_nil, load1, Ev.loadCells, objCells, bodyCells, setCells, AV.flat, AV.flat1, backR, backV, backCell, mapO, AV.cells, AV.atom, AV.tree, fillV, repeatL, treeCell, freezeAll, eqCells, callV_T, callV_F, passN, passV, passCell, srcCells, sliceBounds, hiB, loB, thenQ_nA, thenQ_xA, thenQ_rA, runK_nA, runK_xA, runK_rA, wrap_i64, wrap_u64, wrap_u32, wrap_u8, wrap_u16, rowC, e1, e2, e3, e4, e5]
def ltR (r s : Rw) : Prop := keyR r < keyR s ∨ (keyR r = keyR s ∧ (r.x < s.x ∨ (r.x = s.x ∧ r.y < s.y)))
instance (r s : Rw) : Decidable (ltR r s) := by unfold ltR; exact inferInstance
theorem cmpR_lt (r s : Rw) : cmpR r s < 0 ↔ ltR r s := by
  unfold cmpR ltR cmpI
  repeat' split
  all_goals omega
theorem keyR_inj {r s : Rw} (hr : okW r) (hs : okW s) (h : keyR r = keyR s) : r.a = s.a ∧ r.b = s.b ∧ r.c = s.c ∧ r.d = s.d := by
  obtain ⟨h1, h2, h3, h4, _, _⟩ := hr
  obtain ⟨g1, g2, g3, g4, _, _⟩ := hs
  unfold keyR key4 at h
  unfold byte at *
  omega
theorem ltR_irrefl (r : Rw) : ¬ ltR r r := by unfold ltR; omega
theorem ltR_trans {r s t : Rw} (h1 : ltR r s) (h2 : ltR s t) : ltR r t := by unfold ltR at *; omega
theorem ltR_tri {r s : Rw} (hr : okW r) (hs : okW s) (h : r ≠ s) : ltR r s ∨ ltR s r := by
  by_cases c : ltR r s ∨ ltR s r
  · exact c
  · exfalso
    unfold ltR at c
    have hk : keyR r = keyR s := by omega
    have hi := keyR_inj hr hs hk
    have hx : r.x = s.x := by omega
    have hy : r.y = s.y := by omega
    apply h
    cases r; cases s
    simp only at hi hx hy
    obtain ⟨rfl, rfl, rfl, rfl⟩ := hi
    subst hx; subst hy; rfl
theorem eq_rowC (r s : Rw) : eqCells [some .u8, some .u8, some .u8, some .u8, some .i64, some .i64] (rowC r) (rowC s) = some (decide (r = s)) := by
  have : decide (r = s) = ((r.a == s.a) && ((r.b == s.b) && ((r.c == s.c) && ((r.d == s.d) && ((r.x == s.x) && ((r.y == s.y) && true)))))) := by
    cases r; cases s
    simp only [Rw.mk.injEq, Bool.decide_and]
    simp [beqI]
  rw [this]
  simp [rowC, eqCells]
end Go.Proofs.Ytpohmfihpnineaa
end
section
set_option linter.unusedSimpArgs false
set_option linter.unusedVariables false
set_option maxHeartbeats 4000000
set_option maxRecDepth 100000
namespace Go.Proofs.Ytpohmfihpnineaa
open Go.Ev
theorem callV_O {M : Go.Ev.Tab} {H : List AObj} {f : FuncId} {first args caps : List AV} {i : Nat} {objs fzs : List Nat} : callV (cfT M) H (.fn f first caps) args (i :: objs) fzs [] true =
    if okIds (i :: objs) fzs [] = true then (mapO (passV H (i :: objs) fzs) (first ++ args ++ caps)).bind fun xs => (passObjs H (i :: objs) fzs (i :: objs)).bind fun H0 => (cfT M f xs H0).bind fun p =>
      (backR H p.2 (i :: objs) [] p.1).bind fun r' => (backObjs H p.2 (i :: objs) [] (i :: objs) p.2).bind fun ups => (freezeAll H fzs).map fun fr => (r', fr ++ ups) else none := by
  simp only [callV, passN_nil]
  by_cases h : okIds (i :: objs) fzs [] = true
  · simp only [h, if_true]
    cases mapO (passV H (i :: objs) fzs) (first ++ args ++ caps) with
    | none => rfl
    | some xs =>
      simp only [Option.bind_some]
      cases passObjs H (i :: objs) fzs (i :: objs) with
      | none => rfl
      | some H0 =>
        simp only [Option.bind_some]
        cases cfT M f xs H0 with
        | none => rfl
        | some p =>
          obtain ⟨r, H1⟩ := p
          simp only [Option.bind_some, adopts]
          cases backR H H1 (i :: objs) [] r with
          | none => rfl
          | some r' =>
            cases backObjs H H1 (i :: objs) [] (i :: objs) H1 with
            | none => rfl
            | some ups => simp
  · simp only [h, if_false]
    rfl
end Go.Proofs.Ytpohmfihpnineaa
end
