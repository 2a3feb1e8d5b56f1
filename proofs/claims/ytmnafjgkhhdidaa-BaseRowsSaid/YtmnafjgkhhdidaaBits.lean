/- Bits of numbers. -/
import Derived.Test.YtmnafjgkhhdidaaTab
set_option linter.unusedSimpArgs false
set_option linter.unusedVariables false
namespace Go.Proofs.Ytmnafjgkhhdidaa
open Go.Ev
def bAnd (k : IntKind) (x y : Int) : Int := k.wrap ((BitVec.ofInt k.bits x &&& BitVec.ofInt k.bits y).toNat : Int)
def bOr (k : IntKind) (x y : Int) : Int := k.wrap ((BitVec.ofInt k.bits x ||| BitVec.ofInt k.bits y).toNat : Int)
def bXor (k : IntKind) (x y : Int) : Int := k.wrap ((BitVec.ofInt k.bits x ^^^ BitVec.ofInt k.bits y).toNat : Int)
section
variable (k : IntKind) (x y : Int)
theorem bi_add : binInt .add k x k y = some (.int k (k.wrap (x + y))) := by simp [binInt]
theorem bi_sub : binInt .sub k x k y = some (.int k (k.wrap (x - y))) := by simp [binInt]
theorem bi_mul : binInt .mul k x k y = some (.int k (k.wrap (x * y))) := by simp [binInt]
theorem bi_quo : binInt .quo k x k y = if y = 0 then none else some (.int k (k.wrap (x.tdiv y))) := by simp [binInt]
theorem bi_rem : binInt .rem k x k y = if y = 0 then none else some (.int k (x.tmod y)) := by simp [binInt]
theorem bi_eql : binInt .eql k x k y = some (.bool (decide (x = y))) := by simp [binInt, beqI]
theorem bi_neq : binInt .neq k x k y = some (.bool (!decide (x = y))) := by simp [binInt, bneI]
theorem bi_lss : binInt .lss k x k y = some (.bool (decide (x < y))) := by simp [binInt]
theorem bi_leq : binInt .leq k x k y = some (.bool (decide (x ≤ y))) := by simp [binInt]
theorem bi_gtr : binInt .gtr k x k y = some (.bool (decide (y < x))) := by simp [binInt]
theorem bi_geq : binInt .geq k x k y = some (.bool (decide (y ≤ x))) := by simp [binInt]
theorem bi_and : binInt .and k x k y = some (.int k (bAnd k x y)) := by simp [binInt, bAnd]
theorem bi_or : binInt .or k x k y = some (.int k (bOr k x y)) := by simp [binInt, bOr]
theorem bi_xor : binInt .xor k x k y = some (.int k (bXor k x y)) := by simp [binInt, bXor]
theorem bi_shl (k' : IntKind) : binInt .shl k x k' y = if y < 0 then none else some (.int k (k.wrap (x * 2 ^ (min y.toNat k.bits)))) := by simp [binInt]
theorem bi_shr (k' : IntKind) : binInt .shr k x k' y = if y < 0 then none else some (.int k (x.fdiv (2 ^ (min y.toNat k.bits)))) := by simp [binInt]
end
theorem ofInt_nat (w n : Nat) : BitVec.ofInt w (n : Int) = BitVec.ofNat w n := by
  apply BitVec.eq_of_toNat_eq
  simp
theorem and_nat (w a b : Nat) (ha : a < 2 ^ w) (hb : b < 2 ^ w) : (BitVec.ofInt w (a : Int) &&& BitVec.ofInt w (b : Int)).toNat = a &&& b := by
  rw [ofInt_nat, ofInt_nat, BitVec.toNat_and, BitVec.toNat_ofNat, BitVec.toNat_ofNat, Nat.mod_eq_of_lt ha, Nat.mod_eq_of_lt hb]
theorem or_nat (w a b : Nat) (ha : a < 2 ^ w) (hb : b < 2 ^ w) : (BitVec.ofInt w (a : Int) ||| BitVec.ofInt w (b : Int)).toNat = a ||| b := by
  rw [ofInt_nat, ofInt_nat, BitVec.toNat_or, BitVec.toNat_ofNat, BitVec.toNat_ofNat, Nat.mod_eq_of_lt ha, Nat.mod_eq_of_lt hb]
theorem xor_nat (w a b : Nat) (ha : a < 2 ^ w) (hb : b < 2 ^ w) : (BitVec.ofInt w (a : Int) ^^^ BitVec.ofInt w (b : Int)).toNat = a ^^^ b := by
  rw [ofInt_nat, ofInt_nat, BitVec.toNat_xor, BitVec.toNat_ofNat, BitVec.toNat_ofNat, Nat.mod_eq_of_lt ha, Nat.mod_eq_of_lt hb]
/-- A number below 2^i, and a multiple of 2^i. -/
theorem or_add (x b i : Nat) (hb : b < 2 ^ i) : x * 2 ^ i ||| b = x * 2 ^ i + b := by
  rw [Nat.mul_comm]
  exact (Nat.two_pow_add_eq_or_of_lt hb x).symm
theorem xor_add (x b i : Nat) (hb : b < 2 ^ i) : x * 2 ^ i ^^^ b = x * 2 ^ i + b := by
  apply Nat.eq_of_testBit_eq
  intro j
  rw [Nat.testBit_xor, Nat.mul_comm, Nat.testBit_two_pow_mul_add x hb, Nat.testBit_two_pow_mul]
  by_cases h : j < i
  · have : ¬ i ≤ j := by omega
    simp [h, this]
  · have hle : i ≤ j := by omega
    have hb2 : b.testBit j = false := Nat.testBit_lt_two_pow (Nat.lt_of_lt_of_le hb (Nat.pow_le_pow_right (by omega) hle))
    simp [h, hle, hb2]
theorem xor_top (x : Nat) (h : x < 2 ^ 64) : x ^^^ 9223372036854775808 = if x < 9223372036854775808 then x + 9223372036854775808 else x - 9223372036854775808 := by
  by_cases c : x < 9223372036854775808
  · rw [if_pos c, Nat.xor_comm]
    have := xor_add 1 x 63 (by simpa using c)
    simp at this
    rw [this]; omega
  · rw [if_neg c]
    have := xor_add 1 (x - 9223372036854775808) 63 (by simp at h ⊢; omega)
    simp at this
    rw [show x = 9223372036854775808 + (x - 9223372036854775808) from by omega, ← this, Nat.xor_comm (9223372036854775808 ^^^ (x - 9223372036854775808)), ← Nat.xor_assoc, Nat.xor_self, Nat.zero_xor, this]
    omega
theorem xor_ones (x : Nat) (h : x < 2 ^ 64) : x ^^^ 18446744073709551615 = 18446744073709551615 - x := by
  have h1 : (BitVec.ofNat 64 x ^^^ BitVec.allOnes 64) = ~~~ (BitVec.ofNat 64 x) := BitVec.xor_allOnes
  have h2 := congrArg BitVec.toNat h1
  rw [BitVec.toNat_xor, BitVec.toNat_not, BitVec.toNat_ofNat, BitVec.toNat_allOnes, Nat.mod_eq_of_lt h] at h2
  simpa using h2
theorem and_low (x i : Nat) : x &&& (2 ^ i - 1) = x % 2 ^ i := Nat.and_two_pow_sub_one_eq_mod x i
theorem nat_of {a : Int} (h : 0 ≤ a) : ∃ n : Nat, a = n := ⟨a.toNat, by omega⟩
/-! ### The evaluator's operations -/
theorem bin_and_u8 (a : Int) (h0 : 0 ≤ a) (h1 : a ≤ 255) : bAnd .u8 a 127 = a % 128 := by
  unfold bAnd
  obtain ⟨n, rfl⟩ := nat_of h0
  have := and_nat 8 n 127 (by simp; omega) (by decide)
  rw [show (127 : Nat) = 2 ^ 7 - 1 from rfl, and_low] at this
  have e : (BitVec.ofInt IntKind.u8.bits (n : Int) &&& BitVec.ofInt IntKind.u8.bits 127).toNat = n % 2 ^ 7 := this
  rw [e, wrap_u8 (by omega) (by simp; omega)]
  simp
theorem bin_or_u8 (a : Int) (h0 : 0 ≤ a) (h1 : a ≤ 255) : bOr .u8 a 128 = a % 128 + 128 := by
  unfold bOr
  obtain ⟨n, rfl⟩ := nat_of h0
  have := or_nat 8 n 128 (by simp; omega) (by decide)
  have e : (BitVec.ofInt IntKind.u8.bits (n : Int) ||| BitVec.ofInt IntKind.u8.bits 128).toNat = n ||| 128 := this
  have e2 : n ||| 128 = n % 128 + 128 := by
    by_cases c : n < 128
    · have h := or_add 1 n 7 (by simpa using c)
      simp at h
      rw [Nat.or_comm, h, Nat.mod_eq_of_lt c]; omega
    · have h := or_add 1 (n - 128) 7 (by simp; omega)
      simp at h
      have hn : n = 128 ||| (n - 128) := by rw [h]; omega
      have : n % 128 = n - 128 := by omega
      rw [this]
      conv => lhs; rw [hn]
      rw [Nat.or_comm, ← Nat.or_assoc, Nat.or_self, h]; omega
  rw [e, e2, wrap_u8 (by omega) (by omega)]
  simp
theorem bin_and1_u64 (a : Int) (h0 : 0 ≤ a) (h1 : a ≤ 18446744073709551615) : bAnd .u64 a 1 = a % 2 := by
  unfold bAnd
  obtain ⟨n, rfl⟩ := nat_of h0
  have := and_nat 64 n 1 (by simp; omega) (by decide)
  rw [show (1 : Nat) = 2 ^ 1 - 1 from rfl, and_low] at this
  have e : (BitVec.ofInt IntKind.u64.bits (n : Int) &&& BitVec.ofInt IntKind.u64.bits 1).toNat = n % 2 ^ 1 := this
  rw [e, wrap_u64 (by omega) (by simp; omega)]
  simp
theorem bin_xortop (a : Int) (h0 : 0 ≤ a) (h1 : a ≤ 18446744073709551615) : bXor .u64 a 9223372036854775808 = if a < 9223372036854775808 then a + 9223372036854775808 else a - 9223372036854775808 := by
  unfold bXor
  obtain ⟨n, rfl⟩ := nat_of h0
  have := xor_nat 64 n 9223372036854775808 (by simp; omega) (by decide)
  rw [xor_top n (by simp; omega)] at this
  have e : (BitVec.ofInt IntKind.u64.bits (n : Int) ^^^ BitVec.ofInt IntKind.u64.bits 9223372036854775808).toNat = _ := this
  rw [e]
  by_cases c : n < 9223372036854775808
  · rw [if_pos c, if_pos (by omega), wrap_u64 (by omega) (by omega)]; omega
  · rw [if_neg c, if_neg (by omega), wrap_u64 (by omega) (by omega)]; omega
theorem bin_xor0 (a : Int) (h0 : 0 ≤ a) (h1 : a ≤ 18446744073709551615) : bXor .u64 a 0 = a := by
  unfold bXor
  obtain ⟨n, rfl⟩ := nat_of h0
  have := xor_nat 64 n 0 (by simp; omega) (by decide)
  have e : (BitVec.ofInt IntKind.u64.bits (n : Int) ^^^ BitVec.ofInt IntKind.u64.bits 0).toNat = n ^^^ 0 := this
  rw [e, Nat.xor_zero, wrap_u64 (by omega) (by omega)]
theorem bin_xor1 (a : Int) (h0 : 0 ≤ a) (h1 : a ≤ 18446744073709551615) : bXor .u64 a 18446744073709551615 = 18446744073709551615 - a := by
  unfold bXor
  obtain ⟨n, rfl⟩ := nat_of h0
  have := xor_nat 64 n 18446744073709551615 (by simp; omega) (by decide)
  rw [xor_ones n (by simp; omega)] at this
  have e : (BitVec.ofInt IntKind.u64.bits (n : Int) ^^^ BitVec.ofInt IntKind.u64.bits 18446744073709551615).toNat = _ := this
  rw [e, wrap_u64 (by omega) (by omega)]; omega
theorem bin_ixor0 (a : Int) (h0 : 0 ≤ a) (h1 : a ≤ 9223372036854775807) : bXor .i64 a 0 = a := by
  unfold bXor
  obtain ⟨n, rfl⟩ := nat_of h0
  have := xor_nat 64 n 0 (by simp; omega) (by decide)
  have e : (BitVec.ofInt IntKind.i64.bits (n : Int) ^^^ BitVec.ofInt IntKind.i64.bits 0).toNat = n ^^^ 0 := this
  rw [e, Nat.xor_zero, wrap_i64 (by omega) (by omega)]
theorem bin_ixor1 (a : Int) (h0 : 0 ≤ a) (h1 : a ≤ 9223372036854775807) : bXor .i64 a (-1) = -a - 1 := by
  unfold bXor
  obtain ⟨n, rfl⟩ := nat_of h0
  have h2 : BitVec.ofInt 64 (-1) = BitVec.ofInt 64 ((18446744073709551615 : Nat) : Int) := by decide
  have := xor_nat 64 n 18446744073709551615 (by simp; omega) (by decide)
  rw [xor_ones n (by simp; omega)] at this
  have e : (BitVec.ofInt IntKind.i64.bits (n : Int) ^^^ BitVec.ofInt IntKind.i64.bits (-1)).toNat = 18446744073709551615 - n := by
    rw [← this]
    show (BitVec.ofInt 64 (n : Int) ^^^ BitVec.ofInt 64 (-1)).toNat = _
    rw [h2]
  rw [e]
  simp only [IntKind.wrap, IntKind.signed, IntKind.bits]
  simp
  omega
theorem bin_or_u32 (x b : Int) (hx : 0 ≤ x) (hx2 : x * 256 ≤ 4294967295) (hb : 0 ≤ b) (hb2 : b ≤ 255) : bOr .u32 (x * 256) b = x * 256 + b := by
  unfold bOr
  obtain ⟨n, rfl⟩ := nat_of hx
  obtain ⟨m, rfl⟩ := nat_of hb
  have := or_nat 32 (n * 256) m (by simp; omega) (by simp; omega)
  have h := or_add n m 8 (by simp; omega)
  have e : (BitVec.ofInt IntKind.u32.bits ((n : Int) * 256) ||| BitVec.ofInt IntKind.u32.bits (m : Int)).toNat = n * 256 ||| m := this
  rw [e, show n * 256 = n * 2 ^ 8 from rfl, h, wrap_u32 (by omega) (by simp; omega)]
  simp
end Go.Proofs.Ytmnafjgkhhdidaa
