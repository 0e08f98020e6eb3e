/-
  The evaluator's numbers as bit vectors.
-/
import Derived.Test.YtidihpmjndfbgaaB0
set_option linter.unusedSimpArgs false
set_option linter.unusedVariables false
namespace Go.Ev

def iv (k : IntKind) (B : BitVec k.bits) : Int := if k.signed then B.toInt else (B.toNat : Int)

theorem ofInt_iv (k : IntKind) (B : BitVec k.bits) : BitVec.ofInt k.bits (iv k B) = B := by
  unfold iv
  split
  · exact BitVec.ofInt_toInt
  · rw [BitVec.ofInt_natCast, BitVec.ofNat_toNat, BitVec.setWidth_eq]

theorem bits_pos (k : IntKind) : 0 < k.bits := by cases k <;> decide

theorem wrap_iv (k : IntKind) (n : Int) : k.wrap n = iv k (BitVec.ofInt k.bits n) := by
  cases k <;> simp only [IntKind.wrap, iv, IntKind.signed, IntKind.bits, BitVec.toInt_ofInt, BitVec.toNat_ofInt, Int.bmod_def, Bool.true_and, Bool.false_and, if_true] <;> simp <;> (try split) <;> omega

theorem iv_inj {k : IntKind} {A B : BitVec k.bits} (h : iv k A = iv k B) : A = B := by
  rw [← ofInt_iv k A, h, ofInt_iv]

theorem conv_iv (k : IntKind) (n : Int) : conv k n = iv k (BitVec.ofInt k.bits n) := wrap_iv k n

theorem ar_or (k : IntKind) (x y : Int) : ar .or k x y = iv k (BitVec.ofInt k.bits x ||| BitVec.ofInt k.bits y) := by
  simp only [ar, wrap_iv, BitVec.ofInt_natCast, BitVec.ofNat_toNat, BitVec.setWidth_eq]
theorem ar_and (k : IntKind) (x y : Int) : ar .and k x y = iv k (BitVec.ofInt k.bits x &&& BitVec.ofInt k.bits y) := by
  simp only [ar, wrap_iv, BitVec.ofInt_natCast, BitVec.ofNat_toNat, BitVec.setWidth_eq]
theorem ar_xor (k : IntKind) (x y : Int) : ar .xor k x y = iv k (BitVec.ofInt k.bits x ^^^ BitVec.ofInt k.bits y) := by
  simp only [ar, wrap_iv, BitVec.ofInt_natCast, BitVec.ofNat_toNat, BitVec.setWidth_eq]
theorem ar_andNot (k : IntKind) (x y : Int) : ar .andNot k x y = iv k (BitVec.ofInt k.bits x &&& ~~~BitVec.ofInt k.bits y) := by
  simp only [ar, wrap_iv, BitVec.ofInt_natCast, BitVec.ofNat_toNat, BitVec.setWidth_eq]
theorem ar_add (k : IntKind) (x y : Int) : ar .add k x y = iv k (BitVec.ofInt k.bits x + BitVec.ofInt k.bits y) := by
  simp only [ar, wrap_iv, BitVec.ofInt_add]
theorem ar_mul (k : IntKind) (x y : Int) : ar .mul k x y = iv k (BitVec.ofInt k.bits x * BitVec.ofInt k.bits y) := by
  simp only [ar, wrap_iv, BitVec.ofInt_mul]
theorem ar_sub (k : IntKind) (x y : Int) : ar .sub k x y = iv k (BitVec.ofInt k.bits x - BitVec.ofInt k.bits y) := by
  simp only [ar, wrap_iv]
  congr 1
  rw [BitVec.sub_eq_add_neg, ← BitVec.ofInt_neg, ← BitVec.ofInt_add, Int.sub_eq_add_neg]

theorem ofInt_mul_pow (w : Nat) (x : Int) (n : Nat) : BitVec.ofInt w (x * 2 ^ n) = BitVec.ofInt w x <<< n := by
  rw [BitVec.ofInt_mul, BitVec.shiftLeft_eq_mul_twoPow]
  congr 1
  apply BitVec.eq_of_toNat_eq
  rw [BitVec.toNat_ofInt, BitVec.toNat_twoPow]
  have : ((2 : Int) ^ n) = ((2 ^ n : Nat) : Int) := by simp
  rw [this]
  norm_cast

theorem ar_shl (k : IntKind) (x : Int) (n : Nat) : ar .shl k x n = iv k (BitVec.ofInt k.bits x <<< n) := by
  simp only [ar, wrap_iv, Int.toNat_natCast, ofInt_mul_pow]
  congr 1
  by_cases h : n ≤ k.bits
  · rw [Nat.min_eq_left h]
  · rw [Nat.min_eq_right (by omega), BitVec.shiftLeft_eq_zero (by omega), BitVec.shiftLeft_eq_zero (by omega)]

theorem cm_eql (k : IntKind) (A B : BitVec k.bits) : cm .eql (iv k A) (iv k B) = (A == B) := by
  simp only [cm]
  by_cases h : A = B
  · subst h; simp
  · have : iv k A ≠ iv k B := fun e => h (iv_inj e)
    rw [beq_eq_false_iff_ne.2 this, beq_eq_false_iff_ne.2 h]

theorem ar_shr_u {k : IntKind} (hk : k.signed = false) (B : BitVec k.bits) (n : Nat) : ar .shr k (iv k B) n = iv k (B >>> n) := by
  simp only [ar, iv, hk, Bool.false_eq_true, if_false, Int.toNat_natCast, BitVec.toNat_ushiftRight, Nat.shiftRight_eq_div_pow]
  rw [Int.fdiv_eq_ediv_of_nonneg _ (by exact Int.le_of_lt (Int.pow_pos (by omega)))]
  by_cases h : n ≤ k.bits
  · rw [Nat.min_eq_left h]; norm_cast
  · have h1 : B.toNat < 2 ^ k.bits := B.isLt
    have h2 : 2 ^ k.bits ≤ 2 ^ n := Nat.pow_le_pow_right (by omega) (by omega)
    rw [Nat.min_eq_right (by omega), Nat.div_eq_of_lt (Nat.lt_of_lt_of_le h1 h2)]
    have : ((B.toNat : Int) / 2 ^ k.bits) = ((B.toNat / 2 ^ k.bits : Nat) : Int) := by norm_cast
    rw [this, Nat.div_eq_of_lt h1]

theorem ar_shr_s {k : IntKind} (hk : k.signed = true) (B : BitVec k.bits) (n : Nat) (hn : n ≤ k.bits) : ar .shr k (iv k B) n = iv k (B.sshiftRight n) := by
  simp only [ar, iv, hk, if_true, Int.toNat_natCast, Nat.min_eq_left hn, BitVec.toInt_sshiftRight, Int.shiftRight_eq_div_pow]
  rw [Int.fdiv_eq_ediv_of_nonneg _ (by exact Int.le_of_lt (Int.pow_pos (by omega)))]
  norm_cast

theorem ar_shl' (k : IntKind) (x m : Int) (hm : 0 ≤ m) : ar .shl k x m = iv k (BitVec.ofInt k.bits x <<< m.toNat) := by
  have := ar_shl k x m.toNat
  rwa [Int.toNat_of_nonneg hm] at this
theorem ar_shr_u' {k : IntKind} (hk : k.signed = false) (B : BitVec k.bits) (m : Int) (hm : 0 ≤ m) : ar .shr k (iv k B) m = iv k (B >>> m.toNat) := by
  have := ar_shr_u hk B m.toNat
  rwa [Int.toNat_of_nonneg hm] at this
theorem ar_shr_s' {k : IntKind} (hk : k.signed = true) (B : BitVec k.bits) (m : Int) (hm : 0 ≤ m) (hn : m.toNat ≤ k.bits) : ar .shr k (iv k B) m = iv k (B.sshiftRight m.toNat) := by
  have := ar_shr_s hk B m.toNat hn
  rwa [Int.toNat_of_nonneg hm] at this

namespace U32
theorem inv (B : BitVec 32) : BitVec.ofInt 32 (iv .u32 B) = B := ofInt_iv .u32 B
theorem or (x y : Int) : ar .or .u32 x y = iv .u32 (BitVec.ofInt 32 x ||| BitVec.ofInt 32 y) := ar_or .u32 x y
theorem and (x y : Int) : ar .and .u32 x y = iv .u32 (BitVec.ofInt 32 x &&& BitVec.ofInt 32 y) := ar_and .u32 x y
theorem xor (x y : Int) : ar .xor .u32 x y = iv .u32 (BitVec.ofInt 32 x ^^^ BitVec.ofInt 32 y) := ar_xor .u32 x y
theorem sub (x y : Int) : ar .sub .u32 x y = iv .u32 (BitVec.ofInt 32 x - BitVec.ofInt 32 y) := ar_sub .u32 x y
theorem add (x y : Int) : ar .add .u32 x y = iv .u32 (BitVec.ofInt 32 x + BitVec.ofInt 32 y) := ar_add .u32 x y
theorem shl (x m : Int) (h : 0 ≤ m) : ar .shl .u32 x m = iv .u32 (BitVec.ofInt 32 x <<< m.toNat) := ar_shl' .u32 x m h
theorem shr (B : BitVec 32) (m : Int) (h : 0 ≤ m) : ar .shr .u32 (iv .u32 B) m = iv .u32 (B >>> m.toNat) := ar_shr_u' (k := .u32) rfl B m h
theorem conv (n : Int) : conv .u32 n = iv .u32 (BitVec.ofInt 32 n) := conv_iv .u32 n
end U32

end Go.Ev
