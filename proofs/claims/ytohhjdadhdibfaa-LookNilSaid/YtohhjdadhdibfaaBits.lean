/- The bits of small ints. -/
import Derived.Test.YtohhjdadhdibfaaBase
namespace Go.Proofs.Ytohhjdadhdibfaa
open Go.RowKit

theorem ofInt_i64 (a : Nat) (ha : a < 9223372036854775808) : (BitVec.ofInt 64 (a : Int)).toNat = a := by
  rw [BitVec.ofInt_natCast, BitVec.toNat_ofNat]; exact Nat.mod_eq_of_lt (by omega)

theorem i64_and_nat (a b : Nat) (ha : a < 9223372036854775808) (hb : b < 9223372036854775808) : bits .and .i64 (a : Int) (b : Int) = ((a &&& b : Nat) : Int) := by
  have hx : a &&& b < 2 ^ 63 := Nat.and_lt_two_pow _ (by omega)
  show IntKind.i64.wrap ((BitVec.ofInt 64 (a : Int) &&& BitVec.ofInt 64 (b : Int)).toNat : Int) = _
  rw [BitVec.toNat_and, ofInt_i64 a ha, ofInt_i64 b hb, IntKind.wrap_i64]
  omega

theorem i64_or_nat (a b : Nat) (ha : a < 9223372036854775808) (hb : b < 9223372036854775808) : bits .or .i64 (a : Int) (b : Int) = ((a ||| b : Nat) : Int) := by
  have hx : a ||| b < 2 ^ 63 := Nat.or_lt_two_pow (by omega) (by omega)
  show IntKind.i64.wrap ((BitVec.ofInt 64 (a : Int) ||| BitVec.ofInt 64 (b : Int)).toNat : Int) = _
  rw [BitVec.toNat_or, ofInt_i64 a ha, ofInt_i64 b hb, IntKind.wrap_i64]
  omega

theorem testBit_mod (c t : Nat) : c.testBit t = decide (c / 2 ^ t % 2 = 1) := by
  rw [Nat.testBit_eq_decide_div_mod_eq]

theorem bit_and (c t : Nat) (hc : c < 9223372036854775808) : bits .and .i64 ((c : Int) / 2 ^ t) 1 = if c.testBit t then 1 else 0 := by
  have h1 : ((c : Int) / 2 ^ t) = ((c / 2 ^ t : Nat) : Int) := by simp
  have h2 : c / 2 ^ t < 9223372036854775808 := Nat.lt_of_le_of_lt (Nat.div_le_self _ _) hc
  rw [h1]
  have := i64_and_nat (c / 2 ^ t) 1 h2 (by decide)
  rw [show ((1 : Nat) : Int) = 1 from rfl] at this
  rw [this, Nat.and_one_is_mod, testBit_mod]
  by_cases h : c / 2 ^ t % 2 = 1
  · simp [h]
  · simp [h]; omega

/-- 'c >> t & 1 == 1'. -/
theorem bit_test (c t : Nat) (hc : c < 9223372036854775808) : (bits .and .i64 ((c : Int) / 2 ^ t) 1 == 1) = c.testBit t := by
  rw [bit_and c t hc]
  cases c.testBit t <;> rfl

end Go.Proofs.Ytohhjdadhdibfaa
