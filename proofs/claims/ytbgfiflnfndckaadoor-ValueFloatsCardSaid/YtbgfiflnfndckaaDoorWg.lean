/- The walks of zigzags. No conditions but the numbers' kinds. -/
import Derived.Test.YtbgfiflnfndckaaDoorWw
set_option linter.unusedVariables false
set_option linter.unusedSimpArgs false
namespace Go.Proofs.YtbgfiflnfndckaaDoor
open Go.RowKit Go.Proofs.YtbgfiflnfndckaaDoorW.PrintWords

namespace Ws
def zig (n : Int) : Nat := if 0 ≤ n then 2 * n.toNat else 2 * (-(n + 1)).toNat + 1
def zag (m : Nat) : Int := if m % 2 = 0 then (m / 2 : Nat) else -((m / 2 : Nat) : Int) - 1
theorem xor_ones64 (a : Nat) (ha : a < 18446744073709551616) : bits .xor .u64 (a : Int) 18446744073709551615 = ((18446744073709551615 - a : Nat) : Int) := by
  have h := bits_xor_u64_nat a 18446744073709551615 ha (by decide)
  rw [show ((18446744073709551615 : Nat) : Int) = 18446744073709551615 from rfl] at h
  rw [h]
  congr 1
  have h1 : (BitVec.ofNat 64 a ^^^ BitVec.allOnes 64).toNat = a ^^^ 18446744073709551615 := by
    rw [BitVec.toNat_xor, BitVec.toNat_ofNat, BitVec.toNat_allOnes, Nat.mod_eq_of_lt ha]
  rw [← h1, BitVec.xor_allOnes, BitVec.toNat_not, BitVec.toNat_ofNat, Nat.mod_eq_of_lt ha]
theorem xor_zero64 (a : Nat) (ha : a < 18446744073709551616) : bits .xor .u64 (a : Int) 0 = (a : Int) := by
  have h := bits_xor_u64_nat a 0 ha (by decide)
  rw [show ((0 : Nat) : Int) = 0 from rfl, Nat.xor_zero] at h
  exact h
theorem xor_i64 (q : Nat) (hq : q < 9223372036854775808) : bits .xor .i64 (q : Int) (-1) = -(q : Int) - 1 := by
  show IntKind.i64.wrap ((BitVec.ofInt 64 (q : Int) ^^^ BitVec.ofInt 64 (-1)).toNat : Int) = _
  have e : BitVec.ofInt 64 (-1) = BitVec.allOnes 64 := by decide
  rw [e, BitVec.xor_allOnes, BitVec.toNat_not, BitVec.ofInt_natCast, BitVec.toNat_ofNat, Nat.mod_eq_of_lt (by omega), IntKind.wrap_i64]
  omega
theorem xor_i64_0 (q : Nat) (hq : q < 9223372036854775808) : bits .xor .i64 (q : Int) 0 = (q : Int) := by
  show IntKind.i64.wrap ((BitVec.ofInt 64 (q : Int) ^^^ BitVec.ofInt 64 0).toNat : Int) = _
  have e : BitVec.ofInt 64 0 = 0#64 := by decide
  rw [e, BitVec.xor_zero, BitVec.ofInt_natCast, BitVec.toNat_ofNat, Nat.mod_eq_of_lt (by omega), IntKind.wrap_i64]
  omega
theorem and1 (m : Nat) (hm : m < 18446744073709551616) : bits .and .u64 (m : Int) 1 = ((m % 2 : Nat) : Int) := by
  have h := u64_and_nat m 1 hm (by decide)
  rw [show ((1 : Nat) : Int) = 1 from rfl] at h
  rw [h]
  congr 1
  exact Nat.and_two_pow_sub_one_eq_mod m 1
theorem zig_pos (n : Int) (h : 0 ≤ n) (h2 : n ≤ 9223372036854775807) : bits .xor .u64 (n * 2) (n / 9223372036854775808) = (zig n : Int) := by
  have e1 : n * 2 = ((2 * n.toNat : Nat) : Int) := by omega
  have e2 : n / 9223372036854775808 = 0 := by omega
  rw [e1, e2, xor_zero64 _ (by omega), zig, if_pos h]
theorem zig_neg (n : Int) (h : n < 0) (h2 : -9223372036854775808 ≤ n) :
    bits .xor .u64 (IntKind.u64.wrap (IntKind.u64.wrap n * 2)) (IntKind.u64.wrap (n / 9223372036854775808)) = (zig n : Int) := by
  have e1 : IntKind.u64.wrap (IntKind.u64.wrap n * 2) = ((2 * n + 18446744073709551616).toNat : Int) := by rw [IntKind.wrap_u64, IntKind.wrap_u64]; omega
  have e2 : IntKind.u64.wrap (n / 9223372036854775808) = 18446744073709551615 := by rw [IntKind.wrap_u64]; omega
  rw [e1, e2, xor_ones64 _ (by omega), zig, if_neg (by omega)]
  omega
theorem zag_eq (m : Nat) (h : m < 18446744073709551616) : bits .xor .i64 ((m : Int) / 2) (Go.RowKit.wrap64 (-Go.RowKit.wrap64 (bits .and .u64 (m : Int) 1))) = zag m := by
  rw [and1 m h, show (m : Int) / 2 = ((m / 2 : Nat) : Int) from rfl]
  unfold zag
  by_cases h2 : m % 2 = 0
  · rw [h2, if_pos rfl, show Go.RowKit.wrap64 (-Go.RowKit.wrap64 ((0 : Nat) : Int)) = 0 by simp [Go.RowKit.wrap64]]
    exact xor_i64_0 _ (by omega)
  · have h3 : m % 2 = 1 := by omega
    rw [h3, if_neg (by decide), show Go.RowKit.wrap64 (-Go.RowKit.wrap64 ((1 : Nat) : Int)) = -1 by simp [Go.RowKit.wrap64]]
    exact xor_i64 _ (by omega)
end Ws

end Go.Proofs.YtbgfiflnfndckaaDoor
