/- Plain law: what the walks over numbers as bytes compute, said as the plain law says it (bits, shifts, parts of strings). No conditions. -/
import Derived.Laws.BitsAllLaws
import Derived.Laws.Bits64
import Derived.RowKit
import Derived.Test.YtbgfiflnfndckaaDoorWs
set_option linter.unusedVariables false
namespace Go.Proofs.YtbgfiflnfndckaaDoor.Ws

theorem drop_cons (s : ByteArray) (k : Nat) (h : k < s.size) : s.data.toList.drop k = s[k] :: s.data.toList.drop (k + 1) := by
  have h' : k < s.data.toList.length := by simpa using h
  rw [List.drop_eq_getElem_cons h']
  rfl
theorem drop_end (s : ByteArray) (k : Nat) (h : s.size ≤ k) : s.data.toList.drop k = [] := List.drop_eq_nil_of_le (by simpa using h)
theorem extract_end (s : ByteArray) (k : Nat) : s.extract k s.size = ⟨(s.data.toList.drop k).toArray⟩ := by
  apply ByteArray.ext
  rw [ByteArray.data_extract]
  apply Array.ext'
  simp only [Array.toList_extract, List.extract_eq_take_drop]
  rw [List.take_of_length_le (by simp)]
theorem extract_head (s : ByteArray) (k : Nat) : s.extract 0 k = ⟨(s.data.toList.take k).toArray⟩ := by
  apply ByteArray.ext
  rw [ByteArray.data_extract]
  apply Array.ext'
  simp only [Array.toList_extract, List.extract_eq_take_drop]
  simp

theorem pow128 (k : Nat) : (128 : Nat) ^ k = 2 ^ (7 * k) := by rw [Nat.pow_mul]
theorem and127 (b : Nat) (h : b < 256) : bits .and .u8 (b : Int) 127 = ((b % 128 : Nat) : Int) := by
  have := u8_and_nat b 127 h (by decide)
  rw [show ((127 : Nat) : Int) = 127 from rfl] at this
  rw [this]
  congr 1
  exact Nat.and_two_pow_sub_one_eq_mod b 7
theorem or_add (n m k : Nat) (hn : n < 2 ^ k) : n ||| (m * 2 ^ k) = n + m * 2 ^ k := by
  rw [Nat.or_comm, Nat.mul_comm, ← Nat.two_pow_add_eq_or_of_lt hn, Nat.add_comm]

/-- One byte more of a number. -/
theorem step7 (n b k : Nat) (hk : k ≤ 9) (hb : b < 256) (hn : n < 128 ^ k) (h9 : k = 9 → b ≤ 1) :
    bits .or .u64 (n : Int) (IntKind.u64.wrap (IntKind.u64.wrap (bits .and .u8 (b : Int) 127) * ((2 : Int) ^ (7 * k)))) = ((n + (b % 128) * 128 ^ k : Nat) : Int) := by
  have hm : b % 128 < 128 := Nat.mod_lt _ (by decide)
  have hp : (b % 128) * 2 ^ (7 * k) < 18446744073709551616 := by
    by_cases h : k = 9
    · subst h
      have := h9 rfl
      have h2 : b % 128 ≤ 1 := by omega
      calc (b % 128) * 2 ^ (7 * 9) ≤ 1 * 2 ^ (7 * 9) := Nat.mul_le_mul_right _ h2
        _ < _ := by decide
    · calc (b % 128) * 2 ^ (7 * k) ≤ 127 * 2 ^ (7 * k) := Nat.mul_le_mul_right _ (by omega)
        _ ≤ 127 * 2 ^ 56 := Nat.mul_le_mul_left _ (Nat.pow_le_pow_right (by decide) (by omega))
        _ < _ := by decide
  have hn2 : n < 18446744073709551616 := by
    rw [pow128] at hn
    calc n < 2 ^ (7 * k) := hn
      _ ≤ 2 ^ 63 := Nat.pow_le_pow_right (by decide) (by omega)
      _ < _ := by decide
  have e1 : IntKind.u64.wrap ((b % 128 : Nat) : Int) = ((b % 128 : Nat) : Int) := by rw [IntKind.wrap_u64]; omega
  have e : ((b % 128 : Nat) : Int) * 2 ^ (7 * k) = (((b % 128) * 2 ^ (7 * k) : Nat) : Int) := by rw [Int.natCast_mul, Int.natCast_pow]; rfl
  have e2 : IntKind.u64.wrap (((b % 128) * 2 ^ (7 * k) : Nat) : Int) = (((b % 128) * 2 ^ (7 * k) : Nat) : Int) := by
    generalize (b % 128) * 2 ^ (7 * k) = z at hp
    rw [IntKind.wrap_u64]; omega
  rw [and127 b hb, e1, e, e2, u64_or_nat _ _ hn2 hp]
  congr 1
  rw [pow128, or_add _ _ _ (by rw [← pow128]; exact hn)]
theorem step7_9 (n b : Nat) (hb : b ≤ 1) (hn : n < 128 ^ 9) :
    bits .or .u64 (n : Int) (IntKind.u64.wrap (IntKind.u64.wrap (bits .and .u8 (b : Int) 127) * 9223372036854775808)) = ((n + (b % 128) * 128 ^ 9 : Nat) : Int) :=
  step7 n b 9 (by decide) (by omega) hn (fun _ => hb)
theorem step7_lt (n b k : Nat) (hn : n < 128 ^ k) : n + (b % 128) * 128 ^ k < 128 ^ (k + 1) := by
  have hm : b % 128 ≤ 127 := by omega
  have := Nat.mul_le_mul_right (128 ^ k) hm
  rw [Nat.pow_succ]
  omega

theorem rd_nine {b : UInt8} (r : List UInt8) (n : Nat) (h : 1 < b.toNat) : rd (b :: r) 9 n = none := by simp [rd, h]
theorem rd_last {b : UInt8} (r : List UInt8) (k n : Nat) (hk : k ≤ 9) (h9 : k = 9 → b.toNat ≤ 1) (h : b.toNat < 128) : rd (b :: r) k n = some (n + b.toNat % 128 * 128 ^ k, r) := by
  rw [rd, if_neg (by omega), if_neg (by intro hh; have := h9 hh.1; omega), if_pos h, Nat.mod_eq_of_lt h]
theorem rd_more {b : UInt8} (r : List UInt8) (k n : Nat) (hk : k < 9) (h : 128 ≤ b.toNat) : rd (b :: r) k n = rd r (k + 1) (n + b.toNat % 128 * 128 ^ k) := by
  have hb : b.toNat < 256 := b.toNat_lt
  rw [rd, if_neg (by omega), if_neg (by omega), if_neg (by omega)]
  rw [show b.toNat - 128 = b.toNat % 128 by omega]

/-- One byte more of a number whose bytes stand the lowest one first. -/
theorem step8 (n b k : Nat) (hk : k < 8) (hb : b < 256) (hn : n < 256 ^ k) :
    bits .or .u64 (n : Int) (IntKind.u64.wrap (IntKind.u64.wrap (b : Int) * ((2 : Int) ^ (8 * k)))) = ((n + b * 256 ^ k : Nat) : Int) := by
  have ew : IntKind.u64.wrap (b : Int) = (b : Int) := by rw [IntKind.wrap_u64]; omega
  rw [ew]
  have hp : b * 2 ^ (8 * k) < 18446744073709551616 := by
    calc b * 2 ^ (8 * k) ≤ 255 * 2 ^ (8 * k) := Nat.mul_le_mul_right _ (by omega)
      _ ≤ 255 * 2 ^ 56 := Nat.mul_le_mul_left _ (Nat.pow_le_pow_right (by decide) (by omega))
      _ < _ := by decide
  have e0 : (256 : Nat) ^ k = 2 ^ (8 * k) := by rw [Nat.pow_mul]
  have hn2 : n < 18446744073709551616 := by
    rw [e0] at hn
    calc n < 2 ^ (8 * k) := hn
      _ ≤ 2 ^ 56 := Nat.pow_le_pow_right (by decide) (by omega)
      _ < _ := by decide
  have e : (b : Int) * 2 ^ (8 * k) = ((b * 2 ^ (8 * k) : Nat) : Int) := by rw [Int.natCast_mul, Int.natCast_pow]; rfl
  have e2 : IntKind.u64.wrap ((b * 2 ^ (8 * k) : Nat) : Int) = ((b * 2 ^ (8 * k) : Nat) : Int) := by
    generalize b * 2 ^ (8 * k) = z at hp
    rw [IntKind.wrap_u64]; omega
  rw [e, e2, u64_or_nat _ _ hn2 hp]
  congr 1
  rw [e0, or_add _ _ _ (by rw [← e0]; exact hn)]
theorem hi_append : ∀ (l : List UInt8) (b : UInt8), hi (l ++ [b]) = hi l + b.toNat * 256 ^ l.length
  | [], b => by simp [hi]
  | a :: l, b => by
    simp only [List.cons_append, hi, hi_append l b, List.length_cons, Nat.pow_succ, Nat.mul_add]
    generalize 256 ^ l.length = X
    have : 256 * (b.toNat * X) = b.toNat * (X * 256) := by rw [Nat.mul_left_comm, Nat.mul_comm 256 X]
    omega
theorem hi_lt : ∀ (l : List UInt8), hi l < 256 ^ l.length
  | [] => by simp [hi]
  | a :: l => by
    have := hi_lt l
    have ha := a.toNat_lt
    simp only [hi, List.length_cons, Nat.pow_succ]
    omega
theorem hi_take (l : List UInt8) (k : Nat) (h : k < l.length) : hi (l.take (k + 1)) = hi (l.take k) + (l.getD k 0).toNat * 256 ^ k := by
  rw [List.take_succ_eq_append_getElem h, hi_append, List.length_take, Nat.min_eq_left (Nat.le_of_lt h)]
  simp [List.getD, List.getElem?_eq_getElem h]
end Go.Proofs.YtbgfiflnfndckaaDoor.Ws
