/- Plain law: floats of 64 bits as whole numbers (of the least place), their order, their floor; no program in sight. No conditions. -/
import GoSem.Core.Float
import GoSem.Op.FloatCmp
import GoSem.Op.String
set_option linter.unusedVariables false
namespace Go.Proofs.YtbgfiflnfndckaaDoor.Vs
open Ieee

/-- Sign of a comparison. -/
def sg (a b : Int) : Int := if a < b then -1 else if b < a then 1 else 0
theorem sg_self (a : Int) : sg a a = 0 := by unfold sg; simp
/-- Two to the n, as a whole number. -/
def p2 (n : Nat) : Int := ((2 ^ n : Nat) : Int)
theorem p2_pos (n : Nat) : 0 < p2 n := by unfold p2; have := Nat.two_pow_pos n; omega
theorem p2_add (a b : Nat) : p2 (a + b) = p2 a * p2 b := by unfold p2; rw [Nat.pow_add]; exact Int.natCast_mul _ _
theorem p2_le {a b : Nat} (h : a ≤ b) : p2 a ≤ p2 b := by unfold p2; have := Nat.pow_le_pow_right (n := 2) (by decide) h; omega
theorem p2_lt {a b : Nat} (h : a < b) : p2 a < p2 b := by unfold p2; have := Nat.pow_lt_pow_right (a := 2) (by decide) h; omega

theorem signed_eq (s : Bool) (m k : Nat) : signed s m k = signed s m 0 * p2 k := by
  unfold signed p2
  rw [Nat.shiftLeft_eq, Nat.shiftLeft_eq]
  cases s
  · simp
  · simp [Int.neg_mul]

def lp : Int := -1074
theorem lp_eq : double.leastPlace = lp := by decide
theorem binade_eq : double.binade = 2 ^ 52 := by decide
theorem inf_eq : double.infRung = 2047 * 2 ^ 52 := by decide
theorem sw_eq : double.signWeight = 2 ^ 63 := by decide

/-- A float as a whole number of the least place; what is infinite: greater than all. -/
def ht : Datum → Int
  | .number s m i => signed s m (i + 1074).toNat
  | .infinity s => if s then -p2 2200 else p2 2200
  | .nan .. => 0
def num (x : Nat) : Int := ht (double.read x)
def isNan (x : Nat) : Bool := (double.read x).isNaN

/-- What a word can stand for. -/
theorem read_cases (x : Nat) : (∃ s m i, double.read x = .number s m i ∧ m < 2 ^ 53 ∧ -1074 ≤ i ∧ i ≤ 971) ∨ (∃ s, double.read x = .infinity s) ∨ (∃ s t, double.read x = .nan s t) := by
  unfold Format.read
  simp only [lp_eq, binade_eq, inf_eq, sw_eq, lp]
  generalize hn : (x / 2 ^ 63 % 2 == 1) = neg
  generalize hr : x % 2 ^ 63 = r
  by_cases h1 : r < 2 ^ 52
  · left
    rw [if_pos h1]
    exact ⟨_, _, _, rfl, by omega, by omega, by omega⟩
  · rw [if_neg h1]
    by_cases h2 : r < 2047 * 2 ^ 52
    · left
      rw [if_pos h2]
      have h3 : r / 2 ^ 52 < 2047 := by omega
      exact ⟨_, _, _, rfl, by omega, by omega, by omega⟩
    · rw [if_neg h2]
      right
      by_cases h4 : r = 2047 * 2 ^ 52
      · rw [if_pos h4]; exact .inl ⟨_, rfl⟩
      · rw [if_neg h4]; exact .inr ⟨_, _, rfl⟩

theorem ht_bound {s : Bool} {m : Nat} {i : Int} (hm : m < 2 ^ 53) (h1 : -1074 ≤ i) (h2 : i ≤ 971) : -p2 2200 < ht (.number s m i) ∧ ht (.number s m i) < p2 2200 := by
  have h3 : (i + 1074).toNat ≤ 2045 := by omega
  have hb : (m : Int) * p2 (i + 1074).toNat < p2 2200 := by
    have e1 : (m : Int) < p2 53 := by unfold p2; exact_mod_cast hm
    have e2 : (m : Int) * p2 (i + 1074).toNat ≤ p2 53 * p2 2045 := Int.mul_le_mul (Int.le_of_lt e1) (p2_le h3) (Int.le_of_lt (p2_pos _)) (Int.le_of_lt (p2_pos _))
    rw [← p2_add] at e2
    exact Int.lt_of_le_of_lt e2 (p2_lt (by decide))
  have h0 : 0 ≤ (m : Int) * p2 (i + 1074).toNat := Int.mul_nonneg (by omega) (Int.le_of_lt (p2_pos _))
  simp only [ht]
  rw [signed_eq]
  have e : signed s m 0 = if s then -(m : Int) else (m : Int) := by unfold signed; simp
  rw [e]
  have hp := p2_pos 2200
  cases s
  · simp only [Bool.false_eq_true, if_false]
    exact ⟨by omega, hb⟩
  · simp only [if_true, Int.neg_mul]
    exact ⟨by omega, by omega⟩

/-- The order of two words that are numbers is that of their whole numbers. -/
theorem order_num {x y : Nat} (hx : isNan x = false) (hy : isNan y = false) : double.order x y = some (compare (num x) (num y)) := by
  unfold Format.order num isNan at *
  have hp := p2_pos 2200
  rcases read_cases x with ⟨s, m, i, ex, hm, h1, h2⟩ | ⟨s, ex⟩ | ⟨s, t, ex⟩
  · rcases read_cases y with ⟨t, n, j, ey, hn, h3, h4⟩ | ⟨t, ey⟩ | ⟨t, u, ey⟩
    · rw [ex, ey]
      simp only [Datum.order, ht]
      congr 1
      have hu := p2_pos (min i j + 1074).toNat
      have e1 : signed s m (i + 1074).toNat = signed s m (i - min i j).toNat * p2 (min i j + 1074).toNat := by
        rw [signed_eq s m (i + 1074).toNat, signed_eq s m (i - min i j).toNat, Int.mul_assoc, ← p2_add]
        congr 2; omega
      have e2 : signed t n (j + 1074).toNat = signed t n (j - min i j).toNat * p2 (min i j + 1074).toNat := by
        rw [signed_eq t n (j + 1074).toNat, signed_eq t n (j - min i j).toNat, Int.mul_assoc, ← p2_add]
        congr 2; omega
      rw [e1, e2]
      generalize signed s m (i - min i j).toNat = a at *
      generalize signed t n (j - min i j).toNat = b at *
      generalize p2 (min i j + 1074).toNat = u at *
      simp only [compare, compareOfLessAndEq]
      have k1 : a * u < b * u ↔ a < b := ⟨fun h => Int.lt_of_mul_lt_mul_right h (Int.le_of_lt hu), fun h => Int.mul_lt_mul_of_pos_right h hu⟩
      have k2 : a * u = b * u ↔ a = b := ⟨fun h => Int.eq_of_mul_eq_mul_right (by omega) h, fun h => by rw [h]⟩
      simp only [k1, k2]
    · rw [ex, ey]
      have hb := ht_bound (s := s) hm h1 h2
      simp only [Datum.order]
      congr 1
      generalize ht (.number s m i) = a at *
      simp only [compare, compareOfLessAndEq, ht]
      cases t
      · simp only [Bool.false_eq_true, if_false]; rw [if_pos hb.2]
      · simp only [if_true]; rw [if_neg (by omega), if_neg (by omega)]
    · rw [ey] at hy; cases hy
  · rcases read_cases y with ⟨t, n, j, ey, hn, h3, h4⟩ | ⟨t, ey⟩ | ⟨t, u, ey⟩
    · rw [ex, ey]
      have hb := ht_bound (s := t) hn h3 h4
      simp only [Datum.order]
      congr 1
      generalize ht (.number t n j) = a at *
      simp only [compare, compareOfLessAndEq, ht]
      cases s
      · simp only [Bool.false_eq_true, if_false]; rw [if_neg (by omega), if_neg (by omega)]
      · simp only [if_true]; rw [if_pos hb.1]
    · rw [ex, ey]
      simp only [Datum.order]
      congr 1
      simp only [compare, compareOfLessAndEq, ht]
      cases s <;> cases t
      · simp
      · simp; rw [if_neg (by omega), if_neg (by omega)]
      · simp; intro h; omega
      · simp
    · rw [ey] at hy; cases hy
  · rw [ex] at hx; cases hx

theorem order_nan {x y : Nat} (h : isNan x = true ∨ isNan y = true) : double.order x y = none := by
  unfold Format.order isNan at *
  rcases read_cases x with ⟨s, m, i, ex, hm, h1, h2⟩ | ⟨s, ex⟩ | ⟨s, t, ex⟩ <;> rcases read_cases y with ⟨s', m', i', ey, hm', h1', h2'⟩ | ⟨s', ey⟩ | ⟨s', t', ey⟩ <;> rw [ex, ey] at h <;> rw [ex, ey] <;> simp [Datum.isNaN] at h <;> rfl

theorem ne_self (x : Nat) : (double.order x x != some .eq) = isNan x := by
  cases h : isNan x
  · rw [order_num h h]; simp [compare, compareOfLessAndEq]
  · rw [order_nan (.inl h)]; rfl
theorem lt_iff {x y : Nat} (hx : isNan x = false) (hy : isNan y = false) : (double.order x y == some .lt) = decide (num x < num y) := by
  rw [order_num hx hy, Bool.eq_iff_iff]
  simp only [compare, compareOfLessAndEq, beq_iff_eq, Option.some.injEq, decide_eq_true_eq]
  split
  · simp [*]
  · split <;> simp [*]
theorem gt_iff {x y : Nat} (hx : isNan x = false) (hy : isNan y = false) : (double.order x y == some .gt) = decide (num y < num x) := by
  rw [order_num hx hy, Bool.eq_iff_iff]
  simp only [compare, compareOfLessAndEq, beq_iff_eq, Option.some.injEq, decide_eq_true_eq]
  split
  · simp; omega
  · split
    · simp; omega
    · simp; omega
theorem eq_iff {x y : Nat} (hx : isNan x = false) (hy : isNan y = false) : (double.order x y == some .eq) = decide (num x = num y) := by
  rw [order_num hx hy, Bool.eq_iff_iff]
  simp only [compare, compareOfLessAndEq, beq_iff_eq, Option.some.injEq, decide_eq_true_eq]
  split
  · simp; omega
  · split <;> simp [*]
end Go.Proofs.YtbgfiflnfndckaaDoor.Vs
