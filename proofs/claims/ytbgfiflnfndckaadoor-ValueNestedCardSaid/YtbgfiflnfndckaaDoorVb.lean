/- Plain law: a float's floor, exactly; an int held against a float; no program in sight. No conditions. -/
import Derived.Test.YtbgfiflnfndckaaDoorVa
import GoSem.Op.String
set_option linter.unusedVariables false
namespace Go.Proofs.YtbgfiflnfndckaaDoor.Vs
open Ieee

theorem cut_zero (way : Toward) (neg : Bool) (drop : Nat) : way.cut neg 0 drop = 0 := by
  unfold Toward.cut
  have h : (1 <<< min drop (Nat.log2 0 + 2)) ≠ 0 := by rw [Nat.shiftLeft_eq, Nat.one_mul]; exact Nat.ne_of_gt (Nat.two_pow_pos _)
  cases way <;> simp
theorem cut_exact (way : Toward) (neg : Bool) (n drop : Nat) (hn : n ≠ 0) (hd : n % 2 ^ drop = 0) : way.cut neg n drop = n / 2 ^ drop := by
  have hl : drop ≤ n.log2 := by
    have h1 : 2 ^ drop ≤ n := Nat.le_of_dvd (by omega) (Nat.dvd_of_mod_eq_zero hd)
    exact (Nat.le_log2 hn).2 h1
  unfold Toward.cut
  have h := Nat.two_pow_pos drop
  have hg : 1 <<< min drop (n.log2 + 2) = 2 ^ drop := by rw [Nat.min_eq_left (by omega), Nat.shiftLeft_eq, Nat.one_mul]
  simp only [hg, hd]
  cases way
  · have h1 : ¬ 2 ^ drop < 2 * 0 := by omega
    have h2 : (2 ^ drop == 2 * 0) = false := by rw [beq_eq_false_iff_ne]; omega
    simp [h1]
  · simp
  · simp
  · simp

/-- Downwards. -/
theorem down_spec (s : Bool) (m d : Nat) : signed s (Toward.down.cut s m d) 0 * p2 d ≤ signed s m 0 ∧ signed s m 0 < (signed s (Toward.down.cut s m d) 0 + 1) * p2 d := by
  have e : ∀ n : Nat, signed s n 0 = if s then -(n : Int) else (n : Int) := fun n => by unfold signed; simp
  rw [e, e]
  -- in terms of what the cut is at this drop
  have hcut : ∃ q r : Nat, m = q * 2 ^ d + r ∧ r < 2 ^ d ∧ Toward.down.cut s m d = q + (s && r != 0).toNat := by
    unfold Toward.cut
    by_cases h : d ≤ m.log2 + 2
    · rw [Nat.min_eq_left h, Nat.shiftLeft_eq, Nat.one_mul]
      exact ⟨m / 2 ^ d, m % 2 ^ d, by have := Nat.div_add_mod m (2 ^ d); rw [Nat.mul_comm]; omega, Nat.mod_lt _ (Nat.two_pow_pos d), rfl⟩
    · rw [Nat.min_eq_right (by omega), Nat.shiftLeft_eq, Nat.one_mul]
      have h1 : m < 2 ^ (m.log2 + 2) := Nat.lt_of_lt_of_le Nat.lt_log2_self (Nat.pow_le_pow_right (by decide) (by omega))
      have h2 : 2 ^ (m.log2 + 2) ≤ 2 ^ d := Nat.pow_le_pow_right (by decide) (by omega)
      refine ⟨0, m, by omega, by omega, ?_⟩
      simp only [Nat.div_eq_of_lt h1, Nat.mod_eq_of_lt h1]
  obtain ⟨q, r, hm, hr, hc⟩ := hcut
  rw [hc]
  have hp : p2 d = ((2 ^ d : Nat) : Int) := rfl
  rw [hp]
  have hmi : (m : Int) = (q : Int) * ((2 ^ d : Nat) : Int) + (r : Int) := by rw [hm]; push_cast; rfl
  generalize (2 ^ d : Nat) = D at *
  have hri : (r : Int) < (D : Int) := by omega
  cases s
  · simp only [Bool.false_and, Bool.toNat_false, Nat.add_zero, Bool.false_eq_true, if_false]
    rw [hmi, Int.add_mul]
    constructor <;> omega
  · simp only [Bool.true_and, if_true]
    by_cases h0 : r = 0
    · subst h0
      simp only [bne_self_eq_false, Bool.toNat_false, Nat.add_zero]
      rw [hmi, Int.add_mul, Int.neg_mul]
      constructor <;> omega
    · have h1 : (r != 0) = true := by simpa using h0
      rw [h1]
      simp only [Bool.toNat_true]
      rw [hmi]
      push_cast
      have hq : (-((q : Int) + 1)) * (D : Int) = -((q : Int) * D) - D := by rw [Int.neg_mul, Int.add_mul]; omega
      have hq2 : (-((q : Int) + 1) + 1) * (D : Int) = -((q : Int) * D) := by rw [show -((q : Int) + 1) + 1 = -(q : Int) by omega, Int.neg_mul]
      rw [hq, hq2]
      constructor <;> omega

theorem binade_n : double.binade = 4503599627370496 := by decide
theorem inf_n : double.infRung = 9218868437227405312 := by decide
theorem sw_n : double.signWeight = 9223372036854775808 := by decide
theorem kept_ (neg : Bool) (M L : Nat) (hM : M ≠ 0) (hlo : 2 ^ L ≤ M) (hhi : M < 2 ^ (L + 1)) (hd : M % 2 ^ (L - 52) = 0) :
    ∃ K : Nat, Toward.even.cut neg (M <<< (52 - L)) (L - 52) = K ∧ 2 ^ 52 ≤ K ∧ K < 2 ^ 53 ∧ K * 2 ^ (L - 52) = M * 2 ^ (52 - L) := by
  by_cases h : L ≤ 52
  · have h0 : L - 52 = 0 := by omega
    rw [h0, Nat.shiftLeft_eq]
    have hp := Nat.two_pow_pos (52 - L)
    have hne : M * 2 ^ (52 - L) ≠ 0 := Nat.mul_ne_zero hM (by omega)
    refine ⟨_, cut_exact _ _ _ 0 hne (by simp [Nat.mod_one]), ?_, ?_, by simp⟩
    · rw [Nat.pow_zero, Nat.div_one]
      have : 2 ^ L * 2 ^ (52 - L) ≤ M * 2 ^ (52 - L) := Nat.mul_le_mul_right _ hlo
      rw [← Nat.pow_add, show L + (52 - L) = 52 by omega] at this
      exact this
    · rw [Nat.pow_zero, Nat.div_one]
      have : M * 2 ^ (52 - L) < 2 ^ (L + 1) * 2 ^ (52 - L) := Nat.mul_lt_mul_of_pos_right hhi hp
      rw [← Nat.pow_add, show L + 1 + (52 - L) = 53 by omega] at this
      exact this
  · have h0 : 52 - L = 0 := by omega
    rw [h0, Nat.shiftLeft_eq, Nat.pow_zero, Nat.mul_one]
    have hp := Nat.two_pow_pos (L - 52)
    refine ⟨_, cut_exact _ _ _ (L - 52) hM hd, ?_, ?_, Nat.div_mul_cancel (Nat.dvd_of_mod_eq_zero hd)⟩
    · rw [Nat.le_div_iff_mul_le hp, ← Nat.pow_add, show 52 + (L - 52) = L by omega]
      exact hlo
    · rw [Nat.div_lt_iff_lt_mul hp, ← Nat.pow_add, show 53 + (L - 52) = L + 1 by omega]
      exact hhi

theorem read_word (neg : Bool) (L K : Nat) (hL : L ≤ 63) (h1 : 4503599627370496 ≤ K) (h2 : K < 9007199254740992) :
    double.read (double.word neg ((L + 1022) * 4503599627370496 + K)) = .number neg K ((L : Int) - 52) := by
  unfold Format.read Format.word
  simp only [lp_eq, binade_n, inf_n, sw_n, lp]
  obtain ⟨r, hr⟩ : ∃ r, (L + 1022) * 4503599627370496 + K = r := ⟨_, rfl⟩
  rw [hr]
  have g1 : (if neg then 9223372036854775808 + r else r) % 9223372036854775808 = r := by
    cases neg
    · simp only [Bool.false_eq_true, if_false]; omega
    · simp only [if_true]; omega
  have g2 : ((if neg then 9223372036854775808 + r else r) / 9223372036854775808 % 2 == 1) = neg := by
    cases neg
    · simp only [Bool.false_eq_true, if_false]
      have : r / 9223372036854775808 = 0 := by omega
      rw [this]; rfl
    · simp only [if_true]
      have : (9223372036854775808 + r) / 9223372036854775808 = 1 := by omega
      rw [this]; rfl
  rw [g1, g2, if_neg (by omega), if_pos (by omega)]
  have g3 : r % 4503599627370496 = K - 4503599627370496 := by omega
  have g4 : r / 4503599627370496 = L + 1023 := by omega
  have g5 : 4503599627370496 + (K - 4503599627370496) = K := Nat.add_sub_of_le h1
  have g6 : (-1074 : Int) + ((L + 1023 - 1 : Nat) : Int) = (L : Int) - 52 := by omega
  rw [g3, g4, g5, g6]

theorem nearest_word (neg : Bool) (M L K : Nat) (hM : M ≠ 0) (hL : M.log2 = L) (hL2 : L ≤ 63) (hK : Toward.even.cut neg (M <<< (52 - L)) (L - 52) = K) (h1 : 4503599627370496 ≤ K) (h2 : K < 9007199254740992) :
    double.nearest neg M 0 = double.word neg ((L + 1022) * 4503599627370496 + K) := by
  unfold Format.nearest
  rw [if_neg hM]
  simp only [lp_eq, binade_n, inf_n, lp, Int.zero_add, Int.sub_zero, hL]
  have hfb : double.fractionBits = 52 := rfl
  rw [hfb]
  have hmax : max ((L : Int) - ((52 : Nat) : Int)) (-1074) = (L : Int) - 52 := by omega
  rw [hmax]
  have e1 : ((0 : Int) - ((L : Int) - 52)).toNat = 52 - L := by omega
  have e2 : ((L : Int) - 52).toNat = L - 52 := by omega
  have e3 : ((L : Int) - 52 - -1074).toNat = L + 1022 := by omega
  rw [e1, e2, e3, hK, Nat.min_eq_left (by omega)]

/-- A whole number that a float can be is written as it is. -/
theorem nearest_exact (neg : Bool) (M : Nat) (hM : M ≠ 0) (hlt : M < 2 ^ 64) (hd : M % 2 ^ (M.log2 - 52) = 0) :
    ∃ mag place, double.read (double.nearest neg M 0) = .number neg mag place ∧ ht (.number neg mag place) = signed neg M 0 * p2 1074 ∧ (Datum.number neg mag place).toInt .zero = some (signed neg M 0) := by
  have hL : M.log2 ≤ 63 := by
    have : M.log2 < 64 := (Nat.log2_lt hM).2 hlt
    omega
  obtain ⟨L, hLL⟩ : ∃ L, M.log2 = L := ⟨_, rfl⟩
  have hlo : 2 ^ L ≤ M := by rw [← hLL]; exact Nat.log2_self_le hM
  have hhi : M < 2 ^ (L + 1) := by rw [← hLL]; exact Nat.lt_log2_self
  rw [hLL] at hL hd
  obtain ⟨K, hK, hK1, hK2, hK3⟩ := kept_ neg M L hM hlo hhi hd
  rw [nearest_word neg M L K hM hLL hL hK hK1 hK2, read_word neg L K hL hK1 hK2]
  refine ⟨K, (L : Int) - 52, rfl, ?_, ?_⟩
  · simp only [ht]
    rw [signed_eq]
    have hk : (K : Int) * p2 (L + 1022) = (M : Int) * p2 1074 := by
      by_cases h : L ≤ 52
      · rw [show L - 52 = 0 by omega, Nat.pow_zero, Nat.mul_one] at hK3
        have hx : (K : Int) = (M : Int) * p2 (52 - L) := by unfold p2; rw [hK3]; push_cast; rfl
        rw [hx, Int.mul_assoc, ← p2_add, show 52 - L + (L + 1022) = 1074 by omega]
      · rw [show 52 - L = 0 by omega, Nat.pow_zero, Nat.mul_one] at hK3
        have hx : (K : Int) * p2 (L - 52) = (M : Int) := by unfold p2; rw [← hK3]; push_cast; rfl
        rw [show L + 1022 = (L - 52) + 1074 by omega, p2_add, ← Int.mul_assoc, hx]
    have e4 : ((L : Int) - 52 + 1074).toNat = L + 1022 := by omega
    rw [e4]
    unfold signed
    cases neg
    · simp only [Bool.false_eq_true, if_false, Nat.shiftLeft_zero]; exact hk
    · simp only [if_true, Nat.shiftLeft_zero, Int.neg_mul]; rw [hk]
  · unfold Datum.toInt Datum.integral
    simp only
    congr 2
    have hK0 : K ≠ 0 := by have := Nat.two_pow_pos 52; intro h; rw [h] at hK1; exact absurd hK1 (by decide)
    by_cases h : L ≤ 52
    · rw [show ((L : Int) - 52).toNat = 0 by omega, Nat.shiftLeft_zero, show (-((L : Int) - 52)).toNat = 52 - L by omega]
      rw [show L - 52 = 0 by omega, Nat.pow_zero, Nat.mul_one] at hK3
      have hp := Nat.two_pow_pos (52 - L)
      rw [cut_exact _ _ _ _ hK0 (by rw [hK3]; exact Nat.mul_mod_left _ _), hK3, Nat.mul_div_cancel _ hp]
    · rw [show ((L : Int) - 52).toNat = L - 52 by omega, show (-((L : Int) - 52)).toNat = 0 by omega, Nat.shiftLeft_eq, hK3, show 52 - L = 0 by omega, Nat.pow_zero, Nat.mul_one,
        cut_exact _ _ _ 0 hM (by simp [Nat.mod_one]), Nat.pow_zero, Nat.div_one]

theorem read_zero (s : Bool) : double.read (double.nearest s 0 0) = .number s 0 (-1074) := by
  unfold Format.nearest Format.read Format.word
  simp only [lp_eq, binade_n, inf_n, sw_n, lp, if_true]
  cases s <;> decide +kernel

/-- The word of a float's floor. -/
def floorW (x : Nat) : Nat := FloatKind.f64.encode ((FloatKind.f64.decode x).integral .down)

theorem floor_ (x : Nat) (hx : isNan x = false) (h1 : -p2 1137 ≤ num x) (h2 : num x < p2 1137) :
    ∃ fl : Int, num (floorW x) = fl * p2 1074 ∧ isNan (floorW x) = false ∧ fl * p2 1074 ≤ num x ∧ num x < (fl + 1) * p2 1074 ∧
      (FloatKind.f64.decode (floorW x)).toInt .zero = some fl ∧ -9223372036854775808 ≤ fl ∧ fl ≤ 9223372036854775807 := by
  have hu := p2_pos 1074
  have hbig : p2 1137 < p2 2200 := p2_lt (by decide)
  have h63 : p2 1137 = 9223372036854775808 * p2 1074 := by
    rw [show 1137 = 63 + 1074 by rfl, p2_add]; rfl
  rcases read_cases x with ⟨s, m, i, ex, hm, h3, h4⟩ | ⟨s, ex⟩ | ⟨s, t, ex⟩
  · obtain ⟨M, hM⟩ : ∃ M, Toward.down.cut s (m <<< i.toNat) (-i).toNat = M := ⟨_, rfl⟩
    have hw : floorW x = double.nearest s M 0 := by
      show double.write ((double.read x).integral .down) = _
      rw [ex]
      simp only [Datum.integral, hM, Format.write]
    have hn : num x = signed s m 0 * p2 (i + 1074).toNat := by unfold num; rw [ex]; simp only [ht]; exact signed_eq _ _ _
    -- the floor, and what is dropped
    have hfl : signed s M 0 * p2 1074 ≤ num x ∧ num x < (signed s M 0 + 1) * p2 1074 ∧ M % 2 ^ (M.log2 - 52) = 0 := by
      by_cases hi : 0 ≤ i
      · have hd : (-i).toNat = 0 := by omega
        obtain ⟨k, hk⟩ : ∃ k, i.toNat = k := ⟨_, rfl⟩
        rw [hd, hk, Nat.shiftLeft_eq] at hM
        have hMe : M = m * 2 ^ k := by
          by_cases h0 : m * 2 ^ k = 0
          · rw [h0, cut_zero] at hM; omega
          · rw [cut_exact _ _ _ 0 h0 (by simp [Nat.mod_one]), Nat.pow_zero, Nat.div_one] at hM; omega
        have he : num x = signed s M 0 * p2 1074 := by
          rw [hn, show (i + 1074).toNat = k + 1074 by omega, p2_add, ← Int.mul_assoc, ← signed_eq s m k]
          have : signed s m k = signed s M 0 := by unfold signed; rw [hMe, Nat.shiftLeft_eq]; simp
          rw [this]
        refine ⟨by omega, ?_, ?_⟩
        · rw [he, Int.add_mul]; omega
        · by_cases h0 : M = 0
          · rw [h0]; simp
          · have hl : M.log2 < 53 + k := by
              rw [Nat.log2_lt h0, hMe, Nat.pow_add]
              exact Nat.mul_lt_mul_of_pos_right hm (Nat.two_pow_pos k)
            refine Nat.mod_eq_zero_of_dvd ?_
            rw [hMe]
            rw [hMe] at hl
            exact Nat.dvd_trans (Nat.pow_dvd_pow 2 (by omega)) (Nat.dvd_mul_left _ _)
      · have h0 : i.toNat = 0 := by omega
        obtain ⟨d, hd⟩ : ∃ d, (-i).toNat = d := ⟨_, rfl⟩
        rw [h0, Nat.shiftLeft_zero, hd] at hM
        obtain ⟨a, b⟩ := down_spec s m d
        rw [hM] at a b
        have hr : (i + 1074).toNat = 1074 - d := by omega
        have hr2 : p2 1074 = p2 d * p2 (1074 - d) := by rw [← p2_add, show d + (1074 - d) = 1074 by omega]
        have hp := p2_pos (1074 - d)
        refine ⟨?_, ?_, ?_⟩
        · rw [hn, hr, hr2, ← Int.mul_assoc]
          exact Int.mul_le_mul_of_nonneg_right a (Int.le_of_lt hp)
        · rw [hn, hr, hr2, ← Int.mul_assoc]
          exact Int.mul_lt_mul_of_pos_right b hp
        · have hM2 : M < 9007199254740992 := by
            have h5 : M ≤ m / 2 + 1 := by
              rw [← hM]
              unfold Toward.cut
              have hg : ∃ g, (1 <<< min d (m.log2 + 2)) = 2 * g ∧ 0 < g := by
                rw [Nat.shiftLeft_eq, Nat.one_mul]
                refine ⟨2 ^ (min d (m.log2 + 2) - 1), ?_, Nat.two_pow_pos _⟩
                rw [Nat.mul_comm, ← Nat.pow_succ]
                congr 1
                omega
              obtain ⟨g, hg, hg0⟩ := hg
              simp only [hg]
              have h6 : m / (2 * g) ≤ m / 2 := by
                rw [← Nat.div_div_eq_div_mul]
                exact Nat.div_le_self _ _
              have h7 : (s && m % (2 * g) != 0).toNat ≤ 1 := Bool.toNat_le _
              omega
            have : m < 9007199254740992 := hm
            omega
          have hl : M.log2 - 52 = 0 := by
            by_cases h0 : M = 0
            · rw [h0]; rfl
            · have : M.log2 < 53 := (Nat.log2_lt h0).2 hM2
              omega
          rw [hl, Nat.pow_zero, Nat.mod_one]
    obtain ⟨a, b, hd⟩ := hfl
    have c1 : signed s M 0 < 9223372036854775808 := by
      have : signed s M 0 * p2 1074 < 9223372036854775808 * p2 1074 := by rw [← h63]; omega
      exact Int.lt_of_mul_lt_mul_right this (Int.le_of_lt hu)
    have c2 : -9223372036854775808 < signed s M 0 + 1 := by
      have : -9223372036854775808 * p2 1074 < (signed s M 0 + 1) * p2 1074 := by rw [Int.neg_mul, ← h63]; omega
      exact Int.lt_of_mul_lt_mul_right this (Int.le_of_lt hu)
    refine ⟨signed s M 0, ?_⟩
    rw [hw]
    by_cases h0 : M = 0
    · subst h0
      have hz := read_zero s
      refine ⟨?_, ?_, a, b, ?_, by omega, by omega⟩
      · unfold num; rw [hz]; simp only [ht]; rw [signed_eq]; cases s <;> simp [signed]
      · unfold isNan; rw [hz]; rfl
      · show (double.read _).toInt .zero = _
        rw [hz]
        simp only [Datum.toInt, Datum.integral, Nat.zero_shiftLeft, cut_zero]
    · have hlt : M < 2 ^ 64 := by
        have e : signed s M 0 = if s then -(M : Int) else (M : Int) := by unfold signed; simp
        rw [e] at c1 c2
        have : (2 : Nat) ^ 64 = 18446744073709551616 := by decide
        rw [this]
        cases s
        · simp only [Bool.false_eq_true, if_false] at c1; omega
        · simp only [if_true] at c2; omega
      obtain ⟨mag, place, hr, e1, e2⟩ := nearest_exact s M h0 hlt hd
      refine ⟨?_, ?_, a, b, ?_, by omega, by omega⟩
      · unfold num; rw [hr]; exact e1
      · unfold isNan; rw [hr]; rfl
      · show (double.read _).toInt .zero = _
        rw [hr]; exact e2
  · exfalso
    unfold num at h1 h2
    rw [ex] at h1 h2
    simp only [ht] at h1 h2
    cases s
    · simp only [Bool.false_eq_true, if_false] at h2; omega
    · simp only [if_true] at h1; omega
  · unfold isNan at hx; rw [ex] at hx; cases hx

/-- An int held against a float, as it is reckoned. -/
def mixed (n : Int) (x : Nat) : Int :=
  if -p2 1137 ≤ num x ∧ num x < p2 1137 then
    (match (FloatKind.f64.decode (floorW x)).toInt .zero with
     | some fl => if sg n fl ≠ 0 then sg n fl else sg (num (floorW x)) (num x)
     | none => 0)
  else if p2 1137 ≤ num x then -1 else 1
theorem mixed_eq (n : Int) (x : Nat) (hx : isNan x = false) (h1 : -9223372036854775808 ≤ n) (h2 : n ≤ 9223372036854775807) : mixed n x = sg (n * p2 1074) (num x) := by
  have hu := p2_pos 1074
  have h63 : p2 1137 = 9223372036854775808 * p2 1074 := by
    rw [show 1137 = 63 + 1074 by rfl, p2_add]; rfl
  have k1 : -9223372036854775808 * p2 1074 ≤ n * p2 1074 := Int.mul_le_mul_of_nonneg_right h1 (Int.le_of_lt hu)
  have k2 : n * p2 1074 ≤ 9223372036854775807 * p2 1074 := Int.mul_le_mul_of_nonneg_right h2 (Int.le_of_lt hu)
  rw [Int.neg_mul, ← h63] at k1
  have k3 : 9223372036854775807 * p2 1074 < p2 1137 := by rw [h63]; exact Int.mul_lt_mul_of_pos_right (by decide) hu
  unfold mixed
  split
  · rename_i h
    obtain ⟨fl, e1, e2, e3, e4, e5, e6, e7⟩ := floor_ x hx h.1 h.2
    rw [e5]
    simp only
    rw [e1]
    generalize num x = X at *
    by_cases hlt : n < fl
    · have a : sg n fl = -1 := by unfold sg; rw [if_pos hlt]
      rw [a, if_pos (by decide)]
      have : n * p2 1074 < fl * p2 1074 := Int.mul_lt_mul_of_pos_right hlt hu
      unfold sg; rw [if_pos (by omega)]
    · by_cases hgt : fl < n
      · have a : sg n fl = 1 := by unfold sg; rw [if_neg hlt, if_pos hgt]
        rw [a, if_pos (by decide)]
        have : (fl + 1) * p2 1074 ≤ n * p2 1074 := Int.mul_le_mul_of_nonneg_right (by omega) (Int.le_of_lt hu)
        unfold sg; rw [if_neg (by omega), if_pos (by omega)]
      · have : n = fl := by omega
        subst this
        rw [sg_self, if_neg (by simp)]
  · rename_i h
    split
    · unfold sg; rw [if_pos (by omega)]
    · unfold sg; rw [if_neg (by omega), if_pos (by omega)]

/-! Texts. -/
theorem less_irr : ∀ l : List UInt8, Go.Op.bytesLess l l = false
  | [] => by rfl
  | a :: l => by simp [Go.Op.bytesLess, less_irr l]
theorem less_asymm : ∀ x y : List UInt8, Go.Op.bytesLess x y = true → Go.Op.bytesLess y x = false
  | [], [], h => by cases h
  | [], _ :: _, _ => by rfl
  | _ :: _, [], h => by cases h
  | a :: x, b :: y, h => by
    simp only [Go.Op.bytesLess, Bool.or_eq_true, decide_eq_true_eq, Bool.and_eq_true, beq_iff_eq] at h
    simp only [Go.Op.bytesLess, Bool.or_eq_false_iff, decide_eq_false_iff_not, Bool.and_eq_false_iff, beq_eq_false_iff_ne]
    rcases h with h | ⟨rfl, h⟩
    · refine ⟨fun h2 => ?_, .inl fun h2 => ?_⟩
      · rw [UInt8.lt_iff_toNat_lt] at h h2; omega
      · subst h2; rw [UInt8.lt_iff_toNat_lt] at h; omega
    · refine ⟨fun h2 => ?_, .inr (less_asymm x y h)⟩
      rw [UInt8.lt_iff_toNat_lt] at h2; omega
theorem less_total : ∀ x y : List UInt8, Go.Op.bytesLess x y = false → Go.Op.bytesLess y x = false → x = y
  | [], [], _, _ => rfl
  | [], _ :: _, h, _ => by cases h
  | _ :: _, [], _, h => by cases h
  | a :: x, b :: y, h, g => by
    simp only [Go.Op.bytesLess, Bool.or_eq_false_iff, decide_eq_false_iff_not, Bool.and_eq_false_iff, beq_eq_false_iff_ne] at h g
    have e : a = b := by
      apply UInt8.toNat_inj.1
      have h1 := h.1
      have g1 := g.1
      rw [UInt8.lt_iff_toNat_lt] at h1 g1
      omega
    subst e
    rw [less_total x y (h.2.resolve_left (fun h => h rfl)) (g.2.resolve_left (fun h => h rfl))]
/-- Two texts. -/
def ss (x y : List UInt8) : Int := if Go.Op.bytesLess x y = true then -1 else if Go.Op.bytesLess y x = true then 1 else 0
theorem ss_cases (x y : List UInt8) : (ss x y = -1 ∧ Go.Op.bytesLess x y = true) ∨ (ss x y = 1 ∧ Go.Op.bytesLess y x = true) ∨ (ss x y = 0 ∧ x = y) := by
  unfold ss
  by_cases h : Go.Op.bytesLess x y = true
  · rw [h]; exact .inl ⟨rfl, rfl⟩
  · simp only [Bool.not_eq_true] at h
    rw [h]
    by_cases g : Go.Op.bytesLess y x = true
    · rw [g]; exact .inr (.inl ⟨rfl, rfl⟩)
    · simp only [Bool.not_eq_true] at g
      rw [g]; exact .inr (.inr ⟨rfl, less_total x y h g⟩)
theorem ss_gt (x y : List UInt8) : (!(Go.Op.bytesLess x y || x == y)) = Go.Op.bytesLess y x := by
  rcases ss_cases x y with ⟨_, h⟩ | ⟨_, h⟩ | ⟨_, h⟩
  · rw [h, less_asymm x y h]; rfl
  · rw [h, less_asymm y x h]
    have : (x == y) = false := by
      rw [beq_eq_false_iff_ne]; intro e; subst e; rw [less_irr] at h; cases h
    rw [this]; rfl
  · subst h; rw [less_irr]; simp
end Go.Proofs.YtbgfiflnfndckaaDoor.Vs
