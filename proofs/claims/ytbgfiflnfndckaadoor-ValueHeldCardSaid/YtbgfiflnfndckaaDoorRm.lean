/- The document's mixed: an int against a float, by what is in front of the point. No conditions but the kinds' own. -/
import Derived.Test.YtbgfiflnfndckaaDoorVd
import Derived.Test.YtbgfiflnfndckaaDoorVi
set_option linter.unusedVariables false
set_option linter.unusedSimpArgs false
namespace Go.Proofs.YtbgfiflnfndckaaDoor
open Go.RowKit Go.Proofs.YtbgfiflnfndckaaDoorW.PrintWords
namespace Vs
open Ieee
/-- T: what is cut from X, by steps of u, towards zero. -/
def Trd (T u X : Int) : Prop := (0 ≤ X → 0 ≤ T ∧ T ≤ X ∧ X < T + u) ∧ (X ≤ 0 → T ≤ 0 ∧ X ≤ T ∧ T < X + u)
theorem Trd.mul {T u X k : Int} (h : Trd T u X) (hk : 0 < k) : Trd (T * k) (u * k) (X * k) := by
  obtain ⟨h1, h2⟩ := h
  have e : ∀ a b : Int, a ≤ b → a * k ≤ b * k := fun a b h => Int.mul_le_mul_of_nonneg_right h (Int.le_of_lt hk)
  have e2 : ∀ a b : Int, a < b → a * k < b * k := fun a b h => Int.mul_lt_mul_of_pos_right h hk
  refine ⟨fun hx => ?_, fun hx => ?_⟩
  · have hx0 : 0 ≤ X := by
      rcases Int.lt_or_le X 0 with h | h
      · have := e2 X 0 h; omega
      · exact h
    obtain ⟨a, b, c⟩ := h1 hx0
    have := e 0 T a; have := e T X b; have h5 := e2 X (T + u) c
    rw [Int.add_mul] at h5
    omega
  · have hx0 : X ≤ 0 := by
      rcases Int.lt_or_le 0 X with h | h
      · have := e2 0 X h; omega
      · exact h
    obtain ⟨a, b, c⟩ := h2 hx0
    have := e T 0 a; have := e X T b; have h5 := e2 T (X + u) c
    rw [Int.add_mul] at h5
    omega
theorem Trd.range {t u X P : Int} (h : Trd (t * u) u X) (hu : 0 < u) (h1 : -P ≤ X) (h2 : X < P) (hP : P = 9223372036854775808 * u) : t < 9223372036854775808 ∧ -9223372036854775808 < t + 1 := by
  obtain ⟨a, b⟩ := h
  have e2 : ∀ a b : Int, a * u < b * u → a < b := fun a b h => Int.lt_of_mul_lt_mul_right h (Int.le_of_lt hu)
  rcases Int.lt_or_le X 0 with hx | hx
  · obtain ⟨c, d, _⟩ := b (by omega)
    refine ⟨e2 _ _ (by omega), e2 _ _ ?_⟩
    rw [Int.add_mul, Int.neg_mul]
    omega
  · obtain ⟨c, d, _⟩ := a hx
    refine ⟨e2 _ _ (by omega), e2 _ _ ?_⟩
    rw [Int.add_mul, Int.neg_mul]
    omega
theorem zero_spec (s : Bool) (m d : Nat) : Trd (signed s (Toward.zero.cut s m d) 0 * p2 d) (p2 d) (signed s m 0) := by
  have e : ∀ n : Nat, signed s n 0 = if s then -(n : Int) else (n : Int) := fun n => by unfold signed; simp
  rw [e, e]
  have hcut : ∃ q r : Nat, m = q * 2 ^ d + r ∧ r < 2 ^ d ∧ Toward.zero.cut s m d = q := by
    unfold Toward.cut
    by_cases h : d ≤ m.log2 + 2
    · rw [Nat.min_eq_left h, Nat.shiftLeft_eq, Nat.one_mul]
      exact ⟨m / 2 ^ d, m % 2 ^ d, by have := Nat.div_add_mod m (2 ^ d); rw [Nat.mul_comm]; omega, Nat.mod_lt _ (Nat.two_pow_pos d), rfl⟩
    · rw [Nat.min_eq_right (by omega), Nat.shiftLeft_eq, Nat.one_mul]
      have h1 : m < 2 ^ (m.log2 + 2) := Nat.lt_of_lt_of_le Nat.lt_log2_self (Nat.pow_le_pow_right (by decide) (by omega))
      have h2 : 2 ^ (m.log2 + 2) ≤ 2 ^ d := Nat.pow_le_pow_right (by decide) (by omega)
      refine ⟨0, m, by omega, by omega, ?_⟩
      simp only [Nat.div_eq_of_lt h1]
      rfl
  obtain ⟨q, r, hm, hr, hc⟩ := hcut
  rw [hc]
  have hp : p2 d = ((2 ^ d : Nat) : Int) := rfl
  rw [hp]
  have hmi : (m : Int) = (q : Int) * ((2 ^ d : Nat) : Int) + (r : Int) := by rw [hm]; push_cast; rfl
  generalize (2 ^ d : Nat) = D at *
  have hri : (r : Int) < (D : Int) := by omega
  have hq0 : (0 : Int) ≤ (q : Int) * (D : Int) := Int.mul_nonneg (by omega) (by omega)
  cases s
  · simp only [Bool.false_eq_true, if_false]
    rw [hmi]
    unfold Trd
    omega
  · simp only [if_true, Int.neg_mul]
    rw [hmi]
    unfold Trd
    omega

/-- The word of a float's whole part. -/
def truncW (x : Nat) : Nat := FloatKind.f64.encode ((FloatKind.f64.decode x).integral .zero)

theorem trunc_ (x : Nat) (hx : isNan x = false) (h1 : -p2 1137 ≤ num x) (h2 : num x < p2 1137) :
    ∃ fl : Int, num (truncW x) = fl * p2 1074 ∧ isNan (truncW x) = false ∧ Trd (fl * p2 1074) (p2 1074) (num x) ∧
      (FloatKind.f64.decode (truncW x)).toInt .zero = some fl ∧ -9223372036854775808 ≤ fl ∧ fl ≤ 9223372036854775807 := by
  have hu := p2_pos 1074
  have hbig : p2 1137 < p2 2200 := p2_lt (by decide)
  have h63 : p2 1137 = 9223372036854775808 * p2 1074 := by
    rw [show 1137 = 63 + 1074 by rfl, p2_add]; rfl
  rcases read_cases x with ⟨s, m, i, ex, hm, h3, h4⟩ | ⟨s, ex⟩ | ⟨s, t, ex⟩
  · obtain ⟨M, hM⟩ : ∃ M, Toward.zero.cut s (m <<< i.toNat) (-i).toNat = M := ⟨_, rfl⟩
    have hw : truncW x = double.nearest s M 0 := by
      show double.write ((double.read x).integral .zero) = _
      rw [ex]
      simp only [Datum.integral, hM, Format.write]
    have hn : num x = signed s m 0 * p2 (i + 1074).toNat := by unfold num; rw [ex]; simp only [ht]; exact signed_eq _ _ _
    -- the floor, and what is dropped
    have hfl : Trd (signed s M 0 * p2 1074) (p2 1074) (num x) ∧ M % 2 ^ (M.log2 - 52) = 0 := by
      by_cases hi : 0 ≤ i
      · have hd : (-i).toNat = 0 := by omega
        obtain ⟨k, hk⟩ : ∃ k, i.toNat = k := ⟨_, rfl⟩
        rw [hd, hk, Nat.shiftLeft_eq] at hM
        have hMe : M = m * 2 ^ k := by
          by_cases h0 : m * 2 ^ k = 0
          · rw [h0, cut_zero] at hM; omega
          · rw [cut_exact _ _ _ 0 h0 (by simp [Nat.mod_one]), Nat.pow_zero, Nat.div_one] at hM; omega
        have he : num x = signed s M 0 * p2 1074 := by
          rw [hn, show (i + 1074).toNat = k + 1074 by omega, p2_add, ← Int.mul_assoc, ← signed_eq s m k]
          have : signed s m k = signed s M 0 := by unfold signed; rw [hMe, Nat.shiftLeft_eq]; simp
          rw [this]
        refine ⟨?_, ?_⟩
        · rw [he]; unfold Trd; omega
        · by_cases h0 : M = 0
          · rw [h0]; simp
          · have hl : M.log2 < 53 + k := by
              rw [Nat.log2_lt h0, hMe, Nat.pow_add]
              exact Nat.mul_lt_mul_of_pos_right hm (Nat.two_pow_pos k)
            refine Nat.mod_eq_zero_of_dvd ?_
            rw [hMe]
            rw [hMe] at hl
            exact Nat.dvd_trans (Nat.pow_dvd_pow 2 (by omega)) (Nat.dvd_mul_left _ _)
      · have h0 : i.toNat = 0 := by omega
        obtain ⟨d, hd⟩ : ∃ d, (-i).toNat = d := ⟨_, rfl⟩
        rw [h0, Nat.shiftLeft_zero, hd] at hM
        have a := zero_spec s m d
        rw [hM] at a
        have hr : (i + 1074).toNat = 1074 - d := by omega
        have hr2 : p2 1074 = p2 d * p2 (1074 - d) := by rw [← p2_add, show d + (1074 - d) = 1074 by omega]
        have hp := p2_pos (1074 - d)
        refine ⟨?_, ?_⟩
        · rw [hn, hr, hr2, ← Int.mul_assoc]
          exact a.mul hp
        · have hM2 : M < 9007199254740992 := by
            have h5 : M ≤ m / 2 + 1 := by
              rw [← hM]
              unfold Toward.cut
              have hg : ∃ g, (1 <<< min d (m.log2 + 2)) = 2 * g ∧ 0 < g := by
                rw [Nat.shiftLeft_eq, Nat.one_mul]
                refine ⟨2 ^ (min d (m.log2 + 2) - 1), ?_, Nat.two_pow_pos _⟩
                rw [Nat.mul_comm, ← Nat.pow_succ]
                congr 1
                omega
              obtain ⟨g, hg, hg0⟩ := hg
              simp only [hg]
              have h6 : m / (2 * g) ≤ m / 2 := by
                rw [← Nat.div_div_eq_div_mul]
                exact Nat.div_le_self _ _
              have h7 : Bool.toNat false = 0 := rfl
              omega
            have : m < 9007199254740992 := hm
            omega
          have hl : M.log2 - 52 = 0 := by
            by_cases h0 : M = 0
            · rw [h0]; rfl
            · have : M.log2 < 53 := (Nat.log2_lt h0).2 hM2
              omega
          rw [hl, Nat.pow_zero, Nat.mod_one]
    obtain ⟨a, hd⟩ := hfl
    have c12 := a.range hu (by omega) (by omega) h63
    obtain ⟨c1, c2⟩ := c12
    refine ⟨signed s M 0, ?_⟩
    rw [hw]
    by_cases h0 : M = 0
    · subst h0
      have hz := read_zero s
      refine ⟨?_, ?_, a, ?_, by omega, by omega⟩
      · unfold num; rw [hz]; simp only [ht]; rw [signed_eq]; cases s <;> simp [signed]
      · unfold isNan; rw [hz]; rfl
      · show (double.read _).toInt .zero = _
        rw [hz]
        simp only [Datum.toInt, Datum.integral, Nat.zero_shiftLeft, cut_zero]
    · have hlt : M < 2 ^ 64 := by
        have e : signed s M 0 = if s then -(M : Int) else (M : Int) := by unfold signed; simp
        rw [e] at c1 c2
        have : (2 : Nat) ^ 64 = 18446744073709551616 := by decide
        rw [this]
        cases s
        · simp only [Bool.false_eq_true, if_false] at c1; omega
        · simp only [if_true] at c2; omega
      obtain ⟨mag, place, hr, e1, e2⟩ := nearest_exact s M h0 hlt hd
      refine ⟨?_, ?_, a, ?_, by omega, by omega⟩
      · unfold num; rw [hr]; exact e1
      · unfold isNan; rw [hr]; rfl
      · show (double.read _).toInt .zero = _
        rw [hr]; exact e2
  · exfalso
    unfold num at h1 h2
    rw [ex] at h1 h2
    simp only [ht] at h1 h2
    cases s
    · simp only [Bool.false_eq_true, if_false] at h2; omega
    · simp only [if_true] at h1; omega
  · unfold isNan at hx; rw [ex] at hx; cases hx

/-- An int held against a float by the float's whole part. -/
theorem sg_trunc {n t u X : Int} (hu : 0 < u) (h : Trd (t * u) u X) : sg (n * u) X = if n < t then -1 else if t < n then 1 else if t * u < X then -1 else if X < t * u then 1 else 0 := by
  obtain ⟨a, b⟩ := h
  by_cases h1 : n < t
  · rw [if_pos h1]
    have : (n + 1) * u ≤ t * u := Int.mul_le_mul_of_nonneg_right (by omega) (Int.le_of_lt hu)
    rw [Int.add_mul] at this
    unfold sg; rw [if_pos (by rcases Int.lt_or_le X 0 with hx | hx; have := b (by omega); omega; have := a hx; omega)]
  · rw [if_neg h1]
    by_cases h2 : t < n
    · rw [if_pos h2]
      have : (t + 1) * u ≤ n * u := Int.mul_le_mul_of_nonneg_right (by omega) (Int.le_of_lt hu)
      rw [Int.add_mul] at this
      have h3 : X < n * u := by rcases Int.lt_or_le X 0 with hx | hx; have := b (by omega); omega; have := a hx; omega
      unfold sg; rw [if_neg (by omega), if_pos h3]
    · rw [if_neg h2]
      have : n = t := by omega
      subst this
      rfl
end Vs
theorem run_archTrunc (x : Nat) (w : World) (hx : Vs.isNan x = false) : (callFunc 100 #[.float .f64 x]).run Tryd.prog w = .ok (.value (.float .f64 (Vs.truncW x))) w := by
  rw [run_callFunc_extern (e := Extern.MathFloor.toIntegral "math.archTrunc" .zero) Tryd.func100 (by kernel_rfl) (by kernel_rfl) (by kernel_rfl) (by kernel_rfl)]
  have h : (FloatKind.f64.decode x).isNaN = false := hx
  have e : Extern.MathFloor.toIntegral "math.archTrunc" .zero #[.float .f64 x] = pure (.float .f64 (Vs.truncW x)) := by
    unfold Vs.truncW
    show (match FloatKind.f64.decode x with | .nan s t => _ | d => _) = _
    cases hd : FloatKind.f64.decode x with
    | number s m i => rfl
    | infinity s => rfl
    | nan s t => rw [hd] at h; cases h
  rw [e]
  rfl
theorem trunc_calls (x : Nat) (w : World) (hx : Vs.isNan x = false) : Calls Tryd.prog 83 #[.float .f64 x] w fun e w' => e = .returned (.float .f64 (Vs.truncW x)) ∧ w' = w := by
  have hr := fun w => run_archTrunc x w hx
  go_enter Tryd.func83, Tryd.ntmps83
  go_wp2
  go_ret
  exact ⟨rfl, rfl⟩

set_option maxHeartbeats 2000000 in
theorem rmixed_calls (n : Int) (x : Nat) (w : World) (hx : Vs.isNan x = false) (h1 : -9223372036854775808 ≤ n) (h2 : n ≤ 9223372036854775807) :
    Calls Tryd.prog 52 #[.int .i64 n, .float .f64 x] w fun e w' => e = .returned (.int .i64 (Vs.sg (n * Vs.p2 1074) (Vs.num x))) ∧ w' = w := by
  have hu := Vs.p2_pos 1074
  have h63 : Vs.p2 1137 = 9223372036854775808 * Vs.p2 1074 := by
    rw [show 1137 = 63 + 1074 by rfl, Vs.p2_add]; rfl
  have k1 : -9223372036854775808 * Vs.p2 1074 ≤ n * Vs.p2 1074 := Int.mul_le_mul_of_nonneg_right h1 (Int.le_of_lt hu)
  have k2 : n * Vs.p2 1074 ≤ 9223372036854775807 * Vs.p2 1074 := Int.mul_le_mul_of_nonneg_right h2 (Int.le_of_lt hu)
  rw [Int.neg_mul, ← h63] at k1
  have k3 : 9223372036854775807 * Vs.p2 1074 < Vs.p2 1137 := by rw [h63]; exact Int.mul_lt_mul_of_pos_right (by decide) hu
  have hge : (FloatKind.f64.format.order x 4890909195324358656 == some .gt || FloatKind.f64.format.order x 4890909195324358656 == some .eq) = decide (Vs.p2 1137 ≤ Vs.num x) := by
    have a := Vs.gt_iff hx Vs.num_top.2
    have b := Vs.eq_iff hx Vs.num_top.2
    rw [Vs.num_top.1] at a b
    show (Ieee.double.order x 4890909195324358656 == some .gt || Ieee.double.order x 4890909195324358656 == some .eq) = _
    rw [a, b, Bool.eq_iff_iff]
    simp only [Bool.or_eq_true, decide_eq_true_eq]
    omega
  have hlt : (FloatKind.f64.format.order x 14114281232179134464 == some .lt) = decide (Vs.num x < -Vs.p2 1137) := by
    have a := Vs.lt_iff hx Vs.num_low.2
    rw [Vs.num_low.1] at a
    exact a
  have HX := Lib.hid hx
  by_cases c1 : Vs.p2 1137 ≤ Vs.num x
  · have hr : Vs.sg (n * Vs.p2 1074) (Vs.num x) = -1 := by unfold Vs.sg; rw [if_pos (by omega)]
    rw [hr]
    rw [decide_eq_true c1] at hge
    clear hx c1 hr hlt k1 k2 k3 h63 hu h1 h2
    go_enter Tryd.func52, Tryd.ntmps52
    go_wp2
    go_ret
    exact ⟨rfl, rfl⟩
  rw [decide_eq_false c1] at hge
  by_cases c2 : Vs.num x < -Vs.p2 1137
  · have hr : Vs.sg (n * Vs.p2 1074) (Vs.num x) = 1 := by unfold Vs.sg; rw [if_neg (by omega), if_pos (by omega)]
    rw [hr]
    rw [decide_eq_true c2] at hlt
    clear hx c1 c2 hr k1 k2 k3 h63 hu h1 h2
    go_enter Tryd.func52, Tryd.ntmps52
    go_wp2
    go_ret
    exact ⟨rfl, rfl⟩
  rw [decide_eq_false c2] at hlt
  obtain ⟨fl, e1, e2, e3, e5, e6, e7⟩ := Vs.trunc_ x hx (by omega) (by omega)
  rw [Vs.sg_trunc hu e3]
  have hcv : ∀ w : World, (convert 23 2 (.float .f64 (Vs.truncW x))).run Tryd.prog w = .ok (.int .i64 fl) w := fun w =>
    run_convert_float_int w _ _ .f64 .i64 _ fl (by kernel_rfl) (by kernel_rfl) (by
      unfold floatToIntVal
      rw [e5]
      have k1 : IntKind.i64.min = -9223372036854775808 := by decide
      have k2 : IntKind.i64.max = 9223372036854775807 := by decide
      simp only [k1, k2]
      rw [if_pos ⟨e6, e7⟩])
  have hl2 : (FloatKind.f64.format.order (Vs.truncW x) x == some .lt) = decide (fl * Vs.p2 1074 < Vs.num x) := by
    have a := Vs.lt_iff e2 hx
    rw [e1] at a
    exact a
  have hg2 : (FloatKind.f64.format.order (Vs.truncW x) x == some .gt) = decide (Vs.num x < fl * Vs.p2 1074) := by
    have a := Vs.gt_iff e2 hx
    rw [e1] at a
    exact a
  generalize fl * Vs.p2 1074 = T at *
  generalize Vs.num x = X at *
  clear hx c1 c2 e1 e2 e3 e5 e6 e7 k1 k2 k3 h63 hu h1 h2
  by_cases c3 : n < fl
  · rw [if_pos c3]
    clear hl2 hg2
    go_enter Tryd.func52, Tryd.ntmps52
    go_wp2_with fail
    refine (trunc_calls x _ HX.out).mono ?_
    rintro e w1 ⟨rfl, rfl⟩
    go_wp2
    go_ret
    exact ⟨rfl, rfl⟩
  rw [if_neg c3]
  by_cases c4 : fl < n
  · rw [if_pos c4]
    clear hl2 hg2
    go_enter Tryd.func52, Tryd.ntmps52
    go_wp2_with fail
    refine (trunc_calls x _ HX.out).mono ?_
    rintro e w1 ⟨rfl, rfl⟩
    go_wp2
    go_ret
    exact ⟨rfl, rfl⟩
  rw [if_neg c4]
  by_cases c5 : T < X
  · rw [if_pos c5]
    rw [decide_eq_true c5] at hl2
    clear c5 hg2
    go_enter Tryd.func52, Tryd.ntmps52
    go_wp2_with fail
    refine (trunc_calls x _ HX.out).mono ?_
    rintro e w1 ⟨rfl, rfl⟩
    go_wp2
    go_ret
    exact ⟨rfl, rfl⟩
  rw [if_neg c5]
  rw [decide_eq_false c5] at hl2
  by_cases c6 : X < T
  · rw [if_pos c6]
    rw [decide_eq_true c6] at hg2
    clear c5 c6
    go_enter Tryd.func52, Tryd.ntmps52
    go_wp2_with fail
    refine (trunc_calls x _ HX.out).mono ?_
    rintro e w1 ⟨rfl, rfl⟩
    go_wp2
    go_ret
    exact ⟨rfl, rfl⟩
  rw [if_neg c6]
  rw [decide_eq_false c6] at hg2
  clear c5 c6
  go_enter Tryd.func52, Tryd.ntmps52
  go_wp2_with fail
  refine (trunc_calls x _ HX.out).mono ?_
  rintro e w1 ⟨rfl, rfl⟩
  go_wp2
  go_ret
  exact ⟨rfl, rfl⟩
end Go.Proofs.YtbgfiflnfndckaaDoor
