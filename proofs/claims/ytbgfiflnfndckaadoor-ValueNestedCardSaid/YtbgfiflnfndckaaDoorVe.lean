/- The walk of Compare: two values held against each other. No conditions but the kinds' own. -/
import Derived.Test.YtbgfiflnfndckaaDoorVd
import Derived.Test.YtbgfiflnfndckaaDoorWEqStruct
set_option linter.unusedVariables false
set_option linter.unusedSimpArgs false
namespace Go.Proofs.YtbgfiflnfndckaaDoor
open Go.RowKit Go.Proofs.YtbgfiflnfndckaaDoorW.PrintWords

namespace Vs
/-- A value without what its lists have. -/
structure Sc where
  k : Nat
  s : ByteArray
  b : Bool
  n : Int
  f : Nat
/-- Two values held against each other. -/
def compare (x y : Sc) : Int × Bool :=
  if x.k = 4 ∧ isNan x.f = true ∨ y.k = 4 ∧ isNan y.f = true then (0, false)
  else if x.k = 1 ∧ y.k = 1 then (ss x.s.toList y.s.toList, true)
  else if x.k = 3 ∧ y.k = 3 then (sg x.n y.n, true)
  else if x.k = 4 ∧ y.k = 4 then (sg (num x.f) (num y.f), true)
  else if x.k = 3 ∧ y.k = 4 then (sg (x.n * p2 1074) (num y.f), true)
  else if x.k = 4 ∧ y.k = 3 then (-sg (y.n * p2 1074) (num x.f), true)
  else (0, false)
theorem sg_range (a b : Int) : -1 ≤ sg a b ∧ sg a b ≤ 1 := by unfold sg; split <;> (try split) <;> omega
theorem wrap_sg (a b : Int) : Go.RowKit.wrap64 (-sg a b) = -sg a b := by
  have := sg_range a b
  unfold Go.RowKit.wrap64; omega
end Vs

/-- A value, as the program has it. -/
def cellsV (x : Vs.Sc) (l m : Value) : Array Value := #[.int .u8 x.k, .string x.s, .bool x.b, .int .i64 x.n, .float .f64 x.f, l, m]

theorem two_eq (d : Nat) (w : World) (x0 y0 : Int) (x1 y1 : Int) :
    (Op.equalIn (d + 2) 68 (.agg #[.int .u8 x0, .int .u8 x1]) (.agg #[.int .u8 y0, .int .u8 y1])).run Tryd.prog w = .ok (x0 == y0 && x1 == y1) w := by
  refine eqA_of Tryd.underlying68 (by kernel_rfl) ?_
  refine eqf_cons (by rfl) (by go_simp; rfl) (by go_simp; rfl) (by go_simp) ?_
  exact eqf_last (by rfl) (by go_simp; rfl) (by go_simp; rfl) (by go_simp)

attribute [local go_sem high] two_eq
set_option maxHeartbeats 4000000 in
set_option maxRecDepth 100000 in
theorem compare_calls (x y : Vs.Sc) (l m l' m' : Value) (w : World) (hx1 : -9223372036854775808 ≤ x.n) (hx2 : x.n ≤ 9223372036854775807) (hy1 : -9223372036854775808 ≤ y.n) (hy2 : y.n ≤ 9223372036854775807) :
    Calls Tryd.prog 13 #[.agg (cellsV x l m), .agg (cellsV y l' m')] w fun e w' => e = .returned (.tuple #[.int .i64 (Vs.compare x y).1, .bool (Vs.compare x y).2]) ∧ Below w.heap.size w w' := by
  obtain ⟨k, s, b, n, f⟩ := x
  obtain ⟨k', s', b', n', f'⟩ := y
  simp only at hx1 hx2 hy1 hy2
  unfold cellsV
  have X1 := Lib.hid hx1
  have X2 := Lib.hid hx2
  have Y1 := Lib.hid hy1
  have Y2 := Lib.hid hy2
  clear hx1 hx2 hy1 hy2
  have hwr := Vs.wrap_sg (n' * Vs.p2 1074) (Vs.num f)
  obtain ⟨r, hr⟩ : ∃ r, Vs.compare ⟨k, s, b, n, f⟩ ⟨k', s', b', n', f'⟩ = r := ⟨_, rfl⟩
  rw [hr]
  obtain ⟨r1, r2⟩ := r
  simp only
  unfold Vs.compare at hr
  simp only at hr
  have kinds : ∀ j : Nat, j = 1 ∨ j = 3 ∨ j = 4 ∨ ((((j : Int) == 1) = false ∧ ((j : Int) == 3) = false ∧ ((j : Int) == 4) = false) ∧ j ≠ 1 ∧ j ≠ 3 ∧ j ≠ 4) := fun j => by
    by_cases h1 : j = 1; · exact .inl h1
    by_cases h2 : j = 3; · exact .inr (.inl h2)
    by_cases h3 : j = 4; · exact .inr (.inr (.inl h3))
    refine .inr (.inr (.inr ⟨⟨?_, ?_, ?_⟩, h1, h2, h3⟩)) <;> (rw [beq_eq_false_iff_ne]; omega)
  have nans : ∀ j, Vs.isNan j = true ∨ Vs.isNan j = false := fun j => by cases Vs.isNan j <;> simp
  have K := Lib.hid kinds
  have NN := Lib.hid nans
  clear kinds nans
  rcases K.out k with rfl | rfl | rfl | ⟨⟨q1, q2, q3⟩, q4, q5, q6⟩ <;> rcases K.out k' with rfl | rfl | rfl | ⟨⟨z1, z2, z3⟩, z4, z5, z6⟩
  -- CASES
  · -- kinds 1, 1
    simp [] at hr
    obtain ⟨rfl, rfl⟩ := hr
    go_enter Tryd.func13, Tryd.ntmps13
    go_wp2_with fail
    refine (scmp_calls _ _ _).mono ?_
    rintro e w1 ⟨rfl, rfl⟩
    go_wp2
    go_ret2
    exact ⟨rfl, ((Below.refl _ _).alloc (Nat.le_refl _) _).alloc (by simp) _⟩
  · -- kinds 1, 3
    simp [] at hr
    obtain ⟨rfl, rfl⟩ := hr
    go_enter Tryd.func13, Tryd.ntmps13
    go_wp2
    go_ret2
    exact ⟨rfl, ((Below.refl _ _).alloc (Nat.le_refl _) _).alloc (by simp) _⟩
  · -- kinds 1, 4
    rcases NN.out f' with nf' | nf'
    · skip
      simp [nf'] at hr
      obtain ⟨rfl, rfl⟩ := hr
      go_enter Tryd.func13, Tryd.ntmps13
      go_wp2_with fail
      refine (isnan_calls _ _).mono ?_
      rintro e w1 ⟨rfl, rfl⟩
      go_wp2
      go_ret2
      exact ⟨rfl, ((Below.refl _ _).alloc (Nat.le_refl _) _).alloc (by simp) _⟩
    · skip
      simp [nf'] at hr
      obtain ⟨rfl, rfl⟩ := hr
      go_enter Tryd.func13, Tryd.ntmps13
      go_wp2_with fail
      refine (isnan_calls _ _).mono ?_
      rintro e w1 ⟨rfl, rfl⟩
      go_wp2
      go_ret2
      exact ⟨rfl, ((Below.refl _ _).alloc (Nat.le_refl _) _).alloc (by simp) _⟩
  · -- kinds 1, else
    simp [z4, z5, z6] at hr
    obtain ⟨rfl, rfl⟩ := hr
    go_enter Tryd.func13, Tryd.ntmps13
    go_wp2
    go_ret2
    exact ⟨rfl, ((Below.refl _ _).alloc (Nat.le_refl _) _).alloc (by simp) _⟩
  · -- kinds 3, 1
    simp [] at hr
    obtain ⟨rfl, rfl⟩ := hr
    go_enter Tryd.func13, Tryd.ntmps13
    go_wp2
    go_ret2
    exact ⟨rfl, ((Below.refl _ _).alloc (Nat.le_refl _) _).alloc (by simp) _⟩
  · -- kinds 3, 3
    simp [] at hr
    obtain ⟨rfl, rfl⟩ := hr
    go_enter Tryd.func13, Tryd.ntmps13
    go_wp2_with fail
    refine (icmp_calls _ _ _).mono ?_
    rintro e w1 ⟨rfl, rfl⟩
    go_wp2
    go_ret2
    exact ⟨rfl, ((Below.refl _ _).alloc (Nat.le_refl _) _).alloc (by simp) _⟩
  · -- kinds 3, 4
    rcases NN.out f' with nf' | nf'
    · skip
      simp [nf'] at hr
      obtain ⟨rfl, rfl⟩ := hr
      go_enter Tryd.func13, Tryd.ntmps13
      go_wp2_with fail
      refine (isnan_calls _ _).mono ?_
      rintro e w1 ⟨rfl, rfl⟩
      go_wp2
      go_ret2
      exact ⟨rfl, ((Below.refl _ _).alloc (Nat.le_refl _) _).alloc (by simp) _⟩
    · skip
      simp [nf'] at hr
      obtain ⟨rfl, rfl⟩ := hr
      go_enter Tryd.func13, Tryd.ntmps13
      go_wp2_with fail
      refine (isnan_calls _ _).mono ?_
      rintro e w1 ⟨rfl, rfl⟩
      go_wp2_with fail
      refine (mixed_calls _ _ _ nf' X1.out X2.out).mono ?_
      rintro e w1 ⟨rfl, rfl⟩
      go_wp2
      go_ret2
      exact ⟨rfl, ((Below.refl _ _).alloc (Nat.le_refl _) _).alloc (by simp) _⟩
  · -- kinds 3, else
    simp [z4, z5, z6] at hr
    obtain ⟨rfl, rfl⟩ := hr
    go_enter Tryd.func13, Tryd.ntmps13
    go_wp2
    go_ret2
    exact ⟨rfl, ((Below.refl _ _).alloc (Nat.le_refl _) _).alloc (by simp) _⟩
  · -- kinds 4, 1
    rcases NN.out f with nf | nf
    · skip
      simp [nf] at hr
      obtain ⟨rfl, rfl⟩ := hr
      go_enter Tryd.func13, Tryd.ntmps13
      go_wp2_with fail
      refine (isnan_calls _ _).mono ?_
      rintro e w1 ⟨rfl, rfl⟩
      go_wp2
      go_ret2
      exact ⟨rfl, ((Below.refl _ _).alloc (Nat.le_refl _) _).alloc (by simp) _⟩
    · skip
      simp [nf] at hr
      obtain ⟨rfl, rfl⟩ := hr
      go_enter Tryd.func13, Tryd.ntmps13
      go_wp2_with fail
      refine (isnan_calls _ _).mono ?_
      rintro e w1 ⟨rfl, rfl⟩
      go_wp2
      go_ret2
      exact ⟨rfl, ((Below.refl _ _).alloc (Nat.le_refl _) _).alloc (by simp) _⟩
  · -- kinds 4, 3
    rcases NN.out f with nf | nf
    · skip
      simp [nf] at hr
      obtain ⟨rfl, rfl⟩ := hr
      go_enter Tryd.func13, Tryd.ntmps13
      go_wp2_with fail
      refine (isnan_calls _ _).mono ?_
      rintro e w1 ⟨rfl, rfl⟩
      go_wp2
      go_ret2
      exact ⟨rfl, ((Below.refl _ _).alloc (Nat.le_refl _) _).alloc (by simp) _⟩
    · skip
      simp [nf] at hr
      obtain ⟨rfl, rfl⟩ := hr
      go_enter Tryd.func13, Tryd.ntmps13
      go_wp2_with fail
      refine (isnan_calls _ _).mono ?_
      rintro e w1 ⟨rfl, rfl⟩
      go_wp2_with fail
      refine (mixed_calls _ _ _ nf Y1.out Y2.out).mono ?_
      rintro e w1 ⟨rfl, rfl⟩
      go_wp2
      go_ret2
      exact ⟨congrArg (fun z => Ending.returned (.tuple #[.int .i64 z, .bool true])) hwr, ((Below.refl _ _).alloc (Nat.le_refl _) _).alloc (by simp) _⟩
  · -- kinds 4, 4
    rcases NN.out f with nf | nf
    · skip
      simp [nf] at hr
      obtain ⟨rfl, rfl⟩ := hr
      go_enter Tryd.func13, Tryd.ntmps13
      go_wp2_with fail
      refine (isnan_calls _ _).mono ?_
      rintro e w1 ⟨rfl, rfl⟩
      go_wp2
      go_ret2
      exact ⟨rfl, ((Below.refl _ _).alloc (Nat.le_refl _) _).alloc (by simp) _⟩
    · skip
      rcases NN.out f' with nf' | nf'
      · skip
        simp [nf, nf'] at hr
        obtain ⟨rfl, rfl⟩ := hr
        go_enter Tryd.func13, Tryd.ntmps13
        go_wp2_with fail
        refine (isnan_calls _ _).mono ?_
        rintro e w1 ⟨rfl, rfl⟩
        go_wp2_with fail
        refine (isnan_calls _ _).mono ?_
        rintro e w1 ⟨rfl, rfl⟩
        go_wp2
        go_ret2
        exact ⟨rfl, ((Below.refl _ _).alloc (Nat.le_refl _) _).alloc (by simp) _⟩
      · skip
        simp [nf, nf'] at hr
        obtain ⟨rfl, rfl⟩ := hr
        go_enter Tryd.func13, Tryd.ntmps13
        go_wp2_with fail
        refine (isnan_calls _ _).mono ?_
        rintro e w1 ⟨rfl, rfl⟩
        go_wp2_with fail
        refine (isnan_calls _ _).mono ?_
        rintro e w1 ⟨rfl, rfl⟩
        go_wp2_with fail
        refine (fcmp_calls _ _ _ nf nf').mono ?_
        rintro e w1 ⟨rfl, rfl⟩
        go_wp2
        go_ret2
        exact ⟨rfl, ((Below.refl _ _).alloc (Nat.le_refl _) _).alloc (by simp) _⟩
  · -- kinds 4, else
    rcases NN.out f with nf | nf
    · skip
      simp [z4, z5, z6, nf] at hr
      obtain ⟨rfl, rfl⟩ := hr
      go_enter Tryd.func13, Tryd.ntmps13
      go_wp2_with fail
      refine (isnan_calls _ _).mono ?_
      rintro e w1 ⟨rfl, rfl⟩
      go_wp2
      go_ret2
      exact ⟨rfl, ((Below.refl _ _).alloc (Nat.le_refl _) _).alloc (by simp) _⟩
    · skip
      simp [z4, z5, z6, nf] at hr
      obtain ⟨rfl, rfl⟩ := hr
      go_enter Tryd.func13, Tryd.ntmps13
      go_wp2_with fail
      refine (isnan_calls _ _).mono ?_
      rintro e w1 ⟨rfl, rfl⟩
      go_wp2
      go_ret2
      exact ⟨rfl, ((Below.refl _ _).alloc (Nat.le_refl _) _).alloc (by simp) _⟩
  · -- kinds else, 1
    simp [q4, q5, q6] at hr
    obtain ⟨rfl, rfl⟩ := hr
    go_enter Tryd.func13, Tryd.ntmps13
    go_wp2
    go_ret2
    exact ⟨rfl, ((Below.refl _ _).alloc (Nat.le_refl _) _).alloc (by simp) _⟩
  · -- kinds else, 3
    simp [q4, q5, q6] at hr
    obtain ⟨rfl, rfl⟩ := hr
    go_enter Tryd.func13, Tryd.ntmps13
    go_wp2
    go_ret2
    exact ⟨rfl, ((Below.refl _ _).alloc (Nat.le_refl _) _).alloc (by simp) _⟩
  · -- kinds else, 4
    rcases NN.out f' with nf' | nf'
    · skip
      simp [q4, q5, q6, nf'] at hr
      obtain ⟨rfl, rfl⟩ := hr
      go_enter Tryd.func13, Tryd.ntmps13
      go_wp2_with fail
      refine (isnan_calls _ _).mono ?_
      rintro e w1 ⟨rfl, rfl⟩
      go_wp2
      go_ret2
      exact ⟨rfl, ((Below.refl _ _).alloc (Nat.le_refl _) _).alloc (by simp) _⟩
    · skip
      simp [q4, q5, q6, nf'] at hr
      obtain ⟨rfl, rfl⟩ := hr
      go_enter Tryd.func13, Tryd.ntmps13
      go_wp2_with fail
      refine (isnan_calls _ _).mono ?_
      rintro e w1 ⟨rfl, rfl⟩
      go_wp2
      go_ret2
      exact ⟨rfl, ((Below.refl _ _).alloc (Nat.le_refl _) _).alloc (by simp) _⟩
  · -- kinds else, else
    simp [q4, q5, q6, z4, z5, z6] at hr
    obtain ⟨rfl, rfl⟩ := hr
    go_enter Tryd.func13, Tryd.ntmps13
    go_wp2
    go_ret2
    exact ⟨rfl, ((Below.refl _ _).alloc (Nat.le_refl _) _).alloc (by simp) _⟩
end Go.Proofs.YtbgfiflnfndckaaDoor
