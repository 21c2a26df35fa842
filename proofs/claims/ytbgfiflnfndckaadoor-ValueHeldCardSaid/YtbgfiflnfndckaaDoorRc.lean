/- The walk of the document's Compare. No conditions but the kinds' own. -/
import Derived.Test.YtbgfiflnfndckaaDoorRm
import Derived.Test.YtbgfiflnfndckaaDoorVe
import Derived.WalkLawsBesides
set_option linter.unusedVariables false
set_option linter.unusedSimpArgs false
namespace Go.Proofs.YtbgfiflnfndckaaDoor
open Go.RowKit Go.Proofs.YtbgfiflnfndckaaDoorW.PrintWords

set_option maxHeartbeats 8000000 in
set_option maxRecDepth 100000 in
theorem rcompare_calls (x y : Vs.Sc) (l m l' m' : Value) (w : World) (hx1 : -9223372036854775808 ≤ x.n) (hx2 : x.n ≤ 9223372036854775807) (hy1 : -9223372036854775808 ≤ y.n) (hy2 : y.n ≤ 9223372036854775807) :
    Calls Tryd.prog 19 #[.agg (cellsV x l m), .agg (cellsV y l' m')] w fun e w' => e = .returned (.tuple #[.int .i64 (Vs.compare x y).1, .bool (Vs.compare x y).2]) ∧ Below w.heap.size w w' := by
  obtain ⟨k, s, b, n, f⟩ := x
  obtain ⟨k', s', b', n', f'⟩ := y
  simp only at hx1 hx2 hy1 hy2
  unfold cellsV
  have X1 := Lib.hid hx1
  have X2 := Lib.hid hx2
  have Y1 := Lib.hid hy1
  have Y2 := Lib.hid hy2
  clear hx1 hx2 hy1 hy2
  have HWR := Lib.hid (Vs.wrap_sg (n' * Vs.p2 1074) (Vs.num f))
  obtain ⟨r, hr⟩ : ∃ r, Vs.compare ⟨k, s, b, n, f⟩ ⟨k', s', b', n', f'⟩ = r := ⟨_, rfl⟩
  rw [hr]
  obtain ⟨r1, r2⟩ := r
  simp only
  unfold Vs.compare at hr
  simp only at hr
  have kinds : ∀ j : Nat, j = 1 ∨ j = 3 ∨ j = 4 ∨ ((((j : Int) == 1) = false ∧ ((j : Int) == 3) = false ∧ ((j : Int) == 4) = false) ∧ j ≠ 1 ∧ j ≠ 3 ∧ j ≠ 4) := fun j => by
    by_cases h1 : j = 1; · exact .inl h1
    by_cases h2 : j = 3; · exact .inr (.inl h2)
    by_cases h3 : j = 4; · exact .inr (.inr (.inl h3))
    refine .inr (.inr (.inr ⟨⟨?_, ?_, ?_⟩, h1, h2, h3⟩)) <;> (rw [beq_eq_false_iff_ne]; omega)
  have nans : ∀ j, (Vs.isNan j = true ∧ (FloatKind.f64.format.order j j != some .eq) = true) ∨ (Vs.isNan j = false ∧ (FloatKind.f64.format.order j j != some .eq) = false) := fun j => by
    have := Vs.ne_self j
    cases h : Vs.isNan j
    · rw [h] at this; exact .inr ⟨rfl, this⟩
    · rw [h] at this; exact .inl ⟨rfl, this⟩
  have texts : ∀ x y : List UInt8, (Vs.ss x y = -1 ∧ Go.Op.bytesLess x y = true ∧ (x == y) = false) ∨ (Vs.ss x y = 1 ∧ Go.Op.bytesLess x y = false ∧ (x == y) = false) ∨ (Vs.ss x y = 0 ∧ Go.Op.bytesLess x y = false ∧ (x == y) = true) := fun x y => by
    have h := Vs.ss_gt x y
    rcases Vs.ss_cases x y with ⟨a, b⟩ | ⟨a, b⟩ | ⟨a, b⟩
    · refine .inl ⟨a, b, ?_⟩
      have := Vs.less_asymm x y b
      rw [beq_eq_false_iff_ne]; intro e; subst e; rw [b] at this; cases this
    · refine .inr (.inl ⟨a, Vs.less_asymm y x b, ?_⟩)
      have := Vs.less_asymm y x b
      rw [beq_eq_false_iff_ne]; intro e; subst e; rw [b] at this; cases this
    · subst b; exact .inr (.inr ⟨a, Vs.less_irr x, by simp⟩)
  have ints : ∀ x y : Int, (Vs.sg x y = -1 ∧ x < y ∧ ¬ y < x) ∨ (Vs.sg x y = 1 ∧ ¬ x < y ∧ y < x) ∨ (Vs.sg x y = 0 ∧ ¬ x < y ∧ ¬ y < x) := fun x y => by
    unfold Vs.sg
    by_cases h1 : x < y
    · rw [if_pos h1]; exact .inl ⟨rfl, h1, by omega⟩
    · rw [if_neg h1]
      by_cases h2 : y < x
      · rw [if_pos h2]; exact .inr (.inl ⟨rfl, h1, h2⟩)
      · rw [if_neg h2]; exact .inr (.inr ⟨rfl, h1, h2⟩)
  have floats : ∀ x y, Vs.isNan x = false → Vs.isNan y = false → (Vs.sg (Vs.num x) (Vs.num y) = -1 ∧ (FloatKind.f64.format.order x y == some .lt) = true ∧ (FloatKind.f64.format.order x y == some .gt) = false) ∨
      (Vs.sg (Vs.num x) (Vs.num y) = 1 ∧ (FloatKind.f64.format.order x y == some .lt) = false ∧ (FloatKind.f64.format.order x y == some .gt) = true) ∨ (Vs.sg (Vs.num x) (Vs.num y) = 0 ∧ (FloatKind.f64.format.order x y == some .lt) = false ∧ (FloatKind.f64.format.order x y == some .gt) = false) := fun x y hx hy => by
    have a := Vs.lt_iff hx hy
    have b := Vs.gt_iff hx hy
    rcases ints (Vs.num x) (Vs.num y) with ⟨c, d, e⟩ | ⟨c, d, e⟩ | ⟨c, d, e⟩
    · exact .inl ⟨c, a.trans (decide_eq_true d), b.trans (decide_eq_false e)⟩
    · exact .inr (.inl ⟨c, a.trans (decide_eq_false d), b.trans (decide_eq_true e)⟩)
    · exact .inr (.inr ⟨c, a.trans (decide_eq_false d), b.trans (decide_eq_false e)⟩)
  have K := Lib.hid kinds
  have NN := Lib.hid nans
  have TT := Lib.hid texts
  have II := Lib.hid ints
  have FF := Lib.hid floats
  clear kinds nans texts ints floats
  rcases K.out k with rfl | rfl | rfl | ⟨⟨q1, q2, q3⟩, q4, q5, q6⟩ <;> rcases K.out k' with rfl | rfl | rfl | ⟨⟨z1, z2, z3⟩, z4, z5, z6⟩
  · -- kinds 1, 1
    rcases TT.out s.toList s'.toList with ⟨g1, g2, g3⟩ | ⟨g1, g2, g3⟩ | ⟨g1, g2, g3⟩
    · skip
      simp [g1] at hr
      obtain ⟨rfl, rfl⟩ := hr
      go_enter Tryd.func19, Tryd.ntmps19
      go_wp2
      repeat (go_quiet (fail); try go_wp2)
      go_ret2
      exact ⟨by first | rfl | (simp [*]; done), by first | exact (((Below.refl _ _).alloc (Nat.le_refl _) _).alloc (by simp) _) | exact pw_below_drewN (((Below.refl _ _).alloc (Nat.le_refl _) _).alloc (by simp) _) _⟩
    · skip
      simp [g1] at hr
      obtain ⟨rfl, rfl⟩ := hr
      go_enter Tryd.func19, Tryd.ntmps19
      go_wp2
      repeat (go_quiet (fail); try go_wp2)
      go_ret2
      exact ⟨by first | rfl | (simp [*]; done), by first | exact (((Below.refl _ _).alloc (Nat.le_refl _) _).alloc (by simp) _) | exact pw_below_drewN (((Below.refl _ _).alloc (Nat.le_refl _) _).alloc (by simp) _) _⟩
    · skip
      simp [g1] at hr
      obtain ⟨rfl, rfl⟩ := hr
      go_enter Tryd.func19, Tryd.ntmps19
      go_wp2
      repeat (go_quiet (fail); try go_wp2)
      go_ret2
      exact ⟨by first | rfl | (simp [*]; done), by first | exact (((Below.refl _ _).alloc (Nat.le_refl _) _).alloc (by simp) _) | exact pw_below_drewN (((Below.refl _ _).alloc (Nat.le_refl _) _).alloc (by simp) _) _⟩
  · -- kinds 1, 3
    simp [] at hr
    obtain ⟨rfl, rfl⟩ := hr
    go_enter Tryd.func19, Tryd.ntmps19
    go_wp2
    repeat (go_quiet (fail); try go_wp2)
    go_ret2
    exact ⟨by first | rfl | (simp [*]; done), by first | exact (((Below.refl _ _).alloc (Nat.le_refl _) _).alloc (by simp) _) | exact pw_below_drewN (((Below.refl _ _).alloc (Nat.le_refl _) _).alloc (by simp) _) _⟩
  · -- kinds 1, 4
    rcases NN.out f' with nf' | nf'
    · skip
      simp [nf'.1] at hr
      obtain ⟨rfl, rfl⟩ := hr
      have nfph := nf'.2
      go_enter Tryd.func19, Tryd.ntmps19
      go_wp2
      repeat (go_quiet (fail); try go_wp2)
      go_ret2
      exact ⟨by first | rfl | (simp [*]; done), by first | exact (((Below.refl _ _).alloc (Nat.le_refl _) _).alloc (by simp) _) | exact pw_below_drewN (((Below.refl _ _).alloc (Nat.le_refl _) _).alloc (by simp) _) _⟩
    · skip
      simp [nf'.1] at hr
      obtain ⟨rfl, rfl⟩ := hr
      have nfph := nf'.2
      go_enter Tryd.func19, Tryd.ntmps19
      go_wp2
      repeat (go_quiet (fail); try go_wp2)
      go_ret2
      exact ⟨by first | rfl | (simp [*]; done), by first | exact (((Below.refl _ _).alloc (Nat.le_refl _) _).alloc (by simp) _) | exact pw_below_drewN (((Below.refl _ _).alloc (Nat.le_refl _) _).alloc (by simp) _) _⟩
  · -- kinds 1, else
    simp [z4, z5, z6] at hr
    obtain ⟨rfl, rfl⟩ := hr
    go_enter Tryd.func19, Tryd.ntmps19
    go_wp2
    repeat (go_quiet (fail); try go_wp2)
    go_ret2
    exact ⟨by first | rfl | (simp [*]; done), by first | exact (((Below.refl _ _).alloc (Nat.le_refl _) _).alloc (by simp) _) | exact pw_below_drewN (((Below.refl _ _).alloc (Nat.le_refl _) _).alloc (by simp) _) _⟩
  · -- kinds 3, 1
    simp [] at hr
    obtain ⟨rfl, rfl⟩ := hr
    go_enter Tryd.func19, Tryd.ntmps19
    go_wp2
    repeat (go_quiet (fail); try go_wp2)
    go_ret2
    exact ⟨by first | rfl | (simp [*]; done), by first | exact (((Below.refl _ _).alloc (Nat.le_refl _) _).alloc (by simp) _) | exact pw_below_drewN (((Below.refl _ _).alloc (Nat.le_refl _) _).alloc (by simp) _) _⟩
  · -- kinds 3, 3
    rcases II.out n n' with ⟨g1, g2, g3⟩ | ⟨g1, g2, g3⟩ | ⟨g1, g2, g3⟩
    · skip
      simp [g1] at hr
      obtain ⟨rfl, rfl⟩ := hr
      go_enter Tryd.func19, Tryd.ntmps19
      go_wp2
      repeat (go_quiet (fail); try go_wp2)
      go_ret2
      exact ⟨by first | rfl | (simp [*]; done), by first | exact (((Below.refl _ _).alloc (Nat.le_refl _) _).alloc (by simp) _) | exact pw_below_drewN (((Below.refl _ _).alloc (Nat.le_refl _) _).alloc (by simp) _) _⟩
    · skip
      simp [g1] at hr
      obtain ⟨rfl, rfl⟩ := hr
      go_enter Tryd.func19, Tryd.ntmps19
      go_wp2
      repeat (go_quiet (fail); try go_wp2)
      go_ret2
      exact ⟨by first | rfl | (simp [*]; done), by first | exact (((Below.refl _ _).alloc (Nat.le_refl _) _).alloc (by simp) _) | exact pw_below_drewN (((Below.refl _ _).alloc (Nat.le_refl _) _).alloc (by simp) _) _⟩
    · skip
      simp [g1] at hr
      obtain ⟨rfl, rfl⟩ := hr
      go_enter Tryd.func19, Tryd.ntmps19
      go_wp2
      repeat (go_quiet (fail); try go_wp2)
      go_ret2
      exact ⟨by first | rfl | (simp [*]; done), by first | exact (((Below.refl _ _).alloc (Nat.le_refl _) _).alloc (by simp) _) | exact pw_below_drewN (((Below.refl _ _).alloc (Nat.le_refl _) _).alloc (by simp) _) _⟩
  · -- kinds 3, 4
    rcases NN.out f' with nf' | nf'
    · skip
      simp [nf'.1] at hr
      obtain ⟨rfl, rfl⟩ := hr
      have nfph := nf'.2
      go_enter Tryd.func19, Tryd.ntmps19
      go_wp2
      repeat (go_quiet (fail); try go_wp2)
      go_ret2
      exact ⟨by first | rfl | (simp [*]; done), by first | exact (((Below.refl _ _).alloc (Nat.le_refl _) _).alloc (by simp) _) | exact pw_below_drewN (((Below.refl _ _).alloc (Nat.le_refl _) _).alloc (by simp) _) _⟩
    · skip
      simp [nf'.1] at hr
      obtain ⟨rfl, rfl⟩ := hr
      have nfph := nf'.2
      go_enter Tryd.func19, Tryd.ntmps19
      go_wp2_with fail
      refine (rmixed_calls _ _ _ nf'.1 X1.out X2.out).mono ?_
      rintro e w1 ⟨rfl, rfl⟩
      go_wp2
      repeat (go_quiet (fail); try go_wp2)
      go_ret2
      exact ⟨by first | rfl | (simp [*]; done), by first | exact (((Below.refl _ _).alloc (Nat.le_refl _) _).alloc (by simp) _) | exact pw_below_drewN (((Below.refl _ _).alloc (Nat.le_refl _) _).alloc (by simp) _) _⟩
  · -- kinds 3, else
    simp [z4, z5, z6] at hr
    obtain ⟨rfl, rfl⟩ := hr
    go_enter Tryd.func19, Tryd.ntmps19
    go_wp2
    repeat (go_quiet (fail); try go_wp2)
    go_ret2
    exact ⟨by first | rfl | (simp [*]; done), by first | exact (((Below.refl _ _).alloc (Nat.le_refl _) _).alloc (by simp) _) | exact pw_below_drewN (((Below.refl _ _).alloc (Nat.le_refl _) _).alloc (by simp) _) _⟩
  · -- kinds 4, 1
    rcases NN.out f with nf | nf
    · skip
      simp [nf.1] at hr
      obtain ⟨rfl, rfl⟩ := hr
      have nfh := nf.2
      go_enter Tryd.func19, Tryd.ntmps19
      go_wp2
      repeat (go_quiet (fail); try go_wp2)
      go_ret2
      exact ⟨by first | rfl | (simp [*]; done), by first | exact (((Below.refl _ _).alloc (Nat.le_refl _) _).alloc (by simp) _) | exact pw_below_drewN (((Below.refl _ _).alloc (Nat.le_refl _) _).alloc (by simp) _) _⟩
    · skip
      simp [nf.1] at hr
      obtain ⟨rfl, rfl⟩ := hr
      have nfh := nf.2
      go_enter Tryd.func19, Tryd.ntmps19
      go_wp2
      repeat (go_quiet (fail); try go_wp2)
      go_ret2
      exact ⟨by first | rfl | (simp [*]; done), by first | exact (((Below.refl _ _).alloc (Nat.le_refl _) _).alloc (by simp) _) | exact pw_below_drewN (((Below.refl _ _).alloc (Nat.le_refl _) _).alloc (by simp) _) _⟩
  · -- kinds 4, 3
    rcases NN.out f with nf | nf
    · skip
      simp [nf.1] at hr
      obtain ⟨rfl, rfl⟩ := hr
      have nfh := nf.2
      go_enter Tryd.func19, Tryd.ntmps19
      go_wp2
      repeat (go_quiet (fail); try go_wp2)
      go_ret2
      exact ⟨by first | rfl | (simp [*]; done), by first | exact (((Below.refl _ _).alloc (Nat.le_refl _) _).alloc (by simp) _) | exact pw_below_drewN (((Below.refl _ _).alloc (Nat.le_refl _) _).alloc (by simp) _) _⟩
    · skip
      simp [nf.1] at hr
      obtain ⟨rfl, rfl⟩ := hr
      have nfh := nf.2
      have hwr := HWR.out
      go_enter Tryd.func19, Tryd.ntmps19
      go_wp2_with fail
      refine (rmixed_calls _ _ _ nf.1 Y1.out Y2.out).mono ?_
      rintro e w1 ⟨rfl, rfl⟩
      go_wp2
      repeat (go_quiet (fail); try go_wp2)
      go_ret2
      exact ⟨by first | rfl | (simp [*]; done), by first | exact (((Below.refl _ _).alloc (Nat.le_refl _) _).alloc (by simp) _) | exact pw_below_drewN (((Below.refl _ _).alloc (Nat.le_refl _) _).alloc (by simp) _) _⟩
  · -- kinds 4, 4
    rcases NN.out f with nf | nf
    · skip
      simp [nf.1] at hr
      obtain ⟨rfl, rfl⟩ := hr
      have nfh := nf.2
      go_enter Tryd.func19, Tryd.ntmps19
      go_wp2
      repeat (go_quiet (fail); try go_wp2)
      go_ret2
      exact ⟨by first | rfl | (simp [*]; done), by first | exact (((Below.refl _ _).alloc (Nat.le_refl _) _).alloc (by simp) _) | exact pw_below_drewN (((Below.refl _ _).alloc (Nat.le_refl _) _).alloc (by simp) _) _⟩
    · skip
      rcases NN.out f' with nf' | nf'
      · skip
        simp [nf.1, nf'.1] at hr
        obtain ⟨rfl, rfl⟩ := hr
        have nfh := nf.2
        have nfph := nf'.2
        go_enter Tryd.func19, Tryd.ntmps19
        go_wp2
        repeat (go_quiet (fail); try go_wp2)
        go_ret2
        exact ⟨by first | rfl | (simp [*]; done), by first | exact (((Below.refl _ _).alloc (Nat.le_refl _) _).alloc (by simp) _) | exact pw_below_drewN (((Below.refl _ _).alloc (Nat.le_refl _) _).alloc (by simp) _) _⟩
      · skip
        rcases FF.out f f' nf.1 nf'.1 with ⟨g1, g2, g3⟩ | ⟨g1, g2, g3⟩ | ⟨g1, g2, g3⟩
        · skip
          simp [nf.1, nf'.1, g1] at hr
          obtain ⟨rfl, rfl⟩ := hr
          have nfh := nf.2
          have nfph := nf'.2
          go_enter Tryd.func19, Tryd.ntmps19
          go_wp2
          repeat (go_quiet (fail); try go_wp2)
          go_ret2
          exact ⟨by first | rfl | (simp [*]; done), by first | exact (((Below.refl _ _).alloc (Nat.le_refl _) _).alloc (by simp) _) | exact pw_below_drewN (((Below.refl _ _).alloc (Nat.le_refl _) _).alloc (by simp) _) _⟩
        · skip
          simp [nf.1, nf'.1, g1] at hr
          obtain ⟨rfl, rfl⟩ := hr
          have nfh := nf.2
          have nfph := nf'.2
          go_enter Tryd.func19, Tryd.ntmps19
          go_wp2
          repeat (go_quiet (fail); try go_wp2)
          go_ret2
          exact ⟨by first | rfl | (simp [*]; done), by first | exact (((Below.refl _ _).alloc (Nat.le_refl _) _).alloc (by simp) _) | exact pw_below_drewN (((Below.refl _ _).alloc (Nat.le_refl _) _).alloc (by simp) _) _⟩
        · skip
          simp [nf.1, nf'.1, g1] at hr
          obtain ⟨rfl, rfl⟩ := hr
          have nfh := nf.2
          have nfph := nf'.2
          go_enter Tryd.func19, Tryd.ntmps19
          go_wp2
          repeat (go_quiet (fail); try go_wp2)
          go_ret2
          exact ⟨by first | rfl | (simp [*]; done), by first | exact (((Below.refl _ _).alloc (Nat.le_refl _) _).alloc (by simp) _) | exact pw_below_drewN (((Below.refl _ _).alloc (Nat.le_refl _) _).alloc (by simp) _) _⟩
  · -- kinds 4, else
    rcases NN.out f with nf | nf
    · skip
      simp [z4, z5, z6, nf.1] at hr
      obtain ⟨rfl, rfl⟩ := hr
      have nfh := nf.2
      go_enter Tryd.func19, Tryd.ntmps19
      go_wp2
      repeat (go_quiet (fail); try go_wp2)
      go_ret2
      exact ⟨by first | rfl | (simp [*]; done), by first | exact (((Below.refl _ _).alloc (Nat.le_refl _) _).alloc (by simp) _) | exact pw_below_drewN (((Below.refl _ _).alloc (Nat.le_refl _) _).alloc (by simp) _) _⟩
    · skip
      simp [z4, z5, z6, nf.1] at hr
      obtain ⟨rfl, rfl⟩ := hr
      have nfh := nf.2
      go_enter Tryd.func19, Tryd.ntmps19
      go_wp2
      repeat (go_quiet (fail); try go_wp2)
      go_ret2
      exact ⟨by first | rfl | (simp [*]; done), by first | exact (((Below.refl _ _).alloc (Nat.le_refl _) _).alloc (by simp) _) | exact pw_below_drewN (((Below.refl _ _).alloc (Nat.le_refl _) _).alloc (by simp) _) _⟩
  · -- kinds else, 1
    simp [q4, q5, q6] at hr
    obtain ⟨rfl, rfl⟩ := hr
    go_enter Tryd.func19, Tryd.ntmps19
    go_wp2
    repeat (go_quiet (fail); try go_wp2)
    go_ret2
    exact ⟨by first | rfl | (simp [*]; done), by first | exact (((Below.refl _ _).alloc (Nat.le_refl _) _).alloc (by simp) _) | exact pw_below_drewN (((Below.refl _ _).alloc (Nat.le_refl _) _).alloc (by simp) _) _⟩
  · -- kinds else, 3
    simp [q4, q5, q6] at hr
    obtain ⟨rfl, rfl⟩ := hr
    go_enter Tryd.func19, Tryd.ntmps19
    go_wp2
    repeat (go_quiet (fail); try go_wp2)
    go_ret2
    exact ⟨by first | rfl | (simp [*]; done), by first | exact (((Below.refl _ _).alloc (Nat.le_refl _) _).alloc (by simp) _) | exact pw_below_drewN (((Below.refl _ _).alloc (Nat.le_refl _) _).alloc (by simp) _) _⟩
  · -- kinds else, 4
    rcases NN.out f' with nf' | nf'
    · skip
      simp [q4, q5, q6, nf'.1] at hr
      obtain ⟨rfl, rfl⟩ := hr
      have nfph := nf'.2
      go_enter Tryd.func19, Tryd.ntmps19
      go_wp2
      repeat (go_quiet (fail); try go_wp2)
      go_ret2
      exact ⟨by first | rfl | (simp [*]; done), by first | exact (((Below.refl _ _).alloc (Nat.le_refl _) _).alloc (by simp) _) | exact pw_below_drewN (((Below.refl _ _).alloc (Nat.le_refl _) _).alloc (by simp) _) _⟩
    · skip
      simp [q4, q5, q6, nf'.1] at hr
      obtain ⟨rfl, rfl⟩ := hr
      have nfph := nf'.2
      go_enter Tryd.func19, Tryd.ntmps19
      go_wp2
      repeat (go_quiet (fail); try go_wp2)
      go_ret2
      exact ⟨by first | rfl | (simp [*]; done), by first | exact (((Below.refl _ _).alloc (Nat.le_refl _) _).alloc (by simp) _) | exact pw_below_drewN (((Below.refl _ _).alloc (Nat.le_refl _) _).alloc (by simp) _) _⟩
  · -- kinds else, else
    simp [q4, q5, q6, z4, z5, z6] at hr
    obtain ⟨rfl, rfl⟩ := hr
    go_enter Tryd.func19, Tryd.ntmps19
    go_wp2
    repeat (go_quiet (fail); try go_wp2)
    go_ret2
    exact ⟨by first | rfl | (simp [*]; done), by first | exact (((Below.refl _ _).alloc (Nat.le_refl _) _).alloc (by simp) _) | exact pw_below_drewN (((Below.refl _ _).alloc (Nat.le_refl _) _).alloc (by simp) _) _⟩
end Go.Proofs.YtbgfiflnfndckaaDoor
