/- The walks of what holds numbers and texts against each other. No conditions but the kinds' own. -/
import Derived.Test.YtbgfiflnfndckaaDoorVb
import Derived.Test.YtbgfiflnfndckaaDoorWt
import Derived.WalkLawsBesides
set_option linter.unusedVariables false
set_option linter.unusedSimpArgs false
namespace Go.Proofs.YtbgfiflnfndckaaDoor
open Go.RowKit Go.Proofs.YtbgfiflnfndckaaDoorW.PrintWords

theorem isnan_calls (x : Nat) (w : World) : Calls Tryd.prog 41 #[.float .f64 x] w fun e w' => e = .returned (.bool (Vs.isNan x)) ∧ w' = w := by
  have h : (FloatKind.f64.format.order x x != some .eq) = Vs.isNan x := Vs.ne_self x
  go_enter Tryd.func41, Tryd.ntmps41
  go_wp2
  go_ret
  exact ⟨rfl, rfl⟩
theorem cisnan_calls (x : Nat) (w : World) : Calls Tryd.prog 76 #[.float .f64 x] w fun e w' => e = .returned (.bool (Vs.isNan x)) ∧ w' = w := by
  have h : (FloatKind.f64.format.order x x != some .eq) = Vs.isNan x := Vs.ne_self x
  go_enter Tryd.func76, Tryd.ntmps76
  go_wp2
  go_ret
  exact ⟨rfl, rfl⟩
theorem iisnan_calls (x : Int) (w : World) : Calls Tryd.prog 75 #[.int .i64 x] w fun e w' => e = .returned (.bool false) ∧ w' = w := by
  go_enter Tryd.func75, Tryd.ntmps75
  go_wp2
  go_ret
  exact ⟨by simp, rfl⟩
theorem sisnan_calls (x : ByteArray) (w : World) : Calls Tryd.prog 74 #[.string x] w fun e w' => e = .returned (.bool false) ∧ w' = w := by
  go_enter Tryd.func74, Tryd.ntmps74
  go_wp2
  go_ret
  exact ⟨by simp, rfl⟩

/-- cmp.Compare of two ints. -/
theorem icmp_calls (x y : Int) (w : World) : Calls Tryd.prog 43 #[.int .i64 x, .int .i64 y] w fun e w' => e = .returned (.int .i64 (Vs.sg x y)) ∧ w' = w := by
  have hs : Vs.sg x y = if x < y then -1 else if y < x then 1 else 0 := rfl
  rw [hs]
  clear hs
  go_enter Tryd.func43, Tryd.ntmps43
  go_wp2_with fail
  refine (iisnan_calls x _).mono ?_
  rintro e w1 ⟨rfl, rfl⟩
  go_wp2_with fail
  refine (iisnan_calls y _).mono ?_
  rintro e w1 ⟨rfl, rfl⟩
  by_cases h1 : x < y
  · go_wp2
    go_ret
    exact ⟨by simp [h1], rfl⟩
  · by_cases h2 : y < x
    · go_wp2
      go_ret
      exact ⟨by simp [h1, h2], rfl⟩
    · go_wp2
      go_ret
      exact ⟨by simp [h1, h2], rfl⟩

/-- Two texts. -/
theorem scmp_calls (x y : ByteArray) (w : World) : Calls Tryd.prog 42 #[.string x, .string y] w fun e w' => e = .returned (.int .i64 (Vs.ss x.toList y.toList)) ∧ w' = w := by
  have hs : Vs.ss x.toList y.toList = if Op.bytesLess x.toList y.toList = true then -1 else if Op.bytesLess y.toList x.toList = true then 1 else 0 := rfl
  rw [hs]
  clear hs
  go_enter Tryd.func42, Tryd.ntmps42
  go_wp2_with fail
  refine (sisnan_calls x _).mono ?_
  rintro e w1 ⟨rfl, rfl⟩
  go_wp2_with fail
  refine (sisnan_calls y _).mono ?_
  rintro e w1 ⟨rfl, rfl⟩
  by_cases h1 : Op.bytesLess x.toList y.toList = true
  · go_wp2
    go_ret
    exact ⟨by simp [h1], rfl⟩
  · have h1' : Op.bytesLess x.toList y.toList = false := by simpa using h1
    clear h1
    have hg := Vs.ss_gt x.toList y.toList
    rw [h1', Bool.false_or] at hg
    by_cases h2 : Op.bytesLess y.toList x.toList = true
    · rw [h2, Bool.not_eq_true'] at hg
      go_wp2
      all_goals go_ret
      all_goals exact ⟨by simp [h1', h2], rfl⟩
    · have h2' : Op.bytesLess y.toList x.toList = false := by simpa using h2
      rw [h2', Bool.not_eq_false'] at hg
      clear h2
      go_wp2
      all_goals go_ret
      all_goals exact ⟨by simp [h1', h2'], rfl⟩

/-- Two floats that are numbers. -/
theorem fcmp_calls (x y : Nat) (w : World) (hx : Vs.isNan x = false) (hy : Vs.isNan y = false) :
    Calls Tryd.prog 44 #[.float .f64 x, .float .f64 y] w fun e w' => e = .returned (.int .i64 (Vs.sg (Vs.num x) (Vs.num y))) ∧ w' = w := by
  have hs : Vs.sg (Vs.num x) (Vs.num y) = if Vs.num x < Vs.num y then -1 else if Vs.num y < Vs.num x then 1 else 0 := rfl
  rw [hs]
  clear hs
  have hl : (FloatKind.f64.format.order x y == some .lt) = decide (Vs.num x < Vs.num y) := Vs.lt_iff hx hy
  have hg : (FloatKind.f64.format.order x y == some .gt) = decide (Vs.num y < Vs.num x) := Vs.gt_iff hx hy
  have HX := Lib.hid hx
  have HY := Lib.hid hy
  clear hx hy
  go_enter Tryd.func44, Tryd.ntmps44
  go_wp2_with fail
  refine (cisnan_calls x _).mono ?_
  rw [HX.out]
  rintro e w1 ⟨rfl, rfl⟩
  go_wp2_with fail
  refine (cisnan_calls y _).mono ?_
  rw [HY.out]
  rintro e w1 ⟨rfl, rfl⟩
  by_cases h1 : Vs.num x < Vs.num y
  · rw [decide_eq_true h1] at hl
    clear hg
    go_wp2
    go_ret
    exact ⟨by simp [h1], rfl⟩
  · rw [decide_eq_false h1] at hl
    by_cases h2 : Vs.num y < Vs.num x
    · rw [decide_eq_true h2] at hg
      go_wp2
      go_ret
      exact ⟨by simp [h1, h2], rfl⟩
    · rw [decide_eq_false h2] at hg
      go_wp2
      go_ret
      exact ⟨by simp [h1, h2], rfl⟩
end Go.Proofs.YtbgfiflnfndckaaDoor
