/- The walks of an int held against a float; of a float's bits. No conditions but the kinds' own. -/
import Derived.Test.YtbgfiflnfndckaaDoorVc
import Derived.Laws.Externs
set_option linter.unusedVariables false
set_option linter.unusedSimpArgs false
namespace Go.Proofs.YtbgfiflnfndckaaDoor
open Go.RowKit Go.Proofs.YtbgfiflnfndckaaDoorW.PrintWords

theorem run_f64bits (x : Nat) (w : World) : (callFunc 59 #[.float .f64 x]).run Tryd.prog w = .ok (.value (.int .u64 x)) w := by
  rw [run_callFunc_extern (e := Extern.MathFloatBits.float64bits) Tryd.func59 (by kernel_rfl) (by kernel_rfl) (by kernel_rfl) (by kernel_rfl)]
  rfl
theorem run_f64of (x : Nat) (w : World) : (callFunc 16 #[.int .u64 x]).run Tryd.prog w = .ok (.value (.float .f64 x)) w := by
  rw [run_callFunc_extern (e := Extern.MathFloatBits.float64frombits) Tryd.func16 (by kernel_rfl) (by kernel_rfl) (by kernel_rfl) (by kernel_rfl)]
  rfl
theorem run_archFloor (x : Nat) (w : World) (hx : Vs.isNan x = false) : (callFunc 95 #[.float .f64 x]).run Tryd.prog w = .ok (.value (.float .f64 (Vs.floorW x))) w := by
  rw [run_callFunc_extern (e := Extern.MathFloor.toIntegral "math.archFloor" .down) Tryd.func95 (by kernel_rfl) (by kernel_rfl) (by kernel_rfl) (by kernel_rfl)]
  have h : (FloatKind.f64.decode x).isNaN = false := hx
  have e : Extern.MathFloor.toIntegral "math.archFloor" .down #[.float .f64 x] = pure (.float .f64 (Vs.floorW x)) := by
    unfold Vs.floorW
    show (match FloatKind.f64.decode x with | .nan s t => _ | d => _) = _
    cases hd : FloatKind.f64.decode x with
    | number s m i => rfl
    | infinity s => rfl
    | nan s t => rw [hd] at h; cases h
  rw [e]
  rfl

theorem floor_calls (x : Nat) (w : World) (hx : Vs.isNan x = false) : Calls Tryd.prog 77 #[.float .f64 x] w fun e w' => e = .returned (.float .f64 (Vs.floorW x)) ∧ w' = w := by
  have hr := fun w => run_archFloor x w hx
  go_enter Tryd.func77, Tryd.ntmps77
  go_wp2
  go_ret
  exact ⟨rfl, rfl⟩

namespace Vs
theorem num_top : num 4890909195324358656 = p2 1137 ∧ isNan 4890909195324358656 = false := by decide +kernel
theorem num_low : num 14114281232179134464 = -p2 1137 ∧ isNan 14114281232179134464 = false := by decide +kernel
end Vs

theorem mixed_calls (n : Int) (x : Nat) (w : World) (hx : Vs.isNan x = false) (h1 : -9223372036854775808 ≤ n) (h2 : n ≤ 9223372036854775807) :
    Calls Tryd.prog 45 #[.int .i64 n, .float .f64 x] w fun e w' => e = .returned (.int .i64 (Vs.sg (n * Vs.p2 1074) (Vs.num x))) ∧ w' = w := by
  rw [← Vs.mixed_eq n x hx h1 h2]
  clear h1 h2
  have hge : (FloatKind.f64.format.order x 4890909195324358656 == some .gt || FloatKind.f64.format.order x 4890909195324358656 == some .eq) = decide (Vs.p2 1137 ≤ Vs.num x) := by
    have a := Vs.gt_iff hx Vs.num_top.2
    have b := Vs.eq_iff hx Vs.num_top.2
    rw [Vs.num_top.1] at a b
    show (Ieee.double.order x 4890909195324358656 == some .gt || Ieee.double.order x 4890909195324358656 == some .eq) = _
    rw [a, b, Bool.eq_iff_iff]
    simp only [Bool.or_eq_true, decide_eq_true_eq]
    omega
  have hlt : (FloatKind.f64.format.order x 14114281232179134464 == some .lt) = decide (Vs.num x < -Vs.p2 1137) := by
    have a := Vs.lt_iff hx Vs.num_low.2
    rw [Vs.num_low.1] at a
    exact a
  have HX := Lib.hid hx
  by_cases c1 : Vs.p2 1137 ≤ Vs.num x
  · have hr : Vs.mixed n x = -1 := by unfold Vs.mixed; rw [if_neg (by omega), if_pos c1]
    rw [hr]
    rw [decide_eq_true c1] at hge
    clear hx c1 hr
    go_enter Tryd.func45, Tryd.ntmps45
    go_wp2
    go_ret
    exact ⟨rfl, rfl⟩
  · rw [decide_eq_false c1] at hge
    by_cases c2 : Vs.num x < -Vs.p2 1137
    · have hr : Vs.mixed n x = 1 := by unfold Vs.mixed; rw [if_neg (by omega), if_neg c1]
      rw [hr]
      rw [decide_eq_true c2] at hlt
      clear hx c1 c2 hr
      go_enter Tryd.func45, Tryd.ntmps45
      go_wp2
      go_ret
      exact ⟨rfl, rfl⟩
    · rw [decide_eq_false c2] at hlt
      obtain ⟨fl, e1, e2, e3, e4, e5, e6, e7⟩ := Vs.floor_ x hx (by omega) (by omega)
      have hr : Vs.mixed n x = if Vs.sg n fl ≠ 0 then Vs.sg n fl else Vs.sg (Vs.num (Vs.floorW x)) (Vs.num x) := by
        unfold Vs.mixed; rw [if_pos (by omega), e5]
      have HN := Lib.hid e2
      rw [hr]
      have hcv : ∀ w : World, (convert 23 2 (.float .f64 (Vs.floorW x))).run Tryd.prog w = .ok (.int .i64 fl) w := fun w =>
        run_convert_float_int w _ _ .f64 .i64 _ fl (by kernel_rfl) (by kernel_rfl) (by
          unfold floatToIntVal
          rw [e5]
          have k1 : IntKind.i64.min = -9223372036854775808 := by decide
          have k2 : IntKind.i64.max = 9223372036854775807 := by decide
          simp only [k1, k2]
          rw [if_pos ⟨e6, e7⟩])
      clear hx c1 c2 e1 e2 e3 e4 e5 e6 e7 hr
      by_cases c3 : Vs.sg n fl = 0
      · rw [if_neg (by simp [c3])]
        have c4 : (Vs.sg n fl != 0) = false := by rw [c3]; rfl
        clear c3
        go_enter Tryd.func45, Tryd.ntmps45
        go_wp2_with fail
        refine (floor_calls x _ HX.out).mono ?_
        rintro e w1 ⟨rfl, rfl⟩
        go_wp2_with fail
        refine (icmp_calls n fl _).mono ?_
        rintro e w1 ⟨rfl, rfl⟩
        go_wp2_with fail
        refine (fcmp_calls (Vs.floorW x) x _ HN.out HX.out).mono ?_
        rintro e w1 ⟨rfl, rfl⟩
        go_wp2
        go_ret
        exact ⟨rfl, rfl⟩
      · rw [if_pos c3]
        have c4 : (Vs.sg n fl != 0) = true := by simpa using c3
        go_enter Tryd.func45, Tryd.ntmps45
        go_wp2_with fail
        refine (floor_calls x _ HX.out).mono ?_
        rintro e w1 ⟨rfl, rfl⟩
        go_wp2_with fail
        refine (icmp_calls n fl _).mono ?_
        rintro e w1 ⟨rfl, rfl⟩
        go_wp2
        go_ret
        exact ⟨rfl, rfl⟩
end Go.Proofs.YtbgfiflnfndckaaDoor
