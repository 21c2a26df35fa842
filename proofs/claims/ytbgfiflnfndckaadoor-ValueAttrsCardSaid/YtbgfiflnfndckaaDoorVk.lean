/- The walk of flat: are two values the same, but for what their lists have? No conditions but the kinds' own. -/
import Derived.Test.YtbgfiflnfndckaaDoorVj
set_option linter.unusedVariables false
set_option linter.unusedSimpArgs false
namespace Go.Proofs.YtbgfiflnfndckaaDoor
open Go.RowKit Go.Proofs.YtbgfiflnfndckaaDoorW.PrintWords
attribute [local go_sem] run_store_float

set_option maxHeartbeats 4000000 in
set_option maxRecDepth 100000 in
theorem flat_calls (x y : Vs.Sc) (A B A' B' : Option Addr) (la ca lb cb la' ca' lb' cb' : Nat) (w : World) :
    Calls Tryd.prog 50 #[.agg (cellsV x (.slice A la ca) (.slice B lb cb)), .agg (cellsV y (.slice A' la' ca') (.slice B' lb' cb'))] w fun e w' =>
      e = .returned (.bool (Vs.flat x y la la' lb lb')) ∧ Below w.heap.size w w' := by
  obtain ⟨k, s, b, n, f⟩ := x
  obtain ⟨k', s', b', n', f'⟩ := y
  unfold cellsV Vs.flat
  simp only
  obtain ⟨r, hr⟩ : ∃ r, r = (k == k' && (s.toList == s'.toList && (b == b' && (n == n' && (f == f' && (la == la' && lb == lb')))))) := ⟨_, rfl⟩
  rw [← hr]
  have hf := run_f64bits
  have c1 : ((k : Int) == (k' : Int)) = (k == k') := by rw [Bool.eq_iff_iff]; simp only [beq_iff_eq]; omega
  have c5 : ((f : Int) == (f' : Int)) = (f == f') := by rw [Bool.eq_iff_iff]; simp only [beq_iff_eq]; omega
  have c6 : ((la : Int) == (la' : Int)) = (la == la') := by rw [Bool.eq_iff_iff]; simp only [beq_iff_eq]; omega
  have c7 : ((lb : Int) == (lb' : Int)) = (lb == lb') := by rw [Bool.eq_iff_iff]; simp only [beq_iff_eq]; omega
  cases h1 : (k == k')
  · skip
    rw [h1] at c1
    simp only [h1, Bool.true_and, Bool.false_and] at hr
    clear h1
    clear c5
    clear c6
    clear c7
    subst hr
    go_enter Tryd.func50, Tryd.ntmps50
    go_wp2
    repeat (go_quiet (fail); try go_wp2)
    go_ret
    exact ⟨rfl, by first | exact ((Below.refl _ _).alloc (Nat.le_refl _) _).alloc (by simp) _ | exact pw_below_drewN (((Below.refl _ _).alloc (Nat.le_refl _) _).alloc (by simp) _) _⟩
  cases h2 : (s.toList == s'.toList)
  · skip
    rw [h1] at c1
    simp only [h1, h2, Bool.true_and, Bool.false_and] at hr
    clear h1
    clear c5
    clear c6
    clear c7
    subst hr
    go_enter Tryd.func50, Tryd.ntmps50
    go_wp2
    repeat (go_quiet (fail); try go_wp2)
    go_ret
    exact ⟨rfl, by first | exact ((Below.refl _ _).alloc (Nat.le_refl _) _).alloc (by simp) _ | exact pw_below_drewN (((Below.refl _ _).alloc (Nat.le_refl _) _).alloc (by simp) _) _⟩
  cases h3 : (b == b')
  · skip
    rw [h1] at c1
    simp only [h1, h2, h3, Bool.true_and, Bool.false_and] at hr
    clear h1
    clear c5
    clear c6
    clear c7
    subst hr
    go_enter Tryd.func50, Tryd.ntmps50
    go_wp2
    repeat (go_quiet (fail); try go_wp2)
    go_ret
    exact ⟨rfl, by first | exact ((Below.refl _ _).alloc (Nat.le_refl _) _).alloc (by simp) _ | exact pw_below_drewN (((Below.refl _ _).alloc (Nat.le_refl _) _).alloc (by simp) _) _⟩
  cases h4 : (n == n')
  · skip
    rw [h1] at c1
    simp only [h1, h2, h3, h4, Bool.true_and, Bool.false_and] at hr
    clear h1
    clear c5
    clear c6
    clear c7
    subst hr
    go_enter Tryd.func50, Tryd.ntmps50
    go_wp2
    repeat (go_quiet (fail); try go_wp2)
    go_ret
    exact ⟨rfl, by first | exact ((Below.refl _ _).alloc (Nat.le_refl _) _).alloc (by simp) _ | exact pw_below_drewN (((Below.refl _ _).alloc (Nat.le_refl _) _).alloc (by simp) _) _⟩
  cases h5 : (f == f')
  · skip
    rw [h1] at c1
    rw [h5] at c5
    simp only [h1, h2, h3, h4, h5, Bool.true_and, Bool.false_and] at hr
    clear h1
    clear h5
    clear c6
    clear c7
    subst hr
    go_enter Tryd.func50, Tryd.ntmps50
    go_wp2
    repeat (go_quiet (fail); try go_wp2)
    go_ret
    exact ⟨rfl, by first | exact ((Below.refl _ _).alloc (Nat.le_refl _) _).alloc (by simp) _ | exact pw_below_drewN (((Below.refl _ _).alloc (Nat.le_refl _) _).alloc (by simp) _) _⟩
  cases h6 : (la == la')
  · skip
    rw [h1] at c1
    rw [h5] at c5
    rw [h6] at c6
    simp only [h1, h2, h3, h4, h5, h6, Bool.true_and, Bool.false_and] at hr
    clear h1
    clear h5
    clear h6
    clear c7
    subst hr
    go_enter Tryd.func50, Tryd.ntmps50
    go_wp2
    repeat (go_quiet (fail); try go_wp2)
    go_ret
    exact ⟨rfl, by first | exact ((Below.refl _ _).alloc (Nat.le_refl _) _).alloc (by simp) _ | exact pw_below_drewN (((Below.refl _ _).alloc (Nat.le_refl _) _).alloc (by simp) _) _⟩
  cases h7 : (lb == lb')
  · skip
    rw [h1] at c1
    rw [h5] at c5
    rw [h6] at c6
    rw [h7] at c7
    simp only [h1, h2, h3, h4, h5, h6, h7, Bool.true_and, Bool.false_and] at hr
    clear h1
    clear h5
    clear h6
    clear h7
    subst hr
    go_enter Tryd.func50, Tryd.ntmps50
    go_wp2
    repeat (go_quiet (fail); try go_wp2)
    go_ret
    exact ⟨rfl, by first | exact ((Below.refl _ _).alloc (Nat.le_refl _) _).alloc (by simp) _ | exact pw_below_drewN (((Below.refl _ _).alloc (Nat.le_refl _) _).alloc (by simp) _) _⟩
  · skip
    rw [h1] at c1
    rw [h5] at c5
    rw [h6] at c6
    rw [h7] at c7
    simp only [h1, h2, h3, h4, h5, h6, h7, Bool.true_and, Bool.false_and] at hr
    clear h1
    clear h5
    clear h6
    clear h7
    subst hr
    go_enter Tryd.func50, Tryd.ntmps50
    go_wp2
    repeat (go_quiet (fail); try go_wp2)
    go_ret
    exact ⟨rfl, by first | exact ((Below.refl _ _).alloc (Nat.le_refl _) _).alloc (by simp) _ | exact pw_below_drewN (((Below.refl _ _).alloc (Nat.le_refl _) _).alloc (by simp) _) _⟩
end Go.Proofs.YtbgfiflnfndckaaDoor
