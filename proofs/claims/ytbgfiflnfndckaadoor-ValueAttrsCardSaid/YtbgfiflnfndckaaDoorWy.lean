/- The walks of what a field may be and how long it is. No conditions but the numbers' kinds. -/
import Derived.Test.YtbgfiflnfndckaaDoorWv
set_option linter.unusedVariables false
set_option linter.unusedSimpArgs false
namespace Go.Proofs.YtbgfiflnfndckaaDoor
open Go.RowKit Go.Proofs.YtbgfiflnfndckaaDoorW.PrintWords

set_option maxHeartbeats 4000000 in
set_option maxRecDepth 100000 in
theorem may_calls (k : Int) (x n : Nat) (s : List UInt8) (w : World) :
    Calls Tryd.prog 105 #[fval ⟨k, x, n, s⟩] w fun e w' => e = .returned (.bool (Ws.may ⟨k, x, n, s⟩)) ∧ Below w.heap.size w w' := by
  have hb : ∀ o, Below w.heap.size w (w.alloc o) := fun o => (Below.refl _ _).alloc (Nat.le_refl _) o
  have Hb := Lib.hid hb
  clear hb
  unfold fval
  have hk : k < 1 ∨ (1 ≤ k ∧ 536870911 < k) ∨ (1 ≤ k ∧ k ≤ 536870911) := by omega
  have hsl : s.length ≤ 65536 ∨ 65536 < s.length := by omega
  by_cases h0 : x = 0
  · subst h0
    cases s <;> rcases hk with hk | ⟨hk, hk2⟩ | ⟨hk, hk2⟩
    all_goals
      go_enter Tryd.func105, Tryd.ntmps105
      go_wp2
      go_ret
      exact ⟨by first | (simp [Ws.may]; done) | (simp [Ws.may]; omega) | (simp [Ws.may, show ¬ k ≤ 536870911 by omega]), Hb.out _⟩
  by_cases h1 : x = 1
  · subst h1
    cases s <;> rcases hk with hk | ⟨hk, hk2⟩ | ⟨hk, hk2⟩
    all_goals
      go_enter Tryd.func105, Tryd.ntmps105
      go_wp2
      go_ret
      exact ⟨by first | (simp [Ws.may]; done) | (simp [Ws.may]; omega) | (simp [Ws.may, show ¬ k ≤ 536870911 by omega]), Hb.out _⟩
  by_cases h5 : x = 5
  · subst h5
    have hn : n / 4294967296 = 0 ∨ n / 4294967296 ≠ 0 := by omega
    have hq : (n : Int) / 4294967296 = ((n / 4294967296 : Nat) : Int) := rfl
    rcases hn with hn | hn
    · have e : (n : Int) / 4294967296 = 0 := by omega
      have hn' : n < 4294967296 := by omega
      clear hq hn
      cases s <;> rcases hk with hk | ⟨hk, hk2⟩ | ⟨hk, hk2⟩
      all_goals
        go_enter Tryd.func105, Tryd.ntmps105
        go_wp2
        go_ret
        exact ⟨by first | (simp [Ws.may]; done) | (simp [Ws.may]; omega) | (simp [Ws.may, show ¬ k ≤ 536870911 by omega]), Hb.out _⟩
    · have e : ((n : Int) / 4294967296 == 0) = false := by rw [beq_eq_false_iff_ne]; omega
      have hn' : 4294967296 ≤ n := by omega
      clear hq hn
      cases s <;> rcases hk with hk | ⟨hk, hk2⟩ | ⟨hk, hk2⟩
      all_goals
        go_enter Tryd.func105, Tryd.ntmps105
        go_wp2
        go_ret
        exact ⟨by first | (simp [Ws.may]; done) | (simp [Ws.may]; omega) | (simp [Ws.may, show ¬ k ≤ 536870911 by omega]), Hb.out _⟩
  by_cases h2 : x = 2
  · subst h2
    have hn : n = 0 ∨ 0 < n := by omega
    rcases hn with rfl | hn <;> rcases hsl with hsl | hsl <;> rcases hk with hk | ⟨hk, hk2⟩ | ⟨hk, hk2⟩
    all_goals
      go_enter Tryd.func105, Tryd.ntmps105
      go_wp2
      go_ret
      exact ⟨by first | (simp [Ws.may]; done) | (simp [Ws.may]; omega) | (simp [Ws.may, show ¬ k ≤ 536870911 by omega]), Hb.out _⟩
  · have e0 : ((x : Int) == 0) = false := by rw [beq_eq_false_iff_ne]; omega
    have e1 : ((x : Int) == 1) = false := by rw [beq_eq_false_iff_ne]; omega
    have e5 : ((x : Int) == 5) = false := by rw [beq_eq_false_iff_ne]; omega
    have e2 : ((x : Int) == 2) = false := by rw [beq_eq_false_iff_ne]; omega
    clear hk hsl
    go_enter Tryd.func105, Tryd.ntmps105
    go_wp2
    go_ret
    exact ⟨by simp [Ws.may, h0, h1, h2, h5], Hb.out _⟩
end Go.Proofs.YtbgfiflnfndckaaDoor
