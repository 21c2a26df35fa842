/- The walks of what a field may be and of a number's bytes, the document's own. No conditions but the numbers' kinds. -/
import Derived.Test.YtehmneckcfchmaaOp
set_option linter.unusedVariables false
set_option linter.unusedSimpArgs false
namespace Go.Proofs.Ytehmneckcfchmaa
open Go.RowKit Go.Proofs.YtehmneckcfchmaaW.PrintWords

set_option maxHeartbeats 4000000 in
set_option maxRecDepth 100000 in
theorem rmay_calls (k : Int) (x n : Nat) (s : List UInt8) (w : World) (hsm : s.length ≤ 9223372036854775807) :
    Calls Try.prog 33 #[fval ⟨k, x, n, s⟩] w fun e w' => e = .returned (.bool (Ws.may ⟨k, x, n, s⟩)) ∧ Below w.heap.size w w' := by
  have hb : ∀ o, Below w.heap.size w (w.alloc o) := fun o => (Below.refl _ _).alloc (Nat.le_refl _) o
  have Hb := Lib.hid hb
  clear hb
  unfold fval
  have hss : (⟨s.toArray⟩ : ByteArray).size = s.length := by simp [ByteArray.size]
  by_cases hk1 : k < 1
  · have h : Ws.may ⟨k, x, n, s⟩ = false := by simp [Ws.may, show ¬ 1 ≤ k by omega]
    rw [h]
    clear h
    go_enter Try.func33, Try.ntmps33
    go_wp2
    go_ret
    exact ⟨rfl, Hb.out _⟩
  by_cases hk2 : 536870911 < k
  · have h : Ws.may ⟨k, x, n, s⟩ = false := by simp [Ws.may, show ¬ k ≤ 536870911 by omega]
    rw [h]
    clear h
    go_enter Try.func33, Try.ntmps33
    go_wp2
    go_ret
    exact ⟨rfl, Hb.out _⟩
  have hk3 : 1 ≤ k ∧ k ≤ 536870911 := by omega
  have Hk := Lib.hid hk3
  clear hk3
  by_cases h01 : x = 0 ∨ x = 1
  · have h : Ws.may ⟨k, x, n, s⟩ = decide (s = []) := by
      have := Hk.out
      rcases h01 with rfl | rfl <;> simp [Ws.may, this]
    rw [h]
    clear h
    rcases h01 with rfl | rfl <;> cases s
    all_goals
      go_enter Try.func33, Try.ntmps33
      go_wp2
      go_ret
      exact ⟨by simp, Hb.out _⟩
  by_cases h5 : x = 5
  · subst h5
    have h : Ws.may ⟨k, 5, n, s⟩ = decide (s = [] ∧ n < 4294967296) := by
      have := Hk.out
      simp [Ws.may, this]
    rw [h]
    clear h h01
    have hn : (n : Int) < 4294967296 ∨ ¬ (n : Int) < 4294967296 := by omega
    rcases hn with hn | hn <;> cases s
    all_goals
      go_enter Try.func33, Try.ntmps33
      go_wp2
      go_ret
      exact ⟨by simp; try omega, Hb.out _⟩
  by_cases h2 : x = 2
  · subst h2
    have h : Ws.may ⟨k, 2, n, s⟩ = decide (n = 0 ∧ s.length ≤ 65536) := by
      have := Hk.out
      simp [Ws.may, this]
    rw [h]
    clear h h01 h5
    have hn : n = 0 ∨ 0 < n := by omega
    have hsl : s.length ≤ 65536 ∨ 65536 < s.length := by omega
    rcases hn with rfl | hn <;> rcases hsl with hsl | hsl
    all_goals
      go_enter Try.func33, Try.ntmps33
      go_wp2
      go_ret
      exact ⟨by first | (simp; done) | (simp; omega), Hb.out _⟩
  · have e0 : ((x : Int) == 0) = false := by rw [beq_eq_false_iff_ne]; omega
    have e1 : ((x : Int) == 1) = false := by rw [beq_eq_false_iff_ne]; omega
    have e5 : ((x : Int) == 5) = false := by rw [beq_eq_false_iff_ne]; omega
    have e2 : ((x : Int) == 2) = false := by rw [beq_eq_false_iff_ne]; omega
    have h : Ws.may ⟨k, x, n, s⟩ = false := by
      have h1 : ¬ (x = 0 ∨ x = 1) := h01
      simp [Ws.may, h1, h5, h2]
    rw [h]
    clear h h01 h5 h2
    go_enter Try.func33, Try.ntmps33
    go_wp2
    go_ret
    exact ⟨rfl, Hb.out _⟩
end Go.Proofs.Ytehmneckcfchmaa
