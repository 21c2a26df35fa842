/- The walks of bare and flat. No conditions but the kinds' own. -/
import Derived.Test.YtbgfiflnfndckaaDoorVe
import Derived.Test.YtbgfiflnfndckaaDoorVi
import Derived.Deep.QuietTactic
set_option linter.unusedVariables false
set_option linter.unusedSimpArgs false
namespace Go.Proofs.YtbgfiflnfndckaaDoor
open Go.RowKit Go.Proofs.YtbgfiflnfndckaaDoorW.PrintWords

namespace Vs
/-- Just what a kind has. -/
def bareS (x : Sc) : Sc := ⟨x.k, if x.k = 1 ∨ x.k = 7 then x.s else ⟨#[]⟩, if x.k = 2 then x.b else false, if x.k = 3 then x.n else 0, if x.k = 4 then x.f else 0⟩
/-- Are they the same, but for what their lists have? -/
def flat (x y : Sc) (la lb pa pb : Nat) : Bool := x.k == y.k && (x.s.toList == y.s.toList && (x.b == y.b && (x.n == y.n && (x.f == y.f && (la == lb && pa == pb)))))
end Vs

attribute [local go_sem] run_store_float
def nilS : Value := .slice none 0 0
set_option maxHeartbeats 2000000 in
set_option maxRecDepth 100000 in
theorem bare_calls (x : Vs.Sc) (A B : Option Addr) (la ca lb cb : Nat) (w : World) :
    Calls Tryd.prog 79 #[.agg (cellsV x (.slice A la ca) (.slice B lb cb))] w fun e w' =>
      e = .returned (.agg (cellsV (Vs.bareS x) (if x.k = 5 then .slice A la ca else nilS) (if x.k = 6 then .slice B lb cb else nilS))) ∧ Below w.heap.size w w' := by
  obtain ⟨k, s, b, n, f⟩ := x
  unfold cellsV Vs.bareS nilS
  simp only
  obtain ⟨r, hr⟩ : ∃ r, r = Value.agg #[.int .u8 k, .string (if k = 1 ∨ k = 7 then s else ⟨#[]⟩), .bool (if k = 2 then b else false), .int .i64 (if k = 3 then n else 0), .float .f64 (if k = 4 then f else 0), (if k = 5 then .slice A la ca else .slice none 0 0), (if k = 6 then .slice B lb cb else .slice none 0 0)] := ⟨_, rfl⟩
  rw [← hr]
  have kinds : k = 1 ∨ k = 2 ∨ k = 3 ∨ k = 4 ∨ k = 5 ∨ k = 6 ∨ k = 7 ∨ ((((k : Int) == 1) = false ∧ ((k : Int) == 2) = false ∧ ((k : Int) == 3) = false ∧ ((k : Int) == 4) = false ∧ ((k : Int) == 5) = false ∧ ((k : Int) == 6) = false ∧ ((k : Int) == 7) = false) ∧ k ≠ 1 ∧ k ≠ 2 ∧ k ≠ 3 ∧ k ≠ 4 ∧ k ≠ 5 ∧ k ≠ 6 ∧ k ≠ 7) := by
    by_cases h1 : k = 1; · exact .inl h1
    by_cases h2 : k = 2; · exact .inr (.inl h2)
    by_cases h3 : k = 3; · exact .inr (.inr (.inl h3))
    by_cases h4 : k = 4; · exact .inr (.inr (.inr (.inl h4)))
    by_cases h5 : k = 5; · exact .inr (.inr (.inr (.inr (.inl h5))))
    by_cases h6 : k = 6; · exact .inr (.inr (.inr (.inr (.inr (.inl h6)))))
    by_cases h7 : k = 7; · exact .inr (.inr (.inr (.inr (.inr (.inr (.inl h7))))))
    refine .inr (.inr (.inr (.inr (.inr (.inr (.inr ⟨⟨?_, ?_, ?_, ?_, ?_, ?_, ?_⟩, h1, h2, h3, h4, h5, h6, h7⟩)))))) <;> (rw [beq_eq_false_iff_ne]; omega)
  rcases kinds with rfl | rfl | rfl | rfl | rfl | rfl | rfl | ⟨⟨q1, q2, q3, q4, q5, q6, q7⟩, g1, g2, g3, g4, g5, g6, g7⟩
  all_goals
    simp (config := { decide := true }) [*] at hr
    have HR := Lib.hid hr
    clear hr
    go_enter Tryd.func79, Tryd.ntmps79
    go_wp2
    refine bodyPost_ret (v := r) ?_ rfl ?_
    · simp [results, Tryd.results79, go_sem, HR.out]
    · exact ⟨rfl, (((Below.refl _ _).alloc (Nat.le_refl _) _).alloc (by simp) _).alloc (by simp; omega) _⟩
end Go.Proofs.YtbgfiflnfndckaaDoor
