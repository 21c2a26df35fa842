/- The walk of WireParts. No conditions but the kinds' own. -/
import Derived.Test.YtehmneckcfchmaaPb
import Derived.Test.YtehmneckcfchmaaRa
set_option linter.unusedVariables false
set_option linter.unusedSimpArgs false
namespace Go.Proofs.Ytehmneckcfchmaa
open Go.RowKit Go.Proofs.YtehmneckcfchmaaW.PrintWords

namespace Ws
/-- Two messages behind one another. -/
theorem read_two (a b : List Fd) (x y : List UInt8) (ha : ∀ f ∈ a, f.n < 2 ^ 64) (hb : ∀ f ∈ b, f.n < 2 ^ 64) (h1 : write a = (x, 0)) (h2 : write b = (y, 0)) :
    ((65536 < x.length + y.length ∨ 4096 < a.length + b.length) → ∃ c, read (x ++ y) = ([], c) ∧ (c = 3 ∨ c = 4)) ∧ (¬ (65536 < x.length + y.length ∨ 4096 < a.length + b.length) → read (x ++ y) = (a ++ b, 0)) := by
  obtain ⟨_, ma, rfl, _⟩ := write_ok h1
  obtain ⟨_, mb, rfl, _⟩ := write_ok h2
  have hall : all (bytes a ++ bytes b) [] = .ok (a ++ b) := by
    rw [all_bytes a _ _ ma ha]
    have := all_bytes b [] ([] ++ a) mb hb
    rw [List.append_nil] at this
    rw [this, all_nil, List.nil_append]
  constructor
  · intro h
    by_cases h3 : 65536 < (bytes a).length + (bytes b).length
    · exact ⟨4, by unfold read; rw [if_pos (by simpa using h3)], .inr rfl⟩
    · refine ⟨3, ?_, .inl rfl⟩
      rw [read_of _ (by simp; omega), hall]
      simp only
      rw [if_pos (by simp; omega)]
  · intro h
    rw [read_of _ (by simp; omega), hall]
    simp only
    rw [if_neg (by simp; omega)]
theorem no_zero : ∀ (l : List UInt8) (c : List Fd), all l c ≠ .error 0 := by
  intro l
  induction hn : l.length using Nat.strongRecOn generalizing l with
  | _ n ih =>
    intro c h
    by_cases hl : l = []
    · subst hl; rw [all_nil] at h; cases h
    · cases hf : field l with
      | error e =>
        rw [all_dies c hl hf] at h
        cases h
        rcases field_code hf with h | h <;> cases h
      | ok p =>
        obtain ⟨f, r⟩ := p
        rw [all_more c hl hf] at h
        exact ih r.length (by have := field_shorter hf; omega) r rfl _ h
/-- A message that is cut. -/
theorem read_cut (a : List Fd) (x : List UInt8) (at_ : Nat) (ha : ∀ f ∈ a, f.n < 2 ^ 64) (h1 : write a = (x, 0)) :
    ∃ j c, j ≤ a.length ∧ read (x.take at_) = (a.take j, c) ∧ (c = 0 → at_ ≤ x.length → sizes (a.take j) = at_) := by
  obtain ⟨h4, ma, rfl, hb⟩ := write_ok h1
  have hl : ((bytes a).take at_).length ≤ 65536 := by rw [List.length_take]; omega
  rw [read_of _ hl]
  cases hh : all ((bytes a).take at_) [] with
  | error e => exact ⟨0, e, Nat.zero_le _, by simp, fun h => by
      subst h
      exfalso
      exact no_zero _ _ hh⟩
  | ok k =>
    obtain ⟨j, hj, hk, hp⟩ := all_cut a ((bytes a).take at_) ((bytes a).drop at_) [] k ma ha (List.take_append_drop _ _) hh
    rw [List.nil_append] at hk
    subst hk
    refine ⟨j, 0, hj, ?_, fun _ hle => ?_⟩
    · simp only
      rw [if_neg (by rw [List.length_take]; omega)]
    · have mj : (a.take j).all may = true := by
        rw [List.all_eq_true] at ma ⊢
        intro f hf
        exact ma f (List.mem_of_mem_take hf)
      rw [sizes_bytes _ mj, ← hp, List.length_take, Nat.min_eq_left hle]
end Ws
end Go.Proofs.Ytehmneckcfchmaa
