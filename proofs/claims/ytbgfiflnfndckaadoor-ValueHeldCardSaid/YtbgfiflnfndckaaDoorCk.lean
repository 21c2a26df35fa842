/- Plain law: when a value is right. No conditions. -/
import Derived.Test.YtbgfiflnfndckaaDoorSa
import Derived.Lib.ValidU
set_option linter.unusedVariables false
set_option linter.unusedSimpArgs false
namespace Go.Proofs.YtbgfiflnfndckaaDoor
namespace Vs
/-- Why a text is no key. -/
def keyE (s : ByteArray) : Nat := if 4096 < s.size then 4 else if Go.Lib.validD s.data.toList = true then 0 else 12
/-- Why a value is not right, but for what it holds; d: how many are around it. -/
def own1 (x : Sc) (la lb d : Nat) : Nat :=
  if (decide (x.k < 8) && flat x (bareS x) la (if x.k = 5 then la else 0) lb (if x.k = 6 then lb else 0)) = false then 5
  else if 4096 < x.s.size then 4
  else if x.k = 1 ∧ Go.Lib.validD x.s.data.toList = false then 12
  else if 256 < la ∨ 256 < lb then 3
  else if (x.k = 5 ∨ x.k = 6) ∧ 8 ≤ d then 11
  else 0
mutual
/-- Why a value is not right. -/
def chk : V → Nat → Nat
  | .mk x l m, d => if own1 x l.length m.length d ≠ 0 then own1 x l.length m.length d else if chkL l (d + 1) ≠ 0 then chkL l (d + 1) else chkP m [] (d + 1)
def chkL : List V → Nat → Nat
  | [], _ => 0
  | v :: l, d => if chk v d ≠ 0 then chk v d else chkL l d
/-- Pairs; the keys in front of them. -/
def chkP : List (ByteArray × V) → List (List UInt8) → Nat → Nat
  | [], ks, _ => if ks.Nodup then 0 else 6
  | (k, v) :: m, ks, d => if keyE k ≠ 0 then keyE k else if chk v d ≠ 0 then chk v d else chkP m (ks ++ [k.data.toList]) d
end
/-- What holds nothing. -/
theorem own_holds (x : Sc) (la lb d : Nat) (h : own1 x la lb d = 0) : (x.k ≠ 5 → la = 0) ∧ (x.k ≠ 6 → lb = 0) ∧ (la ≤ 256 ∧ lb ≤ 256) ∧ ((x.k = 5 ∨ x.k = 6) → d < 8) := by
  unfold own1 at h
  by_cases h1 : (decide (x.k < 8) && flat x (bareS x) la (if x.k = 5 then la else 0) lb (if x.k = 6 then lb else 0)) = false
  · rw [if_pos h1] at h; cases h
  rw [if_neg h1] at h
  by_cases h2 : 4096 < x.s.size
  · rw [if_pos h2] at h; cases h
  rw [if_neg h2] at h
  by_cases h3 : x.k = 1 ∧ Go.Lib.validD x.s.data.toList = false
  · rw [if_pos h3] at h; cases h
  rw [if_neg h3] at h
  by_cases h4 : 256 < la ∨ 256 < lb
  · rw [if_pos h4] at h; cases h
  rw [if_neg h4] at h
  by_cases h5 : (x.k = 5 ∨ x.k = 6) ∧ 8 ≤ d
  · rw [if_pos h5] at h; cases h
  have hf : flat x (bareS x) la (if x.k = 5 then la else 0) lb (if x.k = 6 then lb else 0) = true := by
    simp only [Bool.not_eq_false, Bool.and_eq_true] at h1
    exact h1.2
  unfold flat at hf
  simp only [Bool.and_eq_true, beq_iff_eq] at hf
  obtain ⟨_, _, _, _, _, g1, g2⟩ := hf
  refine ⟨fun h => ?_, fun h => ?_, by omega, fun h => ?_⟩
  · rw [if_neg h] at g1; exact g1
  · rw [if_neg h] at g2; exact g2
  · have : ¬ 8 ≤ d := fun hd => h5 ⟨h, hd⟩
    omega
end Vs
end Go.Proofs.YtbgfiflnfndckaaDoor
