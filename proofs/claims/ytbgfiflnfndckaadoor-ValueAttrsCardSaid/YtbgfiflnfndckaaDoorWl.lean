/- The walks of what a field may be and how long it is. No conditions but the numbers' kinds. -/
import Derived.Test.YtbgfiflnfndckaaDoorWx
import Derived.Test.YtbgfiflnfndckaaDoorSh
import Derived.Lib.ItoaNum
set_option linter.unusedVariables false
set_option linter.unusedSimpArgs false
namespace Go.Proofs.YtbgfiflnfndckaaDoor
open Go.RowKit Go.Proofs.YtbgfiflnfndckaaDoorW.PrintWords

namespace Ws
theorem vi_len : ∀ (n : Nat), n < 128 ^ (vi n).length ∧ 1 ≤ (vi n).length ∧ (1 < (vi n).length → 128 ^ ((vi n).length - 1) ≤ n) := by
  intro n
  induction n using Nat.strongRecOn with
  | _ n ih =>
    rw [vi]
    split
    · rename_i h; simp; omega
    · rename_i h
      obtain ⟨h1, h2, h3⟩ := ih (n / 128) (by omega)
      simp only [List.length_cons, Nat.pow_succ, Nat.add_sub_cancel]
      refine ⟨by omega, by omega, fun _ => ?_⟩
      by_cases h4 : 1 < (vi (n / 128)).length
      · have h5 := h3 h4
        obtain ⟨m, hm⟩ : ∃ m, (vi (n / 128)).length = m + 1 := ⟨(vi (n / 128)).length - 1, by omega⟩
        rw [hm] at h5 ⊢
        simp only [Nat.add_sub_cancel] at h5
        rw [Nat.pow_succ]
        omega
      · have : (vi (n / 128)).length = 1 := by omega
        rw [this]
        omega
theorem aux_spec : ∀ (f x : Nat), x < 2 ^ f → x < 2 ^ Lib.bitLenAux f x ∧ (x ≠ 0 → 1 ≤ Lib.bitLenAux f x ∧ 2 ^ (Lib.bitLenAux f x - 1) ≤ x)
  | 0, x, h => by simp [Lib.bitLenAux] at h ⊢; omega
  | f + 1, x, h => by
    rw [Lib.bitLenAux]
    split
    · rename_i h0; subst h0; simp
    · rename_i h0
      obtain ⟨h1, h2⟩ := aux_spec f (x / 2) (by rw [Nat.pow_succ] at h; omega)
      rw [Nat.add_comm 1, Nat.pow_succ]
      refine ⟨by omega, fun _ => ⟨by omega, ?_⟩⟩
      simp only [Nat.add_sub_cancel]
      by_cases h3 : x / 2 = 0
      · rw [h3]
        have : Lib.bitLenAux f 0 = 0 := by cases f <;> simp [Lib.bitLenAux]
        rw [this]; omega
      · obtain ⟨h4, h5⟩ := h2 h3
        obtain ⟨m, hm⟩ : ∃ m, Lib.bitLenAux f (x / 2) = m + 1 := ⟨Lib.bitLenAux f (x / 2) - 1, by omega⟩
        rw [hm] at h5 ⊢
        simp only [Nat.add_sub_cancel] at h5
        rw [Nat.pow_succ]
        omega
theorem bits_len (n : Nat) (hn : n < 2 ^ 64) : (Lib.bitLen (n ||| 1) + 6) / 7 = (vi n).length := by
  obtain ⟨h1, h2, h3⟩ := vi_len n
  have hz : n ||| 1 ≠ 0 := by
    intro h0
    have : (n ||| 1) % 2 = 1 := by rw [Nat.or_mod_two_eq_one]; simp
    omega
  have hle : n ≤ n ||| 1 := Nat.left_le_or
  have hb : n ||| 1 < 2 ^ 64 := Nat.or_lt_two_pow hn (by decide)
  have s := aux_spec 64 (n ||| 1) hb
  have s1 : n ||| 1 < 2 ^ Lib.bitLen (n ||| 1) := s.1
  have s2 : 2 ^ (Lib.bitLen (n ||| 1) - 1) ≤ n ||| 1 := (s.2 hz).2
  have hb0 : 1 ≤ Lib.bitLen (n ||| 1) := (s.2 hz).1
  have p : (128 : Nat) ^ (vi n).length = 2 ^ (7 * (vi n).length) := by rw [Nat.pow_mul]
  have hub : n ||| 1 < 2 ^ (7 * (vi n).length) := by
    refine Nat.or_lt_two_pow (by rw [← p]; exact h1) ?_
    exact Nat.one_lt_two_pow (by omega)
  have u1 : Lib.bitLen (n ||| 1) - 1 < 7 * (vi n).length := (Nat.pow_lt_pow_iff_right (by decide : 1 < 2)).1 (Nat.lt_of_le_of_lt s2 hub)
  by_cases h4 : 1 < (vi n).length
  · have h5 := h3 h4
    have p2 : (128 : Nat) ^ ((vi n).length - 1) = 2 ^ (7 * ((vi n).length - 1)) := by rw [Nat.pow_mul]
    rw [p2] at h5
    have u2 : 7 * ((vi n).length - 1) < Lib.bitLen (n ||| 1) := (Nat.pow_lt_pow_iff_right (by decide : 1 < 2)).1 (Nat.lt_of_le_of_lt (Nat.le_trans h5 hle) s1)
    omega
  · omega
end Ws

theorem long_calls (n : Nat) (w : World) (hn : n < 2 ^ 64) :
    Calls Tryd.prog 112 #[.int .u64 n] w fun e w' => e = .returned (.int .i64 ((Ws.vi n).length : Nat)) ∧ w' = w := by
  have hor : bits .or .u64 (n : Int) 1 = ((n ||| 1 : Nat) : Int) := by
    have := u64_or_nat n 1 hn (by decide)
    rwa [show ((1 : Nat) : Int) = 1 from rfl] at this
  have hb : n ||| 1 < 2 ^ 64 := Nat.or_lt_two_pow hn (by decide)
  have hl := Ws.bits_len n hn
  have hle : Lib.bitLen (n ||| 1) ≤ 64 := Lib.bitLen_le _ 64 (by omega) (by omega)
  obtain ⟨m, hm⟩ : ∃ m, m = n ||| 1 := ⟨_, rfl⟩
  rw [← hm] at hor hb hl hle
  obtain ⟨b, hbb⟩ : ∃ b, b = Lib.bitLen m := ⟨_, rfl⟩
  rw [← hbb] at hl hle
  have Hl := Lib.hid hl
  have Hb := Lib.hid hbb
  clear hm hbb hl
  go_enter Tryd.func112, Tryd.ntmps112
  go_wp2_with (go_at_call 116; refine (Tryd.bits_Len64 (m : Int) _ (by omega) (by omega)).mono ?_; rw [Int.toNat_natCast, ← Hb.out]; rintro e w' ⟨rfl, rfl⟩)
  go_ret
  refine ⟨?_, rfl⟩
  rw [← Hl.out]
  show Ending.returned (.int .i64 (((b : Int) + 6) / 7)) = _
  rw [show (((b + 6) / 7 : Nat) : Int) = ((b : Int) + 6) / 7 by omega]
end Go.Proofs.YtbgfiflnfndckaaDoor
