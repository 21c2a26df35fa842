/- The walk of WireNumbers. No conditions but the kinds' own. -/
import Derived.Test.YtehmneckcfchmaaOp
set_option linter.unusedVariables false
set_option linter.unusedSimpArgs false
namespace Go.Proofs.Ytehmneckcfchmaa
open Go.RowKit Go.Proofs.YtehmneckcfchmaaW.PrintWords

/-- A byte's place. -/
def unit_ (k : Nat) : Nat := if k < 10 then 128 ^ k else 0
theorem unit_lt (k : Nat) (h : k < 9) : 1 ≤ unit_ k ∧ unit_ k ≤ 72057594037927936 ∧ unit_ (k + 1) = unit_ k * 128 := by
  unfold unit_
  rw [if_pos (by omega), if_pos (by omega)]
  have e : (128 : Nat) ^ 8 = 72057594037927936 := by decide
  exact ⟨Nat.pow_pos (by decide), by rw [← e]; exact Nat.pow_le_pow_right (by decide) (by omega), Nat.pow_succ _ _⟩

theorem Ws.rd_ten (l : List UInt8) (m : Nat) : Ws.rd l 10 m = none := by
  cases l with
  | nil => rfl
  | cons b r => rw [Ws.rd, if_pos (by decide)]

def RNumPost (size : Nat) : Option (Nat × List UInt8) → Ending → Prop
  | none, e => e = .returned (.tuple #[.int .u64 0, .int .i64 0, .int .i64 9])
  | some (n, r), e => e = .returned (.tuple #[.int .u64 n, .int .i64 (size - r.length : Int), .int .i64 0])

set_option maxHeartbeats 2000000 in
set_option maxRecDepth 100000 in
theorem rreadnum_calls (s : ByteArray) (w : World) (hs : s.size ≤ maxLen) :
    Calls Try.prog 20 #[.string s] w fun e w' => RNumPost s.size (Ws.num s.data.toList) e ∧ w' = w := by
  obtain ⟨R, hR⟩ : ∃ R, R = Ws.num s.data.toList := ⟨_, rfl⟩
  rw [← hR]
  have HR := Lib.hid (show Ws.rd (s.data.toList.drop 0) 0 0 = R by rw [hR]; rfl)
  clear hR
  go_enter Try.func20, Try.ntmps20
  go_wp2
  unfold maxLen at hs
  go_loopw [5, 6, 7] (fun n u i wr => ∃ (k m : Nat), k ≤ 10 ∧ k ≤ s.size ∧ i = .int .i64 k ∧ n = .int .u64 m ∧ (k < 10 → m < 128 ^ k) ∧ u = .int .u64 (unit_ k : Nat) ∧ Hid (Ws.rd (s.data.toList.drop k) k m = R) ∧ wr = w) (fun _ _ i _ => 10 - (intOf i).toNat)
  case atStart => exact ⟨0, 0, by omega, by omega, rfl, rfl, fun _ => by decide, rfl, HR, rfl⟩
  case round =>
    clear HR
    obtain ⟨k, m, hk, hks, rfl, rfl, hm, rfl, HR, rfl⟩ := hrel
    by_cases h10 : k = 10
    · subst h10
      have hr := HR.out
      rw [Ws.rd_ten] at hr
      have Hr := Lib.hid hr
      clear hr
      go_wp2
      all_goals
        refine bodyPost_ret (v := .tuple #[.int .u64 0, .int .i64 0, .int .i64 9]) (by simp [results, Try.results20, go_sem]) rfl ⟨?_, rfl⟩
        rw [← Hr.out]
        rfl
    by_cases hlt : k < s.size
    · by_cases h9 : k = 9
      · subst h9
        have hm9 := hm (by decide)
        rw [show (128 : Nat) ^ 9 = 9223372036854775808 by decide] at hm9
        rw [show unit_ 9 = 9223372036854775808 by decide]
        clear hm
        have hb := UInt8.toNat_lt s[9]
        by_cases h1 : 1 < s[9].toNat
        · have h1' : (1 : Int) < (s[9].toNat : Int) := by omega
          go_wp2
          refine bodyPost_ret (v := .tuple #[.int .u64 0, .int .i64 0, .int .i64 9]) (by simp [results, Try.results20, go_sem]) rfl ⟨?_, rfl⟩
          have hr := HR.out
          rw [Ws.drop_cons s 9 hlt, Ws.rd_nine _ _ h1] at hr
          rw [← hr]
          rfl
        · have h1' : (s[9].toNat : Int) ≤ 1 := by omega
          go_wp2
          refine bodyPost_ret (v := .tuple #[.int .u64 (m + 9223372036854775808 * ((s[9].toNat : Int) % 128)), .int .i64 10, .int .i64 0]) (by simp [results, Try.results20, go_sem]) rfl ⟨?_, rfl⟩
          have hr := HR.out
          rw [Ws.drop_cons s 9 hlt, Ws.rd_last _ _ _ (by decide) (fun _ => by omega) (by omega)] at hr
          rw [← hr]
          show Ending.returned _ = Ending.returned _
          have hdl : (List.drop (9 + 1) s.data.toList).length = s.size - 10 := by rw [List.length_drop]; rfl
          have e2 : (10 : Int) = (s.size - (List.drop (9 + 1) s.data.toList).length : Int) := by rw [hdl]; omega
          have key : ∀ a b c d : Int, a = c → b = d → Ending.returned (.tuple #[.int .u64 a, .int .i64 b, .int .i64 0]) = Ending.returned (.tuple #[.int .u64 c, .int .i64 d, .int .i64 0]) := by intro a b c d h1 h2; rw [h1, h2]
          refine key _ _ _ _ ?_ e2
          rw [show (128 : Nat) ^ 9 = 9223372036854775808 by decide]
          omega
      · have hk9 : k < 9 := by omega
        obtain ⟨hu1, hu2, hu3⟩ := unit_lt k hk9
        have hun : unit_ k = 128 ^ k := by unfold unit_; rw [if_pos (by omega)]
        have hm9 := hm (by omega)
        rw [← hun] at hm9
        have Hun := Lib.hid hun
        have Hu3 := Lib.hid hu3
        clear hm hun hu3
        obtain ⟨u, hu⟩ : ∃ u, u = unit_ k := ⟨_, rfl⟩
        rw [← hu] at hu1 hu2 hm9 ⊢
        have Hu := Lib.hid hu
        clear hu
        have hb := UInt8.toNat_lt s[k]
        obtain ⟨p, hp⟩ : ∃ p : Nat, p = u * (s[k].toNat % 128) := ⟨_, rfl⟩
        have hpi : (u : Int) * ((s[k].toNat : Int) % 128) = (p : Int) := by rw [hp]; push_cast; rfl
        have hpl : p ≤ u * 127 := by rw [hp]; exact Nat.mul_le_mul_left _ (by omega)
        have Hp := Lib.hid hp
        clear hp
        have h9' : ¬ (k : Int) = 9 := by omega
        by_cases h1 : s[k].toNat < 128
        · have h1' : (s[k].toNat : Int) < 128 := by omega
          go_wp2
          refine bodyPost_ret (v := .tuple #[.int .u64 (m + p), .int .i64 (k + 1), .int .i64 0]) (by simp [results, Try.results20, go_sem]) rfl ⟨?_, rfl⟩
          have hr := HR.out
          rw [Ws.drop_cons s k hlt, Ws.rd_last _ _ _ (by omega) (fun h => absurd h h9) h1] at hr
          rw [← hr]
          show Ending.returned _ = Ending.returned _
          have e1 : (m : Int) + p = ((m + s[k].toNat % 128 * 128 ^ k : Nat) : Int) := by
            rw [Hp.out, Hu.out, Hun.out, Nat.mul_comm]
            push_cast
            rfl
          have hdl : (List.drop (k + 1) s.data.toList).length = s.size - (k + 1) := by rw [List.length_drop]; rfl
          have e2 : (k : Int) + 1 = (s.size - (List.drop (k + 1) s.data.toList).length : Int) := by rw [hdl]; omega
          rw [e1, e2]
        · have h1' : (128 : Int) ≤ (s[k].toNat : Int) := by omega
          have hr := HR.out
          rw [Ws.drop_cons s k hlt, Ws.rd_more _ _ _ (by omega) (by omega)] at hr
          have Hr := Lib.hid hr
          clear hr
          go_wp2
          go_roundw
          case rel =>
            refine ⟨k + 1, m + p, by omega, by omega, by go_num, by go_num, fun h => ?_, ?_, ?_, trivial⟩
            · rw [Nat.pow_succ, ← Hun.out, ← Hu.out]; omega
            · rw [Hu3.out, ← Hu.out]; go_num
            · rw [show m + p = m + s[k].toNat % 128 * 128 ^ k by rw [Hp.out, Hu.out, Hun.out, Nat.mul_comm]]
              exact Hr
          case measure => simp [intOf]; omega
    · have hke : k = s.size := by omega
      subst hke
      have hr := HR.out
      rw [Ws.drop_end s s.size (Nat.le_refl _)] at hr
      have Hr := Lib.hid hr
      clear hr
      go_wp2
      refine bodyPost_ret (v := .tuple #[.int .u64 0, .int .i64 0, .int .i64 9]) (by simp [results, Try.results20, go_sem]) rfl ⟨?_, rfl⟩
      rw [← Hr.out]
      rfl
end Go.Proofs.Ytehmneckcfchmaa
