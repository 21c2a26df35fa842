/- The walks of a number's many lowest bytes, written and read, the document's own. No conditions but the numbers' kinds. -/
import Derived.Test.YtehmneckcfchmaaOp
set_option linter.unusedVariables false
set_option linter.unusedSimpArgs false
namespace Go.Proofs.Ytehmneckcfchmaa
open Go.RowKit Go.Proofs.YtehmneckcfchmaaW.PrintWords

namespace Ws
theorem lo_more2 (k n : Nat) : lo (k + 1) n = UInt8.ofNat (n % 256) :: lo k (n / 256) := rfl
end Ws

set_option maxHeartbeats 1000000 in
set_option maxRecDepth 100000 in
theorem rlow_str (n many : Nat) (w : World) (hn : n < 2 ^ 64) (hm : many ≤ 8) :
    Calls Try.prog 42 #[.int .u64 n, .int .i64 many] w fun e w' => e = .returned (.string ⟨(Ws.lo many n).toArray⟩) ∧ Below w.heap.size w w' := by
  obtain ⟨R, hR⟩ : ∃ R, R = Ws.lo many n := ⟨_, rfl⟩
  have hRl : R.length = many := by rw [hR]; exact Ws.lo_len _ _
  rw [← hR]
  have HR := Lib.hid hR.symm
  have HRl := Lib.hid hRl
  have H0 := Lib.hid (Rows1.refl (w := w) (base := w.heap.size) (v := .slice none 0 0) (l := []) (Kd.R_nil _ _ _ _ _))
  clear hR hRl
  go_enter Try.func42, Try.ntmps42
  go_wp2
  go_loopw [0, 5, 6] (fun nv v i wr => ∃ (k q : Nat) (c : List UInt8), k ≤ many ∧ i = .int .i64 k ∧ nv = .int .u64 q ∧ q < 18446744073709551616 ∧ Hid (c ++ Ws.lo (many - k) q = R) ∧ c.length = k ∧ Hid (Rows1 w w.heap.size (.slice none 0 0) wr v c)) (fun _ _ i _ => many - (intOf i).toNat)
  case atStart => exact ⟨0, n, [], by omega, rfl, rfl, hn, HR, rfl, H0⟩
  case round =>
    clear HR H0
    obtain ⟨k, q, c, hk, rfl, rfl, hq, HR, hck, H0⟩ := hrel
    have hcl : c.length ≤ 8 := by omega
    obtain ⟨A, cp, rfl⟩ := Kd.R_slice H0.out.row
    have hcl2 : (c.length + 1) * 1 ≤ 140737488355328 := by omega
    have hws : w.heap.size ≤ wr.heap.size := H0.out.grown.size
    have HCK := Lib.hid hck
    by_cases h : k < many
    · have hr := HR.out
      obtain ⟨j, hj⟩ : ∃ j, many - k = j + 1 := ⟨many - k - 1, by omega⟩
      rw [hj, Ws.lo_more2] at hr
      have hb : ((q : Int) % 256) = ((UInt8.ofNat (q % 256)).toNat : Int) := by
        show _ = (((q % 256) % 256 : Nat) : Int)
        omega
      have hb2 : ((UInt8.ofNat (q % 256)).toNat : Int) ≤ 255 := by have := (UInt8.ofNat (q % 256)).toNat_lt; omega
      have hjj : many - (k + 1) = j := by omega
      have HJ := Lib.hid hjj
      generalize UInt8.ofNat (q % 256) = u at *
      have HR2 := Lib.hid hr
      clear hr hj hjj HR hck
      go_wp2_with (at_builtin; refine Kd.R_append kB (w0 := wr) w.heap.size rfl (.tmp 12) (.tmp 16) 52 5 (.int .u8 0) 1 rfl Try.underlying52 infoB rfl (by decide) (by decide) (.slice A c.length cp) c u [.int .u8 u.toNat] (fun _ => True) (fun _ => False) rfl rfl ?hp (fun _ hk => hk.elim) ?hfr ?hO ?hB ?hbs hcl2 ?_; (case hp => exact kB_mkM _ _ _ _); (case hfr => (intro k hk; trivial)); (case hO => exact H0.out.row); (case hB => exact Below.refl _ _); (case hbs => exact hws); intro v1 w1 ho hb hg hat; have HN := Lib.hid (H0.out.trans ⟨ho, hb, hg, hat⟩); clear ho hb hg hat)
      go_roundw
      case rel => exact ⟨k + 1, q / 256, c ++ [u], by omega, by go_num, by go_num, by omega, Lib.hid (by rw [HJ.out, ← HR2.out, List.append_assoc]; rfl), by rw [List.length_append, HCK.out]; rfl, HN⟩
      case measure => simp [intOf]; omega
    · have hkm : k = many := by omega
      subst hkm
      have hr := HR.out
      rw [Nat.sub_self] at hr
      have hR2 : c = R := by rw [← hr]; simp [Ws.lo]
      subst hR2
      obtain ⟨A1, c1, he, ho⟩ := kB_bytes H0.out.row
      have hcv := own_string (P := Try.prog) Try.underlying52 Try.underlying5 Try.underlying9 (by rw [he] at ho; exact ho)
      rw [← he, str_bytes] at hcv
      clear ho he hr hck
      go_wp2
      go_ret
      exact ⟨rfl, H0.out.below⟩

theorem Ws.hi_lt64 (l : List UInt8) (h : l.length ≤ 8) : Ws.hi l < 18446744073709551616 := by
  have h1 := Ws.hi_lt l
  have h2 : (256 : Nat) ^ l.length ≤ 256 ^ 8 := Nat.pow_le_pow_right (by decide) h
  have e : (256 : Nat) ^ 8 = 18446744073709551616 := by decide
  omega
set_option maxHeartbeats 1000000 in
set_option maxRecDepth 100000 in
theorem rnumber_calls (s : ByteArray) (w : World) (hs : s.size ≤ 8) :
    Calls Try.prog 45 #[.string s] w fun e w' => e = .returned (.int .u64 (Ws.hi s.data.toList)) ∧ w' = w := by
  have hsl : s.data.toList.length = s.size := Array.length_toList
  have HSL := Lib.hid hsl
  clear hsl
  go_enter Try.func45, Try.ntmps45
  go_wp2
  go_loopw [3, 4] (fun n i wr => ∃ (j m : Nat), j ≤ s.size ∧ i = .int .i64 ((j : Int) - 1) ∧ n = .int .u64 m ∧ Hid (m = Ws.hi (s.data.toList.drop j)) ∧ wr = w) (fun _ i _ => (intOf i + 1).toNat)
  case atStart => exact ⟨s.size, 0, Nat.le_refl _, by first | rfl | go_num, rfl, Lib.hid (by rw [← HSL.out, List.drop_length]; rfl), rfl⟩
  case round =>
    obtain ⟨j, m, hj, rfl, rfl, HM, rfl⟩ := hrel
    cases j with
    | zero =>
      rw [show (((0 : Nat) : Int) - 1) = -1 by decide]
      have hr := HM.out
      rw [List.drop_zero] at hr
      subst hr
      go_wp2
      go_ret
      exact ⟨rfl, rfl⟩
    | succ i =>
      rw [show (((i + 1 : Nat) : Int) - 1) = (i : Int) by omega]
      have hin : i < s.size := by omega
      have hb := UInt8.toNat_lt s[i]
      have hd : Ws.hi (s.data.toList.drop i) = s[i].toNat + 256 * m := by rw [Ws.drop_cons s i hin, Ws.hi, HM.out]
      have hlt := Ws.hi_lt64 (s.data.toList.drop i) (by rw [List.length_drop, HSL.out]; omega)
      rw [hd] at hlt
      have HD := Lib.hid hd
      clear hd
      go_wp2
      go_roundw
      case rel => exact ⟨i, 256 * m + s[i].toNat, by omega, rfl, by go_num, Lib.hid (by rw [HD.out]; omega), trivial⟩
      case measure => simp [intOf]
end Go.Proofs.Ytehmneckcfchmaa
