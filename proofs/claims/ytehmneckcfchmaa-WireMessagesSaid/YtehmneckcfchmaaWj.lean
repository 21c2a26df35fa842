/- The walks of the document's own numbers and zigzags. No conditions but the numbers' kinds. -/
import Derived.Test.YtehmneckcfchmaaWh
set_option linter.unusedVariables false
set_option linter.unusedSimpArgs false
namespace Go.Proofs.Ytehmneckcfchmaa
open Go.RowKit Go.Proofs.YtehmneckcfchmaaW.PrintWords

theorem rzig_calls (n : Int) (w : World) (h1 : -9223372036854775808 ≤ n) (h2 : n ≤ 9223372036854775807) :
    Calls Try.prog 24 #[.int .i64 n] w fun e w' => e = .returned (.int .u64 (Ws.zig n)) ∧ w' = w := by
  by_cases h : 0 ≤ n
  · go_enter Try.func24, Try.ntmps24
    go_wp2
    go_ret
    refine ⟨congrArg (fun z : Int => Ending.returned (.int .u64 z)) ?_, rfl⟩
    simp only [Ws.zig, if_pos h]
    first | omega | (simp only [IntKind.wrap_u64]; omega)
  · go_enter Try.func24, Try.ntmps24
    go_wp2
    go_ret
    refine ⟨congrArg (fun z : Int => Ending.returned (.int .u64 z)) ?_, rfl⟩
    have h' : ¬ 0 ≤ n := by omega
    simp only [Ws.zig, if_neg h']
    first | omega | (simp only [IntKind.wrap_u64]; omega) | (trace_state; sorry)
theorem rzag_calls (m : Nat) (w : World) (h : m < 18446744073709551616) :
    Calls Try.prog 26 #[.int .u64 m] w fun e w' => e = .returned (.int .i64 (Ws.zag m)) ∧ w' = w := by
  by_cases h2 : m % 2 = 0
  · have h3 : ((m : Int) % 2 == 0) = true := by rw [beq_iff_eq]; omega
    go_enter Try.func26, Try.ntmps26
    go_wp2
    go_ret
    refine ⟨congrArg (fun z : Int => Ending.returned (.int .i64 z)) ?_, rfl⟩
    simp only [Ws.zag, if_pos h2]
    first | omega | (simp only [wrap64]; omega)
  · have h3 : ((m : Int) % 2 == 0) = false := by rw [beq_eq_false_iff_ne]; omega
    go_enter Try.func26, Try.ntmps26
    go_wp2
    go_ret
    refine ⟨congrArg (fun z : Int => Ending.returned (.int .i64 z)) ?_, rfl⟩
    simp only [Ws.zag, if_neg h2]
    first | omega | (simp only [wrap64]; omega) | (trace_state; sorry)

set_option maxHeartbeats 1000000 in
set_option maxRecDepth 100000 in
theorem rnum_str (n : Nat) (w : World) (hn : n < 2 ^ 64) :
    Calls Try.prog 22 #[.int .u64 n] w fun e w' => e = .returned (.string ⟨(Ws.vi n).toArray⟩) ∧ Below w.heap.size w w' := by
  have hv := Ws.vi_ten n hn
  obtain ⟨R, hR⟩ : ∃ R, R = Ws.vi n := ⟨_, rfl⟩
  rw [← hR] at hv ⊢
  have HR := Lib.hid hR.symm
  have H0 := Lib.hid (Rows1.refl (w := w) (base := w.heap.size) (v := .slice none 0 0) (l := []) (Kd.R_nil _ _ _ _ _))
  clear hR
  go_enter Try.func22, Try.ntmps22
  go_wp2
  go_loopg [0, 3] n (fun kq nv v wr => ∃ (c : List UInt8), nv = .int .u64 kq ∧ kq ≤ n ∧ Hid (c ++ Ws.vi kq = R) ∧ Hid (Rows1 w w.heap.size (.slice none 0 0) wr v c))
  case atStart => exact ⟨[], rfl, Nat.le_refl _, HR, H0⟩
  case round =>
    clear HR H0
    obtain ⟨c, rfl, hk, HR, H0⟩ := hrel
    have hcl : c.length ≤ 10 := by have := congrArg List.length HR.out; rw [List.length_append] at this; omega
    obtain ⟨A, cp, rfl⟩ := Kd.R_slice H0.out.row
    have hcl2 : (c.length + 1) * 1 ≤ 140737488355328 := by omega
    have hws : w.heap.size ≤ wr.heap.size := H0.out.grown.size
    by_cases h : 127 < gk
    · have hi : (128 : Int) ≤ (gk : Int) := by omega
      have hvm := Lib.hid (Ws.vi_more h)
      have hb : ((gk : Int) % 128 + 128) = ((UInt8.ofNat (gk % 128 + 128)).toNat : Int) := by
        show _ = (((gk % 128 + 128) % 256 : Nat) : Int)
        omega
      have hb2 : ((UInt8.ofNat (gk % 128 + 128)).toNat : Int) ≤ 255 := by have := (UInt8.ofNat (gk % 128 + 128)).toNat_lt; omega
      generalize UInt8.ofNat (gk % 128 + 128) = u at *
      go_wp2_with (at_builtin; refine Kd.R_append kB (w0 := wr) w.heap.size rfl (.tmp 6) (.tmp 11) 52 5 (.int .u8 0) 1 rfl Try.underlying52 infoB rfl (by decide) (by decide) (.slice A c.length cp) c u [.int .u8 u.toNat] (fun _ => True) (fun _ => False) rfl rfl ?hp (fun _ hk => hk.elim) ?hfr ?hO ?hB ?hbs hcl2 ?_; (case hp => exact kB_mkM _ _ _ _); (case hfr => (intro k hk; trivial)); (case hO => exact H0.out.row); (case hB => exact Below.refl _ _); (case hbs => exact hws); intro v1 w1 ho hb hg hat; have HN := Lib.hid (H0.out.trans ⟨ho, hb, hg, hat⟩); clear ho hb hg hat)
      go_roundg (gk / 128)
      case measure => omega
      case rel => exact ⟨c ++ [u], by simp, by omega, by rw [← HR.out, hvm.out, List.append_assoc]; rfl, HN⟩
    · have h128 : gk < 128 := by omega
      have hi : ¬ (128 : Int) ≤ (gk : Int) := by omega
      have hb := Lib.hid (Ws.byte_last gk h128)
      have hvm := Lib.hid (Ws.vi_last h128)
      generalize UInt8.ofNat gk = u at *
      have hm : ∀ (w : World) (base : Nat) (ok : Nat → Prop), kB.M w base ok u [.int .u8 gk] := fun _ _ _ => by
        have e := hb.out
        rw [show (gk : Int) % 256 = (gk : Int) by omega] at e
        show [Value.int .u8 gk] = [Value.int .u8 u.toNat]
        rw [e]
      have Hm := Lib.hid hm
      clear hm
      have HR2 : Hid (c ++ [u] = R) := Lib.hid (by rw [← HR.out, hvm.out])
      clear HR hvm
      have HRl : Hid (R.length = c.length + 1) := Lib.hid (by rw [← HR2.out]; simp)
      go_wp2_with (first | (at_builtin; refine Kd.R_append kB (w0 := wr) w.heap.size rfl (.tmp 15) (.tmp 18) 52 5 (.int .u8 0) 1 rfl Try.underlying52 infoB rfl (by decide) (by decide) (.slice A c.length cp) c u [.int .u8 gk] (fun _ => True) (fun _ => False) rfl rfl ?hp (fun _ hk => hk.elim) ?hfr ?hO ?hB ?hbs hcl2 ?_; (case hp => exact Hm.out _ _ _); (case hfr => (intro k hk; trivial)); (case hO => exact H0.out.row); (case hB => exact Below.refl _ _); (case hbs => exact hws); intro v1 w1 ho hb hg hat; have HN := Lib.hid (H0.out.trans ⟨ho, hb, hg, hat⟩); clear ho hb hg hat; obtain ⟨A1, c1, rfl, ho1⟩ := kB_bytes HN.out.row; have hcv := own_string (P := Try.prog) Try.underlying52 Try.underlying5 Try.underlying9 ho1; rw [str_bytes, HR2.out, HRl.out] at hcv; clear ho1))
      go_ret
      exact ⟨rfl, HN.out.below⟩
end Go.Proofs.Ytehmneckcfchmaa
