/- The walk of WireNumbers itself. No conditions but the kinds' own. -/
import Derived.Test.YtehmneckcfchmaaPn
set_option linter.unusedVariables false
set_option linter.unusedSimpArgs false
namespace Go.Proofs.Ytehmneckcfchmaa
open Go.RowKit Go.Proofs.YtehmneckcfchmaaW.PrintWords

set_option maxHeartbeats 2000000 in
set_option maxRecDepth 100000 in
theorem numbers_calls (n : Nat) (s : ByteArray) (w : World) (hn : n < 18446744073709551616) (hs : s.size ≤ 140737488351232) :
    Calls Try.prog 7 #[.int .u64 n, .string s] w fun e w' => e = .returned (.bool true) ∧ Below w.heap.size w w' := by
  have hsm : s.size ≤ maxLen := by unfold maxLen; omega
  obtain ⟨r, k, y, hr, hp, hq⟩ : ∃ (r : Int) (k y : Int), True ∧ (∀ w, Calls Try.prog 19 #[.string s] w fun e w' => e = .returned (.tuple #[.int .u64 r, .int .i64 k, .int .i64 y]) ∧ Below w.heap.size w w') ∧
      (∀ w, Calls Try.prog 20 #[.string s] w fun e w' => e = .returned (.tuple #[.int .u64 r, .int .i64 k, .int .i64 y]) ∧ w' = w) := by
    cases h : Ws.num s.data.toList with
    | none =>
      refine ⟨0, 0, 9, trivial, fun w => (readnum_calls s w hsm).mono fun e w' hh => ?_, fun w => (rreadnum_calls s w hsm).mono fun e w' hh => ?_⟩
      · rw [h] at hh; exact hh
      · rw [h] at hh; exact hh
    | some pr =>
      obtain ⟨m, r⟩ := pr
      refine ⟨m, s.size - r.length, 0, trivial, fun w => (readnum_calls s w hsm).mono fun e w' hh => ?_, fun w => (rreadnum_calls s w hsm).mono fun e w' hh => ?_⟩
      · rw [h] at hh; exact hh
      · rw [h] at hh; exact hh
  have HP := Lib.hid hp
  have HQ := Lib.hid hq
  clear hp hq
  have hv := Ws.vi_ten n hn
  go_enter Try.func7, Try.ntmps7
  go_wp2_with fail
  refine (HP.out _).mono ?_
  rintro e w1 ⟨rfl, hb1⟩
  have HB := Lib.hid hb1
  clear hb1
  go_wp2_with fail
  refine (HQ.out _).mono ?_
  rintro e w2 ⟨rfl, rfl⟩
  go_wp2_with fail
  refine (lives_calls _).mono ?_
  rintro e w3 ⟨rfl, hb⟩
  have HB2 := Lib.hid (HB.out.trans (hb.mono HB.out.size))
  clear hb HB
  go_wp2_with fail
  refine (num_str n _ hn).mono ?_
  rintro e w4 ⟨rfl, hb⟩
  have HB3 := Lib.hid (HB2.out.trans (hb.mono HB2.out.size))
  clear hb HB2
  go_wp2_with fail
  refine (rnum_str n _ hn).mono ?_
  rintro e w5 ⟨rfl, hb⟩
  have HB4 := Lib.hid (HB3.out.trans (hb.mono HB3.out.size))
  clear hb HB3
  obtain ⟨t, ht⟩ : ∃ t, t = Ws.vi n := ⟨_, rfl⟩
  rw [← ht]
  clear ht hv
  obtain ⟨z, hz, hz1, hz2⟩ : ∃ z : Int, wrap64 n = z ∧ -9223372036854775808 ≤ z ∧ z ≤ 9223372036854775807 := ⟨_, rfl, by simp only [wrap64]; omega, by simp only [wrap64]; omega⟩
  go_wp2_with fail
  refine (zig_calls z _ hz1 hz2).mono ?_
  rintro e w6 ⟨rfl, rfl⟩
  go_wp2_with fail
  refine (rzig_calls z _ hz1 hz2).mono ?_
  rintro e w6 ⟨rfl, rfl⟩
  go_wp2_with fail
  refine (zag_calls n _ hn).mono ?_
  rintro e w6 ⟨rfl, rfl⟩
  go_wp2_with fail
  refine (rzag_calls n _ hn).mono ?_
  rintro e w6 ⟨rfl, rfl⟩
  go_wp2_with fail
  go_ret
  exact ⟨rfl, HB4.out⟩
theorem walk_ (a0 : Int) (a1 : ByteArray) (w : World) (w0 : (Lit.int .u64 a0).wf = true) (w1 : a1.size ≤ 140737488351232) :
    Calls Try.prog 7 #[.int .u64 a0, .string a1] w fun e w' => e = .returned (.bool true) ∧ Below w.heap.size w w' := by
  obtain ⟨m, rfl, hm⟩ := wf_u64 w0
  exact numbers_calls m a1 w hm w1
end Go.Proofs.Ytehmneckcfchmaa
