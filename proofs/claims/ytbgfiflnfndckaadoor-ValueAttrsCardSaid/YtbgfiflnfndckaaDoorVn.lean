/- The walk of the statements' first question: the answers that the document gives. No conditions. -/
import Derived.Test.YtbgfiflnfndckaaDoorVm
import Derived.Test.YtbgfiflnfndckaaDoorVh
set_option linter.unusedVariables false
set_option linter.unusedSimpArgs false
namespace Go.Proofs.YtbgfiflnfndckaaDoor
open Go.RowKit Go.Proofs.YtbgfiflnfndckaaDoorW.PrintWords
attribute [local go_sem] run_store_float

/-- An int, a float, as values. -/
def wholeS (n : Int) : Vs.Sc := ⟨3, ⟨#[]⟩, false, n, 0⟩
def partS (f : Nat) : Vs.Sc := ⟨4, ⟨#[]⟩, false, 0, f⟩
theorem whole_calls (n : Int) (w : World) : Calls Tryd.prog 38 #[.int .i64 n] w fun e w' => e = .returned (.agg (cellsV (wholeS n) nilS nilS)) ∧ Below w.heap.size w w' := by
  go_enter Tryd.func38, Tryd.ntmps38
  go_wp2
  refine bodyPost_ret (v := .agg (cellsV (wholeS n) nilS nilS)) ?_ rfl ?_
  · simp [results, Tryd.results38, go_sem, cellsV, wholeS, nilS]
  · exact ⟨rfl, (Below.refl _ _).alloc (Nat.le_refl _) _⟩
theorem part_calls (f : Nat) (w : World) : Calls Tryd.prog 15 #[.float .f64 f] w fun e w' => e = .returned (.agg (cellsV (partS f) nilS nilS)) ∧ Below w.heap.size w w' := by
  go_enter Tryd.func15, Tryd.ntmps15
  go_wp2
  refine bodyPost_ret (v := .agg (cellsV (partS f) nilS nilS)) ?_ rfl ?_
  · simp [results, Tryd.results15, go_sem, cellsV, partS, nilS]
  · exact ⟨rfl, (Below.refl _ _).alloc (Nat.le_refl _) _⟩
set_option maxRecDepth 100000 in
theorem nan_calls (w : World) : Calls Tryd.prog 40 #[] w fun e w' => e = .returned (.float .f64 9221120237041090561) ∧ w' = w := by
  have hr : ∀ w : World, (callFunc 16 #[.int .u64 9221120237041090561]).run Tryd.prog w = .ok (.value (.float .f64 9221120237041090561)) w := run_f64of 9221120237041090561
  go_enter Tryd.func40, Tryd.ntmps40
  go_wp2
  go_ret
  exact ⟨rfl, rfl⟩
set_option maxRecDepth 100000 in
theorem copysign_calls (w : World) : Calls Tryd.prog 39 #[.float .f64 0, .float .f64 13830554455654793216] w fun e w' => e = .returned (.float .f64 9223372036854775808) ∧ w' = w := by
  have h0 : ∀ w : World, (callFunc 59 #[.float .f64 0]).run Tryd.prog w = .ok (.value (.int .u64 0)) w := run_f64bits 0
  have h1 : ∀ w : World, (callFunc 59 #[.float .f64 13830554455654793216]).run Tryd.prog w = .ok (.value (.int .u64 13830554455654793216)) w := run_f64bits 13830554455654793216
  have h2 : ∀ w : World, (callFunc 16 #[.int .u64 9223372036854775808]).run Tryd.prog w = .ok (.value (.float .f64 9223372036854775808)) w := run_f64of 9223372036854775808
  have e1 : bits .andNot .u64 0 9223372036854775808 = 0 := by decide +kernel
  have e2 : bits .and .u64 13830554455654793216 9223372036854775808 = 9223372036854775808 := by decide +kernel
  have e3 : bits .or .u64 0 9223372036854775808 = 9223372036854775808 := by decide +kernel
  go_enter Tryd.func39, Tryd.ntmps39
  go_wp2
  go_ret
  exact ⟨rfl, rfl⟩

theorem cmp1 : Vs.compare (wholeS 9007199254740993) (partS 4845873199050653696) = (1, true) := by decide +kernel
theorem cmp2 : Vs.compare (partS 0) (partS 9223372036854775808) = (0, true) := by decide +kernel
theorem cmp3 : Vs.compare (partS 9221120237041090561) (partS 9221120237041090561) = (0, false) := by decide +kernel
theorem wr1 : numBytes (wholeS (-1)) = [24, 255, 255, 255, 255, 255, 255, 255, 255, 255, 1] := by decide +kernel
theorem hash1 : Vs.hash [97] = 12638187200555641996 := by decide +kernel

set_option maxHeartbeats 2000000 in
set_option maxRecDepth 100000 in
theorem vlives_calls (w : World) : Calls Tryd.prog 12 #[] w fun e w' => e = .returned (.bool true) ∧ Below w.heap.size w w' := by
  go_enter Tryd.func12, Tryd.ntmps12
  go_wp2_with fail
  refine (whole_calls _ _).mono ?_
  rintro e w1 ⟨rfl, hb1⟩
  go_wp2_with fail
  refine (part_calls _ _).mono ?_
  rintro e w2 ⟨rfl, hb2⟩
  have HB2 := Lib.hid (hb1.trans (hb2.mono hb1.size))
  clear hb1 hb2
  go_wp2_with fail
  refine (compare_calls _ _ _ _ _ _ _ (by decide) (by decide) (by decide) (by decide)).mono ?_
  rw [cmp1]
  rintro e w3 ⟨rfl, hb⟩
  have HB3 := Lib.hid (HB2.out.trans (hb.mono HB2.out.size))
  clear hb HB2
  go_wp2_with fail
  refine (part_calls _ _).mono ?_
  rintro e w4 ⟨rfl, hb⟩
  have HB4 := Lib.hid (HB3.out.trans (hb.mono HB3.out.size))
  clear hb HB3
  go_wp2_with fail
  refine (copysign_calls _).mono ?_
  rintro e w5 ⟨rfl, rfl⟩
  go_wp2_with fail
  refine (part_calls _ _).mono ?_
  rintro e w6 ⟨rfl, hb⟩
  have HB6 := Lib.hid (HB4.out.trans (hb.mono HB4.out.size))
  clear hb HB4
  go_wp2_with fail
  refine (compare_calls _ _ _ _ _ _ _ (by decide) (by decide) (by decide) (by decide)).mono ?_
  rw [cmp2]
  rintro e w7 ⟨rfl, hb⟩
  have HB7 := Lib.hid (HB6.out.trans (hb.mono HB6.out.size))
  clear hb HB6
  go_wp2_with fail
  refine (nan_calls _).mono ?_
  rintro e w8 ⟨rfl, rfl⟩
  go_wp2_with fail
  refine (part_calls _ _).mono ?_
  rintro e w9 ⟨rfl, hb⟩
  have HB9 := Lib.hid (HB7.out.trans (hb.mono HB7.out.size))
  clear hb HB7
  go_wp2_with fail
  refine (nan_calls _).mono ?_
  rintro e w10 ⟨rfl, rfl⟩
  go_wp2_with fail
  refine (part_calls _ _).mono ?_
  rintro e w11 ⟨rfl, hb⟩
  have HB11 := Lib.hid (HB9.out.trans (hb.mono HB9.out.size))
  clear hb HB9
  go_wp2_with fail
  refine (compare_calls _ _ _ _ _ _ _ (by decide) (by decide) (by decide) (by decide)).mono ?_
  rw [cmp3]
  rintro e w12 ⟨rfl, hb⟩
  have HB12 := Lib.hid (HB11.out.trans (hb.mono HB11.out.size))
  clear hb HB11
  go_wp2_with fail
  refine (whole_calls _ _).mono ?_
  rintro e w13 ⟨rfl, hb⟩
  have HB13 := Lib.hid (HB12.out.trans (hb.mono HB12.out.size))
  clear hb HB12
  go_wp2_with fail
  refine (write_num (wholeS (-1)) ⟨.inl ⟨rfl, rfl⟩, rfl, rfl⟩ (by decide) _).mono ?_
  rw [wr1]
  rintro e w14 ⟨rfl, hb⟩
  have HB14 := Lib.hid (HB13.out.trans (hb.mono HB13.out.size))
  clear hb HB13
  go_wp2_with fail
  refine (hash_calls ⟨#[97]⟩ _ (by decide)).mono ?_
  rw [show Vs.hash (⟨#[97]⟩ : ByteArray).data.toList = 12638187200555641996 from hash1]
  rintro e w15 ⟨rfl, hb⟩
  have HB15 := Lib.hid (HB14.out.trans (hb.mono HB14.out.size))
  clear hb HB14
  go_wp2
  go_ret
  exact ⟨rfl, HB15.out⟩
end Go.Proofs.YtbgfiflnfndckaaDoor
