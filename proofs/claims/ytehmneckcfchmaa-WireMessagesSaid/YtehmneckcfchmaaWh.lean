/- The walk of the statements' first question: the answers that the document gives. No conditions. -/
import Derived.Test.YtehmneckcfchmaaWg
set_option linter.unusedVariables false
set_option linter.unusedSimpArgs false
namespace Go.Proofs.Ytehmneckcfchmaa
open Go.RowKit Go.Proofs.YtehmneckcfchmaaW.PrintWords

theorem read_one : Ws.read [8, 150, 1] = ([⟨1, 0, 150, []⟩], 0) := by decide +kernel
theorem read_bad : Ws.read [15] = ([], 10) := by decide +kernel
theorem write_one : Ws.write [⟨1, 0, 150, []⟩] = ([8, 150, 1], 0) := by decide +kernel
theorem num_300 : Ws.vi 300 = [172, 2] := by decide +kernel

set_option maxHeartbeats 2000000 in
set_option maxRecDepth 100000 in
theorem lives_calls (w : World) : Calls Try.prog 18 #[] w fun e w' => e = .returned (.bool true) ∧ Below w.heap.size w w' := by
  go_enter Try.func18, Try.ntmps18
  go_wp2_with fail
  have hC := (Kd.R_reads' (kF_lit w w.heap.size (Nat.le_refl _) ⟨1, 0, 150, []⟩)).2.2
  refine (write_calls [⟨1, 0, 150, []⟩] (some ⟨w.heap.size, 0, none⟩) 1 _ hC (by intro f hf; simp at hf; subst hf; decide)).mono ?_
  rw [write_one]
  rintro e w1 ⟨rfl, hb1⟩
  have HB := Lib.hid (((Below.refl w.heap.size w).alloc (Nat.le_refl _) _).trans (hb1.mono (by simp)))
  clear hC hb1
  go_wp2_with fail
  refine (read_calls ⟨#[8, 150, 1]⟩ _).mono ?_
  show ∀ e w', ReadPost _ (Ws.read [8, 150, 1]) e w' → _
  rw [read_one]
  rintro e w2 ⟨v, rfl, hr, hb⟩
  obtain ⟨g, c, rfl, _, _, c2, _⟩ := kF_rowcell hr 0 _ rfl
  have HB2 := Lib.hid (HB.out.trans (hb.mono HB.out.size))
  simp only [Nat.zero_mul, Nat.zero_add] at c2
  have hg := Kd.R_lt hr g rfl
  clear hr hb HB
  go_wp2_with fail
  refine (read_calls ⟨#[15]⟩ _).mono ?_
  show ∀ e w', ReadPost _ (Ws.read [15]) e w' → _
  rw [read_bad]
  rintro e w3 ⟨v3, rfl, hr, hb⟩
  have c23 : w3.cell? ⟨g, 2, none⟩ = _ := (hb.cell (p := ⟨g, 2, none⟩) hg).trans c2
  have HB3 := Lib.hid (HB2.out.trans (hb.mono HB2.out.size))
  have hg3 : g < w3.heap.size := Nat.lt_of_lt_of_le hg hb.size
  clear hr hb HB2
  go_wp2_with fail
  refine (num_str 300 _ (by decide)).mono ?_
  rw [num_300]
  rintro e w4 ⟨rfl, hb⟩
  have HB4 := Lib.hid (HB3.out.trans (hb.mono HB3.out.size))
  clear hb HB3
  go_wp2_with fail
  refine (zig_calls (-1) _ (by decide) (by decide)).mono ?_
  rw [show Ws.zig (-1) = 1 by decide]
  rintro e w5 ⟨rfl, rfl⟩
  go_wp2_with fail
  refine (zag_calls 3 _ (by decide)).mono ?_
  rw [show Ws.zag 3 = -2 by decide]
  rintro e w5 ⟨rfl, rfl⟩
  go_wp2_with fail
  go_ret
  exact ⟨rfl, HB4.out⟩
end Go.Proofs.Ytehmneckcfchmaa
