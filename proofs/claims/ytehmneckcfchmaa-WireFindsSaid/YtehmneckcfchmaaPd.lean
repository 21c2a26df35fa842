/- The walk of WireFinds. No conditions but the kinds' own. -/
import Derived.Test.YtehmneckcfchmaaLb
set_option linter.unusedVariables false
set_option linter.unusedSimpArgs false
namespace Go.Proofs.Ytehmneckcfchmaa
open Go.RowKit Go.Proofs.YtehmneckcfchmaaW.PrintWords

attribute [local go_sem high] fd_eq
set_option maxHeartbeats 4000000 in
set_option maxRecDepth 100000 in
theorem finds_calls (xs : List Ws.Fd) (A : Option Addr) (c : Nat) (num : Int) (x : Nat) (w : World) (hC : kF.C w A xs.length xs) (hl : xs.length * 40 ≤ 140737488351232) :
    Calls Try.prog 9 #[.slice A xs.length c, .int .i64 num, .int .u8 x] w fun e w' => e = .returned (.bool true) ∧ Below w.heap.size w w' := by
  have HC := Lib.hid hC
  have hu := Try.underlying32
  clear hC
  obtain ⟨f, is, hfi⟩ : ∃ f is, (f, is) = Ws.last xs num x := ⟨_, _, rfl⟩
  have HFI := Lib.hid hfi
  obtain ⟨D, hD⟩ : ∃ D, D = Ws.finds xs num x := ⟨_, rfl⟩
  have HD := Lib.hid hD
  have hlen : D.length ≤ xs.length := by rw [hD]; exact Ws.finds_le _ _ _
  clear hfi hD
  go_enter Try.func9, Try.ntmps9
  go_wp2_with fail
  refine (last_calls xs A c num x _ HC.out hl).mono ?_
  rw [← HFI.out]
  rintro e w1 ⟨rfl, hb⟩
  have HB := Lib.hid hb
  clear hb
  go_wp2_with fail
  refine (rlast_calls xs A c num x _ (Kd.C_below HC.out ((Below.mono HB.out (Nat.le_refl _)).alloc (by exact HB.out.size) _)) hl).mono ?_
  rw [← HFI.out]
  rintro e w2 ⟨rfl, hb⟩
  have hx := blk_below (heap_alloc_new w1 (.cells #[.int .i64 f.k, .int .u8 f.w, .int .u64 f.n, .string ⟨f.s.toArray⟩] 32)) (by simpa using hb)
  have HX := Lib.hid hx
  have HB2 := Lib.hid ((HB.out.alloc HB.out.size _).trans (hb.mono (by have := HB.out.size; simp; omega)))
  clear hb hx HB
  go_wp2_with fail
  refine (lives_calls _).mono ?_
  rintro e w3 ⟨rfl, hb⟩
  have hx3 := blk_below (blk_alloc HX.out _) hb
  have hy3 := blk_below (heap_alloc_new w2 (.cells #[.int .i64 f.k, .int .u8 f.w, .int .u64 f.n, .string ⟨f.s.toArray⟩] 32)) (by simpa using hb)
  have b0 : w3.cell? ⟨w1.heap.size, 0, none⟩ = some (.int .i64 f.k) := blk_cell hx3 0
  have b1 : w3.cell? ⟨w1.heap.size, 1, none⟩ = some (.int .u8 f.w) := blk_cell hx3 1
  have b2 : w3.cell? ⟨w1.heap.size, 2, none⟩ = some (.int .u64 f.n) := blk_cell hx3 2
  have b3 : w3.cell? ⟨w1.heap.size, 3, none⟩ = some (.string ⟨f.s.toArray⟩) := blk_cell hx3 3
  have d0 : w3.cell? ⟨w2.heap.size, 0, none⟩ = some (.int .i64 f.k) := blk_cell hy3 0
  have d1 : w3.cell? ⟨w2.heap.size, 1, none⟩ = some (.int .u8 f.w) := blk_cell hy3 1
  have d2 : w3.cell? ⟨w2.heap.size, 2, none⟩ = some (.int .u64 f.n) := blk_cell hy3 2
  have d3 : w3.cell? ⟨w2.heap.size, 3, none⟩ = some (.string ⟨f.s.toArray⟩) := blk_cell hy3 3
  have HB3 := Lib.hid ((HB2.out.alloc HB2.out.size _).trans (hb.mono (by have := HB2.out.size; simp; omega)))
  clear hb hx3 hy3 HX HB2
  go_wp2_with fail
  refine (all_calls xs A c num x _ (Kd.C_below HC.out HB3.out) hl).mono ?_
  rw [← HD.out]
  rintro e w4 ⟨v, rfl, hr, hb⟩
  obtain ⟨B, c1, rfl, _, hE⟩ := Kd.R_reads hr
  have HE := Lib.hid hE
  have HB4 := Lib.hid (HB3.out.trans (hb.mono HB3.out.size))
  clear hr hb hE HB3
  go_wp2_with fail
  refine (rall_calls xs A c num x _ (Kd.C_below HC.out HB4.out) hl).mono ?_
  rw [← HD.out]
  rintro e w5 ⟨v, rfl, hr, hb⟩
  obtain ⟨B2, c2, rfl, _, hE2⟩ := Kd.R_reads hr
  have HE2 := Lib.hid hE2
  have HE1 := Lib.hid (Kd.C_below HE.out hb)
  have HB5 := Lib.hid (HB4.out.trans (hb.mono HB4.out.size))
  clear hr hb hE2 HB4 HE
  go_wp2_with fail
  refine (same_calls D D B B2 c1 c2 _ HE1.out HE2.out (by omega)).mono ?_
  rw [decide_eq_true rfl]
  rintro e w6 ⟨rfl, hb⟩
  have HB6 := Lib.hid (HB5.out.trans (hb.mono HB5.out.size))
  clear hb
  go_wp2_with fail
  go_ret
  exact ⟨rfl, HB6.out⟩
theorem finds_walk (xs : List Ws.Fd) (A : Option Addr) (c : Nat) (a1 a2 : Int) (w : World) (hC : kF.C w A xs.length xs) (hl : xs.length * 40 ≤ 140737488351232) (w2 : (Lit.int .u8 a2).wf = true) :
    Calls Try.prog 9 #[.slice A xs.length c, .int .i64 a1, .int .u8 a2] w fun e w' => e = .returned (.bool true) ∧ Below w.heap.size w w' := by
  obtain ⟨m, rfl, _⟩ := wf_u8 w2
  exact finds_calls xs A c a1 m w hC hl
end Go.Proofs.Ytehmneckcfchmaa
