/- The walk of a field's size. No conditions but the numbers' kinds. -/
import Derived.Test.YtbgfiflnfndckaaDoorWy
set_option linter.unusedVariables false
set_option linter.unusedSimpArgs false
namespace Go.Proofs.YtbgfiflnfndckaaDoor
open Go.RowKit Go.Proofs.YtbgfiflnfndckaaDoorW.PrintWords

namespace Ws
theorem vi_len8 (q r : Nat) (hr : r < 8) : (vi (q * 8 + r)).length = (vi (q * 8)).length := by
  by_cases h : q * 8 < 128
  · rw [vi, dif_pos (by omega), vi, dif_pos h]; rfl
  · have e1 : vi (q * 8 + r) = UInt8.ofNat ((q * 8 + r) % 128 + 128) :: vi ((q * 8 + r) / 128) := by rw [vi, dif_neg (by omega)]
    have e2 : vi (q * 8) = UInt8.ofNat (q * 8 % 128 + 128) :: vi (q * 8 / 128) := by rw [vi, dif_neg h]
    have : (q * 8 + r) / 128 = q * 8 / 128 := by omega
    rw [e1, e2, this]
    simp
theorem may_num {f : Fd} (h : may f = true) : 1 ≤ f.k ∧ f.k ≤ 536870911 := by
  unfold may at h
  simp only [Bool.and_eq_true, decide_eq_true_eq] at h
  exact h.1
theorem may_wire {f : Fd} (h : may f = true) : (f.w = 0 ∨ f.w = 1) ∧ f.s = [] ∨ f.w = 5 ∧ f.s = [] ∧ f.n < 4294967296 ∨ f.w = 2 ∧ f.n = 0 ∧ f.s.length ≤ 65536 := by
  unfold may at h
  simp only [Bool.and_eq_true] at h
  have h := h.2
  split at h
  · simp only [decide_eq_true_eq] at h; exact .inl ⟨by assumption, h⟩
  split at h
  · simp only [decide_eq_true_eq] at h; exact .inr (.inl ⟨by assumption, h⟩)
  split at h
  · simp only [decide_eq_true_eq] at h; exact .inr (.inr ⟨by assumption, h⟩)
  · cases h
theorem lo_len : ∀ k n, (lo k n).length = k
  | 0, _ => rfl
  | k + 1, n => by simp [lo, lo_len k]
theorem size_yes {f : Fd} (h : may f = true) : size f = (vi (f.k.toNat * 8)).length + (body f).length := by
  have hw : f.w < 8 := by have := may_wire h; omega
  unfold size one
  rw [if_pos h, List.length_append, vi_len8 _ _ hw]
end Ws

set_option maxHeartbeats 2000000 in
set_option maxRecDepth 100000 in
theorem size_no (f : Ws.Fd) (w : World) (hm : Ws.may f = false) :
    Calls Tryd.prog 106 #[fval f] w fun e w' => e = .returned (.int .i64 0) ∧ Below w.heap.size w w' := by
  have Hm := Lib.hid hm
  clear hm
  obtain ⟨k, x, n, s⟩ := f
  unfold fval
  go_enter Tryd.func106, Tryd.ntmps106
  go_wp2_with (go_at_call 105; refine (may_calls k x n s _).mono ?_; rw [Hm.out]; rintro e w' ⟨rfl, hb⟩; have Hb := Lib.hid hb; clear hb)
  go_ret
  exact ⟨rfl, ((Below.refl _ _).alloc (Nat.le_refl _) _).trans (Hb.out.mono (by simp))⟩

set_option maxHeartbeats 2000000 in
set_option maxRecDepth 100000 in
theorem size_yes (f : Ws.Fd) (w : World) (hm : Ws.may f = true) (hn : f.n < 2 ^ 64) :
    Calls Tryd.prog 106 #[fval f] w fun e w' => e = .returned (.int .i64 (Ws.size f)) ∧ Below w.heap.size w w' := by
  have hk := Ws.may_num hm
  have hw := Ws.may_wire hm
  have hs := Ws.size_yes hm
  have Hm := Lib.hid hm
  have Hs := Lib.hid hs
  clear hm hs
  obtain ⟨k, x, n, s⟩ := f
  obtain ⟨m, rfl⟩ : ∃ m : Nat, k = (m : Int) := ⟨k.toNat, by have := hk.1; show k = _; simp at this; omega⟩
  simp only at hk hw hn
  obtain ⟨hk1, hk2⟩ := hk
  unfold fval
  have hl := fun w => long_calls (m * 8) w (by omega)
  have hc : ((m * 8 : Nat) : Int) = (m : Int) * 8 := by omega
  rw [hc] at hl
  have Hl := Lib.hid hl
  have hten := Ws.vi_ten (m * 8) (by omega)
  clear hl hc
  obtain ⟨L, hL⟩ : ∃ L, L = (Ws.vi (m * 8)).length := ⟨_, rfl⟩
  rw [← hL] at Hl hten
  have HL := Lib.hid hL
  have Hk : Hid (L = (Ws.vi ((m : Int).toNat * 8)).length) := by rw [Int.toNat_natCast]; exact HL.out
  clear hL
  rcases hw with ⟨rfl | rfl, rfl⟩ | ⟨rfl, rfl, hn2⟩ | ⟨rfl, rfl, hs2⟩
  · have hten2 := Ws.vi_ten n hn
    go_enter Tryd.func106, Tryd.ntmps106
    go_wp2_with fail
    refine (may_calls m 0 n [] _).mono ?_
    rw [Hm.out]
    rintro e w1 ⟨rfl, hb⟩
    have hcs := blk_below (heap_alloc_new w (.cells #[.int .i64 m, .int .u8 0, .int .u64 n, .string ⟨#[]⟩] 99)) (by simpa using hb)
    have c0 : w1.cell? ⟨w.heap.size, 0, none⟩ = some (.int .i64 m) := blk_cell hcs 0
    have c1 : w1.cell? ⟨w.heap.size, 1, none⟩ = some (.int .u8 0) := blk_cell hcs 1
    have c2 : w1.cell? ⟨w.heap.size, 2, none⟩ = some (.int .u64 n) := blk_cell hcs 2
    have c3 : w1.cell? ⟨w.heap.size, 3, none⟩ = some (.string ⟨#[]⟩) := blk_cell hcs 3
    have Hb := Lib.hid (((Below.refl w.heap.size w).alloc (Nat.le_refl _) _).trans (hb.mono (by simp)))
    clear hb hcs
    go_wp2_with fail
    refine (Hl.out _).mono ?_
    rintro e w2 ⟨rfl, rfl⟩
    go_wp2_with fail
    refine (long_calls n _ hn).mono ?_
    rintro e w2 ⟨rfl, rfl⟩
    go_wp2_with fail
    go_ret
    refine ⟨?_, Hb.out⟩
    rw [Hs.out, ← Hk.out]
    show Ending.returned (.int .i64 _) = Ending.returned (.int .i64 (((L + (Ws.vi n).length : Nat)) : Int))
    congr 2
  · skip
    go_enter Tryd.func106, Tryd.ntmps106
    go_wp2_with fail
    refine (may_calls m 1 n [] _).mono ?_
    rw [Hm.out]
    rintro e w1 ⟨rfl, hb⟩
    have hcs := blk_below (heap_alloc_new w (.cells #[.int .i64 m, .int .u8 1, .int .u64 n, .string ⟨#[]⟩] 99)) (by simpa using hb)
    have c0 : w1.cell? ⟨w.heap.size, 0, none⟩ = some (.int .i64 m) := blk_cell hcs 0
    have c1 : w1.cell? ⟨w.heap.size, 1, none⟩ = some (.int .u8 1) := blk_cell hcs 1
    have c2 : w1.cell? ⟨w.heap.size, 2, none⟩ = some (.int .u64 n) := blk_cell hcs 2
    have c3 : w1.cell? ⟨w.heap.size, 3, none⟩ = some (.string ⟨#[]⟩) := blk_cell hcs 3
    have Hb := Lib.hid (((Below.refl w.heap.size w).alloc (Nat.le_refl _) _).trans (hb.mono (by simp)))
    clear hb hcs
    go_wp2_with fail
    refine (Hl.out _).mono ?_
    rintro e w2 ⟨rfl, rfl⟩
    go_wp2_with fail
    go_ret
    refine ⟨?_, Hb.out⟩
    rw [Hs.out, ← Hk.out]
    show Ending.returned (.int .i64 _) = Ending.returned (.int .i64 (((L + 8 : Nat)) : Int))
    congr 2
  · skip
    go_enter Tryd.func106, Tryd.ntmps106
    go_wp2_with fail
    refine (may_calls m 5 n [] _).mono ?_
    rw [Hm.out]
    rintro e w1 ⟨rfl, hb⟩
    have hcs := blk_below (heap_alloc_new w (.cells #[.int .i64 m, .int .u8 5, .int .u64 n, .string ⟨#[]⟩] 99)) (by simpa using hb)
    have c0 : w1.cell? ⟨w.heap.size, 0, none⟩ = some (.int .i64 m) := blk_cell hcs 0
    have c1 : w1.cell? ⟨w.heap.size, 1, none⟩ = some (.int .u8 5) := blk_cell hcs 1
    have c2 : w1.cell? ⟨w.heap.size, 2, none⟩ = some (.int .u64 n) := blk_cell hcs 2
    have c3 : w1.cell? ⟨w.heap.size, 3, none⟩ = some (.string ⟨#[]⟩) := blk_cell hcs 3
    have Hb := Lib.hid (((Below.refl w.heap.size w).alloc (Nat.le_refl _) _).trans (hb.mono (by simp)))
    clear hb hcs
    go_wp2_with fail
    refine (Hl.out _).mono ?_
    rintro e w2 ⟨rfl, rfl⟩
    go_wp2_with fail
    go_ret
    refine ⟨?_, Hb.out⟩
    rw [Hs.out, ← Hk.out]
    show Ending.returned (.int .i64 _) = Ending.returned (.int .i64 (((L + 4 : Nat)) : Int))
    congr 2
  · have hten2 := Ws.vi_ten s.length (by omega)
    have hls := fun w => long_calls s.length w (by omega)
    have HLS := Lib.hid hls
    clear hls
    go_enter Tryd.func106, Tryd.ntmps106
    go_wp2_with fail
    refine (may_calls m 2 0 s _).mono ?_
    rw [Hm.out]
    rintro e w1 ⟨rfl, hb⟩
    have hcs := blk_below (heap_alloc_new w (.cells #[.int .i64 m, .int .u8 2, .int .u64 0, .string ⟨s.toArray⟩] 99)) (by simpa using hb)
    have c0 : w1.cell? ⟨w.heap.size, 0, none⟩ = some (.int .i64 m) := blk_cell hcs 0
    have c1 : w1.cell? ⟨w.heap.size, 1, none⟩ = some (.int .u8 2) := blk_cell hcs 1
    have c2 : w1.cell? ⟨w.heap.size, 2, none⟩ = some (.int .u64 0) := blk_cell hcs 2
    have c3 : w1.cell? ⟨w.heap.size, 3, none⟩ = some (.string ⟨s.toArray⟩) := blk_cell hcs 3
    have Hb := Lib.hid (((Below.refl w.heap.size w).alloc (Nat.le_refl _) _).trans (hb.mono (by simp)))
    clear hb hcs
    go_wp2_with fail
    refine (Hl.out _).mono ?_
    rintro e w2 ⟨rfl, rfl⟩
    go_wp2_with fail
    go_quiet ((go_at_call 112; exact Calls.quiet_of_same (HLS.out _)))
    go_wp2
    go_ret
    refine ⟨?_, pw_below_drewN Hb.out nq⟩
    rw [Hs.out, ← Hk.out]
    show Ending.returned (.int .i64 ((L : Int) + ((Ws.vi s.length).length : Nat) + (s.length : Nat))) = Ending.returned (.int .i64 ((L + (Ws.vi s.length ++ s).length : Nat) : Int))
    congr 2
    simp only [List.length_append]
    omega
end Go.Proofs.YtbgfiflnfndckaaDoor
