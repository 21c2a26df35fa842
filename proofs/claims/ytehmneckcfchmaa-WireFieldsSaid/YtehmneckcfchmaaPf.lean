/- The walk of WireFields. No conditions but the kinds' own. -/
import Derived.Test.YtehmneckcfchmaaPb
set_option linter.unusedVariables false
set_option linter.unusedSimpArgs false
namespace Go.Proofs.Ytehmneckcfchmaa
open Go.RowKit Go.Proofs.YtehmneckcfchmaaW.PrintWords

theorem Ws.write_self (f : Ws.Fd) : (Ws.may f = true ∧ Ws.size f ≤ 65536 ∧ Ws.write [f] = (Ws.one f, 0) ∧ Ws.size f = (Ws.one f).length ∧ 2 ≤ (Ws.one f).length) ∨ (65536 < Ws.size f ∧ Ws.write [f] = ([], 4)) ∨ (Ws.size f = 0 ∧ Ws.write [f] = ([], 2)) := by
  have hb : Ws.bytes [f] = Ws.one f := by simp [Ws.bytes]
  cases hm : Ws.may f with
  | false =>
    refine .inr (.inr ⟨by unfold Ws.size; simp [hm], ?_⟩)
    rw [Ws.write_of _ (by simp), if_neg (by simp [hm])]
  | true =>
    have hsz : Ws.size f = (Ws.one f).length := by unfold Ws.size; rw [if_pos hm]
    by_cases h : 65536 < (Ws.one f).length
    · refine .inr (.inl ⟨by omega, ?_⟩)
      rw [Ws.write_of _ (by simp), if_pos (by simp [hm]), hb, if_pos h]
    · refine .inl ⟨rfl, by omega, ?_, hsz, ?_⟩
      · rw [Ws.write_of _ (by simp), if_pos (by simp [hm]), hb, if_neg h]
      · have h1 := Ws.vi_pos (f.k.toNat * 8 + f.w)
        have h2 : 1 ≤ (Ws.body f).length := by
          unfold Ws.body
          split
          · rw [Ws.lo_len]; omega
          split
          · rw [Ws.lo_len]; omega
          split
          · have := Ws.vi_pos f.s.length; simp; omega
          · exact Ws.vi_pos _
        unfold Ws.one
        rw [List.length_append]
        omega

attribute [local go_sem high] fd_eq
set_option maxHeartbeats 2000000 in
set_option maxRecDepth 100000 in
theorem fields_calls (f : Ws.Fd) (b : ByteArray) (w : World) (hF : Fits f) :
    Calls Try.prog 6 #[.agg #[.int .i64 f.k, .int .u8 f.w, .int .u64 f.n, .string ⟨f.s.toArray⟩], .string b] w fun e w' => e = .returned (.bool true) ∧ Below w.heap.size w w' := by
  have hn := hF.n
  have hu := Try.underlying32
  have HS := Lib.hid (Ws.write_self f)
  clear hF
  go_enter Try.func6, Try.ntmps6
  go_wp2_with fail
  refine (lives_calls _).mono ?_
  rintro e w1 ⟨rfl, hb1⟩
  have hx := blk_below (heap_alloc_new w (.cells #[.int .i64 f.k, .int .u8 f.w, .int .u64 f.n, .string ⟨f.s.toArray⟩] 32)) (by simpa using hb1)
  have HX := Lib.hid hx
  have b0 : w1.cell? ⟨w.heap.size, 0, none⟩ = some (.int .i64 f.k) := blk_cell hx 0
  have b1 : w1.cell? ⟨w.heap.size, 1, none⟩ = some (.int .u8 f.w) := blk_cell hx 1
  have b2 : w1.cell? ⟨w.heap.size, 2, none⟩ = some (.int .u64 f.n) := blk_cell hx 2
  have b3 : w1.cell? ⟨w.heap.size, 3, none⟩ = some (.string ⟨f.s.toArray⟩) := blk_cell hx 3
  have HB := Lib.hid (((Below.refl w.heap.size w).alloc (Nat.le_refl _) _).trans (hb1.mono (by simp)))
  clear hx hb1
  have hC := (Kd.R_reads' (kF_lit w1 w1.heap.size (Nat.le_refl _) f)).2.2
  have HC := Lib.hid hC
  clear hC
  go_wp2_with fail
  refine (write_calls [f] (some ⟨w1.heap.size, 0, none⟩) 1 _ HC.out (by intro g hg; simp at hg; subst hg; exact hn)).mono ?_
  obtain ⟨s, k, hw⟩ : ∃ s k, Ws.write [f] = (s, k) := ⟨_, _, rfl⟩
  rw [hw]
  have HW := Lib.hid hw
  rintro e w2 ⟨rfl, hb⟩
  have hx2 := blk_below (blk_alloc HX.out _) hb
  have HX2 := Lib.hid hx2
  have HB2 := Lib.hid ((HB.out.alloc HB.out.size _).trans (hb.mono (by have := HB.out.size; simp; omega)))
  have b0 : w2.cell? ⟨w.heap.size, 0, none⟩ = some (.int .i64 f.k) := blk_cell hx2 0
  have b1 : w2.cell? ⟨w.heap.size, 1, none⟩ = some (.int .u8 f.w) := blk_cell hx2 1
  have b2 : w2.cell? ⟨w.heap.size, 2, none⟩ = some (.int .u64 f.n) := blk_cell hx2 2
  have b3 : w2.cell? ⟨w.heap.size, 3, none⟩ = some (.string ⟨f.s.toArray⟩) := blk_cell hx2 3
  clear hb hx2 HX HB HC hw
  go_wp2_with fail
  refine (size_of f _ hn).mono ?_
  rintro e w3 ⟨rfl, hb⟩
  have hx3 := blk_below HX2.out hb
  have HX3 := Lib.hid hx3
  have HB3 := Lib.hid (HB2.out.trans (hb.mono HB2.out.size))
  have b0 : w3.cell? ⟨w.heap.size, 0, none⟩ = some (.int .i64 f.k) := blk_cell hx3 0
  have b1 : w3.cell? ⟨w.heap.size, 1, none⟩ = some (.int .u8 f.w) := blk_cell hx3 1
  have b2 : w3.cell? ⟨w.heap.size, 2, none⟩ = some (.int .u64 f.n) := blk_cell hx3 2
  have b3 : w3.cell? ⟨w.heap.size, 3, none⟩ = some (.string ⟨f.s.toArray⟩) := blk_cell hx3 3
  clear hb hx3 HX2 HB2
  rcases HS.out with ⟨_, hs1, hs2, hs3, hs4⟩ | ⟨hs1, hs2⟩ | ⟨hs1, hs2⟩
  · rw [hs2] at HW
    obtain ⟨rfl, rfl⟩ : Ws.one f = s ∧ 0 = k := by have := HW.out; rw [Prod.mk.injEq] at this; exact this
    have Hrd := Lib.hid (Ws.read_write [f] (by intro g hg; simp at hg; subst hg; exact hn) _ hs2).1
    obtain ⟨s, hs⟩ : ∃ s, s = Ws.one f := ⟨_, rfl⟩
    rw [← hs] at Hrd hs3 hs4
    rw [← hs]
    clear hs2 HW HS hs
    have hs5 : (1 : Int) < (s.length : Int) := by omega
    have hs6 : (Ws.size f : Int) = s.length := by omega
    rw [hs6]
    clear hs6 hs3 hs4 hs1
    have hss : (⟨s.toArray⟩ : ByteArray).size = s.length := by simp [ByteArray.size]
    go_wp2_with fail
    refine (read_calls ⟨s.toArray⟩ _).mono ?_
    show ∀ e w', ReadPost _ (Ws.read s) e w' → _
    rw [Hrd.out]
    rintro e w4 ⟨v, rfl, hr, hb⟩
    obtain ⟨g, c, rfl, a0, a1, a2, a3⟩ := kF_rowcell hr 0 _ rfl
    have hx4 := blk_below HX3.out hb
    have b0 : w4.cell? ⟨w.heap.size, 0, none⟩ = some (.int .i64 f.k) := blk_cell hx4 0
    have b1 : w4.cell? ⟨w.heap.size, 1, none⟩ = some (.int .u8 f.w) := blk_cell hx4 1
    have b2 : w4.cell? ⟨w.heap.size, 2, none⟩ = some (.int .u64 f.n) := blk_cell hx4 2
    have b3 : w4.cell? ⟨w.heap.size, 3, none⟩ = some (.string ⟨f.s.toArray⟩) := blk_cell hx4 3
    have HB4 := Lib.hid (HB3.out.trans (hb.mono HB3.out.size))
    simp only [Nat.zero_mul, Nat.zero_add] at a0 a1 a2 a3
    clear hr hb hx4 HX3 HB3
    go_wp2_with fail
    repeat (go_quiet (fail); try go_wp2)
    go_ret
    exact ⟨rfl, pw_below_drewN HB4.out _⟩
  · rw [hs2] at HW
    obtain ⟨rfl, rfl⟩ : [] = s ∧ 4 = k := by have := HW.out; rw [Prod.mk.injEq] at this; exact this
    have hs5 : (65536 : Int) < (Ws.size f : Int) := by omega
    clear hs2 HW HS
    go_wp2_with fail
    go_ret
    exact ⟨rfl, HB3.out⟩
  · rw [hs2] at HW
    obtain ⟨rfl, rfl⟩ : [] = s ∧ 2 = k := by have := HW.out; rw [Prod.mk.injEq] at this; exact this
    have hs5 : (Ws.size f : Int) = 0 := by omega
    clear hs2 HW HS
    go_wp2_with fail
    go_ret
    exact ⟨rfl, HB3.out⟩
end Go.Proofs.Ytehmneckcfchmaa
