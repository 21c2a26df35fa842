/- The walks of a field's size and of writing, the document's own. No conditions but the kinds' own. -/
import Derived.Test.YtehmneckcfchmaaMc
import Derived.Test.YtehmneckcfchmaaPb
set_option linter.unusedVariables false
set_option linter.unusedSimpArgs false
namespace Go.Proofs.Ytehmneckcfchmaa
open Go.RowKit Go.Proofs.YtehmneckcfchmaaW.PrintWords

theorem rmay_of (f : Ws.Fd) (w : World) (hs : f.s.length ≤ 9223372036854775807) : Calls Try.prog 33 #[.agg #[.int .i64 f.k, .int .u8 f.w, .int .u64 f.n, .string ⟨f.s.toArray⟩]] w fun e w' => e = .returned (.bool (Ws.may f)) ∧ Below w.heap.size w w' := by
  obtain ⟨k, x, n, s⟩ := f
  exact rmay_calls k x n s w hs
theorem rone_of (f : Ws.Fd) (w : World) (hm : Ws.may f = true) (hn : f.n < 2 ^ 64) : Calls Try.prog 34 #[.agg #[.int .i64 f.k, .int .u8 f.w, .int .u64 f.n, .string ⟨f.s.toArray⟩]] w fun e w' => e = .returned (.string ⟨(Ws.one f).toArray⟩) ∧ Below w.heap.size w w' := rone_str f w hm hn

theorem one_le (f : Ws.Fd) (hm : Ws.may f = true) (hn : f.n < 2 ^ 64) : (Ws.one f).length ≤ 65566 := by
  have := size_le f hn
  unfold Ws.size at this
  rwa [if_pos hm] at this

set_option maxHeartbeats 1000000 in
set_option maxRecDepth 100000 in
theorem rsize_of (f : Ws.Fd) (w : World) (hn : f.n < 2 ^ 64) (hs : f.s.length ≤ 9223372036854775807) :
    Calls Try.prog 17 #[.agg #[.int .i64 f.k, .int .u8 f.w, .int .u64 f.n, .string ⟨f.s.toArray⟩]] w fun e w' => e = .returned (.int .i64 (Ws.size f)) ∧ Below w.heap.size w w' := by
  obtain ⟨z, hz⟩ : ∃ z, z = Ws.size f := ⟨_, rfl⟩
  rw [← hz]
  have HZ := Lib.hid hz
  clear hz
  go_enter Try.func17, Try.ntmps17
  go_wp2_with fail
  refine (rmay_of f _ hs).mono ?_
  rintro e w1 ⟨rfl, hb⟩
  have hx := blk_below (heap_alloc_new w (.cells #[.int .i64 f.k, .int .u8 f.w, .int .u64 f.n, .string ⟨f.s.toArray⟩] 32)) (by simpa using hb)
  have b0 : w1.cell? ⟨w.heap.size, 0, none⟩ = some (.int .i64 f.k) := blk_cell hx 0
  have b1 : w1.cell? ⟨w.heap.size, 1, none⟩ = some (.int .u8 f.w) := blk_cell hx 1
  have b2 : w1.cell? ⟨w.heap.size, 2, none⟩ = some (.int .u64 f.n) := blk_cell hx 2
  have b3 : w1.cell? ⟨w.heap.size, 3, none⟩ = some (.string ⟨f.s.toArray⟩) := blk_cell hx 3
  have HB := Lib.hid (((Below.refl w.heap.size w).alloc (Nat.le_refl _) _).trans (hb.mono (by simp)))
  clear hb hx
  cases hm : Ws.may f
  · have hsz : Ws.size f = 0 := by unfold Ws.size; simp [hm]
    obtain rfl : z = 0 := HZ.out.trans hsz
    clear hsz hm
    go_wp2_with fail
    go_ret
    exact ⟨rfl, HB.out⟩
  · have hsz : Ws.size f = (Ws.one f).length := by unfold Ws.size; simp [hm]
    have hle := one_le f hm hn
    have HZ2 := Lib.hid (HZ.out.trans hsz)
    have HM := Lib.hid hm
    clear hsz hm
    go_wp2_with fail
    refine (rone_of f _ HM.out hn).mono ?_
    rintro e w2 ⟨rfl, hb⟩
    have HB2 := Lib.hid (HB.out.trans (hb.mono HB.out.size))
    obtain ⟨t, ht⟩ : ∃ t, t = Ws.one f := ⟨_, rfl⟩
    have hz2 : z = t.length := by rw [ht]; exact HZ2.out
    rw [← ht] at hle ⊢
    subst hz2
    have hts : (⟨t.toArray⟩ : ByteArray).size = t.length := by simp [ByteArray.size]
    clear ht hb
    go_wp2_with fail
    go_ret
    exact ⟨rfl, HB2.out⟩
end Go.Proofs.Ytehmneckcfchmaa
