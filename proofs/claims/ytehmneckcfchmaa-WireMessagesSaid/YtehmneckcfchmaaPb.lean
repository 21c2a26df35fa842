/- The walk of WireBack. No conditions but the kinds' own. -/
import Derived.Test.YtehmneckcfchmaaOp
set_option linter.unusedVariables false
set_option linter.unusedSimpArgs false
namespace Go.Proofs.Ytehmneckcfchmaa
open Go.RowKit Go.Proofs.YtehmneckcfchmaaW.PrintWords

theorem Ws.write_no {l : List Ws.Fd} {s : List UInt8} {c : Nat} (h : Ws.write l = (s, c)) (hc : c ≠ 0) : s = [] ∧ (c = 2 ∨ c = 3 ∨ c = 4) := by
  unfold Ws.write at h
  split at h
  · cases h; exact ⟨rfl, by omega⟩
  split at h
  · split at h
    · cases h; exact ⟨rfl, by omega⟩
    · cases h; exact absurd rfl hc
  · cases h; exact ⟨rfl, by omega⟩

set_option maxHeartbeats 2000000 in
set_option maxRecDepth 100000 in
theorem back_calls (xs : List Ws.Fd) (A : Option Addr) (c : Nat) (w : World) (hC : kF.C w A xs.length xs) (hF : ∀ f ∈ xs, Fits f) (hl : xs.length ≤ 9223372036854775807) :
    Calls Try.prog 4 #[.slice A xs.length c] w fun e w' => e = .returned (.bool true) ∧ Below w.heap.size w w' := by
  have hn : ∀ f ∈ xs, f.n < 2 ^ 64 := fun f hf => (hF f hf).n
  have HC := Lib.hid hC
  have HN := Lib.hid hn
  obtain ⟨s, k, hw⟩ : ∃ s k, Ws.write xs = (s, k) := ⟨_, _, rfl⟩
  have HW := Lib.hid hw
  clear hC hF hn hw
  go_enter Try.func4, Try.ntmps4
  go_wp2_with fail
  refine (lives_calls _).mono ?_
  rintro e w1 ⟨rfl, hb1⟩
  have HB := Lib.hid hb1
  clear hb1
  go_wp2_with fail
  refine (write_calls xs A c w1 (Kd.C_below HC.out HB.out) HN.out).mono ?_
  rw [HW.out]
  rintro e w2 ⟨rfl, hb⟩
  have HB2 := Lib.hid (HB.out.trans (hb.mono HB.out.size))
  clear hb HB
  by_cases hk : k = 0
  · subst hk
    have hrw := Ws.read_write xs HN.out s HW.out
    have Hlen := Lib.hid hrw.2
    have Hrd := Lib.hid hrw.1
    obtain ⟨hx4, hmay, hsb, hbl⟩ := Ws.write_ok HW.out
    have hsl : s.length ≤ 65536 := by rw [hsb]; exact hbl
    clear hrw hsb hbl hmay
    go_wp2_with fail
    refine (read_calls ⟨s.toArray⟩ _).mono ?_
    show ∀ e w', ReadPost _ (Ws.read s) e w' → _
    rw [Hrd.out]
    rintro e w3 ⟨v, rfl, hr, hb⟩
    have HB3 := Lib.hid (HB2.out.trans (hb.mono HB2.out.size))
    obtain ⟨B, d, rfl, _, hD⟩ := Kd.R_reads hr
    have HD := Lib.hid hD
    clear hr hb HB2 hD
    go_wp2_with fail
    go_loopw [7, 28] (fun s i wr => ∃ k : Nat, k ≤ xs.length ∧ i = .int .i64 k ∧ s = .int .i64 (sizes (xs.take k)) ∧ Hid (Below w.heap.size w wr) ∧ Hid (Below w3.heap.size w3 wr)) (fun _ i _ => xs.length - (intOf i).toNat)
    case atStart => exact ⟨0, Nat.zero_le _, rfl, rfl, HB3, Below.refl _ _⟩
    case round =>
      clear HB3
      obtain ⟨k, hk, rfl, rfl, HB, HB3⟩ := hrel
      by_cases hkn : k < xs.length
      · obtain ⟨x, hx⟩ : ∃ x, xs[k]? = some x := ⟨xs[k], List.getElem?_eq_getElem hkn⟩
        obtain ⟨ad, rfl, c0, c1, c2, c3⟩ := cellsF_at (Kd.C_below HC.out HB.out) k hkn x hx
        have hxn := HN.out x (List.mem_of_getElem? hx)
        have hxs := size_le x hxn
        have hks := sizes_le (xs.take k) (fun f hf => HN.out f (List.mem_of_mem_take hf))
        rw [List.length_take, Nat.min_eq_left hk] at hks
        have HX := Lib.hid hx
        clear hx
        go_wp2_with fail
        refine (size_of x _ hxn).mono ?_
        rintro e w4 ⟨rfl, hb⟩
        have Hb := Lib.hid ((HB.out.alloc HB.out.size _).trans (hb.mono (by have := HB.out.size; simp; omega)))
        have Hb3 := Lib.hid ((HB3.out.alloc HB3.out.size _).trans (hb.mono (by have := HB3.out.size; simp; omega)))
        clear hb
        go_wp2_with fail
        go_roundw
        case rel => exact ⟨k + 1, by omega, by go_num, by rw [sizes_more _ _ _ HX.out]; go_num, Hb, Hb3⟩
        case measure => simp [intOf]; omega
      · have hkk : k = xs.length := by omega
        subst hkk
        rw [List.take_length]
        have hsz : (sizes xs : Int) = (s.length : Int) := by rw [Hlen.out]; rfl
        have hss : (⟨s.toArray⟩ : ByteArray).size = s.length := by simp [ByteArray.size]
        have Hsz := Lib.hid hsz
        go_wp2_with fail
        refine (same_calls xs xs B A d c wr (Kd.C_below HD.out HB3.out) (Kd.C_below HC.out HB.out) hl).mono ?_
        rw [decide_eq_true rfl]
        rintro e w4 ⟨rfl, hb⟩
        have Hb := Lib.hid (HB.out.trans (hb.mono HB.out.size))
        clear hb
        go_wp2_with fail
        go_ret
        exact ⟨rfl, Hb.out⟩
  · obtain ⟨rfl, hk3⟩ := Ws.write_no HW.out hk
    have hk1 : ¬ (k : Int) = 0 := by omega
    go_wp2_with fail
    go_ret
    exact ⟨rfl, HB2.out⟩
end Go.Proofs.Ytehmneckcfchmaa
