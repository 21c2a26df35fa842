/- The walk of WireMessages. No conditions but the kinds' own. -/
import Derived.Test.YtehmneckcfchmaaMi
import Derived.Test.YtehmneckcfchmaaRa
set_option linter.unusedVariables false
set_option linter.unusedSimpArgs false
namespace Go.Proofs.Ytehmneckcfchmaa
open Go.RowKit Go.Proofs.YtehmneckcfchmaaW.PrintWords

set_option maxHeartbeats 4000000 in
set_option maxRecDepth 100000 in
theorem messages_calls (xs : List Ws.Fd) (A : Option Addr) (c : Nat) (s : ByteArray) (w : World) (hC : kF.C w A xs.length xs) (hF : ∀ f ∈ xs, Fits f) (hl : xs.length * 40 ≤ 140737488351232) (hs : s.size ≤ 140737488351232) :
    Calls Try.prog 3 #[.slice A xs.length c, .string s] w fun e w' => e = .returned (.bool true) ∧ Below w.heap.size w w' := by
  have HC := Lib.hid hC
  have HF := Lib.hid hF
  have HN := Lib.hid (show ∀ f ∈ xs, f.n < 2 ^ 64 from fun f hf => (hF f hf).n)
  have HSM := Lib.hid (show s.size ≤ maxLen by unfold maxLen; omega)
  have HL0 := Lib.hid (show (0 + xs.length) * 40 ≤ 140737488355328 by omega)
  obtain ⟨x, k1, hw1⟩ : ∃ s k, Ws.write xs = (s, k) := ⟨_, _, rfl⟩
  obtain ⟨r, k2, hr2⟩ : ∃ a k, Ws.read s.data.toList = (a, k) := ⟨_, _, rfl⟩
  have HW := Lib.hid hw1
  have HR := Lib.hid hr2
  clear hC hF hw1 hr2
  go_enter Try.func3, Try.ntmps3
  go_wp2_with (first
    | (at_builtin; refine append_rows_g kF (w0 := w) w.heap.size (by rfl) (.tmp 16) (.tmp 17) 22 32 _ 40 rfl Try.underlying22 infoF rfl (by decide) (by decide) (.slice (some ⟨w.heap.size, 0, none⟩) 0 0) [] xs A xs.length c (fun _ => True) (fun _ => False) rfl rfl ?hO ?hR (fun x cs h => kF_of _ _ _ x cs h) (fun _ hk => hk.elim) (fun _ _ => trivial) ?hB ?hbs HL0.out ?_; (case hO => exact kF_none w w.heap.size (Nat.le_refl _)); (case hR => exact Kd.C_below HC.out (Below.alloc (Below.refl _ _) (Nat.le_refl _) _)); (case hB => exact Below.alloc (Below.refl _ _) (Nat.le_refl _) _); (case hbs => simp); intro v1 w1 ho hb hg hat; rw [List.nil_append] at ho; have HB1 := Lib.hid hb; obtain ⟨A1, c1, rfl⟩ := Kd.R_slice ho; have HO1 := Lib.hid (Kd.R_reads' ho).2.2; clear ho hb hg hat)
    | fail)
  refine (write_calls xs A1 c1 _ HO1.out HN.out).mono ?_
  rw [HW.out]
  rintro e w2 ⟨rfl, hb⟩
  have HO2 := Lib.hid (Kd.C_below HO1.out hb)
  have HB2 := Lib.hid (HB1.out.trans (hb.mono HB1.out.size))
  clear hb HO1 HB1
  go_wp2_with fail
  refine (rwrite_calls xs A c _ (Kd.C_below HC.out HB2.out) HF.out (by omega)).mono ?_
  rw [HW.out]
  rintro e w3 ⟨rfl, hb⟩
  have HO3 := Lib.hid (Kd.C_below HO2.out hb)
  have HB3 := Lib.hid (HB2.out.trans (hb.mono HB2.out.size))
  clear hb HO2 HB2
  go_wp2_with fail
  refine (read_calls s _).mono ?_
  rw [HR.out]
  rintro e w4 ⟨v, rfl, hr, hb⟩
  have HO4 := Lib.hid (Kd.C_below HO3.out hb)
  have HB4 := Lib.hid (HB3.out.trans (hb.mono HB3.out.size))
  obtain ⟨E, q, rfl, _, hE⟩ := Kd.R_reads hr
  have HE := Lib.hid hE
  clear hr hb hE HO3 HB3
  go_wp2_with fail
  refine (rread_calls s _ HSM.out).mono ?_
  rw [HR.out]
  rintro e w5 ⟨v, rfl, hr, hb⟩
  have HO5 := Lib.hid (Kd.C_below HO4.out hb)
  have HE5 := Lib.hid (Kd.C_below HE.out hb)
  have HB5 := Lib.hid (HB4.out.trans (hb.mono HB4.out.size))
  obtain ⟨E2, q2, rfl, _, hE⟩ := Kd.R_reads hr
  have HG := Lib.hid hE
  have hrm : r.length ≤ 9223372036854775807 := Kd.C_max hE
  clear hr hb hE HO4 HB4 HE
  go_wp2_with fail
  refine (same_calls r r E E2 q q2 _ HE5.out HG.out hrm).mono ?_
  rw [decide_eq_true rfl]
  rintro e w6 ⟨rfl, hb⟩
  have HO6 := Lib.hid (Kd.C_below HO5.out hb)
  have HB6 := Lib.hid (HB5.out.trans (hb.mono HB5.out.size))
  clear hb HO5 HB5 HE5 HG
  go_wp2_with fail
  refine (same_calls xs xs A1 A c1 c _ HO6.out (Kd.C_below HC.out HB6.out) (by omega)).mono ?_
  rw [decide_eq_true rfl]
  rintro e w7 ⟨rfl, hb⟩
  have HB7 := Lib.hid (HB6.out.trans (hb.mono HB6.out.size))
  clear hb HO6 HB6
  go_wp2_with fail
  go_loopw [66] (fun i wr => ∃ k : Nat, k ≤ xs.length ∧ i = .int .i64 k ∧ Hid (Below w.heap.size w wr)) (fun i _ => xs.length - (intOf i).toNat)
  case atStart => exact ⟨0, Nat.zero_le _, rfl, HB7⟩
  case round =>
    clear HB7
    obtain ⟨k, hk, rfl, HB⟩ := hrel
    by_cases hkn : k < xs.length
    · obtain ⟨f, hf⟩ : ∃ f, xs[k]? = some f := ⟨xs[k], List.getElem?_eq_getElem hkn⟩
      obtain ⟨ad, rfl, c0, c1, c2, c3⟩ := cellsF_at (Kd.C_below HC.out HB.out) k hkn f hf
      have hxn := HN.out f (List.mem_of_getElem? hf)
      have hxs := (HF.out f (List.mem_of_getElem? hf)).s
      clear hf
      go_wp2
      obtain ⟨W0, hW0⟩ : ∃ W0, W0 = wr.alloc (.cells #[.int .i64 f.k, .int .u8 f.w, .int .u64 f.n, .string ⟨f.s.toArray⟩] 32) := ⟨_, rfl⟩
      rw [← hW0]
      have HX := Lib.hid (show W0.heap[wr.heap.size]? = some (.cells #[.int .i64 f.k, .int .u8 f.w, .int .u64 f.n, .string ⟨f.s.toArray⟩] 32 (0, 0)) from by rw [hW0]; exact heap_alloc_new wr _)
      have HB0 := Lib.hid (show Below w.heap.size w W0 from by rw [hW0]; exact HB.out.alloc HB.out.size _)
      clear hW0
      refine Rg.begin_calm [0, 2] (fun W => W.heap[wr.heap.size]? = some (.cells #[.int .i64 f.k, .int .u8 f.w, .int .u64 f.n, .string ⟨f.s.toArray⟩] 32 (0, 0))) (by kernel_rfl) ?_
      refine Rg.take_ (i := 0) (v := .agg #[.int .i64 f.k, .int .u8 f.w, .int .u64 f.n, .string ⟨f.s.toArray⟩]) rfl (by simp) (by kernel_rfl) (fun _ _ _ h => h) (.inl ⟨rfl, ?_⟩) ?_ ?_
      · intro W hW
        have c0 := blk_cell hW 0
        have c1 := blk_cell hW 1
        have c2 := blk_cell hW 2
        have c3 := blk_cell hW 3
        go_simp
      · exact HX.out
      refine Rg.take_ (i := 2) (v := .agg #[.int .i64 f.k, .int .u8 f.w, .int .u64 f.n, .string ⟨f.s.toArray⟩]) rfl (by simp) (by kernel_rfl) (fun _ _ _ h => h) (.inl ⟨rfl, ?_⟩) ?_ ?_
      · intro W hW
        have c0 := blk_cell hW 0
        have c1 := blk_cell hW 1
        have c2 := blk_cell hW 2
        have c3 := blk_cell hW 3
        go_simp
      · exact HX.out
      refine Rg.step_ (j := 1) rfl (by kernel_rfl) ?_
      go_wp2_with fail
      refine (size_of f _ hxn).mono ?_
      rintro e w8 ⟨rfl, hb⟩
      have hb2 := below_undrew hb
      have HX8 := Lib.hid (blk_below HX.out hb2)
      have HB8 := Lib.hid (HB0.out.trans (hb2.mono HB0.out.size))
      clear hb hb2 HX HB0
      go_wp2_with fail
      refine And.intro HX8.out ?_
      refine Rg.step_ (j := 3) rfl (by kernel_rfl) ?_
      go_wp2_with fail
      refine (rsize_of f _ hxn hxs).mono ?_
      rintro e w9 ⟨rfl, hb⟩
      have HX9 := Lib.hid (blk_below HX8.out hb)
      have HB9 := Lib.hid (HB8.out.trans (hb.mono HB8.out.size))
      clear hb HX8 HB8
      go_wp2_with fail
      refine And.intro HX9.out ?_
      refine Rg.step_ (j := 4) rfl (by kernel_rfl) ?_
      go_wp2_with fail
      refine And.intro HX9.out ?_
      refine Rg.done_ (by kernel_rfl) ?_ _
      refine Rg.Calm.normal ?_
      go_wp2_with fail
      go_roundw
      case rel => exact ⟨k + 1, by omega, by go_num, HB9⟩
      case measure => simp [intOf]; omega
    · have hkk : k = xs.length := by omega
      subst hkk
      go_wp2_with fail
      refine (lives_calls _).mono ?_
      rintro e w8 ⟨rfl, hb⟩
      have Hb := Lib.hid (HB.out.trans (hb.mono HB.out.size))
      clear hb
      go_wp2_with fail
      go_ret
      exact ⟨rfl, Hb.out⟩
end Go.Proofs.Ytehmneckcfchmaa
