/- Joined from Llc, Llt, Ltl, Llw. No conditions. -/
import Derived.Test.YtfbegbpipmgfiaaDoorJ4
import Derived.Test.YtfbegbpipmgfiaaDoorJ2
import Derived.Test.YtfbegbpipmgfiaaDoorRows
import Derived.Lib.LaidU8T
import Derived.MakeChecks
section
/- PdataJoined: the law's walk. No conditions but what types allow, and that utf8's tables lie as they are laid. -/
set_option linter.unusedVariables false
set_option linter.unusedSimpArgs false
set_option maxHeartbeats 4000000
set_option maxRecDepth 100000
namespace Go.Proofs.YtfbegbpipmgfiaaDoor.Lift
open Go Go.RowKit

theorem plives_c {W0 : World} (hT : Tabs W0) : APure Tryd.prog W0 9 [] (· = .ret (.d (.v (.bool true)))) := lives_of hT logs_c
theorem joined_c {W0 : World} (hT : Tabs W0) (d : Da) (hd : okD d) (n : Int) : APure Tryd.prog W0 8 [xa d, .d (.v (.int .i64 n))] (· = .ret (.d (.v (.bool true)))) := by
  have hl := plives_c (W0 := W0) hT
  have ht := Tidy_c (W0 := W0) hT d hd
  by_cases h0 : daE d = 0
  · rw [tidy_ok h0] at ht
    have hy : okD ⟨d.sig, tidyG d⟩ := by
      have h1 : okD ⟨d.sig, []⟩ := ⟨hd.sig, by simp, fun g hg => by cases hg⟩
      have h2 := mergeR_ok h1 (splR_ok (n := 1024) hd).1
      have h3 := tidy_ok h0
      unfold tidyR at h3
      split at h3
      · rw [h3] at h2; exact h2
      · rename_i h4
        exact absurd (congrArg Prod.snd h3) h4
    have hs := Split_c (W0 := W0) hT ⟨d.sig, tidyG d⟩ hy n
    have hj := fun hn => joined h0 (n := n) hn
    have hso := splR_ok (n := n) hy
    have hss := rsameD_c (W0 := W0) ⟨d.sig, tidyG d⟩ ⟨d.sig, tidyG d⟩ hy
    rw [sameDa_iff.2 rfl] at hss
    have hye := tidyG_ok h0
    by_cases hn : 0 ≤ n
    · have hm := Merge_c (W0 := W0) hT (splR ⟨d.sig, tidyG d⟩ n).1 (splR ⟨d.sig, tidyG d⟩ n).2.1 hso.1 hso.2
      rw [hj hn] at hm
      have h2 : (splR ⟨d.sig, tidyG d⟩ n).2.2 = 0 := by rw [spl_ok hye hn]
      rw [h2] at hs
      generalize (splR ⟨d.sig, tidyG d⟩ n).1 = A at hs hm
      generalize (splR ⟨d.sig, tidyG d⟩ n).2.1 = B at hs hm
      generalize (⟨d.sig, tidyG d⟩ : Da) = y at ht hs hm hss
      refine A_body Tryd.func8 rfl (Nat.le_of_ble_eq_true rfl) ?_
      simp only [go_sem, Tryd.ntmps8, Tryd.results8, mkEnv]
      repeat (first | refine wS ?_ | refine wB ?_ | (refine wR ?_; simp only [go_sem]) | (refine wT ?_ ?_; focus (simp only [go_sem]; done)) | (refine wF ?_ ?_; focus (simp only [go_sem]; done)) | (refine wK ?_; try simp only [go_sem]) | (refine wE ?_; try simp only [go_sem]) | refine wX ?_)
      refine wC (hl) ?_
      simp only [go_sem]
      repeat (first | refine wS ?_ | refine wB ?_ | (refine wR ?_; simp only [go_sem]) | (refine wT ?_ ?_; focus (simp only [go_sem]; done)) | (refine wF ?_ ?_; focus (simp only [go_sem]; done)) | (refine wK ?_; try simp only [go_sem]) | (refine wE ?_; try simp only [go_sem]) | refine wX ?_)
      refine wC (ht) ?_
      simp only [go_sem]
      repeat (first | refine wS ?_ | refine wB ?_ | (refine wR ?_; simp only [go_sem]) | (refine wT ?_ ?_; focus (simp only [go_sem]; done)) | (refine wF ?_ ?_; focus (simp only [go_sem]; done)) | (refine wK ?_; try simp only [go_sem]) | (refine wE ?_; try simp only [go_sem]) | refine wX ?_)
      refine wC (hs) ?_
      simp only [go_sem]
      repeat (first | refine wS ?_ | refine wB ?_ | (refine wR ?_; simp only [go_sem]) | (refine wT ?_ ?_; focus (simp only [go_sem]; done)) | (refine wF ?_ ?_; focus (simp only [go_sem]; done)) | (refine wK ?_; try simp only [go_sem]) | (refine wE ?_; try simp only [go_sem]) | refine wX ?_)
      refine wC (hm) ?_
      simp only [go_sem]
      repeat (first | refine wS ?_ | refine wB ?_ | (refine wR ?_; simp only [go_sem]) | (refine wT ?_ ?_; focus (simp only [go_sem]; done)) | (refine wF ?_ ?_; focus (simp only [go_sem]; done)) | (refine wK ?_; try simp only [go_sem]) | (refine wE ?_; try simp only [go_sem]) | refine wX ?_)
      refine wCG (fun hh => hss) ?_
      simp only [go_sem]
      repeat (first | refine wS ?_ | refine wB ?_ | (refine wR ?_; simp only [go_sem]) | (refine wT ?_ ?_; focus (simp only [go_sem]; done)) | (refine wF ?_ ?_; focus (simp only [go_sem]; done)) | (refine wK ?_; try simp only [go_sem]) | (refine wE ?_; try simp only [go_sem]) | refine wX ?_)
      exact wRq
    · have h2 : (splR ⟨d.sig, tidyG d⟩ n).2.2 = 2 := by
        have h3 : splE ⟨d.sig, tidyG d⟩ n = 2 := by rw [splE_ok hye, if_neg hn]
        rw [spl_no (by rw [h3]; decide), h3]
      rw [h2] at hs
      generalize (splR ⟨d.sig, tidyG d⟩ n).1 = A at hs
      generalize (splR ⟨d.sig, tidyG d⟩ n).2.1 = B at hs
      generalize (⟨d.sig, tidyG d⟩ : Da) = y at ht hs
      have hlt : decide (n < 0) = true := decide_eq_true (by omega)
      refine A_body Tryd.func8 rfl (Nat.le_of_ble_eq_true rfl) ?_
      simp only [go_sem, Tryd.ntmps8, Tryd.results8, mkEnv]
      repeat (first | refine wS ?_ | refine wB ?_ | (refine wR ?_; simp only [go_sem]) | (refine wT ?_ ?_; focus (simp only [go_sem]; done)) | (refine wF ?_ ?_; focus (simp only [go_sem]; done)) | (refine wK ?_; try simp only [go_sem]) | (refine wE ?_; try simp only [go_sem]) | refine wX ?_)
      refine wC (hl) ?_
      simp only [go_sem, hlt]
      repeat (first | refine wS ?_ | refine wB ?_ | (refine wR ?_; simp only [go_sem, hlt]) | (refine wT ?_ ?_; focus (simp only [go_sem]; done)) | (refine wF ?_ ?_; focus (simp only [go_sem]; done)) | (refine wK ?_; try simp only [go_sem, hlt]) | (refine wE ?_; try simp only [go_sem, hlt]) | refine wX ?_)
      refine wC (ht) ?_
      simp only [go_sem, hlt]
      repeat (first | refine wS ?_ | refine wB ?_ | (refine wR ?_; simp only [go_sem, hlt]) | (refine wT ?_ ?_; focus (simp only [go_sem]; done)) | (refine wF ?_ ?_; focus (simp only [go_sem]; done)) | (refine wK ?_; try simp only [go_sem, hlt]) | (refine wE ?_; try simp only [go_sem, hlt]) | refine wX ?_)
      refine wC (hs) ?_
      simp only [go_sem, hlt]
      repeat (first | refine wS ?_ | refine wB ?_ | (refine wR ?_; simp only [go_sem, hlt]) | (refine wT ?_ ?_; focus (simp only [go_sem]; done)) | (refine wF ?_ ?_; focus (simp only [go_sem]; done)) | (refine wK ?_; try simp only [go_sem, hlt]) | (refine wE ?_; try simp only [go_sem, hlt]) | refine wX ?_)
      exact wRq
  · rw [tidy_no h0] at ht
    have hc := PCheck_c (W0 := W0) hT d hd
    have hne : (((daE d : Nat) : Int) != 0) = true := by simp [h0]
    have hee : (((daE d : Nat) : Int) == ((daE d : Nat) : Int)) = true := beq_self_eq_true _
    generalize d0 = y at ht
    refine A_body Tryd.func8 rfl (Nat.le_of_ble_eq_true rfl) ?_
    simp only [go_sem, Tryd.ntmps8, Tryd.results8, mkEnv]
    repeat (first | refine wS ?_ | refine wB ?_ | (refine wR ?_; simp only [go_sem]) | (refine wT ?_ ?_; focus (simp only [go_sem]; done)) | (refine wF ?_ ?_; focus (simp only [go_sem]; done)) | (refine wK ?_; try simp only [go_sem]) | (refine wE ?_; try simp only [go_sem]) | refine wX ?_)
    refine wC (hl) ?_
    simp only [go_sem, hne, hee]
    repeat (first | refine wS ?_ | refine wB ?_ | (refine wR ?_; simp only [go_sem, hne, hee]) | (refine wT ?_ ?_; focus (simp only [go_sem]; done)) | (refine wF ?_ ?_; focus (simp only [go_sem]; done)) | (refine wK ?_; try simp only [go_sem, hne, hee]) | (refine wE ?_; try simp only [go_sem, hne, hee]) | refine wX ?_)
    refine wC (ht) ?_
    simp only [go_sem, hne, hee]
    repeat (first | refine wS ?_ | refine wB ?_ | (refine wR ?_; simp only [go_sem, hne, hee]) | (refine wT ?_ ?_; focus (simp only [go_sem]; done)) | (refine wF ?_ ?_; focus (simp only [go_sem]; done)) | (refine wK ?_; try simp only [go_sem, hne, hee]) | (refine wE ?_; try simp only [go_sem, hne, hee]) | refine wX ?_)
    refine wC (hc) ?_
    simp only [go_sem, hne, hee]
    repeat (first | refine wS ?_ | refine wB ?_ | (refine wR ?_; simp only [go_sem, hne, hee]) | (refine wT ?_ ?_; focus (simp only [go_sem]; done)) | (refine wF ?_ ?_; focus (simp only [go_sem]; done)) | (refine wK ?_; try simp only [go_sem, hne, hee]) | (refine wE ?_; try simp only [go_sem, hne, hee]) | refine wX ?_)
    exact wRq
end Go.Proofs.YtfbegbpipmgfiaaDoor.Lift
end
section
/- pdata: data, items that a row is handed. No conditions. -/
set_option linter.unusedVariables false
set_option linter.unusedSimpArgs false
set_option maxHeartbeats 4000000
set_option maxRecDepth 100000
namespace Go.Proofs.YtfbegbpipmgfiaaDoor.Lift
open Go Go.RowKit

theorem rng_u64 {a : Int} (h : IntKind.u64.min ≤ a ∧ a ≤ IntKind.u64.max) : ∃ n : Nat, a = (n : Int) ∧ n < 2 ^ 64 := by
  have h1 : (0 : Int) ≤ a := h.1
  have h2 : a ≤ 18446744073709551615 := h.2
  exact ⟨a.toNat, by omega, by omega⟩
theorem rng_u8 {a : Int} (h : IntKind.u8.min ≤ a ∧ a ≤ IntKind.u8.max) : ∃ n : Nat, a = (n : Int) ∧ n < 256 := by
  have h1 : (0 : Int) ≤ a := h.1
  have h2 : a ≤ 255 := h.2
  exact ⟨a.toNat, by omega, by omega⟩
theorem rng_i32 {a : Int} (h : IntKind.i32.min ≤ a ∧ a ≤ IntKind.i32.max) : -2147483648 ≤ a ∧ a ≤ 2147483647 := h
theorem rng_f64 {b : Nat} (h : (Lit.float .f64 b).wf = true) : b < 2 ^ 64 := by simpa [Lit.wf] using h
theorem ty_q {ds : List D} (h : TyD Tryd.prog 85 ds) : ∃ q : Nat × Nat, ds = qD q ∧ q.1 < 2 ^ 64 ∧ q.2 < 2 ^ 64 := by
  have h0 := h.struct_inv Tryd.underlying85
  simp only [List.map_cons, List.map_nil] at h0
  obtain ⟨d0, r0, rfl, t0, h0⟩ := h0.cons_inv
  obtain ⟨d1, r1, rfl, t1, h0⟩ := h0.cons_inv
  obtain rfl := h0.nil_inv
  obtain ⟨a0, rfl, w0⟩ := t0.float_inv Tryd.underlying44
  obtain ⟨a1, rfl, w1⟩ := t1.float_inv Tryd.underlying44
  exact ⟨(a0, a1), rfl, rng_f64 w0, rng_f64 w1⟩
theorem ty_fs {ds : List D} (h : TyD Tryd.prog 49 ds) : ∃ l : List Nat, ds = [.rows 1 8 (l.map f64L)] ∧ l.length * 8 ≤ 140737488351232 ∧ ∀ x ∈ l, x < 2 ^ 64 := by
  obtain ⟨l, rfl, hl, hr⟩ := h.slice_inv Tryd.underlying49
  rw [show Tryd.prog.bytesOf 44 = 8 by kernel_rfl] at hl ⊢
  rw [show Tryd.prog.cellsOf 44 = 1 by kernel_rfl]
  obtain ⟨xs, rfl, h2⟩ := rows_map (f := f64L) (q := fun x => x < 2 ^ 64) fun row hr0 => by
    obtain ⟨a, rfl, w⟩ := (hr row hr0).float_inv Tryd.underlying44
    exact ⟨a, rfl, rng_f64 w⟩
  exact ⟨xs, rfl, by simpa using hl, h2⟩
theorem ty_us {ds : List D} (h : TyD Tryd.prog 50 ds) : ∃ l : List Nat, ds = [.rows 1 8 (l.map c64L)] ∧ l.length * 8 ≤ 140737488351232 ∧ ∀ x ∈ l, x < 2 ^ 64 := by
  obtain ⟨l, rfl, hl, hr⟩ := h.slice_inv Tryd.underlying50
  rw [show Tryd.prog.bytesOf 42 = 8 by kernel_rfl] at hl ⊢
  rw [show Tryd.prog.cellsOf 42 = 1 by kernel_rfl]
  obtain ⟨xs, rfl, h2⟩ := rows_map (f := c64L) (q := fun x => x < 2 ^ 64) fun row hr0 => by
    obtain ⟨a, rfl, w⟩ := (hr row hr0).int_inv Tryd.underlying42
    obtain ⟨n, rfl, hn⟩ := rng_u64 w
    exact ⟨n, rfl, hn⟩
  exact ⟨xs, rfl, by simpa using hl, h2⟩
theorem ty_qs {ds : List D} (h : TyD Tryd.prog 51 ds) : ∃ l : List (Nat × Nat), ds = [.rows 2 16 (l.map qD)] ∧ l.length * 16 ≤ 140737488351232 ∧ ∀ x ∈ l, x.1 < 2 ^ 64 ∧ x.2 < 2 ^ 64 := by
  obtain ⟨l, rfl, hl, hr⟩ := h.slice_inv Tryd.underlying51
  rw [show Tryd.prog.bytesOf 85 = 16 by kernel_rfl] at hl ⊢
  rw [show Tryd.prog.cellsOf 85 = 2 by kernel_rfl]
  obtain ⟨xs, rfl, h2⟩ := rows_map (f := qD) (q := fun x => x.1 < 2 ^ 64 ∧ x.2 < 2 ^ 64) fun row hr0 => ty_q (hr row hr0)
  exact ⟨xs, rfl, by simpa using hl, h2⟩
theorem ty_pt {ds : List D} (h : TyD Tryd.prog 53 ds) : ∃ p : Pt, ds = ptD p ∧ okT p := by
  have h0 := h.struct_inv Tryd.underlying53
  simp only [List.map_cons, List.map_nil] at h0
  obtain ⟨d0, r0, rfl, t0, h0⟩ := h0.cons_inv
  obtain ⟨d1, r1, rfl, t1, h0⟩ := h0.cons_inv
  obtain ⟨d2, r2, rfl, t2, h0⟩ := h0.cons_inv
  obtain ⟨d3, r3, rfl, t3, h0⟩ := h0.cons_inv
  obtain ⟨d4, r4, rfl, t4, h0⟩ := h0.cons_inv
  obtain ⟨d5, r5, rfl, t5, h0⟩ := h0.cons_inv
  obtain ⟨d6, r6, rfl, t6, h0⟩ := h0.cons_inv
  obtain ⟨d7, r7, rfl, t7, h0⟩ := h0.cons_inv
  obtain ⟨d8, r8, rfl, t8, h0⟩ := h0.cons_inv
  obtain ⟨d9, r9, rfl, t9, h0⟩ := h0.cons_inv
  obtain ⟨d10, r10, rfl, t10, h0⟩ := h0.cons_inv
  obtain ⟨d11, r11, rfl, t11, h0⟩ := h0.cons_inv
  obtain ⟨d12, r12, rfl, t12, h0⟩ := h0.cons_inv
  obtain ⟨d13, r13, rfl, t13, h0⟩ := h0.cons_inv
  obtain rfl := h0.nil_inv
  obtain ⟨a0, rfl, w0⟩ := t0.int_inv Tryd.underlying48
  obtain ⟨a1, rfl, w1⟩ := t1.int_inv Tryd.underlying2
  obtain ⟨a2, rfl, w2⟩ := t2.float_inv Tryd.underlying44
  obtain ⟨a3, rfl, w3⟩ := t3.int_inv Tryd.underlying42
  obtain ⟨a4, rfl, w4⟩ := t4.float_inv Tryd.underlying44
  obtain ⟨a5, rfl⟩ := t5.bool_inv Tryd.underlying4
  obtain ⟨a6, rfl, w6⟩ := ty_fs t6
  obtain ⟨a7, rfl, w7⟩ := ty_us t7
  obtain ⟨a8, rfl, w8⟩ := t8.int_inv Tryd.underlying21
  obtain ⟨a9, rfl, w9⟩ := t9.int_inv Tryd.underlying42
  obtain ⟨a10, rfl, w10⟩ := t10.int_inv Tryd.underlying21
  obtain ⟨a11, rfl, w11⟩ := t11.int_inv Tryd.underlying21
  obtain ⟨a12, rfl, w12⟩ := ty_us t12
  obtain ⟨a13, rfl, w13⟩ := ty_qs t13
  obtain ⟨k, rfl, hk⟩ := rng_u8 w0
  obtain ⟨c, rfl, hc⟩ := rng_u64 w3
  obtain ⟨z, rfl, hz⟩ := rng_u64 w9
  exact ⟨⟨k, a1, a2, c, a4, a5, a6, a7, a8, z, a10, a11, a12, a13⟩, rfl, ⟨hk, range_i64 w1, rng_f64 w2, hc, rng_f64 w4, w6, w7, rng_i32 w8, hz, rng_i32 w10, rng_i32 w11, w12, w13⟩⟩
theorem ty_I {ds : List D} (h : TyD Tryd.prog 55 ds) : ∃ x : It, ds = itD x ∧ okI x := by
  have h0 := h.struct_inv Tryd.underlying55
  simp only [List.map_cons, List.map_nil] at h0
  obtain ⟨d0, r0, rfl, t0, h0⟩ := h0.cons_inv
  obtain ⟨d1, r1, rfl, t1, h0⟩ := h0.cons_inv
  obtain ⟨d2, r2, rfl, t2, h0⟩ := h0.cons_inv
  obtain ⟨d3, r3, rfl, t3, h0⟩ := h0.cons_inv
  obtain ⟨d4, r4, rfl, t4, h0⟩ := h0.cons_inv
  obtain ⟨d5, r5, rfl, t5, h0⟩ := h0.cons_inv
  obtain ⟨d6, r6, rfl, t6, h0⟩ := h0.cons_inv
  obtain ⟨d7, r7, rfl, t7, h0⟩ := h0.cons_inv
  obtain ⟨d8, r8, rfl, t8, h0⟩ := h0.cons_inv
  obtain ⟨d9, r9, rfl, t9, h0⟩ := h0.cons_inv
  obtain ⟨d10, r10, rfl, t10, h0⟩ := h0.cons_inv
  obtain ⟨d11, r11, rfl, t11, h0⟩ := h0.cons_inv
  obtain ⟨d12, r12, rfl, t12, h0⟩ := h0.cons_inv
  obtain ⟨d13, r13, rfl, t13, h0⟩ := h0.cons_inv
  obtain ⟨d14, r14, rfl, t14, h0⟩ := h0.cons_inv
  obtain rfl := h0.nil_inv
  obtain ⟨a0, rfl, w0⟩ := t0.str_inv Tryd.underlying9
  obtain ⟨a1, rfl, w1⟩ := t1.str_inv Tryd.underlying9
  obtain ⟨a2, rfl, w2⟩ := t2.int_inv Tryd.underlying21
  obtain ⟨a3, rfl, w3⟩ := t3.int_inv Tryd.underlying5
  obtain ⟨a4, rfl⟩ := t4.bool_inv Tryd.underlying4
  obtain ⟨a5, rfl, w5⟩ := t5.int_inv Tryd.underlying42
  obtain ⟨a6, rfl, w6⟩ := t6.int_inv Tryd.underlying42
  obtain ⟨a7, rfl, w7⟩ := t7.str_inv Tryd.underlying9
  obtain ⟨a8, rfl, w8⟩ := t8.str_inv Tryd.underlying9
  obtain ⟨a9, rfl, w9⟩ := t9.str_inv Tryd.underlying9
  obtain ⟨a10, rfl, w10⟩ := t10.int_inv Tryd.underlying5
  obtain ⟨a11, rfl, w11⟩ := t11.str_inv Tryd.underlying9
  obtain ⟨a12, rfl, w12⟩ := ty_Ps t12
  obtain ⟨a13, rfl, w13⟩ := ty_V t13
  obtain ⟨a14, rfl, w14⟩ := ty_pt t14
  obtain ⟨tm, rfl, htm⟩ := rng_u8 w3
  obtain ⟨st, rfl, hst⟩ := rng_u64 w5
  obtain ⟨ti, rfl, hti⟩ := rng_u64 w6
  obtain ⟨cd, rfl, hcd⟩ := rng_u8 w10
  refine ⟨⟨a0, a1, a2, tm, a4, st, ti, a7, a8, a9, cd, a11, a12, a13, a14⟩, ?_, ⟨w0, w1, rng_i32 w2, htm, hst, hti, w7, w8, w9, hcd, w11, w12, w13, w14⟩⟩
  rw [vD_ex]
  rfl
theorem ty_Is {ds : List D} (h : TyD Tryd.prog 30 ds) : ∃ l : List It, ds = [.rows 34 416 (l.map itD)] ∧ l.length * 416 ≤ 140737488351232 ∧ ∀ x ∈ l, okI x := by
  obtain ⟨l, rfl, hl, hr⟩ := h.slice_inv Tryd.underlying30
  rw [show Tryd.prog.bytesOf 55 = 416 by kernel_rfl] at hl ⊢
  rw [show Tryd.prog.cellsOf 55 = 34 by kernel_rfl]
  obtain ⟨xs, rfl, h2⟩ := rows_map (f := itD) (q := okI) fun row hr0 => ty_I (hr row hr0)
  exact ⟨xs, rfl, by simpa using hl, h2⟩
theorem ty_G {ds : List D} (h : TyD Tryd.prog 36 ds) : ∃ g : Gr, ds = grD g ∧ okG g := by
  have h0 := h.struct_inv Tryd.underlying36
  simp only [List.map_cons, List.map_nil] at h0
  obtain ⟨d0, r0, rfl, t0, h0⟩ := h0.cons_inv
  obtain ⟨d1, r1, rfl, t1, h0⟩ := h0.cons_inv
  obtain ⟨d2, r2, rfl, t2, h0⟩ := h0.cons_inv
  obtain ⟨d3, r3, rfl, t3, h0⟩ := h0.cons_inv
  obtain ⟨d4, r4, rfl, t4, h0⟩ := h0.cons_inv
  obtain rfl := h0.nil_inv
  obtain ⟨a0, rfl, w0⟩ := ty_Ps t0
  obtain ⟨a1, rfl, w1⟩ := t1.str_inv Tryd.underlying9
  obtain ⟨a2, rfl, w2⟩ := t2.str_inv Tryd.underlying9
  obtain ⟨a3, rfl, w3⟩ := ty_Ps t3
  obtain ⟨a4, rfl, w4⟩ := ty_Is t4
  exact ⟨⟨a0, a1, a2, a3, a4⟩, rfl, ⟨w0, w1, w2, w3, w4⟩⟩
theorem ty_Gs {ds : List D} (h : TyD Tryd.prog 23 ds) : ∃ l : List Gr, ds = [.rows 5 104 (l.map grD)] ∧ l.length * 104 ≤ 140737488351232 ∧ ∀ x ∈ l, okG x := by
  obtain ⟨l, rfl, hl, hr⟩ := h.slice_inv Tryd.underlying23
  rw [show Tryd.prog.bytesOf 36 = 104 by kernel_rfl] at hl ⊢
  rw [show Tryd.prog.cellsOf 36 = 5 by kernel_rfl]
  obtain ⟨xs, rfl, h2⟩ := rows_map (f := grD) (q := okG) fun row hr0 => ty_G (hr row hr0)
  exact ⟨xs, rfl, by simpa using hl, h2⟩
theorem ty_D {ds : List D} (h : TyD Tryd.prog 25 ds) : ∃ d : Da, ds = daD d ∧ okD d := by
  have h0 := h.struct_inv Tryd.underlying25
  simp only [List.map_cons, List.map_nil] at h0
  obtain ⟨d0, r0, rfl, t0, h0⟩ := h0.cons_inv
  obtain ⟨d1, r1, rfl, t1, h0⟩ := h0.cons_inv
  obtain rfl := h0.nil_inv
  obtain ⟨a0, rfl, w0⟩ := t0.int_inv Tryd.underlying22
  obtain ⟨a1, rfl, w1⟩ := ty_Gs t1
  obtain ⟨k, rfl, hk⟩ := rng_u8 w0
  exact ⟨⟨k, a1⟩, rfl, ⟨hk, w1⟩⟩
end Go.Proofs.YtfbegbpipmgfiaaDoor.Lift
end
section
/- The two tables of utf8, out of what a row lists. No conditions. -/
set_option linter.unusedVariables false
namespace Go.Proofs.YtfbegbpipmgfiaaDoor.Lift
open Go Go.Lib
set_option maxRecDepth 100000 in
theorem tabs_of {w : World} (hL : laidMetH Tryd.prog [("unicode/utf8.acceptRanges", Rows.laid_unicode_utf8_acceptRanges), ("unicode/utf8.first", Rows.laid_unicode_utf8_first)] w) : Tabs w := by
  rw [MakeChecks.laidMetH_plain _ _ _ (by kernel_rfl)] at hL
  exact utf8Tabs_of_readsT (U8Types.of196 Tryd.lays196) ⟨by kernel_rfl, by kernel_rfl, by kernel_rfl, by kernel_rfl, by kernel_rfl, by kernel_rfl, by kernel_rfl⟩ (Lib.laidMet.reads hL (.tail _ (.head _))) (Lib.laidMet.reads hL (.head _))
end Go.Proofs.YtfbegbpipmgfiaaDoor.Lift
end
section
/- The walk of PdataJoined, out of the lift. No conditions but that the arguments lie in memory, and that utf8's tables lie as they are laid. -/
set_option linter.unusedVariables false
set_option linter.unusedSimpArgs false
set_option maxHeartbeats 4000000
set_option maxRecDepth 100000
namespace Go.Proofs.YtfbegbpipmgfiaaDoor.Lift
open Go Go.RowKit

theorem joined_walk {w : World} (hT : Tabs w) {ds0 : List D} {us0 : Array Value} (ty0 : TyD Tryd.prog 25 ds0) (rd0 : Dts w ds0 us0.toList) (n : Int) :
    Calls Tryd.prog 8 #[.agg us0, .int .i64 n] w fun e w' => e = .returned (.bool true) ∧ Below w.heap.size w w' := by
  obtain ⟨d, rfl, hd⟩ := ty_D ty0
  refine (joined_c (W0 := w) hT d hd n).calls ?_
  simp only [RAs, xa, and_true]
  exact ⟨ra_agg rd0, RA.v_mk rfl⟩
end Go.Proofs.YtfbegbpipmgfiaaDoor.Lift
end
