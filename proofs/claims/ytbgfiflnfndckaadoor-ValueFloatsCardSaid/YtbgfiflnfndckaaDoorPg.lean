/- The walk of ValueFloats. No conditions but the kinds' own. -/
import Derived.Test.YtbgfiflnfndckaaDoorSc
import Derived.Test.YtbgfiflnfndckaaDoorVn
import Derived.Test.YtbgfiflnfndckaaDoorWi
set_option linter.unusedVariables false
set_option linter.unusedSimpArgs false
namespace Go.Proofs.YtbgfiflnfndckaaDoor
open Go.RowKit Go.Proofs.YtbgfiflnfndckaaDoorW.PrintWords
attribute [local go_sem] run_store_float

theorem part_rd (f : Nat) (hf : f < 2 ^ 64) (w : World) : Rd w (.mk (partS f) [] []) (cellsV (partS f) nilS nilS) :=
  .mk (partS f) [] [] none 0 none 0 (fun _ => #[]) (fun _ => #[]) ⟨by show (4 : Nat) < 256; decide, by show (0 : Nat) ≤ _; decide, by show (-9223372036854775808 : Int) ≤ 0; decide, by show (0 : Int) ≤ _; decide, hf⟩ (by simp) (by simp) (by simp) (by simp) (by simp) (by simp)

theorem part_box {w : World} {b f : Nat} (h : w.heap[b]? = some (boxV (partS f) nilS nilS)) :
    w.cell? ⟨b, 0, none⟩ = some (.int .u8 4) ∧ w.cell? ⟨b, 1, none⟩ = some (.string ⟨#[]⟩) ∧ w.cell? ⟨b, 2, none⟩ = some (.bool false) ∧ w.cell? ⟨b, 3, none⟩ = some (.int .i64 0) ∧
      w.cell? ⟨b, 4, none⟩ = some (.float .f64 f) ∧ w.cell? ⟨b, 5, none⟩ = some (.slice none 0 0) ∧ w.cell? ⟨b, 6, none⟩ = some (.slice none 0 0) := box_cells h
namespace Vs
/-- Two floats against each other: what is told of them. -/
def FloatEnds (a b : Nat) (c : Int) (is : Bool) : Prop :=
  ((FloatKind.f64.format.order a a == some .eq) = false ∧ c = 0 ∧ is = false ∧ (FloatKind.f64.format.order a b == some .eq) = false ∧ (FloatKind.f64.format.order a b == some .lt) = false) ∨
  ((FloatKind.f64.format.order a a == some .eq) = true ∧ (FloatKind.f64.format.order b b == some .eq) = false ∧ c = 0 ∧ is = false ∧ (FloatKind.f64.format.order a b == some .eq) = false ∧ (FloatKind.f64.format.order a b == some .lt) = false) ∨
  ((FloatKind.f64.format.order a a == some .eq) = true ∧ (FloatKind.f64.format.order b b == some .eq) = true ∧ is = true ∧
    ((c = -1 ∧ (FloatKind.f64.format.order a b == some .eq) = false ∧ (FloatKind.f64.format.order a b == some .lt) = true) ∨ (c = 0 ∧ (FloatKind.f64.format.order a b == some .eq) = true ∧ (FloatKind.f64.format.order a b == some .lt) = false) ∨
      (c = 1 ∧ (FloatKind.f64.format.order a b == some .eq) = false ∧ (FloatKind.f64.format.order a b == some .lt) = false)))
theorem float_ends (a b : Nat) : FloatEnds a b (compare (partS a) (partS b)).1 (compare (partS a) (partS b)).2 := by
  have hk : (partS a).k = 4 ∧ (partS b).k = 4 ∧ (partS a).f = a ∧ (partS b).f = b := ⟨rfl, rfl, rfl, rfl⟩
  unfold FloatEnds compare
  rw [hk.1, hk.2.1, hk.2.2.1, hk.2.2.2]
  have fm : FloatKind.f64.format = Ieee.double := rfl
  rw [fm]
  cases na : isNan a
  · have e1 : (Ieee.double.order a a == some .eq) = true := (eq_iff na na).trans (decide_eq_true rfl)
    cases nb : isNan b
    · have e2 : (Ieee.double.order b b == some .eq) = true := (eq_iff nb nb).trans (decide_eq_true rfl)
      have e3 := eq_iff na nb
      have e4 := lt_iff na nb
      rw [e1, e2, e3, e4]
      refine .inr (.inr ⟨rfl, rfl, by simp, ?_⟩)
      simp only [Bool.false_eq_true, and_false, or_self, if_false]
      unfold sg
      by_cases h1 : num a < num b
      · left
        simp [h1]; omega
      · by_cases h2 : num b < num a
        · right; right
          simp [h1, h2]; omega
        · right; left
          simp [h1, h2]; omega
    · have h := order_nan (x := b) (y := b) (.inl nb)
      have h2 := order_nan (x := a) (y := b) (.inr nb)
      rw [e1, h, h2]
      exact .inr (.inl ⟨rfl, rfl, by simp, by simp, rfl, rfl⟩)
  · have h := order_nan (x := a) (y := a) (.inl na)
    have h2 := order_nan (x := a) (y := b) (.inl na)
    rw [h, h2]
    exact .inl ⟨rfl, by simp, by simp, rfl, rfl⟩
theorem same_part (a b : Nat) : same (.mk (partS a) [] []) (.mk (partS b) [] []) = (a == b) := by
  simp [same, sameL, sameP, flat, partS]
end Vs
theorem part_bytes (a b : Nat) (ha : a < 2 ^ 64) (hb : b < 2 ^ 64) : (numBytes (partS a) == numBytes (partS b)) = (a == b) := by
  rw [Bool.eq_iff_iff]
  simp only [beq_iff_eq]
  refine ⟨fun h => ?_, fun h => by rw [h]⟩
  have h1 := numWrite (partS a) ha
  have h2 := numWrite (partS b) hb
  have e : ∀ f, numFd (partS f) = ⟨4, 1, f, []⟩ := fun f => rfl
  rw [e] at h1 h2
  have r1 := (Ws.read_write _ (by intro f hf; simp only [List.mem_cons, List.not_mem_nil, or_false] at hf; subst hf; exact ha) _ h1.1).1
  have r2 := (Ws.read_write _ (by intro f hf; simp only [List.mem_cons, List.not_mem_nil, or_false] at hf; subst hf; exact hb) _ h2.1).1
  rw [h, r2] at r1
  simpa using r1.symm

set_option maxHeartbeats 4000000 in
set_option maxRecDepth 100000 in
theorem floats_calls (a b : Nat) (w : World) (ha : a < 2 ^ 64) (hb : b < 2 ^ 64) :
    Calls Tryd.prog 5 #[.int .u64 a, .int .u64 b] w fun e w' => e = .returned (.bool true) ∧ Below w.heap.size w w' := by
  have hra := run_f64of a
  have hrb := run_f64of b
  have hends := Vs.float_ends a b
  have hcmp := fun w => compare_calls (partS a) (partS b) nilS nilS nilS nilS w (by show (-9223372036854775808 : Int) ≤ 0; decide) (by show (0 : Int) ≤ _; decide) (by show (-9223372036854775808 : Int) ≤ 0; decide) (by show (0 : Int) ≤ _; decide)
  generalize Vs.compare (partS a) (partS b) = r at *
  obtain ⟨c, is⟩ := r
  simp only at hends hcmp
  have hsame : ∀ W, Calls Tryd.prog 18 #[.agg (cellsV (partS a) nilS nilS), .agg (cellsV (partS b) nilS nilS)] W fun e w'' => e = .returned (.bool (a == b)) ∧ Below W.heap.size W w'' := fun W => by
    have := same_at (part_rd a ha W) W (Below.refl _ _) _ _ (part_rd b hb W)
    rw [Vs.same_part] at this
    exact this
  have hwa := fun w => write_num (partS a) ⟨.inr ⟨rfl, rfl⟩, rfl, rfl⟩ ha w
  have hwb := fun w => write_num (partS b) ⟨.inr ⟨rfl, rfl⟩, rfl, rfl⟩ hb w
  have hst : ((⟨(numBytes (partS a)).toArray⟩ : ByteArray).toList == (⟨(numBytes (partS b)).toArray⟩ : ByteArray).toList) = (a == b) := by
    rw [← part_bytes a b ha hb]
    have e : ∀ l : List UInt8, (⟨l.toArray⟩ : ByteArray).toList = l := fun l => Lib.toList_data _
    rw [e, e]
  generalize (⟨(numBytes (partS a)).toArray⟩ : ByteArray) = sa at *
  generalize (⟨(numBytes (partS b)).toArray⟩ : ByteArray) = sb at *
  have hab : ((a : Int) == (b : Int)) = (a == b) := by rw [Bool.eq_iff_iff]; simp only [beq_iff_eq]; omega
  generalize (a == b) = E at *
  have HE := Lib.hid hends
  have HCM := Lib.hid hcmp
  have HSM := Lib.hid hsame
  have HWA := Lib.hid hwa
  have HWB := Lib.hid hwb
  clear hends hcmp hsame hwa hwb ha hb
  unfold cellsV nilS partS at *
  simp only at HCM HSM HWA HWB
  go_enter Tryd.func5, Tryd.ntmps5
  go_wp2_with fail
  refine (vlives_calls _).mono ?_
  rintro e w1 ⟨rfl, hb1⟩
  have HB1 := Lib.hid hb1
  clear hb1
  go_wp2_with fail
  refine (part_calls a _).mono ?_
  rintro e w2 ⟨rfl, hb⟩
  have HB2 := Lib.hid (HB1.out.trans (hb.mono HB1.out.size))
  clear hb HB1
  go_wp2_with fail
  refine (part_calls b _).mono ?_
  rintro e w3 ⟨rfl, hb⟩
  have HB3 := Lib.hid (HB2.out.trans (hb.mono HB2.out.size))
  clear hb HB2
  obtain ⟨W0, hW0⟩ : ∃ W0, W0 = (w3.alloc (.cells #[.int .u8 4, .string ⟨#[]⟩, .bool false, .int .i64 0, .float .f64 a, .slice none 0 0, .slice none 0 0] 27)).alloc (.cells #[.int .u8 4, .string ⟨#[]⟩, .bool false, .int .i64 0, .float .f64 b, .slice none 0 0, .slice none 0 0] 27) := ⟨_, rfl⟩
  have hx0 : W0.heap[w3.heap.size]? = some (boxV (partS a) nilS nilS) := by rw [hW0]; exact blk_alloc (blk_new w3 (boxV (partS a) nilS nilS)) _
  have hy0 : W0.heap[w3.heap.size + 1]? = some (boxV (partS b) nilS nilS) := by
    rw [hW0]
    have := blk_new (w3.alloc (.cells #[.int .u8 4, .string ⟨#[]⟩, .bool false, .int .i64 0, .float .f64 a, .slice none 0 0, .slice none 0 0] 27)) (boxV (partS b) nilS nilS)
    rw [show (w3.alloc (.cells #[.int .u8 4, .string ⟨#[]⟩, .bool false, .int .i64 0, .float .f64 a, .slice none 0 0, .slice none 0 0] 27)).heap.size = w3.heap.size + 1 by simp] at this
    exact this
  have HB0 := Lib.hid (show Below w.heap.size w W0 from by rw [hW0]; exact (HB3.out.alloc HB3.out.size _).alloc (Nat.le_trans HB3.out.size (by simp)) _)
  unfold cellsV nilS partS
  go_wp2_with fail
  rw [← hW0]
  refine (HWA.out _).mono ?_
  rintro e w4 ⟨rfl, hb⟩
  have HX4 := Lib.hid (blk_below hx0 hb)
  have HY4 := Lib.hid (blk_below hy0 hb)
  have HB4 := Lib.hid (HB0.out.trans (hb.mono HB0.out.size))
  clear hb HB0 hx0 hy0 hW0 HB3
  obtain ⟨d0, d1, d2, d3, d4, d5, d6⟩ := part_box HY4.out
  go_wp2_with fail
  refine (HWB.out _).mono ?_
  rintro e w5 ⟨rfl, hb⟩
  have HX5 := Lib.hid (blk_below HX4.out hb)
  have HY5 := Lib.hid (blk_below HY4.out hb)
  have HB5 := Lib.hid (HB4.out.trans (hb.mono HB4.out.size))
  clear hb HB4 HX4 HY4 d0 d1 d2 d3 d4 d5 d6
  obtain ⟨c0, c1, c2, c3, c4, c5, c6⟩ := part_box HX5.out
  obtain ⟨d0, d1, d2, d3, d4, d5, d6⟩ := part_box HY5.out
  go_wp2_with fail
  refine (HCM.out _).mono ?_
  rintro e w6 ⟨rfl, hb⟩
  have HX6 := Lib.hid (blk_below HX5.out hb)
  have HY6 := Lib.hid (blk_below HY5.out hb)
  have HB6 := Lib.hid (HB5.out.trans (hb.mono HB5.out.size))
  clear hb HB5 HX5 HY5 c0 c1 c2 c3 c4 c5 c6 d0 d1 d2 d3 d4 d5 d6
  obtain ⟨c0, c1, c2, c3, c4, c5, c6⟩ := part_box HX6.out
  obtain ⟨d0, d1, d2, d3, d4, d5, d6⟩ := part_box HY6.out
  go_wp2_with fail
  refine (HSM.out _).mono ?_
  rintro e w7 ⟨rfl, hb⟩
  have HX7 := Lib.hid (blk_below HX6.out hb)
  have HY7 := Lib.hid (blk_below HY6.out hb)
  have HB7 := Lib.hid (HB6.out.trans (hb.mono HB6.out.size))
  clear hb HB6 HX6 HY6 c0 c1 c2 c3 c4 c5 c6 d0 d1 d2 d3 d4 d5 d6
  obtain ⟨c0, c1, c2, c3, c4, c5, c6⟩ := part_box HX7.out
  obtain ⟨d0, d1, d2, d3, d4, d5, d6⟩ := part_box HY7.out
  rcases HE.out with ⟨o1, rfl, rfl, o2, o3⟩ | ⟨o1, o4, rfl, rfl, o2, o3⟩ | ⟨o1, o4, rfl, ⟨rfl, o2, o3⟩ | ⟨rfl, o2, o3⟩ | ⟨rfl, o2, o3⟩⟩
  all_goals
    go_wp2
    go_ret
    exact ⟨rfl, HB7.out⟩
theorem floats_walk (a b : Int) (w : World) (ha : (Lit.int .u64 a).wf = true) (hb : (Lit.int .u64 b).wf = true) :
    Calls Tryd.prog 5 #[.int .u64 a, .int .u64 b] w fun e w' => e = .returned (.bool true) ∧ Below w.heap.size w w' := by
  obtain ⟨m, rfl, hm⟩ := wf_u64 ha
  obtain ⟨n, rfl, hn⟩ := wf_u64 hb
  exact floats_calls m n w hm hn
end Go.Proofs.YtbgfiflnfndckaaDoor
