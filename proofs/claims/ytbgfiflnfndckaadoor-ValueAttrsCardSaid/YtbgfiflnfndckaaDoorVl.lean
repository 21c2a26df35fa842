/- The walks of check and message at a number. No conditions but the kinds' own. -/
import Derived.Test.YtbgfiflnfndckaaDoorVk
import Derived.Maps.Own
set_option linter.unusedVariables false
set_option linter.unusedSimpArgs false
namespace Go.Proofs.YtbgfiflnfndckaaDoor
open Go.RowKit Go.Proofs.YtbgfiflnfndckaaDoorW.PrintWords
attribute [local go_sem] run_store_float

set_option maxHeartbeats 1000000 in
set_option maxRecDepth 100000 in
/-- No pairs: right. -/
theorem nopairs_calls (A : Option Addr) (c : Nat) (d : Int) (w : World) : Calls Tryd.prog 57 #[.slice A 0 c, .int .i64 d] w fun e w' => e = .returned (.tuple #[]) ∧ Below w.heap.size w w' := by
  have hmm := @run_makeMap Tryd.prog
  go_enter Tryd.func57, Tryd.ntmps57
  go_wp2
  refine wp_loop_rounds 1 ?_
  rw [rounds_succ]
  go_wp2_with fail
  refine (must_ok 6 _).mono ?_
  rintro e w1 ⟨rfl, rfl⟩
  go_wp2
  go_end0
  exact ⟨rfl, (Below.refl _ _).alloc (Nat.le_refl _) _⟩

/-- A number, as a value. -/
def isNum (x : Vs.Sc) : Prop := (x.k = 3 ∧ x.f = 0 ∨ x.k = 4 ∧ x.n = 0) ∧ x.s = ⟨#[]⟩ ∧ x.b = false
theorem flat_self (x : Vs.Sc) (h : isNum x) (a b : Nat) : Vs.flat x (Vs.bareS x) a a b b = true := by
  obtain ⟨k, s, b, n, f⟩ := x
  obtain ⟨h1, h2, h3⟩ := h
  simp only at h1 h2 h3
  subst h2 h3
  rcases h1 with ⟨rfl, rfl⟩ | ⟨rfl, rfl⟩ <;> simp [Vs.flat, Vs.bareS]

set_option maxHeartbeats 4000000 in
set_option maxRecDepth 100000 in
theorem check_num (x : Vs.Sc) (h : isNum x) (w : World) :
    Calls Tryd.prog 48 #[.agg (cellsV x nilS nilS), .int .i64 0] w fun e w' => e = .returned (.tuple #[]) ∧ Below w.heap.size w w' := by
  have hfl := flat_self x h 0 0
  have hbr := bare_calls x none none 0 0 0 0
  have k5 : (if x.k = 5 then Value.slice none 0 0 else nilS) = nilS := by unfold nilS; split <;> rfl
  have k6 : (if x.k = 6 then Value.slice none 0 0 else nilS) = nilS := by unfold nilS; split <;> rfl
  rw [k5, k6] at hbr
  have hft := flat_calls x (Vs.bareS x) none none none none 0 0 0 0 0 0 0 0
  rw [hfl] at hft
  have HBR := Lib.hid hbr
  have HFT := Lib.hid hft
  clear hbr hft hfl k5 k6
  have hk : x.k = 3 ∨ x.k = 4 := by rcases h.1 with h | h; exact .inl h.1; exact .inr h.1
  obtain ⟨k, s, b, n, f⟩ := x
  obtain ⟨_, h2, h3⟩ := h
  simp only at hk h2 h3
  subst h2 h3
  obtain ⟨y, hy⟩ : ∃ y, y = Vs.bareS ⟨k, ⟨#[]⟩, false, n, f⟩ := ⟨_, rfl⟩
  rw [← hy] at HBR HFT
  clear hy
  unfold cellsV nilS at *
  have c1 : ((k : Int) < 8) := by omega
  have c2 : ((k : Int) != 1) = true := by rw [bne_iff_ne]; omega
  have c3 : ((k : Int) != 5) = true := by rw [bne_iff_ne]; omega
  have c4 : ((k : Int) != 6) = true := by rw [bne_iff_ne]; omega
  clear hk
  go_enter Tryd.func48, Tryd.ntmps48
  go_wp2
  obtain ⟨W0, hW0⟩ : ∃ W0, W0 = w.alloc (.cells #[.int .u8 k, .string ⟨#[]⟩, .bool false, .int .i64 n, .float .f64 f, .slice none 0 0, .slice none 0 0] 27) := ⟨_, rfl⟩
  rw [← hW0]
  have HX := Lib.hid (show W0.heap[w.heap.size]? = some (.cells #[.int .u8 k, .string ⟨#[]⟩, .bool false, .int .i64 n, .float .f64 f, .slice none 0 0, .slice none 0 0] 27 (0, 0)) from by rw [hW0]; exact heap_alloc_new w _)
  have HB0 := Lib.hid (show Below w.heap.size w W0 from by rw [hW0]; exact (Below.refl _ _).alloc (Nat.le_refl _) _)
  clear hW0
  refine Rg.begin_calm [0, 1, 2, 3, 4, 5] (fun W => W.heap[w.heap.size]? = some (.cells #[.int .u8 k, .string ⟨#[]⟩, .bool false, .int .i64 n, .float .f64 f, .slice none 0 0, .slice none 0 0] 27 (0, 0))) (by kernel_rfl) ?_
  refine Rg.take_ (i := 0) (v := .pointer (some ⟨w.heap.size, 0, none⟩)) rfl (by simp) (by kernel_rfl) (fun _ _ _ h => h) (.inl ⟨rfl, ?_⟩) ?_ ?_
  · intro W hW
    go_simp
  · exact HX.out
  refine Rg.take_ (i := 1) (v := .int .u8 k) rfl (by simp) (by kernel_rfl) (fun _ _ _ h => h) (.inl ⟨rfl, ?_⟩) ?_ ?_
  · intro W hW
    have c0 := blk_cell hW 0
    go_simp
  · exact HX.out
  refine Rg.take_ (i := 2) (v := .bool true) rfl (by simp) (by kernel_rfl) (fun _ _ _ h => h) (.inl ⟨rfl, ?_⟩) ?_ ?_
  · intro W hW
    go_simp
  · exact HX.out
  refine Rg.take_ (i := 3) (v := .bool true) rfl (by simp) (by kernel_rfl) (fun _ _ _ h => h) (.inl ⟨rfl, ?_⟩) ?_ ?_
  · intro W hW
    go_simp
  · exact HX.out
  refine Rg.take_ (i := 4) (v := .agg #[.int .u8 k, .string ⟨#[]⟩, .bool false, .int .i64 n, .float .f64 f, .slice none 0 0, .slice none 0 0]) rfl (by simp) (by kernel_rfl) (fun _ _ _ h => h) (.inl ⟨rfl, ?_⟩) ?_ ?_
  · intro W hW
    have c0 := blk_cell hW 0
    have c1 := blk_cell hW 1
    have c2 := blk_cell hW 2
    have c3 := blk_cell hW 3
    have c4 := blk_cell hW 4
    have c5 := blk_cell hW 5
    have c6 := blk_cell hW 6
    go_simp
  · exact HX.out
  refine Rg.take_ (i := 5) (v := .agg #[.int .u8 k, .string ⟨#[]⟩, .bool false, .int .i64 n, .float .f64 f, .slice none 0 0, .slice none 0 0]) rfl (by simp) (by kernel_rfl) (fun _ _ _ h => h) (.inl ⟨rfl, ?_⟩) ?_ ?_
  · intro W hW
    have c0 := blk_cell hW 0
    have c1 := blk_cell hW 1
    have c2 := blk_cell hW 2
    have c3 := blk_cell hW 3
    have c4 := blk_cell hW 4
    have c5 := blk_cell hW 5
    have c6 := blk_cell hW 6
    go_simp
  · exact HX.out
  refine Rg.step_ (j := 6) rfl (by kernel_rfl) ?_
  go_wp2_with fail
  refine (HBR.out _).mono ?_
  rintro e w1 ⟨rfl, hb⟩
  have hb2 := below_undrew hb
  have HX1 := Lib.hid (blk_below HX.out hb2)
  have HB1 := Lib.hid (HB0.out.trans (hb2.mono HB0.out.size))
  clear hb hb2 HX HB0
  go_wp2_with fail
  refine And.intro HX1.out ?_
  refine Rg.step_ (j := 7) rfl (by kernel_rfl) ?_
  go_wp2_with fail
  refine (HFT.out _).mono ?_
  rintro e w2 ⟨rfl, hb⟩
  have HX2 := Lib.hid (blk_below HX1.out hb)
  have HB2 := Lib.hid (HB1.out.trans (hb.mono HB1.out.size))
  clear hb HX1 HB1
  go_wp2_with fail
  refine And.intro HX2.out ?_
  refine Rg.step_ (j := 8) rfl (by kernel_rfl) ?_
  go_wp2_with fail
  refine And.intro HX2.out ?_
  refine Rg.step_ (j := 9) rfl (by kernel_rfl) ?_
  go_wp2_with fail
  refine (must_ok 5 _).mono ?_
  rintro e w3 ⟨rfl, rfl⟩
  go_wp2_with fail
  refine And.intro HX2.out ?_
  refine Rg.done_ (by kernel_rfl) ?_ _
  refine Rg.Calm.normal ?_
  have b0 := blk_cell HX2.out 0
  have b1 := blk_cell HX2.out 1
  have b5 := blk_cell HX2.out 5
  have b6 := blk_cell HX2.out 6
  go_wp2_with fail
  refine (must_ok 4 _).mono ?_
  rintro e w3 ⟨rfl, rfl⟩
  go_wp2_with fail
  refine (must_ok 12 _).mono ?_
  rintro e w4 ⟨rfl, rfl⟩
  go_wp2_with fail
  refine (must_ok 3 _).mono ?_
  rintro e w5 ⟨rfl, rfl⟩
  go_wp2_with fail
  refine (must_ok 11 _).mono ?_
  rintro e w6 ⟨rfl, rfl⟩
  go_wp2
  refine wp_loop_rounds 1 ?_
  rw [rounds_succ]
  go_wp2_with fail
  refine (nopairs_calls none 0 _ _).mono ?_
  rintro e w7 ⟨rfl, hb⟩
  go_wp2
  go_end0
  exact ⟨rfl, HB2.out.trans (hb.mono HB2.out.size)⟩
end Go.Proofs.YtbgfiflnfndckaaDoor
