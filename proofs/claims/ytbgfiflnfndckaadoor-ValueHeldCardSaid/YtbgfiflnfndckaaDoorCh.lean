/- The walks of Check, CheckPairs; the document's. No conditions but the kinds' own. -/
import Derived.Test.YtbgfiflnfndckaaDoorCg
import Derived.Test.YtbgfiflnfndckaaDoorRk
set_option linter.unusedVariables false
set_option linter.unusedSimpArgs false
namespace Go.Proofs.YtbgfiflnfndckaaDoor
open Go.RowKit Go.Proofs.YtbgfiflnfndckaaDoorW.PrintWords
attribute [local go_sem] run_store_float

theorem RdP.lower {w w' : World} {B : Option Addr} {m : List (ByteArray × Vs.V)} (h : RdP w B m) (hb : Below w.heap.size w w') : RdP w' B m := by
  obtain ⟨Ds, hm, hB, hDs⟩ := h
  refine ⟨Ds, hm, fun i p hp => ?_, fun i p hp => (hDs i p hp).lower hb⟩
  obtain ⟨b, h1, h2, h3, h4⟩ := hB i p hp
  exact ⟨b, h1, (hb.cell (cell_lt h2)).trans h2, h3, h4.below hb⟩
/-- A closure that ends as a question ends, under caught. -/
theorem caught_ends (F : FuncId) (caps : Array Value) (w : World) (R : Nat)
    (hF : ∀ w : World, (callFunc F caps).run Tryd.prog w = .ok (.enter F caps) w)
    (h : ∀ w', Below w.heap.size w w' → Calls Tryd.prog F caps w' fun e w'' => e = ends R ∧ Below w'.heap.size w' w'') :
    Calls Tryd.prog 46 #[.func (.func F) #[] caps] w fun e w' => e = .returned (.int .i64 R) ∧ Below w.heap.size w w' := by
  have hB1 : Below w.heap.size w (w.alloc (.cells #[.int .i64 0] 38)) := (Below.refl _ _).alloc (Nat.le_refl _) _
  have hlt : w.heap.size < (w.alloc (.cells #[.int .i64 0] 38)).heap.size := by simp
  refine (caught_calls F caps w (fun w' => R = 0 ∧ Below (w.alloc (.cells #[.int .i64 0] 38)).heap.size (w.alloc (.cells #[.int .i64 0] 38)) w') (fun c w' => c = R ∧ Below (w.alloc (.cells #[.int .i64 0] 38)).heap.size (w.alloc (.cells #[.int .i64 0] 38)) w') hF ?_).mono ?_
  · refine (h _ hB1).mono ?_
    rintro e w' ⟨rfl, hb⟩
    have hy := blk_below (blk_new w (.cells #[.int .i64 0] 38)) hb
    by_cases h0 : R = 0
    · refine .inl ⟨by rw [h0]; rfl, blk_cell hy 0, blk_frozen hy 0, h0, hb⟩
    · exact .inr ⟨R, ends_ne h0, blk_cell hy 0, blk_frozen hy 0, rfl, hb⟩
  · rintro e w' (⟨rfl, w1, ⟨h0, hb⟩, rfl⟩ | ⟨c, rfl, w1, ⟨h0, hb⟩, rfl⟩)
    · exact ⟨by rw [h0]; rfl, (hB1.trans (hb.mono hB1.size)).setCell (Nat.le_refl _) _⟩
    · exact ⟨by rw [h0], (hB1.trans (hb.mono hB1.size)).setCell (Nat.le_refl _) _⟩

set_option maxHeartbeats 1000000 in
set_option maxRecDepth 100000 in
theorem check1_calls (v : Vs.V) (cs : Array Value) (b : Nat) (w : World) (hb : w.heap[b]? = some (.cells cs 27 (0, 0))) (hr : Rd w v cs) (hT : Tabs w) :
    Calls Tryd.prog 53 #[.pointer (some ⟨b, 0, none⟩)] w fun e w' => e = ends (Vs.chk v 0) ∧ Below w.heap.size w w' := by
  obtain ⟨A1, ca1, B1, cb1, hcs⟩ := hr.cells
  have hc := check_at hr w (Below.refl _ _) hT 0 (by decide)
  subst hcs
  obtain ⟨p0, p1, p2, p3, p4, p5, p6⟩ := box_cells (x := v.x) (l := .slice A1 v.l.length ca1) (m := .slice B1 v.m.length cb1) hb
  have HC := Lib.hid hc
  clear hc hr hT hb
  generalize Vs.chk v 0 = R at *
  have HR : R = 0 ∨ R ≠ 0 := by omega
  unfold cellsV at HC
  go_enter Tryd.func53, Tryd.ntmps53
  go_wp2_with fail
  refine HC.out.mono ?_
  rcases HR with h | h
  · rw [h, ends_zero]
    rintro e w1 ⟨rfl, hb⟩
    go_wp2
    go_end0
    exact ⟨by rw [h]; rfl, hb⟩
  · rw [ends_ne h]
    unfold vdies
    rintro e w1 ⟨rfl, hb⟩
    exact ⟨rfl, by rw [ends_ne h]; rfl, hb⟩
set_option maxHeartbeats 1000000 in
set_option maxRecDepth 100000 in
theorem check_says (v : Vs.V) (cs : Array Value) (w : World) (hr : Rd w v cs) (hT : Tabs w) :
    Calls Tryd.prog 20 #[.agg cs] w fun e w' => e = .returned (.int .i64 (Vs.chk v 0)) ∧ Below w.heap.size w w' := by
  have hmf := make_func Tryd.prog
  have hB0 := (Below.refl w.heap.size w).alloc (Nat.le_refl _) (.cells cs 27)
  have hx0 := blk_new w (.cells cs 27)
  have hcc := caught_ends 53 #[.pointer (some ⟨w.heap.size, 0, none⟩)] (w.alloc (.cells cs 27)) (Vs.chk v 0) (by intro w'; simp [go_sem]) (fun w' hb => check1_calls v cs w.heap.size w' (blk_below hx0 hb) ((hr.lower hB0).lower hb) ((hT.below hB0).below hb))
  have HB0 := Lib.hid hB0
  have HC := Lib.hid hcc
  obtain ⟨A1, ca1, B1, cb1, hcs⟩ := hr.cells
  subst hcs
  clear hcc hx0 hB0 hr hT
  generalize Vs.chk v 0 = R at *
  unfold cellsV at *
  go_enter Tryd.func20, Tryd.ntmps20
  go_wp2_with fail
  refine HC.out.mono ?_
  rintro e w1 ⟨rfl, hb⟩
  go_wp2
  go_ret
  exact ⟨rfl, HB0.out.trans (hb.mono HB0.out.size)⟩

set_option maxHeartbeats 1000000 in
set_option maxRecDepth 100000 in
theorem rcheck_says (v : Vs.V) (cs : Array Value) (w : World) (hr : Rd w v cs) :
    Calls Tryd.prog 21 #[.agg cs] w fun e w' => e = .returned (.int .i64 (Vs.chk v 0)) ∧ Below w.heap.size w w' := by
  have hB0 := (Below.refl w.heap.size w).alloc (Nat.le_refl _) (.cells cs 27)
  have hc := rcheck_at hr _ hB0 0 (by decide)
  have HB0 := Lib.hid hB0
  have HC := Lib.hid hc
  obtain ⟨A1, ca1, B1, cb1, hcs⟩ := hr.cells
  subst hcs
  clear hc hB0 hr
  generalize Vs.chk v 0 = R at *
  unfold cellsV at *
  go_enter Tryd.func21, Tryd.ntmps21
  go_wp2_with fail
  refine HC.out.mono ?_
  rintro e w1 ⟨rfl, hb⟩
  go_wp2
  go_ret
  exact ⟨rfl, HB0.out.trans (hb.mono HB0.out.size)⟩

namespace Vs
/-- Why pairs are not right. -/
def chkAll (m : List (ByteArray × V)) : Nat := if 256 < m.length then 3 else chkP m [] 0
end Vs

set_option maxHeartbeats 1000000 in
set_option maxRecDepth 100000 in
theorem checkp1_calls (m : List (ByteArray × Vs.V)) (B : Option Addr) (c b : Nat) (w : World) (hb : w.heap[b]? = some (.cells #[.slice B m.length c] 25 (0, 0))) (hr : RdP w B m) (hT : Tabs w) :
    Calls Tryd.prog 55 #[.pointer (some ⟨b, 0, none⟩)] w fun e w' => e = ends (Vs.chkAll m) ∧ Below w.heap.size w w' := by
  have hm : m.length * 112 ≤ 140737488351232 := by obtain ⟨_, h, _⟩ := hr; exact h
  have hm1 : m.length ≤ 1467000000000 := by omega
  have p0 := blk_cell hb 0
  have hc := checkpairs_at hr c 0 hT (by decide)
  have HC := Lib.hid hc
  clear hc hr hT hb hm
  unfold Vs.chkAll
  generalize Vs.chkP m [] 0 = R at *
  have HR : R = 0 ∨ R ≠ 0 := by omega
  by_cases h : 256 < m.length
  · have h1 : ¬ (m.length : Int) ≤ 256 := by omega
    rw [if_pos h, ends_ne (by decide : (3 : Nat) ≠ 0)]
    unfold vdies
    go_enter Tryd.func55, Tryd.ntmps55
    go_wp2_with fail
    first | rw [decide_eq_false (by omega : ¬ (m.length : Int) ≤ 256)] | skip
    refine (must_dies 3 _).mono ?_
    rintro e w1 ⟨rfl, rfl⟩
    exact ⟨rfl, by rfl, Below.refl _ _⟩
  · have h1 : (m.length : Int) ≤ 256 := by omega
    rw [if_neg h]
    go_enter Tryd.func55, Tryd.ntmps55
    go_wp2_with fail
    refine (must_ok 3 _).mono ?_
    rintro e w1 ⟨rfl, rfl⟩
    go_wp2_with fail
    refine HC.out.mono ?_
    rcases HR with h | h
    · rw [h, ends_zero]
      rintro e w1 ⟨rfl, hb⟩
      go_wp2
      go_end0
      exact ⟨by rw [h]; rfl, hb⟩
    · rw [ends_ne h]
      unfold vdies
      rintro e w1 ⟨rfl, hb⟩
      exact ⟨rfl, by rw [ends_ne h]; rfl, hb⟩
set_option maxHeartbeats 1000000 in
set_option maxRecDepth 100000 in
theorem checkp_says (m : List (ByteArray × Vs.V)) (B : Option Addr) (c : Nat) (w : World) (hr : RdP w B m) (hT : Tabs w) :
    Calls Tryd.prog 22 #[.slice B m.length c] w fun e w' => e = .returned (.int .i64 (Vs.chkAll m)) ∧ Below w.heap.size w w' := by
  have hmf := make_func Tryd.prog
  have hB0 := (Below.refl w.heap.size w).alloc (Nat.le_refl _) (.cells #[.slice B m.length c] 25)
  have hx0 := blk_new w (.cells #[.slice B m.length c] 25)
  have hcc := caught_ends 55 #[.pointer (some ⟨w.heap.size, 0, none⟩)] (w.alloc (.cells #[.slice B m.length c] 25)) (Vs.chkAll m) (by intro w'; simp [go_sem]) (fun w' hb => checkp1_calls m B c w.heap.size w' (blk_below hx0 hb) ((hr.lower hB0).lower hb) ((hT.below hB0).below hb))
  have HB0 := Lib.hid hB0
  have HC := Lib.hid hcc
  clear hcc hx0 hB0 hr hT
  generalize Vs.chkAll m = R at *
  go_enter Tryd.func22, Tryd.ntmps22
  go_wp2_with fail
  refine HC.out.mono ?_
  rintro e w1 ⟨rfl, hb⟩
  go_wp2
  go_ret
  exact ⟨rfl, HB0.out.trans (hb.mono HB0.out.size)⟩
set_option maxHeartbeats 1000000 in
set_option maxRecDepth 100000 in
theorem rcheckp_says (m : List (ByteArray × Vs.V)) (B : Option Addr) (c : Nat) (w : World) (hr : RdP w B m) :
    Calls Tryd.prog 23 #[.slice B m.length c] w fun e w' => e = .returned (.int .i64 (Vs.chkAll m)) ∧ Below w.heap.size w w' := by
  obtain ⟨Ds, hm, hB, hDs⟩ := hr
  have hc := rpairs_of m B c 0 w Ds hm hB hDs (fun i p hp => rcheck_at (hDs i p hp)) (by decide) (by intro _; decide)
  have hm1 : m.length ≤ 1467000000000 := by omega
  have HC := Lib.hid hc
  clear hc hB hDs hm
  unfold Vs.chkAll
  generalize Vs.chkP m [] 0 = R at *
  by_cases h : 256 < m.length
  · have h1 : (256 : Int) < (m.length : Int) := by omega
    rw [if_pos h]
    go_enter Tryd.func23, Tryd.ntmps23
    go_wp2
    go_ret
    exact ⟨rfl, Below.refl _ _⟩
  · have h1 : ¬ (256 : Int) < (m.length : Int) := by omega
    rw [if_neg h]
    go_enter Tryd.func23, Tryd.ntmps23
    go_wp2_with fail
    refine HC.out.mono ?_
    rintro e w1 ⟨rfl, hb⟩
    go_wp2
    go_ret
    exact ⟨rfl, hb⟩
end Go.Proofs.YtbgfiflnfndckaaDoor
