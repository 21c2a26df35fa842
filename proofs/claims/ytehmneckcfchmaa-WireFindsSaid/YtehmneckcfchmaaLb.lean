/- The walks of Last, the program's and the document's. No conditions but that the list is no longer than a list may be. -/
import Derived.Test.YtehmneckcfchmaaLa
set_option linter.unusedVariables false
set_option linter.unusedSimpArgs false
namespace Go.Proofs.Ytehmneckcfchmaa
open Go.RowKit Go.Proofs.YtehmneckcfchmaaW.PrintWords

namespace Ws
/-- The last of a number and a wire. -/
def last (l : List Fd) (k : Int) (x : Nat) : Fd × Bool := match (finds l k x).getLast? with | some f => (f, true) | none => (⟨0, 0, 0, []⟩, false)
theorem last_none {l : List Fd} {k : Int} {x : Nat} (h : finds l k x = []) : last l k x = (⟨0, 0, 0, []⟩, false) := by unfold last; rw [h]; rfl
theorem last_some {l : List Fd} {k : Int} {x : Nat} {f : Fd} (h : (finds l k x)[(finds l k x).length - 1]? = some f) : last l k x = (f, true) := by
  unfold last
  rw [List.getLast?_eq_getElem?, h]
theorem finds_cut (l : List Fd) (k : Int) (x j : Nat) : finds l k x = finds (l.take j) k x ++ finds (l.drop j) k x := by
  unfold finds
  rw [← List.filter_append, List.take_append_drop]
theorem finds_drop_no (l : List Fd) (k : Int) (x j : Nat) (f : Fd) (h : l[j]? = some f) (hf : ¬ (f.k = k ∧ f.w = x)) (hd : finds (l.drop (j + 1)) k x = []) : finds (l.drop j) k x = [] := by
  have hj : j < l.length := (List.getElem?_eq_some_iff.1 h).1
  have he : l[j] = f := (List.getElem?_eq_some_iff.1 h).2
  unfold finds at *
  rw [List.drop_eq_getElem_cons hj, he, List.filter_cons, hd, if_neg]
  simp
  intro h1 h2
  exact hf ⟨h1, h2⟩
theorem last_here (l : List Fd) (k : Int) (x j : Nat) (f : Fd) (h : l[j]? = some f) (hk : f.k = k) (hw : f.w = x) (hd : finds (l.drop (j + 1)) k x = []) : last l k x = (f, true) := by
  unfold last
  rw [finds_cut l k x (j + 1), hd, List.append_nil, finds_yes l k x j f h hk hw]
  simp
end Ws

/-- What Last answers. -/
def LastPost (w : World) (r : Ws.Fd × Bool) (e : Ending) (w' : World) : Prop :=
  e = .returned (.tuple #[.agg #[.int .i64 r.1.k, .int .u8 r.1.w, .int .u64 r.1.n, .string ⟨r.1.s.toArray⟩], .bool r.2]) ∧ Below w.heap.size w w'

set_option maxHeartbeats 2000000 in
set_option maxRecDepth 100000 in
theorem last_calls (xs : List Ws.Fd) (A : Option Addr) (c : Nat) (num : Int) (x : Nat) (w : World) (hC : kF.C w A xs.length xs) (hl : xs.length * 40 ≤ 140737488351232) :
    Calls Try.prog 27 #[.slice A xs.length c, .int .i64 num, .int .u8 x] w (LastPost w (Ws.last xs num x)) := by
  have HC := Lib.hid hC
  have hu := Try.underlying32
  obtain ⟨res, hres⟩ : ∃ r, r = Ws.last xs num x := ⟨_, rfl⟩
  rw [← hres]
  have HR := Lib.hid hres
  clear hC hres
  go_enter Try.func27, Try.ntmps27
  go_wp2_with fail
  refine (all_calls xs A c num x _ (Kd.C_below HC.out (Below.alloc (Below.refl _ _) (Nat.le_refl _) _)) hl).mono ?_
  rintro e w1 ⟨v, rfl, hr, hb⟩
  have hx := blk_below (heap_alloc_new w _) hb
  have z0 : w1.frozen? ⟨w.heap.size, 0, none⟩ = false := blk_frozen hx 0
  have z1 : w1.frozen? ⟨w.heap.size, 1, none⟩ = false := blk_frozen hx 1
  have z2 : w1.frozen? ⟨w.heap.size, 2, none⟩ = false := blk_frozen hx 2
  have z3 : w1.frozen? ⟨w.heap.size, 3, none⟩ = false := blk_frozen hx 3
  have b0 : w1.cell? ⟨w.heap.size, 0, none⟩ = some (.int .i64 0) := blk_cell hx 0
  have b1 : w1.cell? ⟨w.heap.size, 1, none⟩ = some (.int .u8 0) := blk_cell hx 1
  have b2 : w1.cell? ⟨w.heap.size, 2, none⟩ = some (.int .u64 0) := blk_cell hx 2
  have b3 : w1.cell? ⟨w.heap.size, 3, none⟩ = some (.string ⟨#[]⟩) := blk_cell hx 3
  have HX := Lib.hid hx
  have HB := Lib.hid (((Below.refl w.heap.size w).alloc (Nat.le_refl _) _).trans (hb.mono (by simp)))
  obtain ⟨D, hD⟩ : ∃ D, D = Ws.finds xs num x := ⟨_, rfl⟩
  rw [← hD] at hr
  have HD := Lib.hid hD
  clear hD hb hx
  have hlen : D.length ≤ xs.length := by rw [HD.out]; exact Ws.finds_le _ _ _
  by_cases hz : D.length = 0
  · have hD0 : D = [] := List.eq_nil_of_length_eq_zero hz
    subst hD0
    obtain ⟨B, cp, rfl⟩ := Kd.R_slice hr
    have hrs : res = (⟨0, 0, 0, []⟩, false) := by rw [HR.out]; exact Ws.last_none HD.out.symm
    subst hrs
    clear hr
    go_wp2
    refine bodyPost_ret (v := .tuple #[.agg #[.int .i64 0, .int .u8 0, .int .u64 0, .string ⟨#[]⟩], .bool false]) (by simp [results, Try.results27, go_sem, z0, z1, z2, z3, b0, b1, b2, b3]) rfl ⟨rfl, ?_⟩
    exact (((HB.out.setCell (Nat.le_refl _) _).setCell (Nat.le_refl _) _).setCell (Nat.le_refl _) _).setCell (Nat.le_refl _) _
  · obtain ⟨f, hf⟩ : ∃ f, D[D.length - 1]? = some f := ⟨D[D.length - 1], List.getElem?_eq_getElem (by omega)⟩
    obtain ⟨g, cp, rfl, a0, a1, a2, a3⟩ := kF_rowcell hr (D.length - 1) f hf
    have hrs : res = (f, true) := by rw [HR.out]; exact Ws.last_some (by rw [← HD.out]; exact hf)
    subst hrs
    have hnz : ¬ (D.length : Int) = 0 := by omega
    have hidx : ((D.length : Int) - 1).toNat = D.length - 1 := by omega
    clear hr hf
    go_wp2
    refine bodyPost_ret (v := .tuple #[.agg #[.int .i64 f.k, .int .u8 f.w, .int .u64 f.n, .string ⟨f.s.toArray⟩], .bool true]) (by simp [results, Try.results27, go_sem, z0, z1, z2, z3, b0, b1, b2, b3]) rfl ⟨rfl, ?_⟩
    exact (((HB.out.setCell (Nat.le_refl _) _).setCell (Nat.le_refl _) _).setCell (Nat.le_refl _) _).setCell (Nat.le_refl _) _

set_option maxHeartbeats 4000000 in
set_option maxRecDepth 100000 in
theorem rlast_calls (xs : List Ws.Fd) (A : Option Addr) (c : Nat) (num : Int) (x : Nat) (w : World) (hC : kF.C w A xs.length xs) (hl : xs.length * 40 ≤ 140737488351232) :
    Calls Try.prog 28 #[.slice A xs.length c, .int .i64 num, .int .u8 x] w (LastPost w (Ws.last xs num x)) := by
  have HC := Lib.hid hC
  have hu := Try.underlying32
  obtain ⟨res, hres⟩ : ∃ r, r = Ws.last xs num x := ⟨_, rfl⟩
  rw [← hres]
  have HR := Lib.hid hres
  clear hC hres
  go_enter Try.func28, Try.ntmps28
  go_wp2
  obtain ⟨w1, hw1⟩ : ∃ w1, w1 = w.alloc (.cells #[.int .i64 0, .int .u8 0, .int .u64 0, .string ⟨#[]⟩] 32) := ⟨_, rfl⟩
  rw [← hw1]
  have HC1 := Lib.hid (show kF.C w1 A xs.length xs from by rw [hw1]; exact Kd.C_below HC.out (Below.alloc (Below.refl _ _) (Nat.le_refl _) _))
  have HB := Lib.hid (show Below w.heap.size w w1 from by rw [hw1]; exact (Below.refl w.heap.size w).alloc (Nat.le_refl _) _)
  have HX := Lib.hid (show w1.heap[w.heap.size]? = some (.cells #[.int .i64 0, .int .u8 0, .int .u64 0, .string ⟨#[]⟩] 32 (0, 0)) from by rw [hw1]; exact heap_alloc_new w _)
  clear hw1 HC
  have z0 : w1.frozen? ⟨w.heap.size, 0, none⟩ = false := blk_frozen HX.out 0
  have z1 : w1.frozen? ⟨w.heap.size, 1, none⟩ = false := blk_frozen HX.out 1
  have z2 : w1.frozen? ⟨w.heap.size, 2, none⟩ = false := blk_frozen HX.out 2
  have z3 : w1.frozen? ⟨w.heap.size, 3, none⟩ = false := blk_frozen HX.out 3
  have b0 : w1.cell? ⟨w.heap.size, 0, none⟩ = some (.int .i64 0) := blk_cell HX.out 0
  have b1 : w1.cell? ⟨w.heap.size, 1, none⟩ = some (.int .u8 0) := blk_cell HX.out 1
  have b2 : w1.cell? ⟨w.heap.size, 2, none⟩ = some (.int .u64 0) := blk_cell HX.out 2
  have b3 : w1.cell? ⟨w.heap.size, 3, none⟩ = some (.string ⟨#[]⟩) := blk_cell HX.out 3
  go_loopw [8] (fun i wr => ∃ (j : Nat), j ≤ xs.length ∧ i = .int .i64 ((j : Int) - 1) ∧ Hid (Ws.finds (xs.drop j) num x = []) ∧ wr = w1) (fun i _ => (intOf i + 1).toNat)
  case atStart => exact ⟨xs.length, Nat.le_refl _, rfl, Lib.hid (by rw [List.drop_length]; rfl), rfl⟩
  case round =>
    obtain ⟨j, hj, rfl, HF, rfl⟩ := hrel
    cases j with
    | zero =>
      rw [show (((0 : Nat) : Int) - 1) = -1 by decide]
      have hrs : res = (⟨0, 0, 0, []⟩, false) := by rw [HR.out]; exact Ws.last_none (by have := HF.out; rwa [List.drop_zero] at this)
      subst hrs
      go_wp2
      refine bodyPost_ret (v := .tuple #[.agg #[.int .i64 0, .int .u8 0, .int .u64 0, .string ⟨#[]⟩], .bool false]) (by simp [results, Try.results28, go_sem, z0, z1, z2, z3, b0, b1, b2, b3]) rfl ⟨rfl, ?_⟩
      exact (((HB.out.setCell (Nat.le_refl _) _).setCell (Nat.le_refl _) _).setCell (Nat.le_refl _) _).setCell (Nat.le_refl _) _
    | succ i =>
      rw [show (((i + 1 : Nat) : Int) - 1) = (i : Int) by omega]
      have hin : i < xs.length := by omega
      obtain ⟨f, hf⟩ : ∃ f, xs[i]? = some f := ⟨xs[i], List.getElem?_eq_getElem hin⟩
      obtain ⟨ad, rfl, c0, c1, c2, c3⟩ := cellsF_at HC1.out i hin f hf
      have HFx := Lib.hid hf
      clear hf
      by_cases hy : f.k = num
      · have hy1 : (f.k == num) = true := by rw [beq_iff_eq]; exact hy
        by_cases hz : f.w = x
        · have hz1 : ((f.w : Int) == (x : Int)) = true := by rw [beq_iff_eq]; omega
          have hrs : res = (f, true) := by rw [HR.out]; exact Ws.last_here xs num x i f HFx.out hy hz HF.out
          subst hrs
          clear hy hz
          go_wp2
          refine bodyPost_ret (v := .tuple #[.agg #[.int .i64 f.k, .int .u8 f.w, .int .u64 f.n, .string ⟨f.s.toArray⟩], .bool true]) (by simp [results, Try.results28, go_sem, z0, z1, z2, z3, b0, b1, b2, b3]) rfl ⟨rfl, ?_⟩
          exact (((HB.out.setCell (Nat.le_refl _) _).setCell (Nat.le_refl _) _).setCell (Nat.le_refl _) _).setCell (Nat.le_refl _) _
        · have hz1 : ((f.w : Int) == (x : Int)) = false := by rw [beq_eq_false_iff_ne]; omega
          have HN := Lib.hid (Ws.finds_drop_no xs num x i f HFx.out (fun h => hz h.2) HF.out)
          clear hy hz
          go_wp2
          go_roundw
          case rel => exact ⟨i, by omega, rfl, HN, trivial⟩
          case measure => simp [intOf]
      · have hy1 : (f.k == num) = false := by rw [beq_eq_false_iff_ne]; exact hy
        have HN := Lib.hid (Ws.finds_drop_no xs num x i f HFx.out (fun h => hy h.1) HF.out)
        clear hy
        go_wp2
        go_roundw
        case rel => exact ⟨i, by omega, rfl, HN, trivial⟩
        case measure => simp [intOf]
end Go.Proofs.Ytehmneckcfchmaa
