/- The walks of All, the program's and the document's. No conditions but that the list is no longer than a list may be. -/
import Derived.Test.YtehmneckcfchmaaOp
set_option linter.unusedVariables false
set_option linter.unusedSimpArgs false
namespace Go.Proofs.Ytehmneckcfchmaa
open Go.RowKit Go.Proofs.YtehmneckcfchmaaW.PrintWords

namespace Ws
/-- Those of a number and a wire. -/
def finds (l : List Fd) (k : Int) (x : Nat) : List Fd := l.filter fun f => f.k == k && f.w == x
theorem finds_yes (l : List Fd) (k : Int) (x : Nat) (j : Nat) (f : Fd) (h : l[j]? = some f) (hf : f.k = k) (hw : f.w = x) : finds (l.take (j + 1)) k x = finds (l.take j) k x ++ [f] := by
  unfold finds
  rw [List.take_add_one, h, List.filter_append]
  simp [hf, hw]
theorem finds_no (l : List Fd) (k : Int) (x : Nat) (j : Nat) (f : Fd) (h : l[j]? = some f) (hf : ¬ (f.k = k ∧ f.w = x)) : finds (l.take (j + 1)) k x = finds (l.take j) k x := by
  unfold finds
  rw [List.take_add_one, h, List.filter_append]
  simp
  intro h1 h2
  exact hf ⟨h1, h2⟩
theorem finds_le (l : List Fd) (k : Int) (x : Nat) : (finds l k x).length ≤ l.length := List.length_filter_le _ _
end Ws

/-- What All answers. -/
def AllPost (w : World) (r : List Ws.Fd) (e : Ending) (w' : World) : Prop :=
  ∃ v, e = .returned v ∧ kF.R 32 w' w.heap.size (fun _ => True) v r ∧ Below w.heap.size w w'

set_option maxHeartbeats 2000000 in
set_option maxRecDepth 100000 in
theorem all_calls (xs : List Ws.Fd) (A : Option Addr) (c : Nat) (num : Int) (x : Nat) (w : World) (hC : kF.C w A xs.length xs) (hl : xs.length * 40 ≤ 140737488351232) :
    Calls Try.prog 29 #[.slice A xs.length c, .int .i64 num, .int .u8 x] w (AllPost w (Ws.finds xs num x)) := by
  have HC := Lib.hid hC
  have hu := Try.underlying32
  clear hC
  go_enter Try.func29, Try.ntmps29
  go_wp2
  go_loopw [7, 12] (fun v i wr => ∃ k : Nat, k ≤ xs.length ∧ i = .int .i64 k ∧ Hid (kF.R 32 wr w.heap.size (fun _ => True) v (Ws.finds (xs.take k) num x)) ∧ Hid (Below w.heap.size w wr)) (fun _ i _ => xs.length - (intOf i).toNat)
  case atStart => exact ⟨0, Nat.zero_le _, rfl, Lib.hid (by rw [List.take_zero]; exact Kd.R_nil _ _ _ _ _), Lib.hid (Below.refl _ _)⟩
  case round =>
    obtain ⟨k, hk, rfl, HO, HB⟩ := hrel
    have hlen := Ws.finds_le (xs.take k) num x
    rw [List.length_take, Nat.min_eq_left hk] at hlen
    obtain ⟨D, hD⟩ : ∃ D, D = Ws.finds (xs.take k) num x := ⟨_, rfl⟩
    rw [← hD] at HO hlen
    have HD := Lib.hid hD
    clear hD
    obtain ⟨B, cp, rfl⟩ := Kd.R_slice HO.out
    by_cases hkn : k < xs.length
    · obtain ⟨f, hf⟩ : ∃ f, xs[k]? = some f := ⟨xs[k], List.getElem?_eq_getElem hkn⟩
      obtain ⟨ad, rfl, c0, c1, c2, c3⟩ := cellsF_at (Kd.C_below HC.out HB.out) k hkn f hf
      have HF := Lib.hid hf
      clear hf
      have hcl : (D.length + 1) * 40 ≤ 140737488355328 := by omega
      have hws := HB.out.size
      by_cases hy : f.k = num
      · by_cases hz : f.w = x
        · have hy1 : (f.k == num) = true := by rw [beq_iff_eq]; exact hy
          have hz1 : ((f.w : Int) == (x : Int)) = true := by rw [beq_iff_eq]; omega
          have HY := Lib.hid (Ws.finds_yes xs num x k f HF.out hy hz)
          clear hy hz
          go_wp2_with (at_builtin; refine Kd.R_append kF (w0 := wr) w.heap.size rfl (.tmp 26) (.tmp 28) 22 32 _ 40 rfl Try.underlying22 infoF rfl (by decide) (by decide) (.slice B D.length cp) D f [.int .i64 f.k, .int .u8 f.w, .int .u64 f.n, .string ⟨f.s.toArray⟩] (fun _ => True) (fun _ => False) rfl ?hx ?hp (fun _ hk => hk.elim) ?hfr ?hO ?hB ?hbs hcl ?_; (case hx => exact congrArg (fun n => Value.slice (some ⟨n, 0, none⟩) 1 1) (show wr.heap.size + 1 = (wr.alloc (.cells #[.int .i64 f.k, .int .u8 f.w, .int .u64 f.n, .string ⟨f.s.toArray⟩] 32)).heap.size by simp)); (case hp => exact kF_mkM _ _ _ f); (case hfr => (intro k hk; trivial)); (case hO => exact Kd.R_below HO.out (Below.alloc (Below.refl _ _) (Nat.le_refl _) _)); (case hB => exact Below.alloc (Below.refl _ _) hws _); (case hbs => exact Nat.le_trans hws (by simp)); intro v1 w1 ho hb hg hat; have HO2 := Lib.hid ho; have HB2 := Lib.hid (HB.out.trans hb); clear ho hb hg hat)
          go_roundw
          case rel => exact ⟨k + 1, hkn, by go_num, by rw [HY.out, ← HD.out]; exact HO2, HB2⟩
          case measure => simp [intOf]; omega
        · have hy1 : (f.k == num) = true := by rw [beq_iff_eq]; exact hy
          have hz1 : ((f.w : Int) == (x : Int)) = false := by rw [beq_eq_false_iff_ne]; omega
          have HY := Lib.hid (Ws.finds_no xs num x k f HF.out (fun h => hz h.2))
          have HO2 := Lib.hid (Kd.R_below HO.out (Below.alloc (Below.refl _ _) (Nat.le_refl _) (.cells #[.int .i64 f.k, .int .u8 f.w, .int .u64 f.n, .string ⟨f.s.toArray⟩] 32)))
          clear hy hz
          go_wp2
          go_roundw
          case rel => exact ⟨k + 1, hkn, by go_num, by rw [HY.out, ← HD.out]; exact HO2, Lib.hid (HB.out.alloc hws _)⟩
          case measure => simp [intOf]; omega
      · have hy1 : (f.k == num) = false := by rw [beq_eq_false_iff_ne]; exact hy
        have HY := Lib.hid (Ws.finds_no xs num x k f HF.out (fun h => hy h.1))
        have HO2 := Lib.hid (Kd.R_below HO.out (Below.alloc (Below.refl _ _) (Nat.le_refl _) (.cells #[.int .i64 f.k, .int .u8 f.w, .int .u64 f.n, .string ⟨f.s.toArray⟩] 32)))
        clear hy
        go_wp2
        go_roundw
        case rel => exact ⟨k + 1, hkn, by go_num, by rw [HY.out, ← HD.out]; exact HO2, Lib.hid (HB.out.alloc hws _)⟩
        case measure => simp [intOf]; omega
    · have hkk : k = xs.length := by omega
      subst hkk
      rw [List.take_length] at HD
      have hlt : ¬ ((xs.length : Int) < (xs.length : Int)) := by omega
      go_wp2
      go_ret
      exact ⟨_, rfl, by rw [← HD.out]; exact HO.out, HB.out⟩

set_option maxHeartbeats 2000000 in
set_option maxRecDepth 100000 in
theorem rall_calls (xs : List Ws.Fd) (A : Option Addr) (c : Nat) (num : Int) (x : Nat) (w : World) (hC : kF.C w A xs.length xs) (hl : xs.length * 40 ≤ 140737488351232) :
    Calls Try.prog 30 #[.slice A xs.length c, .int .i64 num, .int .u8 x] w (AllPost w (Ws.finds xs num x)) := by
  have HC := Lib.hid hC
  have hu := Try.underlying32
  clear hC
  go_enter Try.func30, Try.ntmps30
  go_wp2
  go_loopw [7, 12] (fun v i wr => ∃ k : Nat, k ≤ xs.length ∧ i = .int .i64 k ∧ Hid (kF.R 32 wr w.heap.size (fun _ => True) v (Ws.finds (xs.take k) num x)) ∧ Hid (Below w.heap.size w wr)) (fun _ i _ => xs.length - (intOf i).toNat)
  case atStart => exact ⟨0, Nat.zero_le _, rfl, Lib.hid (by rw [List.take_zero]; exact Kd.R_nil _ _ _ _ _), Lib.hid (Below.refl _ _)⟩
  case round =>
    obtain ⟨k, hk, rfl, HO, HB⟩ := hrel
    have hlen := Ws.finds_le (xs.take k) num x
    rw [List.length_take, Nat.min_eq_left hk] at hlen
    obtain ⟨D, hD⟩ : ∃ D, D = Ws.finds (xs.take k) num x := ⟨_, rfl⟩
    rw [← hD] at HO hlen
    have HD := Lib.hid hD
    clear hD
    obtain ⟨B, cp, rfl⟩ := Kd.R_slice HO.out
    by_cases hkn : k < xs.length
    · obtain ⟨f, hf⟩ : ∃ f, xs[k]? = some f := ⟨xs[k], List.getElem?_eq_getElem hkn⟩
      obtain ⟨ad, rfl, c0, c1, c2, c3⟩ := cellsF_at (Kd.C_below HC.out HB.out) k hkn f hf
      have HF := Lib.hid hf
      clear hf
      have hcl : (D.length + 1) * 40 ≤ 140737488355328 := by omega
      have hws := HB.out.size
      by_cases hy : f.k = num
      · by_cases hz : f.w = x
        · have hy1 : (f.k == num) = true := by rw [beq_iff_eq]; exact hy
          have hz1 : ((f.w : Int) == (x : Int)) = true := by rw [beq_iff_eq]; omega
          have HY := Lib.hid (Ws.finds_yes xs num x k f HF.out hy hz)
          clear hy hz
          go_wp2_with (at_builtin; refine Kd.R_append kF (w0 := wr) w.heap.size rfl (.tmp 26) (.tmp 28) 22 32 _ 40 rfl Try.underlying22 infoF rfl (by decide) (by decide) (.slice B D.length cp) D f [.int .i64 f.k, .int .u8 f.w, .int .u64 f.n, .string ⟨f.s.toArray⟩] (fun _ => True) (fun _ => False) rfl ?hx ?hp (fun _ hk => hk.elim) ?hfr ?hO ?hB ?hbs hcl ?_; (case hx => exact congrArg (fun n => Value.slice (some ⟨n, 0, none⟩) 1 1) (show wr.heap.size + 1 = (wr.alloc (.cells #[.int .i64 f.k, .int .u8 f.w, .int .u64 f.n, .string ⟨f.s.toArray⟩] 32)).heap.size by simp)); (case hp => exact kF_mkM _ _ _ f); (case hfr => (intro k hk; trivial)); (case hO => exact Kd.R_below HO.out (Below.alloc (Below.refl _ _) (Nat.le_refl _) _)); (case hB => exact Below.alloc (Below.refl _ _) hws _); (case hbs => exact Nat.le_trans hws (by simp)); intro v1 w1 ho hb hg hat; have HO2 := Lib.hid ho; have HB2 := Lib.hid (HB.out.trans hb); clear ho hb hg hat)
          go_roundw
          case rel => exact ⟨k + 1, hkn, by go_num, by rw [HY.out, ← HD.out]; exact HO2, HB2⟩
          case measure => simp [intOf]; omega
        · have hy1 : (f.k == num) = true := by rw [beq_iff_eq]; exact hy
          have hz1 : ((f.w : Int) == (x : Int)) = false := by rw [beq_eq_false_iff_ne]; omega
          have HY := Lib.hid (Ws.finds_no xs num x k f HF.out (fun h => hz h.2))
          have HO2 := Lib.hid (Kd.R_below HO.out (Below.alloc (Below.refl _ _) (Nat.le_refl _) (.cells #[.int .i64 f.k, .int .u8 f.w, .int .u64 f.n, .string ⟨f.s.toArray⟩] 32)))
          clear hy hz
          go_wp2
          go_roundw
          case rel => exact ⟨k + 1, hkn, by go_num, by rw [HY.out, ← HD.out]; exact HO2, Lib.hid (HB.out.alloc hws _)⟩
          case measure => simp [intOf]; omega
      · have hy1 : (f.k == num) = false := by rw [beq_eq_false_iff_ne]; exact hy
        have HY := Lib.hid (Ws.finds_no xs num x k f HF.out (fun h => hy h.1))
        have HO2 := Lib.hid (Kd.R_below HO.out (Below.alloc (Below.refl _ _) (Nat.le_refl _) (.cells #[.int .i64 f.k, .int .u8 f.w, .int .u64 f.n, .string ⟨f.s.toArray⟩] 32)))
        clear hy
        go_wp2
        go_roundw
        case rel => exact ⟨k + 1, hkn, by go_num, by rw [HY.out, ← HD.out]; exact HO2, Lib.hid (HB.out.alloc hws _)⟩
        case measure => simp [intOf]; omega
    · have hkk : k = xs.length := by omega
      subst hkk
      rw [List.take_length] at HD
      have hlt : ¬ ((xs.length : Int) < (xs.length : Int)) := by omega
      go_wp2
      go_ret
      exact ⟨_, rfl, by rw [← HD.out]; exact HO.out, HB.out⟩
end Go.Proofs.Ytehmneckcfchmaa
