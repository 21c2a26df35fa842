/- The walk of ReadNum: a number and how many bytes it has, or why there is none. No conditions but that the text is no longer than a text may be. -/
import Derived.Test.YtehmneckcfchmaaWr
set_option linter.unusedVariables false
set_option linter.unusedSimpArgs false
namespace Go.Proofs.Ytehmneckcfchmaa
open Go.RowKit Go.Proofs.YtehmneckcfchmaaW.PrintWords

theorem catchn_dies (p q r : Addr) (x : Int) (y z : Int) (c : Nat) (older : List PanicEntry) (w : World) (hp : w.cell? p = some (.int .u64 x)) (zp : w.frozen? p = false)
    (hq : w.cell? q = some (.int .i64 y)) (zq : w.frozen? q = false) (hr : w.cell? r = some (.int .i64 z)) (zr : w.frozen? r = false) (hpq : p ≠ q) (hpr : p ≠ r) (hqr : q ≠ r) :
    CallsD Try.prog 40 #[.pointer (some p), .pointer (some q), .pointer (some r)] (.panicking ({ v := .iface 23 (.int .i64 c), recovered := false } :: older)) w fun e u' w' =>
      e = .returned (.tuple #[]) ∧ u' = .panicking ({ v := .iface 23 (.int .i64 c), recovered := true } :: older) ∧ w' = (((w.setCell p (.int .u64 0)).setCell q (.int .i64 0)).setCell r (.int .i64 c)).drew := by
  have hta := assert_errno c
  refine callsD_of_wpS Try.func40 rfl fun c₀ cs hu => ?_
  apply wpS_seq
  apply wpS_region
  simp [wpOpsS, go_sem, recoverD, hu, Try.ntmps40, Exit.thenS]
  refine wpS_of_wp ?_
  show Code.wp _ _ _ { tmps := #[.pointer (some p), .pointer (some q), .pointer (some r), .iface 23 (.int .i64 c), .iface 23 (.int .i64 c), undef, undef, undef, undef], defers := [] } _
  go_wp2
  go_region
  go_wp2
  simp [bodyPostS, results, Try.results40]

theorem catchn_idle (p q r : Addr) (w : World) :
    CallsD Try.prog 40 #[.pointer (some p), .pointer (some q), .pointer (some r)] .returning w fun e u' w' => e = .returned (.tuple #[]) ∧ u' = .returning ∧ w' = w := by
  refine callsD_of_wpS Try.func40 rfl fun c₀ cs hu => ?_
  apply wpS_seq
  apply wpS_region
  simp [wpOpsS, go_sem, recoverD, hu, Try.ntmps40, Exit.thenS]
  refine wpS_of_wp ?_
  show Code.wp _ _ _ { tmps := #[.pointer (some p), .pointer (some q), .pointer (some r), .nilIface, .nilIface, undef, undef, undef, undef], defers := [] } _
  go_wp2
  cases c₀
  simp_all [bodyPostS, results, Try.results40]

set_option maxHeartbeats 1000000 in
set_option maxRecDepth 100000 in
theorem readnum_dies (s : ByteArray) (w : World) (hs : s.size ≤ maxLen) (h : Ws.num s.data.toList = none) :
    Calls Try.prog 19 #[.string s] w fun e w' => e = .returned (.tuple #[.int .u64 0, .int .i64 0, .int .i64 9]) ∧ Below w.heap.size w w' := by
  have hmf := make_func Try.prog
  go_enter_defers Try.func19, Try.ntmps19
  go_wp2_with fail
  refine (num_dies (s := s) ?_ ?_ hs h).mono ?_
  · go_simp
  · go_simp
  rintro e w' ⟨rfl, rfl⟩
  go_wp2
  refine leaves_cons (f := 40) (args := #[.pointer (some ⟨w.heap.size, 0, none⟩), .pointer (some ⟨w.heap.size + 1, 0, none⟩), .pointer (some ⟨w.heap.size + 1 + 1, 0, none⟩)]) (by simp) (by simp [go_sem]) ?_
  refine (catchn_dies _ _ _ 0 0 0 9 [] _ ?_ ?_ ?_ ?_ ?_ ?_ (by simp) (by simp) (by simp)).mono ?_
  all_goals try go_simp
  rintro e u' w'' rfl rfl rfl
  simp only [settle, List.dropWhile_nil]
  refine ⟨.tuple #[.int .u64 0, .int .i64 0, .int .i64 9], by simp [results, Try.results19, go_sem], rfl, ?_⟩
  exact (((((Below.refl _ _).alloc (Nat.le_refl _) _).alloc (by simp) _).alloc (by simp; omega) _).alloc (by simp; omega) _).drew

set_option maxHeartbeats 1000000 in
set_option maxRecDepth 100000 in
theorem readnum_ok (s : ByteArray) (w : World) (hs : s.size ≤ maxLen) {n : Nat} {r : List UInt8} (h : Ws.num s.data.toList = some (n, r)) :
    Calls Try.prog 19 #[.string s] w fun e w' => e = .returned (.tuple #[.int .u64 n, .int .i64 (s.size - r.length : Int), .int .i64 0]) ∧ Below w.heap.size w w' := by
  have hmf := make_func Try.prog
  have hrl := Ws.num_shorter h
  have hsl : s.data.toList.length = s.size := by simp
  rw [hsl] at hrl
  have Hsl := Lib.hid hsl
  clear hsl
  unfold maxLen at hs
  go_enter_defers Try.func19, Try.ntmps19
  go_wp2_with fail
  refine (num_ok (s := s) ?_ ?_ hs h).mono ?_
  · go_simp
  · go_simp
  rintro e w' ⟨rfl, rfl⟩
  go_wp2
  go_region
  go_wp2
  refine leaves_cons (f := 40) (args := #[.pointer (some ⟨w.heap.size, 0, none⟩), .pointer (some ⟨w.heap.size + 1, 0, none⟩), .pointer (some ⟨w.heap.size + 1 + 1, 0, none⟩)]) (by simp) (by simp [go_sem]) ?_
  refine (catchn_idle _ _ _ _).mono ?_
  rintro e u' w'' ⟨rfl, rfl, rfl⟩
  refine ⟨.tuple #[.int .u64 n, .int .i64 (s.size - r.length : Int), .int .i64 0], ?_, rfl, ?_⟩
  · simp [results, Try.results19, go_sem]
  exact (((((Below.refl _ _).alloc (Nat.le_refl _) _).alloc (by simp) _).alloc (by simp; omega) _).alloc (by simp; omega) _).drew
/-- What ReadNum answers. -/
def ReadNumPost (w : World) (size : Nat) : Option (Nat × List UInt8) → Ending → World → Prop
  | none, e, w' => e = .returned (.tuple #[.int .u64 0, .int .i64 0, .int .i64 9]) ∧ Below w.heap.size w w'
  | some (n, r), e, w' => e = .returned (.tuple #[.int .u64 n, .int .i64 (size - r.length : Int), .int .i64 0]) ∧ Below w.heap.size w w'
theorem readnum_calls (s : ByteArray) (w : World) (hs : s.size ≤ maxLen) : Calls Try.prog 19 #[.string s] w (ReadNumPost w s.size (Ws.num s.data.toList)) := by
  cases h : Ws.num s.data.toList with
  | none => exact readnum_dies s w hs h
  | some p => exact readnum_ok s w hs h
end Go.Proofs.Ytehmneckcfchmaa
