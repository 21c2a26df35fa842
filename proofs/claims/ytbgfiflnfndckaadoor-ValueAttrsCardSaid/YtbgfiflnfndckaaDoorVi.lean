/- The walks of the small parts: must, fine, key's kin; values made; a panic that is caught. No conditions but the kinds' own. -/
import Derived.Test.YtbgfiflnfndckaaDoorVd
import Derived.Test.YtbgfiflnfndckaaDoorWd
set_option linter.unusedVariables false
set_option linter.unusedSimpArgs false
namespace Go.Proofs.YtbgfiflnfndckaaDoor
open Go.RowKit Go.Proofs.YtbgfiflnfndckaaDoorW.PrintWords

theorem run_store_float (P : Program) (w : World) (a : Addr) (m : Mode) (k : FloatKind) (b : Nat) : (store a (.float k b) m).run P w = stored P w a (.float k b) m := run_store P w a _ m rfl

/-- A panic with an error's number. -/
def vdies (c : Int) : Ending := .panicked [{ v := .iface 38 (.int .i64 c), recovered := false }]
theorem must_ok (c : Int) (w : World) : Calls Tryd.prog 56 #[.bool true, .int .i64 c] w fun e w' => e = .returned (.tuple #[]) ∧ w' = w := by
  go_enter Tryd.func56, Tryd.ntmps56
  go_wp2
  go_end0
  exact ⟨rfl, rfl⟩
theorem must_dies (c : Int) (w : World) : Calls Tryd.prog 56 #[.bool false, .int .i64 c] w fun e w' => e = vdies c ∧ w' = w := by
  unfold vdies
  go_enter Tryd.func56, Tryd.ntmps56
  go_wp2
  exact ⟨rfl, rfl, rfl⟩
theorem fine_ok (w : World) : Calls Tryd.prog 99 #[.int .i64 0] w fun e w' => e = .returned (.tuple #[]) ∧ w' = w := by
  go_enter Tryd.func99, Tryd.ntmps99
  go_wp2_with fail
  refine (must_ok 0 _).mono ?_
  rintro e w1 ⟨rfl, rfl⟩
  go_wp2
  go_end0
  exact ⟨rfl, rfl⟩
theorem fine_dies (c : Int) (w : World) (hc : (c == 0) = false) : Calls Tryd.prog 99 #[.int .i64 c] w fun e w' => e = vdies c ∧ w' = w := by
  go_enter Tryd.func99, Tryd.ntmps99
  go_wp2_with fail
  refine (must_dies c _).mono ?_
  rintro e w1 ⟨rfl, rfl⟩
  exact ⟨rfl, rfl, rfl⟩
theorem bytes_calls (k : Int) (s : ByteArray) (w : World) : Calls Tryd.prog 82 #[.int .i64 k, .string s] w fun e w' => e = .returned (.agg #[.int .i64 k, .int .u8 2, .int .u64 0, .string s]) ∧ Below w.heap.size w w' := by
  go_enter Tryd.func82, Tryd.ntmps82
  go_wp2
  refine bodyPost_ret (v := .agg #[.int .i64 k, .int .u8 2, .int .u64 0, .string s]) ?_ rfl ?_
  · simp [results, Tryd.results82, go_sem]
  · exact ⟨rfl, (Below.refl _ _).alloc (Nat.le_refl _) _⟩

/-- The caught function's deferred one, called of a panic with an error's number; and of none. -/
theorem caught_dies (p : Addr) (x : Int) (c : Int) (older : List PanicEntry) (w : World) (hc : w.cell? p = some (.int .i64 x)) (hz : w.frozen? p = false) :
    CallsD Tryd.prog 78 #[.pointer (some p)] (.panicking ({ v := .iface 38 (.int .i64 c), recovered := false } :: older)) w fun e u' w' =>
      e = .returned (.tuple #[]) ∧ u' = .panicking ({ v := .iface 38 (.int .i64 c), recovered := true } :: older) ∧ w' = w.setCell p (.int .i64 c) := by
  have hta := assert_errno c
  refine callsD_of_wpS Tryd.func78 rfl fun c₀ cs hu => ?_
  apply wpS_seq
  apply wpS_region
  simp [wpOpsS, go_sem, recoverD, hu, Tryd.ntmps78, Exit.thenS]
  refine wpS_of_wp ?_
  show Code.wp _ _ _ { tmps := #[.pointer (some p), .iface 38 (.int .i64 c), .iface 38 (.int .i64 c), undef, undef, undef, undef], defers := [] } _
  go_wp2
  simp [bodyPostS, results, Tryd.results78]
theorem caught_idle (p : Addr) (w : World) :
    CallsD Tryd.prog 78 #[.pointer (some p)] .returning w fun e u' w' => e = .returned (.tuple #[]) ∧ u' = .returning ∧ w' = w := by
  refine callsD_of_wpS Tryd.func78 rfl fun c₀ cs hu => ?_
  apply wpS_seq
  apply wpS_region
  simp [wpOpsS, go_sem, recoverD, hu, Tryd.ntmps78, Exit.thenS]
  refine wpS_of_wp ?_
  show Code.wp _ _ _ { tmps := #[.pointer (some p), .nilIface, .nilIface, undef, undef, undef, undef], defers := [] } _
  go_wp2
  cases c₀
  simp at hu
  simp [bodyPostS, results, Tryd.results78, hu]

/-- What a function handed to 'caught' leaves: it returns, or panics with an error's number; the cell of the answer is as it was. -/
def Does (P : Program) (F : FuncId) (caps : Array Value) (w : World) (ok : World → Prop) (bad : Int → World → Prop) : Prop :=
  Calls P F caps w fun e w' => (e = .returned (.tuple #[]) ∧ ok w') ∨ ∃ c, e = vdies c ∧ bad c w'
set_option maxHeartbeats 1000000 in
set_option maxRecDepth 100000 in
theorem caught_calls (F : FuncId) (caps : Array Value) (w : World) (ok : World → Prop) (bad : Int → World → Prop)
    (hF : ∀ w : World, (callFunc F caps).run Tryd.prog w = .ok (.enter F caps) w)
    (h : Does Tryd.prog F caps (w.alloc (.cells #[.int .i64 0] 38)) (fun w' => w'.cell? ⟨w.heap.size, 0, none⟩ = some (.int .i64 0) ∧ w'.frozen? ⟨w.heap.size, 0, none⟩ = false ∧ ok w')
      (fun c w' => w'.cell? ⟨w.heap.size, 0, none⟩ = some (.int .i64 0) ∧ w'.frozen? ⟨w.heap.size, 0, none⟩ = false ∧ bad c w')) :
    Calls Tryd.prog 46 #[.func (.func F) #[] caps] w fun e w' =>
      (e = .returned (.int .i64 0) ∧ ∃ w1, ok w1 ∧ w' = w1.setCell ⟨w.heap.size, 0, none⟩ (.int .i64 0)) ∨ (∃ c, e = .returned (.int .i64 c) ∧ ∃ w1, bad c w1 ∧ w' = w1.setCell ⟨w.heap.size, 0, none⟩ (.int .i64 c)) := by
  have hmf := make_func Tryd.prog
  unfold Does vdies at h
  have HF := Lib.hid hF
  clear hF
  go_enter_defers Tryd.func46, Tryd.ntmps46
  go_wp2_with fail
  rw [HF.out, Oper.upon_enter]
  refine h.mono ?_
  rintro e w1 (⟨rfl, h0, z0, hk⟩ | ⟨c, rfl, h0, z0, hk⟩)
  · go_wp2
    refine leaves_cons (f := 78) (args := #[.pointer (some ⟨w.heap.size, 0, none⟩)]) (by simp) (by simp [go_sem]) ?_
    refine (caught_idle _ _).mono ?_
    rintro e u' w'' ⟨rfl, rfl, rfl⟩
    have hh := World.cell?_setCell_same (w := w1) (a := ⟨w.heap.size, 0, none⟩) (v := .int .i64 0) h0
    exact ⟨.int .i64 0, by simp [results, Tryd.results46, go_sem, hh], .inl ⟨rfl, _, hk, rfl⟩⟩
  · go_wp2
    refine leaves_cons (f := 78) (args := #[.pointer (some ⟨w.heap.size, 0, none⟩)]) (by simp) (by simp [go_sem]) ?_
    refine (caught_dies _ 0 c [] _ h0 z0).mono ?_
    rintro e u' w'' ⟨rfl, rfl, rfl⟩
    have hh := World.cell?_setCell_same (w := w1) (a := ⟨w.heap.size, 0, none⟩) (v := .int .i64 c) h0
    exact ⟨.int .i64 c, by simp [results, Tryd.results46, go_sem, hh], .inr ⟨c, rfl, _, hk, rfl⟩⟩
end Go.Proofs.YtbgfiflnfndckaaDoor
