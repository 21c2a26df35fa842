/- The reader's field by the plain law; and the walks of the deferred functions of Read and ReadNum. No conditions beside. -/
import Derived.Test.YtbgfiflnfndckaaDoorWf
import Derived.Defers
import Derived.Recover
import Derived.Laws.Pointers
set_option linter.unusedVariables false
set_option linter.unusedSimpArgs false
namespace Go.Proofs.YtbgfiflnfndckaaDoor
open Go.RowKit Go.Proofs.YtbgfiflnfndckaaDoorW.PrintWords

theorem field_ok {b : Nat} {s : ByteArray} {w : World} (h : Cur w b s) (hs : s.size ≤ maxLen) {f : Ws.Fd} {r : List UInt8} (hf : Ws.field s.data.toList = .ok (f, r)) :
    Calls Tryd.prog 111 #[.pointer (some ⟨b, 0, none⟩)] w fun e w' => e = .returned (fval f) ∧ CurGoes b w r w' := by
  unfold Ws.field at hf
  split at hf
  · cases hf
  rename_i t r1 h1
  split at hf
  · cases hf
  rename_i h2
  have h3 : 1 ≤ t / 8 := by omega
  have h4 : t / 8 ≤ 536870911 := by omega
  split at hf
  · split at hf
    · cases hf
    rename_i h0 _ n r2 h5
    simp only [Except.ok.injEq, Prod.mk.injEq] at hf
    obtain ⟨rfl, rfl⟩ := hf
    exact field_ok0 h hs h1 h3 h4 h0 h5
  split at hf
  · split at hf
    · cases hf
    rename_i h0 h5
    simp only [Except.ok.injEq, Prod.mk.injEq] at hf
    obtain ⟨rfl, rfl⟩ := hf
    exact field_ok1 h hs h1 h3 h4 h0 (by omega)
  split at hf
  · split at hf
    · cases hf
    rename_i h0 h5
    simp only [Except.ok.injEq, Prod.mk.injEq] at hf
    obtain ⟨rfl, rfl⟩ := hf
    exact field_ok5 h hs h1 h3 h4 h0 (by omega)
  split at hf
  · split at hf
    · cases hf
    rename_i h0 _ n r2 h5
    split at hf
    · cases hf
    rename_i h6
    simp only [Except.ok.injEq, Prod.mk.injEq] at hf
    obtain ⟨rfl, rfl⟩ := hf
    exact field_ok2 h hs h1 h3 h4 h0 h5 (by omega)
  · cases hf

theorem field_dies {b : Nat} {s : ByteArray} {w : World} (h : Cur w b s) (hs : s.size ≤ maxLen) {c : Nat} (hf : Ws.field s.data.toList = .error c) :
    Calls Tryd.prog 111 #[.pointer (some ⟨b, 0, none⟩)] w fun e w' => e = .panicked [{ v := .iface 38 (.int .i64 c), recovered := false }] ∧ w.grownBy w' (some b) := by
  unfold Ws.field at hf
  split at hf
  · cases hf
    rename_i h1
    exact field_d9 h hs h1
  rename_i t r1 h1
  split at hf
  · cases hf
    rename_i h2
    exact field_drange h hs h1 h2
  rename_i h2
  have h3 : 1 ≤ t / 8 := by omega
  have h4 : t / 8 ≤ 536870911 := by omega
  split at hf
  · rename_i h0
    split at hf
    · cases hf
      rename_i h5
      exact field_d0 h hs h1 h3 h4 h0 h5
    · cases hf
  rename_i h00
  split at hf
  · rename_i h0
    split at hf
    · cases hf
      rename_i h5
      exact field_d1 h hs h1 h3 h4 h0 h5
    · cases hf
  rename_i h01
  split at hf
  · rename_i h0
    split at hf
    · cases hf
      rename_i h5
      exact field_d5 h hs h1 h3 h4 h0 h5
    · cases hf
  rename_i h05
  split at hf
  · rename_i h0
    split at hf
    · cases hf
      rename_i h5
      exact field_d2 h hs h1 h3 h4 h0 h5
    · rename_i n r2 h5
      split at hf
      · cases hf
        rename_i h6
        exact field_d2s h hs h1 h3 h4 h0 h5 h6
      · cases hf
  rename_i h02
  cases hf
  exact field_dwire h hs h1 h3 h4 h00 h01 h05 h02

theorem Ws.field_code {l : List UInt8} {c : Nat} (hf : Ws.field l = .error c) : c = 9 ∨ c = 10 := by
  unfold Ws.field at hf
  repeat' (split at hf)
  all_goals first | (cases hf; done) | (cases hf; first | exact .inl rfl | exact .inr rfl)

theorem assert_errno (c : Int) (w : World) : (Instr.typeAssert (.iface 38 (.int .i64 c)) 20 38 false).run Tryd.prog w = .ok (.int .i64 c) w := by kernel_rfl

/-- Read's deferred function that recovers, called of a panic with an error's number. -/
theorem catch_dies (p : Addr) (x : Int) (c : Nat) (older : List PanicEntry) (w : World) (hc : w.cell? p = some (.int .i64 x)) (hz : w.frozen? p = false) :
    CallsD Tryd.prog 110 #[.pointer (some p)] (.panicking ({ v := .iface 38 (.int .i64 c), recovered := false } :: older)) w fun e u' w' =>
      e = .returned (.tuple #[]) ∧ u' = .panicking ({ v := .iface 38 (.int .i64 c), recovered := true } :: older) ∧ w' = w.setCell p (.int .i64 c) := by
  have hta := assert_errno c
  refine callsD_of_wpS Tryd.func110 rfl fun c₀ cs hu => ?_
  apply wpS_seq
  apply wpS_region
  simp [wpOpsS, go_sem, recoverD, hu, Tryd.ntmps110, Exit.thenS]
  refine wpS_of_wp ?_
  show Code.wp _ _ _ { tmps := #[.pointer (some p), .iface 38 (.int .i64 c), .iface 38 (.int .i64 c), undef, undef, undef, undef], defers := [] } _
  go_wp2
  simp [bodyPostS, results, Tryd.results110]

theorem catch_idle (p : Addr) (w : World) :
    CallsD Tryd.prog 110 #[.pointer (some p)] .returning w fun e u' w' => e = .returned (.tuple #[]) ∧ u' = .returning ∧ w' = w := by
  refine callsD_of_wpS Tryd.func110 rfl fun c₀ cs hu => ?_
  apply wpS_seq
  apply wpS_region
  simp [wpOpsS, go_sem, recoverD, hu, Tryd.ntmps110, Exit.thenS]
  refine wpS_of_wp ?_
  show Code.wp _ _ _ { tmps := #[.pointer (some p), .nilIface, .nilIface, undef, undef, undef, undef], defers := [] } _
  go_wp2
  cases c₀
  simp_all [bodyPostS, results, Tryd.results110]

end Go.Proofs.YtbgfiflnfndckaaDoor
