/- The tables of utf8; ValidString; the walks of key. No conditions but that the tables lie as they are laid. -/
import Derived.Test.YtbgfiflnfndckaaDoorCk
import Derived.Test.YtbgfiflnfndckaaDoorVi
import Derived.Test.YtbgfiflnfndckaaDoorShv
set_option linter.unusedVariables false
set_option linter.unusedSimpArgs false
namespace Go.Proofs.YtbgfiflnfndckaaDoor
open Go.RowKit Go.Proofs.YtbgfiflnfndckaaDoorW.PrintWords

/-- The two tables. -/
def Tabs (w : World) : Prop := Lib.Utf8Tabs (Tryd.lays196_ren.g 3) (Tryd.lays196_ren.g 4) w
theorem Tabs.below {w w' : World} (h : Tabs w) (hb : Below w.heap.size w w') : Tabs w' := Utf8Tabs_below h hb
theorem valid_calls (s : ByteArray) (w : World) (hs : s.size ≤ 9223372036854775807) (hT : Tabs w) :
    Calls Tryd.prog 80 #[.string s] w fun e w' => e = .returned (.bool (Lib.validD s.data.toList)) ∧ Below w.heap.size w w' := Tryd.utf8_ValidString s w hs hT

/-- How a question ends. -/
def ends (c : Nat) : Ending := if c = 0 then .returned (.tuple #[]) else vdies c
theorem must_calls (b : Bool) (c : Nat) (hc : c ≠ 0) (w : World) : Calls Tryd.prog 56 #[.bool b, .int .i64 c] w fun e w' => e = ends (if b = true then 0 else c) ∧ w' = w := by
  cases b
  · have h : ends (if false = true then 0 else c) = vdies c := by unfold ends; simp [hc]
    rw [h]
    exact must_dies c w
  · exact must_ok c w

set_option maxHeartbeats 1000000 in
set_option maxRecDepth 100000 in
theorem key_calls (s : ByteArray) (w : World) (hs : s.size ≤ 140737488351232) (hT : Tabs w) :
    Calls Tryd.prog 86 #[.string s] w fun e w' => e = ends (Vs.keyE s) ∧ Below w.heap.size w w' := by
  have HT := Lib.hid hT
  clear hT
  unfold Vs.keyE
  by_cases h : 4096 < s.size
  · have h1 : ¬ ((s.size : Int) ≤ 4096) := by omega
    have he : ends (if 4096 < s.size then 4 else if Lib.validD s.data.toList = true then 0 else 12) = vdies 4 := by rw [if_pos h]; rfl
    rw [he]
    unfold vdies
    clear he
    go_enter Tryd.func86, Tryd.ntmps86
    go_wp2_with fail
    refine (must_dies 4 _).mono ?_
    rintro e w1 ⟨rfl, rfl⟩
    exact ⟨rfl, rfl, Below.refl _ _⟩
  · have h1 : (s.size : Int) ≤ 4096 := by omega
    rw [if_neg h]
    have hv := fun w => valid_calls s w (by omega)
    have HV := Lib.hid hv
    clear hv
    cases hd : Lib.validD s.data.toList
    · rw [hd] at HV
      have he : ends (if false = true then 0 else 12) = vdies 12 := rfl
      rw [he]
      unfold vdies
      clear he
      go_enter Tryd.func86, Tryd.ntmps86
      go_wp2_with fail
      refine (must_ok 4 _).mono ?_
      rintro e w1 ⟨rfl, rfl⟩
      go_wp2_with fail
      refine (HV.out _ HT.out).mono ?_
      rintro e w2 ⟨rfl, hb⟩
      go_wp2_with fail
      refine (must_dies 12 _).mono ?_
      rintro e w3 ⟨rfl, rfl⟩
      exact ⟨rfl, rfl, hb⟩
    · rw [hd] at HV
      have he : ends (if true = true then 0 else 12) = .returned (.tuple #[]) := rfl
      rw [he]
      clear he
      go_enter Tryd.func86, Tryd.ntmps86
      go_wp2_with fail
      refine (must_ok 4 _).mono ?_
      rintro e w1 ⟨rfl, rfl⟩
      go_wp2_with fail
      refine (HV.out _ HT.out).mono ?_
      rintro e w2 ⟨rfl, hb⟩
      go_wp2_with fail
      refine (must_ok 12 _).mono ?_
      rintro e w3 ⟨rfl, rfl⟩
      go_wp2
      go_end0
      exact ⟨rfl, hb⟩
end Go.Proofs.YtbgfiflnfndckaaDoor
