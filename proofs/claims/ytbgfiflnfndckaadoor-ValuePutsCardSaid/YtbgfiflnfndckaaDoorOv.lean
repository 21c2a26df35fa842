/- A row's values, opened. No conditions. -/
import Derived.Test.YtbgfiflnfndckaaDoorVe
import Derived.Deep.Slices
import Derived.Lib.SmallJoins
import Derived.SizedLaws
import Derived.WalkKit
import Derived.ProofKit
import Derived.OpenShut
import Derived.ShutString
import Derived.ChangeOld
import Derived.Below
set_option linter.unusedVariables false
set_option linter.unusedSimpArgs false
namespace Go.Proofs.YtbgfiflnfndckaaDoor
open Go.RowKit Go.Proofs.YtbgfiflnfndckaaDoorW.PrintWords Go.ChangeShapes Go.WideShapes Go.Deep Go.Joins

/-- What a value's kinds allow. -/
structure FitsS (x : Vs.Sc) : Prop where
  k : x.k < 256
  s : x.s.size ≤ 9223372036854775807
  lo : -9223372036854775808 ≤ x.n
  hi : x.n ≤ 9223372036854775807
  f : x.f < 2 ^ 64

theorem wf_i64 {a : Int} (h : (Lit.int .i64 a).wf = true) : -9223372036854775808 ≤ a ∧ a ≤ 9223372036854775807 := by
  have e1 : IntKind.i64.min = -9223372036854775808 := by decide
  have e2 : IntKind.i64.max = 9223372036854775807 := by decide
  simpa [Lit.wf, e1, e2] using h
theorem wf_u64 {a : Int} (h : (Lit.int .u64 a).wf = true) : ∃ m : Nat, a = m ∧ m < 18446744073709551616 := by
  have e1 : IntKind.u64.min = 0 := by decide
  have e2 : IntKind.u64.max = 18446744073709551615 := by decide
  have h2 : 0 ≤ a ∧ a ≤ 18446744073709551615 := by simpa [Lit.wf, e1, e2] using h
  exact ⟨a.toNat, by omega, by omega⟩
theorem wf_u8 {a : Int} (h : (Lit.int .u8 a).wf = true) : ∃ m : Nat, a = m ∧ m < 256 := by
  have e1 : IntKind.u8.min = 0 := by decide
  have e2 : IntKind.u8.max = 255 := by decide
  have h2 : 0 ≤ a ∧ a ≤ 255 := by simpa [Lit.wf, e1, e2] using h
  exact ⟨a.toNat, by omega, by omega⟩

section
variable {H : Type} {enc : TypeId × Value → H} {w : World} {base : Nat} {spare : Nat → Bool} {held : Bool}
theorem slice_form {t e : TypeId} (ht : Tryd.prog.underlying t = some (.slice e)) {m : Nat} {cs : List Value} {y : DataW H × List MemPlace} (h : DataW.trod enc Tryd.prog w base spare held m t cs = some y) : ∃ A n c, cs = [.slice A n c] := by
  rcases open_slice ht h with ⟨hcs, _⟩ | ⟨x, l, c, m, n, D, Pl, hcs, _⟩
  · exact ⟨none, 0, 0, hcs⟩
  · exact ⟨some x, l, c, hcs⟩
theorem trod_float {t : TypeId} {k : FloatKind} {m : Nat} {cs : List Value} {y : DataW H × List MemPlace} (ht : Tryd.prog.underlying t = some (.float k)) (h : DataW.trod enc Tryd.prog w base spare held m t cs = some y) :
    ∃ b, cs = [.float k b] ∧ y = (.lit (.float k b), []) ∧ (Lit.float k b).wf = true := by
  cases m with
  | zero => simp [DataW.trod] at h
  | succ n =>
    unfold DataW.trod at h
    rw [ht] at h
    split at h <;> simp_all
set_option maxHeartbeats 1000000 in
set_option maxRecDepth 100000 in
theorem open_sc {m : Nat} {cs : List Value} {y : DataW H × List MemPlace} (h : DataW.trod enc Tryd.prog w base spare held m 27 cs = some y) :
    ∃ (x : Vs.Sc) (A : Option Addr) (la ca : Nat) (B : Option Addr) (lb cb n : Nat) (y5 y6 : DataW H × List MemPlace), cs = (cellsV x (.slice A la ca) (.slice B lb cb)).toList ∧ FitsS x ∧ m = n + 1 ∧
      DataW.trod enc Tryd.prog w base spare held n 24 [.slice A la ca] = some y5 ∧ DataW.trod enc Tryd.prog w base spare held n 25 [.slice B lb cb] = some y6 ∧
      y = (.agg [.lit (.int .u8 x.k), .lit (.string x.s.data.toList), .lit (.bool x.b), .lit (.int .i64 x.n), .lit (.float .f64 x.f), y5.1, y6.1], y5.2 ++ y6.2) := by
  obtain ⟨xs, n, rfl, rfl, hl, hlen, hf⟩ := DataW.trod_struct Tryd.underlying27 h
  have hl7 : cs.length = 7 := hl.trans (by kernel_rfl)
  match cs, hl7 with
  | [c0, c1, c2, c3, c4, c5, c6], _ =>
  match xs, hlen with
  | [y0, y1, y2, y3, y4, y5, y6], _ =>
  have k0 : Tryd.prog.cellsOf 22 = 1 := by kernel_rfl
  have k1 : Tryd.prog.cellsOf 9 = 1 := by kernel_rfl
  have k2 : Tryd.prog.cellsOf 4 = 1 := by kernel_rfl
  have k3 : Tryd.prog.cellsOf 2 = 1 := by kernel_rfl
  have k4 : Tryd.prog.cellsOf 23 = 1 := by kernel_rfl
  have k5 : Tryd.prog.cellsOf 24 = 1 := by kernel_rfl
  have k6 : Tryd.prog.cellsOf 25 = 1 := by kernel_rfl
  have h0 : DataW.trod enc Tryd.prog w base spare held n 22 [c0] = some y0 := by
    have h := hf 0 _ rfl
    change DataW.trod enc Tryd.prog w base spare held n 22 ((([c0, c1, c2, c3, c4, c5, c6] : List Value).drop 0).take (Tryd.prog.cellsOf 22)) = some y0 at h
    rw [k0] at h
    exact h
  have h1 : DataW.trod enc Tryd.prog w base spare held n 9 [c1] = some y1 := by
    have h := hf 1 _ rfl
    change DataW.trod enc Tryd.prog w base spare held n 9 ((([c0, c1, c2, c3, c4, c5, c6] : List Value).drop 1).take (Tryd.prog.cellsOf 9)) = some y1 at h
    rw [k1] at h
    exact h
  have h2 : DataW.trod enc Tryd.prog w base spare held n 4 [c2] = some y2 := by
    have h := hf 2 _ rfl
    change DataW.trod enc Tryd.prog w base spare held n 4 ((([c0, c1, c2, c3, c4, c5, c6] : List Value).drop 2).take (Tryd.prog.cellsOf 4)) = some y2 at h
    rw [k2] at h
    exact h
  have h3 : DataW.trod enc Tryd.prog w base spare held n 2 [c3] = some y3 := by
    have h := hf 3 _ rfl
    change DataW.trod enc Tryd.prog w base spare held n 2 ((([c0, c1, c2, c3, c4, c5, c6] : List Value).drop 3).take (Tryd.prog.cellsOf 2)) = some y3 at h
    rw [k3] at h
    exact h
  have h4 : DataW.trod enc Tryd.prog w base spare held n 23 [c4] = some y4 := by
    have h := hf 4 _ rfl
    change DataW.trod enc Tryd.prog w base spare held n 23 ((([c0, c1, c2, c3, c4, c5, c6] : List Value).drop 4).take (Tryd.prog.cellsOf 23)) = some y4 at h
    rw [k4] at h
    exact h
  have h5 : DataW.trod enc Tryd.prog w base spare held n 24 [c5] = some y5 := by
    have h := hf 5 _ rfl
    change DataW.trod enc Tryd.prog w base spare held n 24 ((([c0, c1, c2, c3, c4, c5, c6] : List Value).drop 5).take (Tryd.prog.cellsOf 24)) = some y5 at h
    rw [k5] at h
    exact h
  have h6 : DataW.trod enc Tryd.prog w base spare held n 25 [c6] = some y6 := by
    have h := hf 6 _ rfl
    change DataW.trod enc Tryd.prog w base spare held n 25 ((([c0, c1, c2, c3, c4, c5, c6] : List Value).drop 6).take (Tryd.prog.cellsOf 25)) = some y6 at h
    rw [k6] at h
    exact h
  clear hf
  obtain ⟨a, e0, z0, wa⟩ := DataW.trod_int Tryd.underlying22 h0
  obtain ⟨s, e1, z1, ws⟩ := DataW.trod_string Tryd.underlying9 h1
  obtain ⟨b, e2, z2⟩ := DataW.trod_bool Tryd.underlying4 h2
  obtain ⟨c, e3, z3, wc⟩ := DataW.trod_int Tryd.underlying2 h3
  obtain ⟨f, e4, z4, wf⟩ := trod_float Tryd.underlying23 h4
  obtain ⟨A, la, ca, e5⟩ := slice_form Tryd.underlying24 h5
  obtain ⟨B, lb, cb, e6⟩ := slice_form Tryd.underlying25 h6
  simp only [List.cons.injEq, and_true] at e0 e1 e2 e3 e4 e5 e6
  subst e0 e1 e2 e3 e4 e5 e6 z0 z1 z2 z3 z4
  obtain ⟨a, rfl, ha⟩ := wf_u8 wa
  obtain ⟨hc1, hc2⟩ := wf_i64 wc
  refine ⟨⟨a, s, b, c, f⟩, A, la, ca, B, lb, cb, n, y5, y6, rfl, ⟨ha, ?_, hc1, hc2, ?_⟩, rfl, h5, h6, by simp⟩
  · unfold maxLen at ws; show s.size ≤ _; omega
  · simpa [Lit.wf] using wf
set_option maxRecDepth 100000 in
/-- A value by value. -/
theorem open_scv {r : Reach} {b0 : Nat} {v : Value} {d : DataW H} {p : List MemPlace} (hv : Value.okWide Tryd.prog w r b0 27 v) (h : DataW.Trod enc Tryd.prog w base spare held 27 v d p) :
    ∃ (x : Vs.Sc) (A : Option Addr) (la ca : Nat) (B : Option Addr) (lb cb : Nat), v = .agg (cellsV x (.slice A la ca) (.slice B lb cb)) ∧ FitsS x := by
  obtain ⟨cs, rfl, hsz⟩ := okWide_struct Tryd.underlying27 hv
  obtain ⟨fuel, hf⟩ := h
  obtain ⟨x, A, la, ca, B, lb, cb, n, y5, y6, he, hF, _⟩ := open_sc hf
  refine ⟨x, A, la, ca, B, lb, cb, ?_, hF⟩
  simp only [Value.cells] at he
  congr 1
  apply Array.ext'
  exact he
end
end Go.Proofs.YtbgfiflnfndckaaDoor
