/- A row's fields and slices of fields, opened to plain ones. No conditions. -/
import Derived.Test.YtehmneckcfchmaaWk
import Derived.Test.YtehmneckcfchmaaWi
import Derived.Test.YtehmneckcfchmaaWj
import Derived.Deep.Slices
import Derived.Lib.SmallJoins
import Derived.SizedLaws
import Derived.WalkKit
import Derived.ProofKit
import Derived.OpenShut
import Derived.ShutString
import Derived.ChangeOld
import Derived.Below
set_option linter.unusedVariables false
namespace Go.Proofs.Ytehmneckcfchmaa
open Go.RowKit Go.Proofs.YtehmneckcfchmaaW.PrintWords Go.ChangeShapes Go.WideShapes Go.Deep Go.Joins

theorem wf_i64 {a : Int} (h : (Lit.int .i64 a).wf = true) : -9223372036854775808 ≤ a ∧ a ≤ 9223372036854775807 := by
  have e1 : IntKind.i64.min = -9223372036854775808 := by decide
  have e2 : IntKind.i64.max = 9223372036854775807 := by decide
  simpa [Lit.wf, e1, e2] using h
theorem wf_u64 {a : Int} (h : (Lit.int .u64 a).wf = true) : ∃ m : Nat, a = m ∧ m < 18446744073709551616 := by
  have e1 : IntKind.u64.min = 0 := by decide
  have e2 : IntKind.u64.max = 18446744073709551615 := by decide
  have h2 : 0 ≤ a ∧ a ≤ 18446744073709551615 := by simpa [Lit.wf, e1, e2] using h
  exact ⟨a.toNat, by omega, by omega⟩
theorem wf_u8 {a : Int} (h : (Lit.int .u8 a).wf = true) : ∃ m : Nat, a = m ∧ m < 256 := by
  have e1 : IntKind.u8.min = 0 := by decide
  have e2 : IntKind.u8.max = 255 := by decide
  have h2 : 0 ≤ a ∧ a ≤ 255 := by simpa [Lit.wf, e1, e2] using h
  exact ⟨a.toNat, by omega, by omega⟩

/-- What a field's kinds allow. -/
structure Fits (f : Ws.Fd) : Prop where
  lo : -9223372036854775808 ≤ f.k
  hi : f.k ≤ 9223372036854775807
  w : f.w < 256
  n : f.n < 2 ^ 64
  s : f.s.length ≤ 9223372036854775807

section
variable {H : Type} {enc : TypeId × Value → H} {w : World} {base : Nat} {spare : Nat → Bool} {held : Bool}
theorem open_fd {m : Nat} {cs : List Value} {y : DataW H × List MemPlace} (h : DataW.trod enc Try.prog w base spare held m 32 cs = some y) : ∃ f : Ws.Fd, cs = cellsF f ∧ Fits f := by
  obtain ⟨y0, y1, y2, y3, n, rfl, hl, h0, h1, h2, h3⟩ := trod_struct4 Try.underlying32 h
  have hl4 : cs.length = 4 := hl.trans (by kernel_rfl)
  match cs, hl4 with
  | [c0, c1, c2, c3], _ =>
  have k0 : Try.prog.cellsOf 3 = 1 := by kernel_rfl
  have k1 : Try.prog.cellsOf 29 = 1 := by kernel_rfl
  have k2 : Try.prog.cellsOf 30 = 1 := by kernel_rfl
  have k3 : Try.prog.cellsOf 9 = 1 := by kernel_rfl
  simp only [k0, k1, k2, k3] at h0 h1 h2 h3
  obtain ⟨a, e0, _, wa⟩ := DataW.trod_int Try.underlying3 h0
  obtain ⟨b, e1, _, wb⟩ := DataW.trod_int Try.underlying29 h1
  obtain ⟨c, e2, _, wc⟩ := DataW.trod_int Try.underlying30 h2
  obtain ⟨s, e3, _, ws⟩ := DataW.trod_string Try.underlying9 h3
  simp at e0 e1 e2 e3
  subst e0 e1 e2 e3
  obtain ⟨b, rfl, hb⟩ := wf_u8 wb
  obtain ⟨c, rfl, hc⟩ := wf_u64 wc
  obtain ⟨ha1, ha2⟩ := wf_i64 wa
  refine ⟨⟨a, b, c, s.data.toList⟩, by simp [cellsF], ⟨ha1, ha2, hb, hc, ?_⟩⟩
  have : s.data.toList.length = s.size := Array.length_toList
  unfold maxLen at ws
  show s.data.toList.length ≤ _
  omega
/-- A slice of fields. -/
theorem open_fields {ts : List TypeId} {ds : List (DataW H)} {j : Nat} {a : Option Addr} {len cap : Nat} {d : DataW H} {ps : List MemPlace}
    (hsz : (DataW.weightsEach Try.prog ts ds).all (· ≤ reachBytes) = true) (ht : ts[j]? = some 22) (hd : ds[j]? = some d)
    (h : DataW.Trod enc Try.prog w base spare held 22 (.slice a len cap) d ps) :
    ∃ xs : List Ws.Fd, xs.length = len ∧ kF.C w a len xs ∧ len ≤ cap ∧ len * 40 ≤ 140737488351232 ∧ ∀ f ∈ xs, Fits f := by
  obtain ⟨fuel, hf⟩ := h
  rcases open_slice Try.underlying22 hf with ⟨hcs, _⟩ | ⟨x, l, c, m, n, D, Pl, hcs, _, hl, hm, hmm, hx, hel⟩
  · simp [Value.cells] at hcs
    obtain ⟨rfl, rfl, rfl⟩ := hcs
    exact ⟨[], rfl, ⟨rfl, by decide, fun h => absurd h (by decide)⟩, Nat.le_refl _, by decide, by simp⟩
  · simp [Value.cells] at hcs
    obtain ⟨rfl, rfl, rfl⟩ := hcs
    have hlm : len ≤ m := by rw [hmm]; split <;> omega
    have hb : Try.prog.bytesOf 32 = 40 := by kernel_rfl
    have hc : Try.prog.cellsOf 32 = 4 := by kernel_rfl
    have z : len * 40 ≤ 140737488351232 := by
      obtain ⟨hx1, _⟩ := Prod.mk.inj hx
      subst hx1
      have z := sized_slice hsz ht hd Try.underlying22
      rw [hb] at z
      simp only [List.length_map, List.length_range] at z
      have : reachBytes = 140737488351232 := by decide
      omega
    have key : ∀ i, i < len → ∃ f : Ws.Fd, Fits f ∧ w.cells? base (x.add (i * 4)) 4 = some (cellsF f) := fun i hi => by
      obtain ⟨cs', h1, h2⟩ := hel i (by omega)
      obtain ⟨f, rfl, hf⟩ := open_fd h2
      rw [hc] at h1
      exact ⟨f, hf, h1⟩
    have : Inhabited Ws.Fd := ⟨⟨0, 0, 0, []⟩⟩
    obtain ⟨g, hg⟩ := choose_lt key
    refine ⟨(List.range len).map g, by simp, ⟨by simp, by omega, fun _ => ⟨x, rfl, fun j p hj => ?_⟩⟩, hl, z, ?_⟩
    · have hjl : j < len := by have := (List.getElem?_eq_some_iff.1 hj).1; simpa using this
      have hp : p = g j := by
        rw [List.getElem?_map, List.getElem?_range hjl] at hj
        exact (Option.some.inj hj).symm
      subst hp
      refine ⟨cellsF (g j), rfl, kF_mk _ _, fun i u hu => ?_⟩
      obtain ⟨_, _, hat⟩ := World.cells?_some (hg j hjl).2
      have hi : i < 4 := (List.getElem?_eq_some_iff.1 hu).1
      have := hat i hi
      rw [← hu, ← this, Go.Deep.add_add]
      rfl
    · intro f hf
      obtain ⟨i, hi, rfl⟩ := List.mem_map.1 hf
      exact (hg i (List.mem_range.1 hi)).1
/-- A field by value. -/
theorem open_fdv {r : Reach} {b0 : Nat} {v : Value} {d : DataW H} {p : List MemPlace} (hv : Value.okWide Try.prog w r b0 32 v) (h : DataW.Trod enc Try.prog w base spare held 32 v d p) :
    ∃ f : Ws.Fd, v = .agg #[.int .i64 f.k, .int .u8 f.w, .int .u64 f.n, .string ⟨f.s.toArray⟩] ∧ Fits f := by
  obtain ⟨cs, rfl, hsz⟩ := okWide_struct Try.underlying32 hv
  obtain ⟨fuel, hf⟩ := h
  obtain ⟨f, he, hF⟩ := open_fd hf
  refine ⟨f, ?_, hF⟩
  simp only [Value.cells] at he
  congr 1
  apply Array.ext'
  rw [he]
  rfl
end
end Go.Proofs.Ytehmneckcfchmaa
