/- How a field lies in memory; slices of fields. No conditions. -/
import Derived.Test.YtbgfiflnfndckaaDoorProg
import Derived.Test.YtbgfiflnfndckaaDoorWs
import Derived.Test.YtbgfiflnfndckaaDoorWWords
import Derived.KernelRfl
set_option linter.unusedVariables false
namespace Go.Proofs.YtbgfiflnfndckaaDoor
open Go.RowKit Go.Proofs.YtbgfiflnfndckaaDoorW.PrintWords

/-- A field in memory: four cells. -/
def kF : Kd Ws.Fd := Kd.iso (Kd.pair (Kd.int .i64) (Kd.pair (Kd.int .u8) (Kd.pair (Kd.int .u64) Kd.string))) (fun f : Ws.Fd => (f.k, (f.w : Int), (f.n : Int), (⟨f.s.toArray⟩ : ByteArray)))
def cellsF (x : Ws.Fd) : List Value := [.int .i64 x.k, .int .u8 x.w, .int .u64 x.n, .string ⟨x.s.toArray⟩]
theorem kF_open {w : World} {x : Ws.Fd} {cs : List Value} (h : kF.K w x cs) : cs = cellsF x := by
  obtain ⟨_, _, rfl, rfl, ⟨_, _, rfl, rfl, ⟨_, _, rfl, rfl, rfl⟩⟩⟩ := h
  exact rfl
theorem kF_mkM (w : World) (base : Nat) (ok : Nat → Prop) (x : Ws.Fd) : kF.M w base ok x (cellsF x) := ⟨[_], [_, _, _], rfl, rfl, ⟨[_], [_, _], rfl, rfl, ⟨[_], [_], rfl, rfl, rfl⟩⟩⟩
theorem infoF : (Tryd.prog.info? 99).map (fun i => (i.zero, i.size, i.bytes)) = some (some (.agg #[.int .i64 0, .int .u8 0, .int .u64 0, .string ⟨#[]⟩]), 4, 40) := by kernel_rfl
/-- The cells of element j. -/
theorem atF {w : World} {A : Option Addr} {n : Nat} {xs : List Ws.Fd} (h : kF.C w A n xs) (j : Nat) (hj : j < n) (x : Ws.Fd) (hx : xs[j]? = some x) :
    ∃ ad, A = some ad ∧ w.cell? (ad.add (j * 4)) = some (.int .i64 x.k) ∧ w.cell? (ad.add (j * 4 + 1)) = some (.int .u8 x.w) ∧ w.cell? (ad.add (j * 4 + 2)) = some (.int .u64 x.n) ∧ w.cell? (ad.add (j * 4 + 3)) = some (.string ⟨x.s.toArray⟩) := by
  obtain ⟨ad, c, e, _, hK, hc⟩ := Kd.C_get h x (j : Int) (by omega) (by omega)
  have hxx : xs.getD ((j : Int)).toNat x = x := by simp [List.getD, hx]
  rw [hxx] at hK
  obtain rfl := kF_open hK
  exact ⟨ad, e, hc 0 _ rfl, hc 1 _ rfl, hc 2 _ rfl, hc 3 _ rfl⟩
/-- The cells of a row's element. -/
theorem kF_rowcell {w : World} {base : Nat} {ok : Nat → Prop} {v : Value} {xs : List Ws.Fd} (h : kF.R 99 w base ok v xs) (j : Nat) (x : Ws.Fd) (hx : xs[j]? = some x) :
    ∃ g c, v = .slice (some ⟨g, 0, none⟩) xs.length c ∧ w.cell? ⟨g, j * 4, none⟩ = some (.int .i64 x.k) ∧ w.cell? ⟨g, j * 4 + 1, none⟩ = some (.int .u8 x.w) ∧ w.cell? ⟨g, j * 4 + 2, none⟩ = some (.int .u64 x.n) ∧ w.cell? ⟨g, j * 4 + 3, none⟩ = some (.string ⟨x.s.toArray⟩) := by
  have hj : j < xs.length := (List.getElem?_eq_some_iff.1 hx).1
  obtain ⟨g, c, rfl, _⟩ := Kd.R_form h (by omega)
  obtain ⟨_, _, hC⟩ := Kd.R_reads' h
  obtain ⟨ad, he, h0, h1, h2, h3⟩ := atF hC j hj x hx
  have : ad = ⟨g, 0, none⟩ := (Option.some.inj he).symm
  subst this
  rw [add_plain] at h0 h1 h2 h3
  exact ⟨g, c, rfl, h0, h1, h2, h3⟩
end Go.Proofs.YtbgfiflnfndckaaDoor
