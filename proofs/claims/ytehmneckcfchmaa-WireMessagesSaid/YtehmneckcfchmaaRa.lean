/- Appends behind a guard; empty literals; the first of a list in memory. No conditions. -/
import Derived.Test.YtehmneckcfchmaaOp
set_option linter.unusedVariables false
namespace Go.Proofs.Ytehmneckcfchmaa
open Go.RowKit Go.Proofs.YtehmneckcfchmaaW.PrintWords

section
variable {P : Program} {ops : Array Oper} {rest : List Oper} {o : Oper} {a : Act} {Q : Exit → Act → World → Prop} {α : Type}
/-- append(v, ys...), guarded. -/
theorem append_rows_g (d : Kd α) {Rr : α → List Value → Prop} {w0 W : World} (base : Nat) (hw : Region.wanted o (yielded ops a.tmps) = true) (s x : Operand) (t e : TypeId) (z : Value) (bytes : Nat)
    (ho : o.op = .call { callee := .builtin .append, args := #[s, x], argTypes := #[t, t] })
    (ht : P.underlying t = some (.slice e)) (hinfo : (P.info? e).map (fun i => (i.zero, i.size, i.bytes)) = some (some z, d.sz, bytes)) (hz : z.cells.size = d.sz) (hs0 : 0 < d.sz) (hb0 : 0 < bytes)
    (v : Value) (xs ys : List α) (A : Option Addr) (m c : Nat) (ok okp : Nat → Prop) (hs : a.eval s = v) (hx : a.eval x = .slice A m c)
    (HO : d.R e W base ok v xs) (HR : ReadsRow Rr d.sz W A m ys) (hKM : ∀ x cs, Rr x cs → d.M W base okp x cs) (hokp : ∀ k, okp k → ok k ∧ some k ≠ v.ownBlock) (hfresh : ∀ k, W.heap.size ≤ k → ok k)
    (HB : Below base w0 W) (hbase : base ≤ W.heap.size) (hl : (xs.length + m) * bytes ≤ 140737488355328)
    (h : ∀ v1 w1, d.R e w1 base ok v1 (xs ++ ys) → Below base w0 w1 → W.grownBy w1 v.ownBlock → (v1.ownBlock = v.ownBlock ∨ ∃ b, v1.ownBlock = some b ∧ W.heap.size ≤ b) → wpList P ops Q rest (a.put o.dst v1) w1) :
    wpList P ops Q (o :: rest) a W :=
  wpList_step fun K hK => Kd.R_append_rows_step d base hw s x t e z bytes ho ht hinfo hz hs0 hb0 v xs ys A m c ok okp hs hx HO HR hKM hokp hfresh HB hbase hl (fun v1 w1 h1 h2 h3 h4 => hK _ _ (h v1 w1 h1 h2 h3 h4))
end
theorem kF_of (w : World) (base : Nat) (ok : Nat → Prop) (x : Ws.Fd) (cs : List Value) (h : kF.K w x cs) : kF.M w base ok x cs := by
  rw [kF_open h]
  exact kF_mkM _ _ _ _
/-- A literal of none. -/
theorem kF_none (w : World) (base : Nat) (hb : base ≤ w.heap.size) : kF.R 32 (w.alloc (.cells #[] 32)) base (fun _ => True) (.slice (some ⟨w.heap.size, 0, none⟩) 0 0) [] := by
  refine ⟨fun _ _ => trivial, [], ?_, ?_⟩
  · have h := World.ownsRow_lit (base := base) (e := 32) (size := 4) w #[] 0 hb (by unfold maxLen; omega) rfl
    exact h
  · exact Reps.none _ _
/-- The first of a list in memory. -/
theorem kF_take {w : World} {A : Option Addr} {xs : List Ws.Fd} (h : kF.C w A xs.length xs) (j : Nat) (hj : j ≤ xs.length) : kF.C w A j (xs.take j) := by
  refine ⟨by rw [List.length_take, Nat.min_eq_left hj], Nat.le_trans hj h.2.1, fun hp => ?_⟩
  obtain ⟨ad, he, hc⟩ := h.2.2 (by omega)
  refine ⟨ad, he, fun i p hi => hc i p ?_⟩
  rw [List.getElem?_take] at hi
  split at hi
  · exact hi
  · cases hi
end Go.Proofs.Ytehmneckcfchmaa
