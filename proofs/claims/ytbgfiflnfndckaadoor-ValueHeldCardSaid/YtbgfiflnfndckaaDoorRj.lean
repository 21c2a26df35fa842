/- Steps of a region that draws its order, behind a guard: a call, an operation that runs by itself, one that is passed over. Over any program; no conditions. -/
import Derived.Test.YtbgfiflnfndckaaDoorRg
set_option linter.unusedVariables false
namespace Go.Proofs.YtbgfiflnfndckaaDoor.Rg
open Go
section
variable {P : Program} {md : Region.Mode} {ops : Array Oper} {Q : Exit → Act → World → Prop} {I : List Nat} {S : World → Prop}
theorem step_call {j : Nat} {o : Oper} {f : FuncId} {args : Array Value} {fuel : Nat} {listed : Array Bool} {a : Act} {w : World} (ho : ops[j]? = some o) (hr : Region.ready md ops listed = [j])
    (hw : Region.wanted o (yielded ops a.tmps) = true) (hrun : (execOp a.eval o).run P w = .ok (.enter f args) w) {R : Ending → World → Prop} (hc : Calls P f args w R)
    (h : ∀ v w', R (.returned v) w' → S w' ∧ wpAnyW P md ops Q I S fuel (listed.setIfInBounds j true) (a.put o.dst v) w') (hp : ∀ c w', R (.panicked c) w' → Q (.panic c) a w') (hg : ∀ w', R .outgrown w' → False) :
    wpAnyW P md ops Q I S (fuel + 1) listed a w := by
  refine step_ ho hr ?_
  unfold wpList
  rw [if_pos hw]
  left
  unfold Oper.wp
  rw [hrun, Oper.upon_enter]
  refine hc.mono fun e w'' he => ?_
  cases e with
  | returned v =>
    obtain ⟨h1, h2⟩ := h v w'' he
    exact wpList_nil ⟨h1, h2⟩
  | panicked c => exact hp c w'' he
  | outgrown => exact (hg w'' he).elim
/-- A call that hands back a value known ahead. -/
theorem step_call1 {j : Nat} {o : Oper} {f : FuncId} {args : Array Value} {fuel : Nat} {listed : Array Bool} {a : Act} {w : World} (ho : ops[j]? = some o) (hr : Region.ready md ops listed = [j])
    (hw : Region.wanted o (yielded ops a.tmps) = true) (hrun : (execOp a.eval o).run P w = .ok (.enter f args) w) {v0 : Value} {R : World → Prop} (hc : Calls P f args w fun e w' => e = .returned v0 ∧ R w')
    (h : ∀ w', R w' → S w' ∧ wpAnyW P md ops Q I S fuel (listed.setIfInBounds j true) (a.put o.dst v0) w') :
    wpAnyW P md ops Q I S (fuel + 1) listed a w :=
  step_call ho hr hw hrun hc (fun v w' hR => by
    obtain rfl := Ending.returned.inj hR.1
    exact h w' hR.2) (fun c w' hR => by cases hR.1) (fun w' hR => by cases hR.1)
theorem step_val {j : Nat} {o : Oper} {v : Value} {fuel : Nat} {listed : Array Bool} {a : Act} {w w' : World} (ho : ops[j]? = some o) (hr : Region.ready md ops listed = [j])
    (hw : Region.wanted o (yielded ops a.tmps) = true) (hrun : (execOp a.eval o).run P w = .ok (.value v) w') (hS : S w') (h : wpAnyW P md ops Q I S fuel (listed.setIfInBounds j true) (a.put o.dst v) w') :
    wpAnyW P md ops Q I S (fuel + 1) listed a w := by
  refine step_ ho hr ?_
  unfold wpList
  rw [if_pos hw]
  left
  unfold Oper.wp
  rw [hrun]
  simp only [Oper.upon]
  refine wpList_nil ?_
  exact ⟨hS, h⟩
/-- The same, where all comes in the text's order. -/
theorem wl_call1 {o : Oper} {rest : List Oper} {f : FuncId} {args : Array Value} {a : Act} {w : World} (hw : Region.wanted o (yielded ops a.tmps) = true) (hrun : (execOp a.eval o).run P w = .ok (.enter f args) w) {v0 : Value} {R : World → Prop}
    (hc : Calls P f args w fun e w' => e = .returned v0 ∧ R w') (h : ∀ w', R w' → wpList P ops Q rest (a.put o.dst v0) w') : wpList P ops Q (o :: rest) a w := by
  unfold wpList
  rw [if_pos hw]
  left
  unfold Oper.wp
  rw [hrun, Oper.upon_enter]
  refine hc.mono fun e w'' he => ?_
  cases e with
  | returned v =>
    obtain rfl := Ending.returned.inj he.1
    exact h w'' he.2
  | panicked c => cases he.1
  | outgrown => cases he.1
theorem wl_val {o : Oper} {rest : List Oper} {v : Value} {a : Act} {w w' : World} (hw : Region.wanted o (yielded ops a.tmps) = true) (hrun : (execOp a.eval o).run P w = .ok (.value v) w') (h : wpList P ops Q rest (a.put o.dst v) w') : wpList P ops Q (o :: rest) a w := by
  unfold wpList
  rw [if_pos hw]
  left
  unfold Oper.wp
  rw [hrun]
  simp only [Oper.upon]
  exact h
end
end Go.Proofs.YtbgfiflnfndckaaDoor.Rg
