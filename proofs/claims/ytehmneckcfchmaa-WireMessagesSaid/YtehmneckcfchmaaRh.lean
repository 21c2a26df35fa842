/- One step of a region that draws its order, run by itself. No conditions. -/
import Derived.Test.YtehmneckcfchmaaRg
import Derived.Test.YtehmneckcfchmaaRa
set_option linter.unusedVariables false
namespace Go.Proofs.Ytehmneckcfchmaa.Rg
open Go.RowKit

section
variable {P : Program} {md : Region.Mode} {ops : Array Oper} {Q : Exit → Act → World → Prop} {I : List Nat} {S : World → Prop}
theorem step_run {j : Nat} {o : Oper} {v : Value} {fuel : Nat} {listed : Array Bool} {a : Act} {w w' : World} (ho : ops[j]? = some o) (hr : Region.ready md ops listed = [j]) (hgd : o.guard = none)
    (hrun : (execOp a.eval o).run P w = .ok (.value v) w') (hS : S w') (h : wpAnyW P md ops Q I S fuel (listed.setIfInBounds j true) (a.put o.dst v) w') : wpAnyW P md ops Q I S (fuel + 1) listed a w := by
  refine step_ ho hr ?_
  refine wpList_plain hgd fun K hK => ?_
  unfold Oper.wp
  rw [hrun]
  exact hK _ _ (wpList_nil ⟨hS, h⟩)
theorem step_skip {j : Nat} {o : Oper} {fuel : Nat} {listed : Array Bool} {a : Act} {w w' : World} (ho : ops[j]? = some o) (hr : Region.ready md ops listed = [j]) (hgd : o.guard = none)
    (hrun : (execOp a.eval o).run P w = .ok .skip w') (hS : S w') (h : wpAnyW P md ops Q I S fuel (listed.setIfInBounds j true) (a.put o.dst undef) w') : wpAnyW P md ops Q I S (fuel + 1) listed a w := by
  refine step_ ho hr ?_
  refine wpList_plain hgd fun K hK => ?_
  unfold Oper.wp
  rw [hrun]
  exact hK _ _ (wpList_nil ⟨hS, h⟩)
end
end Go.Proofs.Ytehmneckcfchmaa.Rg
