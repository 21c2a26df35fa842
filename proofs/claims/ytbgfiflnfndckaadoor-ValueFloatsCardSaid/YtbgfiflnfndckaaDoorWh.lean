/- The walk of the statements' first question: the answers that the document gives. No conditions. -/
import Derived.Test.YtbgfiflnfndckaaDoorWg
set_option linter.unusedVariables false
set_option linter.unusedSimpArgs false
namespace Go.Proofs.YtbgfiflnfndckaaDoor
open Go.RowKit Go.Proofs.YtbgfiflnfndckaaDoorW.PrintWords

theorem read_one : Ws.read [8, 150, 1] = ([⟨1, 0, 150, []⟩], 0) := by decide +kernel
theorem read_bad : Ws.read [15] = ([], 10) := by decide +kernel
theorem write_one : Ws.write [⟨1, 0, 150, []⟩] = ([8, 150, 1], 0) := by decide +kernel
theorem num_300 : Ws.vi 300 = [172, 2] := by decide +kernel

end Go.Proofs.YtbgfiflnfndckaaDoor
