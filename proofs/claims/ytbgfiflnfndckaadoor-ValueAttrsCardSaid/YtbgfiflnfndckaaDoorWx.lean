/- The walk of ReadNum: a number and how many bytes it has, or why there is none. No conditions but that the text is no longer than a text may be. -/
import Derived.Test.YtbgfiflnfndckaaDoorWr
set_option linter.unusedVariables false
set_option linter.unusedSimpArgs false
namespace Go.Proofs.YtbgfiflnfndckaaDoor
open Go.RowKit Go.Proofs.YtbgfiflnfndckaaDoorW.PrintWords

/-- What ReadNum answers. -/
def ReadNumPost (w : World) (size : Nat) : Option (Nat × List UInt8) → Ending → World → Prop
  | none, e, w' => e = .returned (.tuple #[.int .u64 0, .int .i64 0, .int .i64 9]) ∧ Below w.heap.size w w'
  | some (n, r), e, w' => e = .returned (.tuple #[.int .u64 n, .int .i64 (size - r.length : Int), .int .i64 0]) ∧ Below w.heap.size w w'
end Go.Proofs.YtbgfiflnfndckaaDoor
