/-
  NARROWER THAN 'FOR EVERY INPUT', by the rows' own cells (each row's printed sentence says how): ValueOrder: loops, laid · ValueHashes: laid · ValueFloats: laid · ValueHeld: loops, laid · ValueOwn: loops, laid · ValueAttrs: loops, laid · ValuePuts: loops, laid · ValueNested: loops, laid · ValueBack: loops, laid.
  DERIVED. THE GIVEN ROWS OF THIS SEAT. 9 by the template 'for every input the law returns true; each argument reads behind the call as it read before'; 0 by the template 'total and deterministic' (their statements: YtbgfiflnfndckaaDoorTotals.lean).
  GIVEN WITH THE SEED: the statements are not yours to turn. If you find one false, say at which input.
  Laid BY PROGRAM, IN A SANDBOX (cutbox-rows.mjs): the forced cells as the released guide's own fill.sh prints them over the translation e9122bf39a3c12d5… (all of the seat's roots in one cut). By AI agents, Wed Nov 11 2026. No macro, syntax, notation, axiom, sorry.
-/
import Derived.Test.YtbgfiflnfndckaaDoorChecked
import GoSem.PinnedTables
import GoSem.Claim
import GoSem.ClaimJoined
import GoSem.ClaimMapViews
import Derived.JoinedTies
import Derived.KernelRfl
namespace Go.Proofs.YtbgfiflnfndckaaDoor
/- THE CELL 'sum', in the pinned program and in every row, IS THE sha256 OF THE DUMP (.gsa) THAT YtbgfiflnfndckaaDoorProg.lean LOADS. Nothing in Lean hashes anything: it is a label: what it is worth is what the hold of that sum in a sandbox is worth. -/
noncomputable def Tryd.pinned : Pinned := { name := "ytbgfiflnfndckaadoor", sum := "e9122bf39a3c12d558e6f73df30c825fab5d55af08b6b752a7d9af85a09d7a14", checked := Tryd.checked }
namespace Rows
def none {H : Type} : Left H := { results := [], args := [] }

/- WHAT THE LISTED PACKAGE-LEVEL VARIABLES READ AS WHEN THE CALL BEGINS. Each datum BY PROGRAM (the guide's laid-datum.mjs) off the statement by which the dump's own 'gosem.cut.vars' lays the variable. In a bare row this is a premise. The card (YtbgfiflnfndckaaDoorCards.lean) ties it to the program's text. -/
def laid_unicode_utf8_acceptRanges {H : Type} : DataW H := .agg [.agg [.lit (.int .u8 128), .lit (.int .u8 191)], .agg [.lit (.int .u8 160), .lit (.int .u8 191)], .agg [.lit (.int .u8 128), .lit (.int .u8 159)], .agg [.lit (.int .u8 144), .lit (.int .u8 191)], .agg [.lit (.int .u8 128), .lit (.int .u8 143)], .agg [.lit (.int .u8 0), .lit (.int .u8 0)], .agg [.lit (.int .u8 0), .lit (.int .u8 0)], .agg [.lit (.int .u8 0), .lit (.int .u8 0)], .agg [.lit (.int .u8 0), .lit (.int .u8 0)], .agg [.lit (.int .u8 0), .lit (.int .u8 0)], .agg [.lit (.int .u8 0), .lit (.int .u8 0)], .agg [.lit (.int .u8 0), .lit (.int .u8 0)], .agg [.lit (.int .u8 0), .lit (.int .u8 0)], .agg [.lit (.int .u8 0), .lit (.int .u8 0)], .agg [.lit (.int .u8 0), .lit (.int .u8 0)], .agg [.lit (.int .u8 0), .lit (.int .u8 0)]]
/-- One of Go's own tables, pinned by name: the form's constant. -/
def laid_unicode_utf8_first : DataW Unit := Go.Pinned.utf8First

/-- 'penstocklaw02.ValueOrder': WHATEVER THE INPUT: true; the input reads as it did. -/
def valueOrderSpec : ChangeSpec := { name := "valueOrder", fn := fun _ => fun
  | [d1, d2, d3] => { results := [.lit (.bool true)], args := [d1, d2, d3] }
  | _ => none }
def valueOrderRow : OpenClaim := { program := "ytbgfiflnfndckaadoor", sum := "e9122bf39a3c12d558e6f73df30c825fab5d55af08b6b752a7d9af85a09d7a14", func := "penstock/penstocklaw02.ValueOrder", spec := "valueOrder", inPlace := ["math.archFloor", "math.Float64bits", "math.Float64frombits", "math.archTrunc"], unfollowed := true, recurses := true, named := ["unicode/utf8.first", "unicode/utf8.acceptRanges"], loops := true, plainKeys := false, apart := false, laid := [("unicode/utf8.acceptRanges", laid_unicode_utf8_acceptRanges), ("unicode/utf8.first", laid_unicode_utf8_first)] }
def ValueOrderSaid : Prop := valueOrderRow.holds Tryd.pinned (OpenSpec.ofChange valueOrderSpec)

/-- ITS FALSE NEIGHBOUR: 'it returns false'. Refute it at one input. -/
def valueOrderWrong : ChangeSpec := { name := "valueOrder", fn := fun _ => fun
  | [d1, d2, d3] => { results := [.lit (.bool false)], args := [d1, d2, d3] }
  | _ => none }
def ValueOrderWrongFalsely : Prop := valueOrderRow.holds Tryd.pinned (OpenSpec.ofChange valueOrderWrong)

/-- 'penstocklaw02.ValueHashes': WHATEVER THE INPUT: true; the input reads as it did. -/
def valueHashesSpec : ChangeSpec := { name := "valueHashes", fn := fun _ => fun
  | [d1, d2] => { results := [.lit (.bool true)], args := [d1, d2] }
  | _ => none }
def valueHashesRow : OpenClaim := { program := "ytbgfiflnfndckaadoor", sum := "e9122bf39a3c12d558e6f73df30c825fab5d55af08b6b752a7d9af85a09d7a14", func := "penstock/penstocklaw02.ValueHashes", spec := "valueHashes", inPlace := ["math.archFloor", "math.Float64bits", "math.Float64frombits", "math.archTrunc"], unfollowed := true, recurses := true, named := ["unicode/utf8.first", "unicode/utf8.acceptRanges"], plainKeys := false, apart := false, laid := [("unicode/utf8.acceptRanges", laid_unicode_utf8_acceptRanges), ("unicode/utf8.first", laid_unicode_utf8_first)] }
def ValueHashesSaid : Prop := valueHashesRow.holds Tryd.pinned (OpenSpec.ofChange valueHashesSpec)

/-- ITS FALSE NEIGHBOUR: 'it returns false'. Refute it at one input. -/
def valueHashesWrong : ChangeSpec := { name := "valueHashes", fn := fun _ => fun
  | [d1, d2] => { results := [.lit (.bool false)], args := [d1, d2] }
  | _ => none }
def ValueHashesWrongFalsely : Prop := valueHashesRow.holds Tryd.pinned (OpenSpec.ofChange valueHashesWrong)

/-- 'penstocklaw02.ValueFloats': WHATEVER THE INPUT: true; the input reads as it did. -/
def valueFloatsSpec : ChangeSpec := { name := "valueFloats", fn := fun _ => fun
  | [d1, d2] => { results := [.lit (.bool true)], args := [d1, d2] }
  | _ => none }
def valueFloatsRow : OpenClaim := { program := "ytbgfiflnfndckaadoor", sum := "e9122bf39a3c12d558e6f73df30c825fab5d55af08b6b752a7d9af85a09d7a14", func := "penstock/penstocklaw02.ValueFloats", spec := "valueFloats", inPlace := ["math.archFloor", "math.Float64bits", "math.Float64frombits", "math.archTrunc"], unfollowed := true, recurses := true, named := ["unicode/utf8.first", "unicode/utf8.acceptRanges"], plainKeys := false, apart := false, laid := [("unicode/utf8.acceptRanges", laid_unicode_utf8_acceptRanges), ("unicode/utf8.first", laid_unicode_utf8_first)] }
def ValueFloatsSaid : Prop := valueFloatsRow.holds Tryd.pinned (OpenSpec.ofChange valueFloatsSpec)

/-- ITS FALSE NEIGHBOUR: 'it returns false'. Refute it at one input. -/
def valueFloatsWrong : ChangeSpec := { name := "valueFloats", fn := fun _ => fun
  | [d1, d2] => { results := [.lit (.bool false)], args := [d1, d2] }
  | _ => none }
def ValueFloatsWrongFalsely : Prop := valueFloatsRow.holds Tryd.pinned (OpenSpec.ofChange valueFloatsWrong)

/-- 'penstocklaw02.ValueHeld': WHATEVER THE INPUT: true; the input reads as it did. -/
def valueHeldSpec : ChangeSpec := { name := "valueHeld", fn := fun _ => fun
  | [d1, d2, d3, d4] => { results := [.lit (.bool true)], args := [d1, d2, d3, d4] }
  | _ => none }
def valueHeldRow : OpenClaim := { program := "ytbgfiflnfndckaadoor", sum := "e9122bf39a3c12d558e6f73df30c825fab5d55af08b6b752a7d9af85a09d7a14", func := "penstock/penstocklaw02.ValueHeld", spec := "valueHeld", inPlace := ["math.archFloor", "math.Float64bits", "math.Float64frombits", "math.archTrunc"], unfollowed := true, recurses := true, named := ["unicode/utf8.first", "unicode/utf8.acceptRanges"], loops := true, plainKeys := false, apart := false, laid := [("unicode/utf8.acceptRanges", laid_unicode_utf8_acceptRanges), ("unicode/utf8.first", laid_unicode_utf8_first)] }
def ValueHeldSaid : Prop := valueHeldRow.holds Tryd.pinned (OpenSpec.ofChange valueHeldSpec)

/-- ITS FALSE NEIGHBOUR: 'it returns false'. Refute it at one input. -/
def valueHeldWrong : ChangeSpec := { name := "valueHeld", fn := fun _ => fun
  | [d1, d2, d3, d4] => { results := [.lit (.bool false)], args := [d1, d2, d3, d4] }
  | _ => none }
def ValueHeldWrongFalsely : Prop := valueHeldRow.holds Tryd.pinned (OpenSpec.ofChange valueHeldWrong)

/-- 'penstocklaw02.ValueOwn': WHATEVER THE INPUT: true; the input reads as it did. -/
def valueOwnSpec : ChangeSpec := { name := "valueOwn", fn := fun _ => fun
  | [d1, d2, d3] => { results := [.lit (.bool true)], args := [d1, d2, d3] }
  | _ => none }
def valueOwnRow : OpenClaim := { program := "ytbgfiflnfndckaadoor", sum := "e9122bf39a3c12d558e6f73df30c825fab5d55af08b6b752a7d9af85a09d7a14", func := "penstock/penstocklaw02.ValueOwn", spec := "valueOwn", inPlace := ["math.archFloor", "math.Float64bits", "math.Float64frombits", "math.archTrunc"], unfollowed := true, recurses := true, named := ["unicode/utf8.first", "unicode/utf8.acceptRanges"], loops := true, plainKeys := false, apart := false, laid := [("unicode/utf8.acceptRanges", laid_unicode_utf8_acceptRanges), ("unicode/utf8.first", laid_unicode_utf8_first)] }
def ValueOwnSaid : Prop := valueOwnRow.holds Tryd.pinned (OpenSpec.ofChange valueOwnSpec)

/-- ITS FALSE NEIGHBOUR: 'it returns false'. Refute it at one input. -/
def valueOwnWrong : ChangeSpec := { name := "valueOwn", fn := fun _ => fun
  | [d1, d2, d3] => { results := [.lit (.bool false)], args := [d1, d2, d3] }
  | _ => none }
def ValueOwnWrongFalsely : Prop := valueOwnRow.holds Tryd.pinned (OpenSpec.ofChange valueOwnWrong)

/-- 'penstocklaw02.ValueAttrs': WHATEVER THE INPUT: true; the input reads as it did. -/
def valueAttrsSpec : ChangeSpec := { name := "valueAttrs", fn := fun _ => fun
  | [d1, d2, d3] => { results := [.lit (.bool true)], args := [d1, d2, d3] }
  | _ => none }
def valueAttrsRow : OpenClaim := { program := "ytbgfiflnfndckaadoor", sum := "e9122bf39a3c12d558e6f73df30c825fab5d55af08b6b752a7d9af85a09d7a14", func := "penstock/penstocklaw02.ValueAttrs", spec := "valueAttrs", inPlace := ["math.archFloor", "math.Float64bits", "math.Float64frombits", "math.archTrunc"], unfollowed := true, recurses := true, named := ["unicode/utf8.first", "unicode/utf8.acceptRanges"], loops := true, plainKeys := false, apart := false, laid := [("unicode/utf8.acceptRanges", laid_unicode_utf8_acceptRanges), ("unicode/utf8.first", laid_unicode_utf8_first)] }
def ValueAttrsSaid : Prop := valueAttrsRow.holds Tryd.pinned (OpenSpec.ofChange valueAttrsSpec)

/-- ITS FALSE NEIGHBOUR: 'it returns false'. Refute it at one input. -/
def valueAttrsWrong : ChangeSpec := { name := "valueAttrs", fn := fun _ => fun
  | [d1, d2, d3] => { results := [.lit (.bool false)], args := [d1, d2, d3] }
  | _ => none }
def ValueAttrsWrongFalsely : Prop := valueAttrsRow.holds Tryd.pinned (OpenSpec.ofChange valueAttrsWrong)

/-- 'penstocklaw02.ValuePuts': WHATEVER THE INPUT: true; the input reads as it did. -/
def valuePutsSpec : ChangeSpec := { name := "valuePuts", fn := fun _ => fun
  | [d1, d2, d3, d4] => { results := [.lit (.bool true)], args := [d1, d2, d3, d4] }
  | _ => none }
def valuePutsRow : OpenClaim := { program := "ytbgfiflnfndckaadoor", sum := "e9122bf39a3c12d558e6f73df30c825fab5d55af08b6b752a7d9af85a09d7a14", func := "penstock/penstocklaw02.ValuePuts", spec := "valuePuts", inPlace := ["math.archFloor", "math.Float64bits", "math.Float64frombits", "math.archTrunc"], unfollowed := true, recurses := true, named := ["unicode/utf8.first", "unicode/utf8.acceptRanges"], loops := true, plainKeys := false, apart := false, laid := [("unicode/utf8.acceptRanges", laid_unicode_utf8_acceptRanges), ("unicode/utf8.first", laid_unicode_utf8_first)] }
def ValuePutsSaid : Prop := valuePutsRow.holds Tryd.pinned (OpenSpec.ofChange valuePutsSpec)

/-- ITS FALSE NEIGHBOUR: 'it returns false'. Refute it at one input. -/
def valuePutsWrong : ChangeSpec := { name := "valuePuts", fn := fun _ => fun
  | [d1, d2, d3, d4] => { results := [.lit (.bool false)], args := [d1, d2, d3, d4] }
  | _ => none }
def ValuePutsWrongFalsely : Prop := valuePutsRow.holds Tryd.pinned (OpenSpec.ofChange valuePutsWrong)

/-- 'penstocklaw02.ValueNested': WHATEVER THE INPUT: true; the input reads as it did. -/
def valueNestedSpec : ChangeSpec := { name := "valueNested", fn := fun _ => fun
  | [d] => { results := [.lit (.bool true)], args := [d] }
  | _ => none }
def valueNestedRow : OpenClaim := { program := "ytbgfiflnfndckaadoor", sum := "e9122bf39a3c12d558e6f73df30c825fab5d55af08b6b752a7d9af85a09d7a14", func := "penstock/penstocklaw02.ValueNested", spec := "valueNested", inPlace := ["math.archFloor", "math.Float64bits", "math.Float64frombits", "math.archTrunc"], unfollowed := true, recurses := true, named := ["unicode/utf8.first", "unicode/utf8.acceptRanges"], loops := true, plainKeys := false, apart := false, laid := [("unicode/utf8.acceptRanges", laid_unicode_utf8_acceptRanges), ("unicode/utf8.first", laid_unicode_utf8_first)] }
def ValueNestedSaid : Prop := valueNestedRow.holds Tryd.pinned (OpenSpec.ofChange valueNestedSpec)

/-- ITS FALSE NEIGHBOUR: 'it returns false'. Refute it at one input. -/
def valueNestedWrong : ChangeSpec := { name := "valueNested", fn := fun _ => fun
  | [d] => { results := [.lit (.bool false)], args := [d] }
  | _ => none }
def ValueNestedWrongFalsely : Prop := valueNestedRow.holds Tryd.pinned (OpenSpec.ofChange valueNestedWrong)

/-- 'penstocklaw02.ValueBack': WHATEVER THE INPUT: true; the input reads as it did. -/
def valueBackSpec : ChangeSpec := { name := "valueBack", fn := fun _ => fun
  | [d1, d2] => { results := [.lit (.bool true)], args := [d1, d2] }
  | _ => none }
def valueBackRow : OpenClaim := { program := "ytbgfiflnfndckaadoor", sum := "e9122bf39a3c12d558e6f73df30c825fab5d55af08b6b752a7d9af85a09d7a14", func := "penstock/penstocklaw02.ValueBack", spec := "valueBack", inPlace := ["math.archFloor", "math.Float64bits", "math.Float64frombits", "math.archTrunc"], unfollowed := true, recurses := true, named := ["unicode/utf8.first", "unicode/utf8.acceptRanges"], loops := true, plainKeys := false, apart := false, laid := [("unicode/utf8.acceptRanges", laid_unicode_utf8_acceptRanges), ("unicode/utf8.first", laid_unicode_utf8_first)] }
def ValueBackSaid : Prop := valueBackRow.holds Tryd.pinned (OpenSpec.ofChange valueBackSpec)

/-- ITS FALSE NEIGHBOUR: 'it returns false'. Refute it at one input. -/
def valueBackWrong : ChangeSpec := { name := "valueBack", fn := fun _ => fun
  | [d1, d2] => { results := [.lit (.bool false)], args := [d1, d2] }
  | _ => none }
def ValueBackWrongFalsely : Prop := valueBackRow.holds Tryd.pinned (OpenSpec.ofChange valueBackWrong)

/- THE SECOND FORM. 'bulk': how many values and letters a reading holds, each counted each time it is reached (what is shared counts as often as it is met; a slice's spare places count too). A statement '..UptoSaid' is the law's where the arguments, and the package variables that the reading takes, are together of bulk at most 1048576: NARROWER than '..Said'. Prove '..Said' where nothing that the law and all that it calls make is longer than what came in: it says more and counts as full. Else prove '..UptoSaid'. A law counts once. -/
mutual
def uptoBulk {H : Type} : DataW H → Nat
  | .lit (.string bytes) => bytes.length + 1
  | .lit _ => 1
  | .nil => 1
  | .ptr d => uptoBulk d + 1
  | .slice elems spare => uptoBulkAll elems + uptoBulkAll spare + 1
  | .agg parts => uptoBulkAll parts + 1
  | .iface _ d => uptoBulk d + 1
  | .map entries => uptoBulkEntries entries + 1
  | .held _ => 1
def uptoBulkAll {H : Type} : List (DataW H) → Nat
  | [] => 0
  | d :: r => uptoBulk d + uptoBulkAll r
def uptoBulkEntries {H : Type} : List (Lit × DataW H) → Nat
  | [] => 0
  | x :: r => uptoBulkEntry x + uptoBulkEntries r
def uptoBulkEntry {H : Type} : Lit × DataW H → Nat
  | (.string bytes, d) => bytes.length + uptoBulk d + 1
  | (_, d) => uptoBulk d + 1
 end
def uptoSmall : (H : Type) → List (DataW H) → Bool := fun _ ds => decide (uptoBulkAll ds ≤ 1048576)
def OpenSpec.upto (s : _root_.Go.ChangeSpec) : _root_.Go.OpenSpec := { _root_.Go.OpenSpec.ofChange s with cond := some uptoSmall }

/-- 'penstocklaw02.ValueOrder', WHERE WHAT IT READS IS OF BULK AT MOST 1048576: true; the input reads as it did. -/
def valueOrderUptoRow : OpenClaim := { program := "ytbgfiflnfndckaadoor", sum := "e9122bf39a3c12d558e6f73df30c825fab5d55af08b6b752a7d9af85a09d7a14", func := "penstock/penstocklaw02.ValueOrder", spec := "valueOrder", inPlace := ["math.archFloor", "math.Float64bits", "math.Float64frombits", "math.archTrunc"], unfollowed := true, recurses := true, named := ["unicode/utf8.first", "unicode/utf8.acceptRanges"], loops := true, plainKeys := false, apart := false, laid := [("unicode/utf8.acceptRanges", laid_unicode_utf8_acceptRanges), ("unicode/utf8.first", laid_unicode_utf8_first)], narrowed := true }
def ValueOrderUptoSaid : Prop := valueOrderUptoRow.holds Tryd.pinned (OpenSpec.upto valueOrderSpec)

/-- 'penstocklaw02.ValueHashes', WHERE WHAT IT READS IS OF BULK AT MOST 1048576: true; the input reads as it did. -/
def valueHashesUptoRow : OpenClaim := { program := "ytbgfiflnfndckaadoor", sum := "e9122bf39a3c12d558e6f73df30c825fab5d55af08b6b752a7d9af85a09d7a14", func := "penstock/penstocklaw02.ValueHashes", spec := "valueHashes", inPlace := ["math.archFloor", "math.Float64bits", "math.Float64frombits", "math.archTrunc"], unfollowed := true, recurses := true, named := ["unicode/utf8.first", "unicode/utf8.acceptRanges"], plainKeys := false, apart := false, laid := [("unicode/utf8.acceptRanges", laid_unicode_utf8_acceptRanges), ("unicode/utf8.first", laid_unicode_utf8_first)], narrowed := true }
def ValueHashesUptoSaid : Prop := valueHashesUptoRow.holds Tryd.pinned (OpenSpec.upto valueHashesSpec)

/-- 'penstocklaw02.ValueFloats', WHERE WHAT IT READS IS OF BULK AT MOST 1048576: true; the input reads as it did. -/
def valueFloatsUptoRow : OpenClaim := { program := "ytbgfiflnfndckaadoor", sum := "e9122bf39a3c12d558e6f73df30c825fab5d55af08b6b752a7d9af85a09d7a14", func := "penstock/penstocklaw02.ValueFloats", spec := "valueFloats", inPlace := ["math.archFloor", "math.Float64bits", "math.Float64frombits", "math.archTrunc"], unfollowed := true, recurses := true, named := ["unicode/utf8.first", "unicode/utf8.acceptRanges"], plainKeys := false, apart := false, laid := [("unicode/utf8.acceptRanges", laid_unicode_utf8_acceptRanges), ("unicode/utf8.first", laid_unicode_utf8_first)], narrowed := true }
def ValueFloatsUptoSaid : Prop := valueFloatsUptoRow.holds Tryd.pinned (OpenSpec.upto valueFloatsSpec)

/-- 'penstocklaw02.ValueHeld', WHERE WHAT IT READS IS OF BULK AT MOST 1048576: true; the input reads as it did. -/
def valueHeldUptoRow : OpenClaim := { program := "ytbgfiflnfndckaadoor", sum := "e9122bf39a3c12d558e6f73df30c825fab5d55af08b6b752a7d9af85a09d7a14", func := "penstock/penstocklaw02.ValueHeld", spec := "valueHeld", inPlace := ["math.archFloor", "math.Float64bits", "math.Float64frombits", "math.archTrunc"], unfollowed := true, recurses := true, named := ["unicode/utf8.first", "unicode/utf8.acceptRanges"], loops := true, plainKeys := false, apart := false, laid := [("unicode/utf8.acceptRanges", laid_unicode_utf8_acceptRanges), ("unicode/utf8.first", laid_unicode_utf8_first)], narrowed := true }
def ValueHeldUptoSaid : Prop := valueHeldUptoRow.holds Tryd.pinned (OpenSpec.upto valueHeldSpec)

/-- 'penstocklaw02.ValueOwn', WHERE WHAT IT READS IS OF BULK AT MOST 1048576: true; the input reads as it did. -/
def valueOwnUptoRow : OpenClaim := { program := "ytbgfiflnfndckaadoor", sum := "e9122bf39a3c12d558e6f73df30c825fab5d55af08b6b752a7d9af85a09d7a14", func := "penstock/penstocklaw02.ValueOwn", spec := "valueOwn", inPlace := ["math.archFloor", "math.Float64bits", "math.Float64frombits", "math.archTrunc"], unfollowed := true, recurses := true, named := ["unicode/utf8.first", "unicode/utf8.acceptRanges"], loops := true, plainKeys := false, apart := false, laid := [("unicode/utf8.acceptRanges", laid_unicode_utf8_acceptRanges), ("unicode/utf8.first", laid_unicode_utf8_first)], narrowed := true }
def ValueOwnUptoSaid : Prop := valueOwnUptoRow.holds Tryd.pinned (OpenSpec.upto valueOwnSpec)

/-- 'penstocklaw02.ValueAttrs', WHERE WHAT IT READS IS OF BULK AT MOST 1048576: true; the input reads as it did. -/
def valueAttrsUptoRow : OpenClaim := { program := "ytbgfiflnfndckaadoor", sum := "e9122bf39a3c12d558e6f73df30c825fab5d55af08b6b752a7d9af85a09d7a14", func := "penstock/penstocklaw02.ValueAttrs", spec := "valueAttrs", inPlace := ["math.archFloor", "math.Float64bits", "math.Float64frombits", "math.archTrunc"], unfollowed := true, recurses := true, named := ["unicode/utf8.first", "unicode/utf8.acceptRanges"], loops := true, plainKeys := false, apart := false, laid := [("unicode/utf8.acceptRanges", laid_unicode_utf8_acceptRanges), ("unicode/utf8.first", laid_unicode_utf8_first)], narrowed := true }
def ValueAttrsUptoSaid : Prop := valueAttrsUptoRow.holds Tryd.pinned (OpenSpec.upto valueAttrsSpec)

/-- 'penstocklaw02.ValuePuts', WHERE WHAT IT READS IS OF BULK AT MOST 1048576: true; the input reads as it did. -/
def valuePutsUptoRow : OpenClaim := { program := "ytbgfiflnfndckaadoor", sum := "e9122bf39a3c12d558e6f73df30c825fab5d55af08b6b752a7d9af85a09d7a14", func := "penstock/penstocklaw02.ValuePuts", spec := "valuePuts", inPlace := ["math.archFloor", "math.Float64bits", "math.Float64frombits", "math.archTrunc"], unfollowed := true, recurses := true, named := ["unicode/utf8.first", "unicode/utf8.acceptRanges"], loops := true, plainKeys := false, apart := false, laid := [("unicode/utf8.acceptRanges", laid_unicode_utf8_acceptRanges), ("unicode/utf8.first", laid_unicode_utf8_first)], narrowed := true }
def ValuePutsUptoSaid : Prop := valuePutsUptoRow.holds Tryd.pinned (OpenSpec.upto valuePutsSpec)

/-- 'penstocklaw02.ValueNested', WHERE WHAT IT READS IS OF BULK AT MOST 1048576: true; the input reads as it did. -/
def valueNestedUptoRow : OpenClaim := { program := "ytbgfiflnfndckaadoor", sum := "e9122bf39a3c12d558e6f73df30c825fab5d55af08b6b752a7d9af85a09d7a14", func := "penstock/penstocklaw02.ValueNested", spec := "valueNested", inPlace := ["math.archFloor", "math.Float64bits", "math.Float64frombits", "math.archTrunc"], unfollowed := true, recurses := true, named := ["unicode/utf8.first", "unicode/utf8.acceptRanges"], loops := true, plainKeys := false, apart := false, laid := [("unicode/utf8.acceptRanges", laid_unicode_utf8_acceptRanges), ("unicode/utf8.first", laid_unicode_utf8_first)], narrowed := true }
def ValueNestedUptoSaid : Prop := valueNestedUptoRow.holds Tryd.pinned (OpenSpec.upto valueNestedSpec)

/-- 'penstocklaw02.ValueBack', WHERE WHAT IT READS IS OF BULK AT MOST 1048576: true; the input reads as it did. -/
def valueBackUptoRow : OpenClaim := { program := "ytbgfiflnfndckaadoor", sum := "e9122bf39a3c12d558e6f73df30c825fab5d55af08b6b752a7d9af85a09d7a14", func := "penstock/penstocklaw02.ValueBack", spec := "valueBack", inPlace := ["math.archFloor", "math.Float64bits", "math.Float64frombits", "math.archTrunc"], unfollowed := true, recurses := true, named := ["unicode/utf8.first", "unicode/utf8.acceptRanges"], loops := true, plainKeys := false, apart := false, laid := [("unicode/utf8.acceptRanges", laid_unicode_utf8_acceptRanges), ("unicode/utf8.first", laid_unicode_utf8_first)], narrowed := true }
def ValueBackUptoSaid : Prop := valueBackUptoRow.holds Tryd.pinned (OpenSpec.upto valueBackSpec)

end Rows
end Go.Proofs.YtbgfiflnfndckaaDoor
