/-
  NARROWER THAN 'FOR EVERY INPUT', by the rows' own cells (each row's printed sentence says how): PdataSplit: loops, laid · PdataKept: loops, laid · PdataOwn: loops, laid · PdataMarked: loops, laid · PdataMerge: loops, laid · PdataJoined: loops, laid.
  DERIVED. THE GIVEN ROWS OF THIS SEAT. 6 by the template 'for every input the law returns true; each argument reads behind the call as it read before'; 0 by the template 'total and deterministic' (their statements: YtfbegbpipmgfiaaDoorTotals.lean).
  GIVEN WITH THE SEED: the statements are not yours to turn. If you find one false, say at which input.
  Laid BY PROGRAM, IN A SANDBOX (cutbox-rows.mjs): the forced cells as the released guide's own fill.sh prints them over the translation 415e334e4ac64eac… (all of the seat's roots in one cut). By AI agents, Wed Nov 11 2026. No macro, syntax, notation, axiom, sorry.
-/
import Derived.Test.YtfbegbpipmgfiaaDoorChecked
import GoSem.PinnedTables
import GoSem.Claim
import GoSem.ClaimJoined
import GoSem.ClaimMapViews
import Derived.JoinedTies
import Derived.KernelRfl
namespace Go.Proofs.YtfbegbpipmgfiaaDoor
/- THE CELL 'sum', in the pinned program and in every row, IS THE sha256 OF THE DUMP (.gsa) THAT YtfbegbpipmgfiaaDoorProg.lean LOADS. Nothing in Lean hashes anything: it is a label: what it is worth is what the hold of that sum in a sandbox is worth. -/
noncomputable def Tryd.pinned : Pinned := { name := "ytfbegbpipmgfiaadoor", sum := "415e334e4ac64eac400e693283e25a9695091ce9a5105b5b642148f360c0d81a", checked := Tryd.checked }
namespace Rows
def none {H : Type} : Left H := { results := [], args := [] }

/- WHAT THE LISTED PACKAGE-LEVEL VARIABLES READ AS WHEN THE CALL BEGINS. Each datum BY PROGRAM (the guide's laid-datum.mjs) off the statement by which the dump's own 'gosem.cut.vars' lays the variable. In a bare row this is a premise. The card (YtfbegbpipmgfiaaDoorCards.lean) ties it to the program's text. -/
def laid_unicode_utf8_acceptRanges {H : Type} : DataW H := .agg [.agg [.lit (.int .u8 128), .lit (.int .u8 191)], .agg [.lit (.int .u8 160), .lit (.int .u8 191)], .agg [.lit (.int .u8 128), .lit (.int .u8 159)], .agg [.lit (.int .u8 144), .lit (.int .u8 191)], .agg [.lit (.int .u8 128), .lit (.int .u8 143)], .agg [.lit (.int .u8 0), .lit (.int .u8 0)], .agg [.lit (.int .u8 0), .lit (.int .u8 0)], .agg [.lit (.int .u8 0), .lit (.int .u8 0)], .agg [.lit (.int .u8 0), .lit (.int .u8 0)], .agg [.lit (.int .u8 0), .lit (.int .u8 0)], .agg [.lit (.int .u8 0), .lit (.int .u8 0)], .agg [.lit (.int .u8 0), .lit (.int .u8 0)], .agg [.lit (.int .u8 0), .lit (.int .u8 0)], .agg [.lit (.int .u8 0), .lit (.int .u8 0)], .agg [.lit (.int .u8 0), .lit (.int .u8 0)], .agg [.lit (.int .u8 0), .lit (.int .u8 0)]]
/-- One of Go's own tables, pinned by name: the form's constant. -/
def laid_unicode_utf8_first : DataW Unit := Go.Pinned.utf8First

/-- 'penstocklaw03.PdataSplit': WHATEVER THE INPUT: true; the input reads as it did. -/
def pdataSplitSpec : ChangeSpec := { name := "pdataSplit", fn := fun _ => fun
  | [d1, d2] => { results := [.lit (.bool true)], args := [d1, d2] }
  | _ => none }
def pdataSplitRow : OpenClaim := { program := "ytfbegbpipmgfiaadoor", sum := "415e334e4ac64eac400e693283e25a9695091ce9a5105b5b642148f360c0d81a", func := "penstock/penstocklaw03.PdataSplit", spec := "pdataSplit", inPlace := ["math.Float64bits"], unfollowed := true, recurses := true, named := ["unicode/utf8.first", "unicode/utf8.acceptRanges"], loops := true, apart := false, laid := [("unicode/utf8.acceptRanges", laid_unicode_utf8_acceptRanges), ("unicode/utf8.first", laid_unicode_utf8_first)] }
def PdataSplitSaid : Prop := pdataSplitRow.holds Tryd.pinned (OpenSpec.ofChange pdataSplitSpec)

/-- ITS FALSE NEIGHBOUR: 'it returns false'. Refute it at one input. -/
def pdataSplitWrong : ChangeSpec := { name := "pdataSplit", fn := fun _ => fun
  | [d1, d2] => { results := [.lit (.bool false)], args := [d1, d2] }
  | _ => none }
def PdataSplitWrongFalsely : Prop := pdataSplitRow.holds Tryd.pinned (OpenSpec.ofChange pdataSplitWrong)

/-- 'penstocklaw03.PdataKept': WHATEVER THE INPUT: true; the input reads as it did. -/
def pdataKeptSpec : ChangeSpec := { name := "pdataKept", fn := fun _ => fun
  | [d1, d2] => { results := [.lit (.bool true)], args := [d1, d2] }
  | _ => none }
def pdataKeptRow : OpenClaim := { program := "ytfbegbpipmgfiaadoor", sum := "415e334e4ac64eac400e693283e25a9695091ce9a5105b5b642148f360c0d81a", func := "penstock/penstocklaw03.PdataKept", spec := "pdataKept", inPlace := ["math.Float64bits"], unfollowed := true, recurses := true, named := ["unicode/utf8.first", "unicode/utf8.acceptRanges"], loops := true, apart := false, laid := [("unicode/utf8.acceptRanges", laid_unicode_utf8_acceptRanges), ("unicode/utf8.first", laid_unicode_utf8_first)] }
def PdataKeptSaid : Prop := pdataKeptRow.holds Tryd.pinned (OpenSpec.ofChange pdataKeptSpec)

/-- ITS FALSE NEIGHBOUR: 'it returns false'. Refute it at one input. -/
def pdataKeptWrong : ChangeSpec := { name := "pdataKept", fn := fun _ => fun
  | [d1, d2] => { results := [.lit (.bool false)], args := [d1, d2] }
  | _ => none }
def PdataKeptWrongFalsely : Prop := pdataKeptRow.holds Tryd.pinned (OpenSpec.ofChange pdataKeptWrong)

/-- 'penstocklaw03.PdataOwn': WHATEVER THE INPUT: true; the input reads as it did. -/
def pdataOwnSpec : ChangeSpec := { name := "pdataOwn", fn := fun _ => fun
  | [d1, d2] => { results := [.lit (.bool true)], args := [d1, d2] }
  | _ => none }
def pdataOwnRow : OpenClaim := { program := "ytfbegbpipmgfiaadoor", sum := "415e334e4ac64eac400e693283e25a9695091ce9a5105b5b642148f360c0d81a", func := "penstock/penstocklaw03.PdataOwn", spec := "pdataOwn", inPlace := ["math.Float64bits"], unfollowed := true, recurses := true, named := ["unicode/utf8.first", "unicode/utf8.acceptRanges"], loops := true, apart := false, laid := [("unicode/utf8.acceptRanges", laid_unicode_utf8_acceptRanges), ("unicode/utf8.first", laid_unicode_utf8_first)] }
def PdataOwnSaid : Prop := pdataOwnRow.holds Tryd.pinned (OpenSpec.ofChange pdataOwnSpec)

/-- ITS FALSE NEIGHBOUR: 'it returns false'. Refute it at one input. -/
def pdataOwnWrong : ChangeSpec := { name := "pdataOwn", fn := fun _ => fun
  | [d1, d2] => { results := [.lit (.bool false)], args := [d1, d2] }
  | _ => none }
def PdataOwnWrongFalsely : Prop := pdataOwnRow.holds Tryd.pinned (OpenSpec.ofChange pdataOwnWrong)

/-- 'penstocklaw03.PdataMarked': WHATEVER THE INPUT: true; the input reads as it did. -/
def pdataMarkedSpec : ChangeSpec := { name := "pdataMarked", fn := fun _ => fun
  | [d1, d2] => { results := [.lit (.bool true)], args := [d1, d2] }
  | _ => none }
def pdataMarkedRow : OpenClaim := { program := "ytfbegbpipmgfiaadoor", sum := "415e334e4ac64eac400e693283e25a9695091ce9a5105b5b642148f360c0d81a", func := "penstock/penstocklaw03.PdataMarked", spec := "pdataMarked", inPlace := ["math.Float64bits"], unfollowed := true, recurses := true, named := ["unicode/utf8.first", "unicode/utf8.acceptRanges"], loops := true, apart := false, laid := [("unicode/utf8.acceptRanges", laid_unicode_utf8_acceptRanges), ("unicode/utf8.first", laid_unicode_utf8_first)] }
def PdataMarkedSaid : Prop := pdataMarkedRow.holds Tryd.pinned (OpenSpec.ofChange pdataMarkedSpec)

/-- ITS FALSE NEIGHBOUR: 'it returns false'. Refute it at one input. -/
def pdataMarkedWrong : ChangeSpec := { name := "pdataMarked", fn := fun _ => fun
  | [d1, d2] => { results := [.lit (.bool false)], args := [d1, d2] }
  | _ => none }
def PdataMarkedWrongFalsely : Prop := pdataMarkedRow.holds Tryd.pinned (OpenSpec.ofChange pdataMarkedWrong)

/-- 'penstocklaw03.PdataMerge': WHATEVER THE INPUT: true; the input reads as it did. -/
def pdataMergeSpec : ChangeSpec := { name := "pdataMerge", fn := fun _ => fun
  | [d1, d2] => { results := [.lit (.bool true)], args := [d1, d2] }
  | _ => none }
def pdataMergeRow : OpenClaim := { program := "ytfbegbpipmgfiaadoor", sum := "415e334e4ac64eac400e693283e25a9695091ce9a5105b5b642148f360c0d81a", func := "penstock/penstocklaw03.PdataMerge", spec := "pdataMerge", inPlace := ["math.Float64bits"], unfollowed := true, recurses := true, named := ["unicode/utf8.first", "unicode/utf8.acceptRanges"], loops := true, apart := false, laid := [("unicode/utf8.acceptRanges", laid_unicode_utf8_acceptRanges), ("unicode/utf8.first", laid_unicode_utf8_first)] }
def PdataMergeSaid : Prop := pdataMergeRow.holds Tryd.pinned (OpenSpec.ofChange pdataMergeSpec)

/-- ITS FALSE NEIGHBOUR: 'it returns false'. Refute it at one input. -/
def pdataMergeWrong : ChangeSpec := { name := "pdataMerge", fn := fun _ => fun
  | [d1, d2] => { results := [.lit (.bool false)], args := [d1, d2] }
  | _ => none }
def PdataMergeWrongFalsely : Prop := pdataMergeRow.holds Tryd.pinned (OpenSpec.ofChange pdataMergeWrong)

/-- 'penstocklaw03.PdataJoined': WHATEVER THE INPUT: true; the input reads as it did. -/
def pdataJoinedSpec : ChangeSpec := { name := "pdataJoined", fn := fun _ => fun
  | [d1, d2] => { results := [.lit (.bool true)], args := [d1, d2] }
  | _ => none }
def pdataJoinedRow : OpenClaim := { program := "ytfbegbpipmgfiaadoor", sum := "415e334e4ac64eac400e693283e25a9695091ce9a5105b5b642148f360c0d81a", func := "penstock/penstocklaw03.PdataJoined", spec := "pdataJoined", inPlace := ["math.Float64bits"], unfollowed := true, recurses := true, named := ["unicode/utf8.first", "unicode/utf8.acceptRanges"], loops := true, apart := false, laid := [("unicode/utf8.acceptRanges", laid_unicode_utf8_acceptRanges), ("unicode/utf8.first", laid_unicode_utf8_first)] }
def PdataJoinedSaid : Prop := pdataJoinedRow.holds Tryd.pinned (OpenSpec.ofChange pdataJoinedSpec)

/-- ITS FALSE NEIGHBOUR: 'it returns false'. Refute it at one input. -/
def pdataJoinedWrong : ChangeSpec := { name := "pdataJoined", fn := fun _ => fun
  | [d1, d2] => { results := [.lit (.bool false)], args := [d1, d2] }
  | _ => none }
def PdataJoinedWrongFalsely : Prop := pdataJoinedRow.holds Tryd.pinned (OpenSpec.ofChange pdataJoinedWrong)

/- THE SECOND FORM. 'bulk': how many values and letters a reading holds, each counted each time it is reached (what is shared counts as often as it is met; a slice's spare places count too). A statement '..UptoSaid' is the law's where the arguments, and the package variables that the reading takes, are together of bulk at most 1048576: NARROWER than '..Said'. Prove '..Said' where nothing that the law and all that it calls make is longer than what came in: it says more and counts as full. Else prove '..UptoSaid'. A law counts once. -/
mutual
def uptoBulk {H : Type} : DataW H → Nat
  | .lit (.string bytes) => bytes.length + 1
  | .lit _ => 1
  | .nil => 1
  | .ptr d => uptoBulk d + 1
  | .slice elems spare => uptoBulkAll elems + uptoBulkAll spare + 1
  | .agg parts => uptoBulkAll parts + 1
  | .iface _ d => uptoBulk d + 1
  | .map entries => uptoBulkEntries entries + 1
  | .held _ => 1
def uptoBulkAll {H : Type} : List (DataW H) → Nat
  | [] => 0
  | d :: r => uptoBulk d + uptoBulkAll r
def uptoBulkEntries {H : Type} : List (Lit × DataW H) → Nat
  | [] => 0
  | x :: r => uptoBulkEntry x + uptoBulkEntries r
def uptoBulkEntry {H : Type} : Lit × DataW H → Nat
  | (.string bytes, d) => bytes.length + uptoBulk d + 1
  | (_, d) => uptoBulk d + 1
 end
def uptoSmall : (H : Type) → List (DataW H) → Bool := fun _ ds => decide (uptoBulkAll ds ≤ 1048576)
def OpenSpec.upto (s : _root_.Go.ChangeSpec) : _root_.Go.OpenSpec := { _root_.Go.OpenSpec.ofChange s with cond := some uptoSmall }

/-- 'penstocklaw03.PdataSplit', WHERE WHAT IT READS IS OF BULK AT MOST 1048576: true; the input reads as it did. -/
def pdataSplitUptoRow : OpenClaim := { program := "ytfbegbpipmgfiaadoor", sum := "415e334e4ac64eac400e693283e25a9695091ce9a5105b5b642148f360c0d81a", func := "penstock/penstocklaw03.PdataSplit", spec := "pdataSplit", inPlace := ["math.Float64bits"], unfollowed := true, recurses := true, named := ["unicode/utf8.first", "unicode/utf8.acceptRanges"], loops := true, apart := false, laid := [("unicode/utf8.acceptRanges", laid_unicode_utf8_acceptRanges), ("unicode/utf8.first", laid_unicode_utf8_first)], narrowed := true }
def PdataSplitUptoSaid : Prop := pdataSplitUptoRow.holds Tryd.pinned (OpenSpec.upto pdataSplitSpec)

/-- 'penstocklaw03.PdataKept', WHERE WHAT IT READS IS OF BULK AT MOST 1048576: true; the input reads as it did. -/
def pdataKeptUptoRow : OpenClaim := { program := "ytfbegbpipmgfiaadoor", sum := "415e334e4ac64eac400e693283e25a9695091ce9a5105b5b642148f360c0d81a", func := "penstock/penstocklaw03.PdataKept", spec := "pdataKept", inPlace := ["math.Float64bits"], unfollowed := true, recurses := true, named := ["unicode/utf8.first", "unicode/utf8.acceptRanges"], loops := true, apart := false, laid := [("unicode/utf8.acceptRanges", laid_unicode_utf8_acceptRanges), ("unicode/utf8.first", laid_unicode_utf8_first)], narrowed := true }
def PdataKeptUptoSaid : Prop := pdataKeptUptoRow.holds Tryd.pinned (OpenSpec.upto pdataKeptSpec)

/-- 'penstocklaw03.PdataOwn', WHERE WHAT IT READS IS OF BULK AT MOST 1048576: true; the input reads as it did. -/
def pdataOwnUptoRow : OpenClaim := { program := "ytfbegbpipmgfiaadoor", sum := "415e334e4ac64eac400e693283e25a9695091ce9a5105b5b642148f360c0d81a", func := "penstock/penstocklaw03.PdataOwn", spec := "pdataOwn", inPlace := ["math.Float64bits"], unfollowed := true, recurses := true, named := ["unicode/utf8.first", "unicode/utf8.acceptRanges"], loops := true, apart := false, laid := [("unicode/utf8.acceptRanges", laid_unicode_utf8_acceptRanges), ("unicode/utf8.first", laid_unicode_utf8_first)], narrowed := true }
def PdataOwnUptoSaid : Prop := pdataOwnUptoRow.holds Tryd.pinned (OpenSpec.upto pdataOwnSpec)

/-- 'penstocklaw03.PdataMarked', WHERE WHAT IT READS IS OF BULK AT MOST 1048576: true; the input reads as it did. -/
def pdataMarkedUptoRow : OpenClaim := { program := "ytfbegbpipmgfiaadoor", sum := "415e334e4ac64eac400e693283e25a9695091ce9a5105b5b642148f360c0d81a", func := "penstock/penstocklaw03.PdataMarked", spec := "pdataMarked", inPlace := ["math.Float64bits"], unfollowed := true, recurses := true, named := ["unicode/utf8.first", "unicode/utf8.acceptRanges"], loops := true, apart := false, laid := [("unicode/utf8.acceptRanges", laid_unicode_utf8_acceptRanges), ("unicode/utf8.first", laid_unicode_utf8_first)], narrowed := true }
def PdataMarkedUptoSaid : Prop := pdataMarkedUptoRow.holds Tryd.pinned (OpenSpec.upto pdataMarkedSpec)

/-- 'penstocklaw03.PdataMerge', WHERE WHAT IT READS IS OF BULK AT MOST 1048576: true; the input reads as it did. -/
def pdataMergeUptoRow : OpenClaim := { program := "ytfbegbpipmgfiaadoor", sum := "415e334e4ac64eac400e693283e25a9695091ce9a5105b5b642148f360c0d81a", func := "penstock/penstocklaw03.PdataMerge", spec := "pdataMerge", inPlace := ["math.Float64bits"], unfollowed := true, recurses := true, named := ["unicode/utf8.first", "unicode/utf8.acceptRanges"], loops := true, apart := false, laid := [("unicode/utf8.acceptRanges", laid_unicode_utf8_acceptRanges), ("unicode/utf8.first", laid_unicode_utf8_first)], narrowed := true }
def PdataMergeUptoSaid : Prop := pdataMergeUptoRow.holds Tryd.pinned (OpenSpec.upto pdataMergeSpec)

/-- 'penstocklaw03.PdataJoined', WHERE WHAT IT READS IS OF BULK AT MOST 1048576: true; the input reads as it did. -/
def pdataJoinedUptoRow : OpenClaim := { program := "ytfbegbpipmgfiaadoor", sum := "415e334e4ac64eac400e693283e25a9695091ce9a5105b5b642148f360c0d81a", func := "penstock/penstocklaw03.PdataJoined", spec := "pdataJoined", inPlace := ["math.Float64bits"], unfollowed := true, recurses := true, named := ["unicode/utf8.first", "unicode/utf8.acceptRanges"], loops := true, apart := false, laid := [("unicode/utf8.acceptRanges", laid_unicode_utf8_acceptRanges), ("unicode/utf8.first", laid_unicode_utf8_first)], narrowed := true }
def PdataJoinedUptoSaid : Prop := pdataJoinedUptoRow.holds Tryd.pinned (OpenSpec.upto pdataJoinedSpec)

end Rows
end Go.Proofs.YtfbegbpipmgfiaaDoor
