/-
  DERIVED. GIVEN WITH THE SEED: THE CARDS: each row of YtfbegbpipmgfiaaDoorRows.lean that lists a variable, with what it lists TIED to the program's text (the seventh form; the later family's looks); each row that meets fmt, with fmt's text TOLD by the authors' own Lean function (tested against real Go, not proved from fmt's source: count such statements apart). THE CARD IS WHAT COUNTS. Prove the row's statement (the work); the ties are given (YtfbegbpipmgfiaaDoorTie.lean); close each card by the builder's one call (the guide's Derived/Test/ToyasCard.lean, 'card_holds'). Laid BY PROGRAM, IN A SANDBOX (cutbox-door.mjs). By AI agents, Wed Nov 11 2026. No macro, syntax, notation, axiom, sorry.
-/
import Derived.Test.YtfbegbpipmgfiaaDoorRows
import GoSem.ClaimSeven
namespace Go.Proofs.YtfbegbpipmgfiaaDoor
namespace Rows

/-- THE TIED CARD OF 'penstocklaw03.PdataSplit'. -/
def pdataSplitCard : Claim7 := { stood := { row := pdataSplitRow, standIns := [], harness := (true, "7483b1ce550498aa4f583f81761ffd8d7395bf0e395cd00cb7d502d93561e83f"), looks := true }, kinds := [], alts := [], laidByText := true, laidKinds := [.data, .pinned], laidTests := true, laidLooks := .later }
def PdataSplitCardSaid : Prop := Claim7.holds Tryd.pinned (.plain (OpenSpec.ofChange pdataSplitSpec)) pdataSplitCard

/-- THE TIED CARD OF 'penstocklaw03.PdataKept'. -/
def pdataKeptCard : Claim7 := { stood := { row := pdataKeptRow, standIns := [], harness := (true, "7483b1ce550498aa4f583f81761ffd8d7395bf0e395cd00cb7d502d93561e83f"), looks := true }, kinds := [], alts := [], laidByText := true, laidKinds := [.data, .pinned], laidTests := true, laidLooks := .later }
def PdataKeptCardSaid : Prop := Claim7.holds Tryd.pinned (.plain (OpenSpec.ofChange pdataKeptSpec)) pdataKeptCard

/-- THE TIED CARD OF 'penstocklaw03.PdataOwn'. -/
def pdataOwnCard : Claim7 := { stood := { row := pdataOwnRow, standIns := [], harness := (true, "7483b1ce550498aa4f583f81761ffd8d7395bf0e395cd00cb7d502d93561e83f"), looks := true }, kinds := [], alts := [], laidByText := true, laidKinds := [.data, .pinned], laidTests := true, laidLooks := .later }
def PdataOwnCardSaid : Prop := Claim7.holds Tryd.pinned (.plain (OpenSpec.ofChange pdataOwnSpec)) pdataOwnCard

/-- THE TIED CARD OF 'penstocklaw03.PdataMarked'. -/
def pdataMarkedCard : Claim7 := { stood := { row := pdataMarkedRow, standIns := [], harness := (true, "7483b1ce550498aa4f583f81761ffd8d7395bf0e395cd00cb7d502d93561e83f"), looks := true }, kinds := [], alts := [], laidByText := true, laidKinds := [.data, .pinned], laidTests := true, laidLooks := .later }
def PdataMarkedCardSaid : Prop := Claim7.holds Tryd.pinned (.plain (OpenSpec.ofChange pdataMarkedSpec)) pdataMarkedCard

/-- THE TIED CARD OF 'penstocklaw03.PdataMerge'. -/
def pdataMergeCard : Claim7 := { stood := { row := pdataMergeRow, standIns := [], harness := (true, "7483b1ce550498aa4f583f81761ffd8d7395bf0e395cd00cb7d502d93561e83f"), looks := true }, kinds := [], alts := [], laidByText := true, laidKinds := [.data, .pinned], laidTests := true, laidLooks := .later }
def PdataMergeCardSaid : Prop := Claim7.holds Tryd.pinned (.plain (OpenSpec.ofChange pdataMergeSpec)) pdataMergeCard

/-- THE TIED CARD OF 'penstocklaw03.PdataJoined'. -/
def pdataJoinedCard : Claim7 := { stood := { row := pdataJoinedRow, standIns := [], harness := (true, "7483b1ce550498aa4f583f81761ffd8d7395bf0e395cd00cb7d502d93561e83f"), looks := true }, kinds := [], alts := [], laidByText := true, laidKinds := [.data, .pinned], laidTests := true, laidLooks := .later }
def PdataJoinedCardSaid : Prop := Claim7.holds Tryd.pinned (.plain (OpenSpec.ofChange pdataJoinedSpec)) pdataJoinedCard

/-- THE SECOND FORM's CARD OF 'penstocklaw03.PdataSplit'. -/
def pdataSplitUptoCard : Claim7 := { stood := { row := pdataSplitUptoRow, standIns := [], harness := (true, "7483b1ce550498aa4f583f81761ffd8d7395bf0e395cd00cb7d502d93561e83f"), looks := true }, kinds := [], alts := [], laidByText := true, laidKinds := [.data, .pinned], laidTests := true, laidLooks := .later }
def PdataSplitUptoCardSaid : Prop := Claim7.holds Tryd.pinned (.plain (OpenSpec.upto pdataSplitSpec)) pdataSplitUptoCard

/-- THE SECOND FORM's CARD OF 'penstocklaw03.PdataKept'. -/
def pdataKeptUptoCard : Claim7 := { stood := { row := pdataKeptUptoRow, standIns := [], harness := (true, "7483b1ce550498aa4f583f81761ffd8d7395bf0e395cd00cb7d502d93561e83f"), looks := true }, kinds := [], alts := [], laidByText := true, laidKinds := [.data, .pinned], laidTests := true, laidLooks := .later }
def PdataKeptUptoCardSaid : Prop := Claim7.holds Tryd.pinned (.plain (OpenSpec.upto pdataKeptSpec)) pdataKeptUptoCard

/-- THE SECOND FORM's CARD OF 'penstocklaw03.PdataOwn'. -/
def pdataOwnUptoCard : Claim7 := { stood := { row := pdataOwnUptoRow, standIns := [], harness := (true, "7483b1ce550498aa4f583f81761ffd8d7395bf0e395cd00cb7d502d93561e83f"), looks := true }, kinds := [], alts := [], laidByText := true, laidKinds := [.data, .pinned], laidTests := true, laidLooks := .later }
def PdataOwnUptoCardSaid : Prop := Claim7.holds Tryd.pinned (.plain (OpenSpec.upto pdataOwnSpec)) pdataOwnUptoCard

/-- THE SECOND FORM's CARD OF 'penstocklaw03.PdataMarked'. -/
def pdataMarkedUptoCard : Claim7 := { stood := { row := pdataMarkedUptoRow, standIns := [], harness := (true, "7483b1ce550498aa4f583f81761ffd8d7395bf0e395cd00cb7d502d93561e83f"), looks := true }, kinds := [], alts := [], laidByText := true, laidKinds := [.data, .pinned], laidTests := true, laidLooks := .later }
def PdataMarkedUptoCardSaid : Prop := Claim7.holds Tryd.pinned (.plain (OpenSpec.upto pdataMarkedSpec)) pdataMarkedUptoCard

/-- THE SECOND FORM's CARD OF 'penstocklaw03.PdataMerge'. -/
def pdataMergeUptoCard : Claim7 := { stood := { row := pdataMergeUptoRow, standIns := [], harness := (true, "7483b1ce550498aa4f583f81761ffd8d7395bf0e395cd00cb7d502d93561e83f"), looks := true }, kinds := [], alts := [], laidByText := true, laidKinds := [.data, .pinned], laidTests := true, laidLooks := .later }
def PdataMergeUptoCardSaid : Prop := Claim7.holds Tryd.pinned (.plain (OpenSpec.upto pdataMergeSpec)) pdataMergeUptoCard

/-- THE SECOND FORM's CARD OF 'penstocklaw03.PdataJoined'. -/
def pdataJoinedUptoCard : Claim7 := { stood := { row := pdataJoinedUptoRow, standIns := [], harness := (true, "7483b1ce550498aa4f583f81761ffd8d7395bf0e395cd00cb7d502d93561e83f"), looks := true }, kinds := [], alts := [], laidByText := true, laidKinds := [.data, .pinned], laidTests := true, laidLooks := .later }
def PdataJoinedUptoCardSaid : Prop := Claim7.holds Tryd.pinned (.plain (OpenSpec.upto pdataJoinedSpec)) pdataJoinedUptoCard
end Rows
end Go.Proofs.YtfbegbpipmgfiaaDoor
