/-
  DERIVED. GIVEN WITH THE SEED: THE CARDS: each row of YtbgfiflnfndckaaDoorRows.lean that lists a variable, with what it lists TIED to the program's text (the seventh form; the later family's looks); each row that meets fmt, with fmt's text TOLD by the authors' own Lean function (tested against real Go, not proved from fmt's source: count such statements apart). THE CARD IS WHAT COUNTS. Prove the row's statement (the work); the ties are given (YtbgfiflnfndckaaDoorTie.lean); close each card by the builder's one call (the guide's Derived/Test/ToyasCard.lean, 'card_holds'). Laid BY PROGRAM, IN A SANDBOX (cutbox-door.mjs). By AI agents, Wed Nov 11 2026. No macro, syntax, notation, axiom, sorry.
-/
import Derived.Test.YtbgfiflnfndckaaDoorRows
import GoSem.ClaimSeven
namespace Go.Proofs.YtbgfiflnfndckaaDoor
namespace Rows

/-- THE TIED CARD OF 'penstocklaw02.ValueOrder'. -/
def valueOrderCard : Claim7 := { stood := { row := valueOrderRow, standIns := [], harness := (true, "dc556a1c0fa26deec277ae34a1d3c495e92b1aba385d9a8302bc1f693c035099"), looks := true }, kinds := [], alts := [], laidByText := true, laidKinds := [.data, .pinned], laidTests := true, laidLooks := .later }
def ValueOrderCardSaid : Prop := Claim7.holds Tryd.pinned (.plain (OpenSpec.ofChange valueOrderSpec)) valueOrderCard

/-- THE TIED CARD OF 'penstocklaw02.ValueHashes'. -/
def valueHashesCard : Claim7 := { stood := { row := valueHashesRow, standIns := [], harness := (true, "dc556a1c0fa26deec277ae34a1d3c495e92b1aba385d9a8302bc1f693c035099"), looks := true }, kinds := [], alts := [], laidByText := true, laidKinds := [.data, .pinned], laidTests := true, laidLooks := .later }
def ValueHashesCardSaid : Prop := Claim7.holds Tryd.pinned (.plain (OpenSpec.ofChange valueHashesSpec)) valueHashesCard

/-- THE TIED CARD OF 'penstocklaw02.ValueFloats'. -/
def valueFloatsCard : Claim7 := { stood := { row := valueFloatsRow, standIns := [], harness := (true, "dc556a1c0fa26deec277ae34a1d3c495e92b1aba385d9a8302bc1f693c035099"), looks := true }, kinds := [], alts := [], laidByText := true, laidKinds := [.data, .pinned], laidTests := true, laidLooks := .later }
def ValueFloatsCardSaid : Prop := Claim7.holds Tryd.pinned (.plain (OpenSpec.ofChange valueFloatsSpec)) valueFloatsCard

/-- THE TIED CARD OF 'penstocklaw02.ValueHeld'. -/
def valueHeldCard : Claim7 := { stood := { row := valueHeldRow, standIns := [], harness := (true, "dc556a1c0fa26deec277ae34a1d3c495e92b1aba385d9a8302bc1f693c035099"), looks := true }, kinds := [], alts := [], laidByText := true, laidKinds := [.data, .pinned], laidTests := true, laidLooks := .later }
def ValueHeldCardSaid : Prop := Claim7.holds Tryd.pinned (.plain (OpenSpec.ofChange valueHeldSpec)) valueHeldCard

/-- THE TIED CARD OF 'penstocklaw02.ValueOwn'. -/
def valueOwnCard : Claim7 := { stood := { row := valueOwnRow, standIns := [], harness := (true, "dc556a1c0fa26deec277ae34a1d3c495e92b1aba385d9a8302bc1f693c035099"), looks := true }, kinds := [], alts := [], laidByText := true, laidKinds := [.data, .pinned], laidTests := true, laidLooks := .later }
def ValueOwnCardSaid : Prop := Claim7.holds Tryd.pinned (.plain (OpenSpec.ofChange valueOwnSpec)) valueOwnCard

/-- THE TIED CARD OF 'penstocklaw02.ValueAttrs'. -/
def valueAttrsCard : Claim7 := { stood := { row := valueAttrsRow, standIns := [], harness := (true, "dc556a1c0fa26deec277ae34a1d3c495e92b1aba385d9a8302bc1f693c035099"), looks := true }, kinds := [], alts := [], laidByText := true, laidKinds := [.data, .pinned], laidTests := true, laidLooks := .later }
def ValueAttrsCardSaid : Prop := Claim7.holds Tryd.pinned (.plain (OpenSpec.ofChange valueAttrsSpec)) valueAttrsCard

/-- THE TIED CARD OF 'penstocklaw02.ValuePuts'. -/
def valuePutsCard : Claim7 := { stood := { row := valuePutsRow, standIns := [], harness := (true, "dc556a1c0fa26deec277ae34a1d3c495e92b1aba385d9a8302bc1f693c035099"), looks := true }, kinds := [], alts := [], laidByText := true, laidKinds := [.data, .pinned], laidTests := true, laidLooks := .later }
def ValuePutsCardSaid : Prop := Claim7.holds Tryd.pinned (.plain (OpenSpec.ofChange valuePutsSpec)) valuePutsCard

/-- THE TIED CARD OF 'penstocklaw02.ValueNested'. -/
def valueNestedCard : Claim7 := { stood := { row := valueNestedRow, standIns := [], harness := (true, "dc556a1c0fa26deec277ae34a1d3c495e92b1aba385d9a8302bc1f693c035099"), looks := true }, kinds := [], alts := [], laidByText := true, laidKinds := [.data, .pinned], laidTests := true, laidLooks := .later }
def ValueNestedCardSaid : Prop := Claim7.holds Tryd.pinned (.plain (OpenSpec.ofChange valueNestedSpec)) valueNestedCard

/-- THE TIED CARD OF 'penstocklaw02.ValueBack'. -/
def valueBackCard : Claim7 := { stood := { row := valueBackRow, standIns := [], harness := (true, "dc556a1c0fa26deec277ae34a1d3c495e92b1aba385d9a8302bc1f693c035099"), looks := true }, kinds := [], alts := [], laidByText := true, laidKinds := [.data, .pinned], laidTests := true, laidLooks := .later }
def ValueBackCardSaid : Prop := Claim7.holds Tryd.pinned (.plain (OpenSpec.ofChange valueBackSpec)) valueBackCard

/-- THE SECOND FORM's CARD OF 'penstocklaw02.ValueOrder'. -/
def valueOrderUptoCard : Claim7 := { stood := { row := valueOrderUptoRow, standIns := [], harness := (true, "dc556a1c0fa26deec277ae34a1d3c495e92b1aba385d9a8302bc1f693c035099"), looks := true }, kinds := [], alts := [], laidByText := true, laidKinds := [.data, .pinned], laidTests := true, laidLooks := .later }
def ValueOrderUptoCardSaid : Prop := Claim7.holds Tryd.pinned (.plain (OpenSpec.upto valueOrderSpec)) valueOrderUptoCard

/-- THE SECOND FORM's CARD OF 'penstocklaw02.ValueHashes'. -/
def valueHashesUptoCard : Claim7 := { stood := { row := valueHashesUptoRow, standIns := [], harness := (true, "dc556a1c0fa26deec277ae34a1d3c495e92b1aba385d9a8302bc1f693c035099"), looks := true }, kinds := [], alts := [], laidByText := true, laidKinds := [.data, .pinned], laidTests := true, laidLooks := .later }
def ValueHashesUptoCardSaid : Prop := Claim7.holds Tryd.pinned (.plain (OpenSpec.upto valueHashesSpec)) valueHashesUptoCard

/-- THE SECOND FORM's CARD OF 'penstocklaw02.ValueFloats'. -/
def valueFloatsUptoCard : Claim7 := { stood := { row := valueFloatsUptoRow, standIns := [], harness := (true, "dc556a1c0fa26deec277ae34a1d3c495e92b1aba385d9a8302bc1f693c035099"), looks := true }, kinds := [], alts := [], laidByText := true, laidKinds := [.data, .pinned], laidTests := true, laidLooks := .later }
def ValueFloatsUptoCardSaid : Prop := Claim7.holds Tryd.pinned (.plain (OpenSpec.upto valueFloatsSpec)) valueFloatsUptoCard

/-- THE SECOND FORM's CARD OF 'penstocklaw02.ValueHeld'. -/
def valueHeldUptoCard : Claim7 := { stood := { row := valueHeldUptoRow, standIns := [], harness := (true, "dc556a1c0fa26deec277ae34a1d3c495e92b1aba385d9a8302bc1f693c035099"), looks := true }, kinds := [], alts := [], laidByText := true, laidKinds := [.data, .pinned], laidTests := true, laidLooks := .later }
def ValueHeldUptoCardSaid : Prop := Claim7.holds Tryd.pinned (.plain (OpenSpec.upto valueHeldSpec)) valueHeldUptoCard

/-- THE SECOND FORM's CARD OF 'penstocklaw02.ValueOwn'. -/
def valueOwnUptoCard : Claim7 := { stood := { row := valueOwnUptoRow, standIns := [], harness := (true, "dc556a1c0fa26deec277ae34a1d3c495e92b1aba385d9a8302bc1f693c035099"), looks := true }, kinds := [], alts := [], laidByText := true, laidKinds := [.data, .pinned], laidTests := true, laidLooks := .later }
def ValueOwnUptoCardSaid : Prop := Claim7.holds Tryd.pinned (.plain (OpenSpec.upto valueOwnSpec)) valueOwnUptoCard

/-- THE SECOND FORM's CARD OF 'penstocklaw02.ValueAttrs'. -/
def valueAttrsUptoCard : Claim7 := { stood := { row := valueAttrsUptoRow, standIns := [], harness := (true, "dc556a1c0fa26deec277ae34a1d3c495e92b1aba385d9a8302bc1f693c035099"), looks := true }, kinds := [], alts := [], laidByText := true, laidKinds := [.data, .pinned], laidTests := true, laidLooks := .later }
def ValueAttrsUptoCardSaid : Prop := Claim7.holds Tryd.pinned (.plain (OpenSpec.upto valueAttrsSpec)) valueAttrsUptoCard

/-- THE SECOND FORM's CARD OF 'penstocklaw02.ValuePuts'. -/
def valuePutsUptoCard : Claim7 := { stood := { row := valuePutsUptoRow, standIns := [], harness := (true, "dc556a1c0fa26deec277ae34a1d3c495e92b1aba385d9a8302bc1f693c035099"), looks := true }, kinds := [], alts := [], laidByText := true, laidKinds := [.data, .pinned], laidTests := true, laidLooks := .later }
def ValuePutsUptoCardSaid : Prop := Claim7.holds Tryd.pinned (.plain (OpenSpec.upto valuePutsSpec)) valuePutsUptoCard

/-- THE SECOND FORM's CARD OF 'penstocklaw02.ValueNested'. -/
def valueNestedUptoCard : Claim7 := { stood := { row := valueNestedUptoRow, standIns := [], harness := (true, "dc556a1c0fa26deec277ae34a1d3c495e92b1aba385d9a8302bc1f693c035099"), looks := true }, kinds := [], alts := [], laidByText := true, laidKinds := [.data, .pinned], laidTests := true, laidLooks := .later }
def ValueNestedUptoCardSaid : Prop := Claim7.holds Tryd.pinned (.plain (OpenSpec.upto valueNestedSpec)) valueNestedUptoCard

/-- THE SECOND FORM's CARD OF 'penstocklaw02.ValueBack'. -/
def valueBackUptoCard : Claim7 := { stood := { row := valueBackUptoRow, standIns := [], harness := (true, "dc556a1c0fa26deec277ae34a1d3c495e92b1aba385d9a8302bc1f693c035099"), looks := true }, kinds := [], alts := [], laidByText := true, laidKinds := [.data, .pinned], laidTests := true, laidLooks := .later }
def ValueBackUptoCardSaid : Prop := Claim7.holds Tryd.pinned (.plain (OpenSpec.upto valueBackSpec)) valueBackUptoCard
end Rows
end Go.Proofs.YtbgfiflnfndckaaDoor
