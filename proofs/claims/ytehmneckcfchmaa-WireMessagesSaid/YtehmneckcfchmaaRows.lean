/-
  No cell of these rows narrows 'for every input' (looked for: loops, veiled, ifaces, maps, wideKeys, modest, calm, conditions, laid).
  DERIVED. THE GIVEN ROWS OF THIS SEAT. 8 by the template 'for every input the law returns true; each argument reads behind the call as it read before'; 0 by the template 'total and deterministic' (their statements: YtehmneckcfchmaaTotals.lean).
  GIVEN WITH THE SEED: the statements are not yours to turn. If you find one false, say at which input.
  Laid BY PROGRAM, IN A SANDBOX (cutbox-rows.mjs): the forced cells as the released guide's own fill.sh prints them over the translation ba27924fcf3d3ddc… (all of the seat's roots in one cut). By AI agents, Wed Nov 11 2026. No macro, syntax, notation, axiom, sorry.
-/
import Derived.Test.YtehmneckcfchmaaChecked
import GoSem.Claim
import GoSem.ClaimJoined
import GoSem.ClaimMapViews
import Derived.JoinedTies
import Derived.KernelRfl
namespace Go.Proofs.Ytehmneckcfchmaa
/- THE CELL 'sum', in the pinned program and in every row, IS THE sha256 OF THE DUMP (.gsa) THAT YtehmneckcfchmaaProg.lean LOADS. Nothing in Lean hashes anything: it is a label: what it is worth is what the hold of that sum in a sandbox is worth. -/
noncomputable def Try.pinned : Pinned := { name := "ytehmneckcfchmaa", sum := "ba27924fcf3d3ddc0b0a2926853e8d0a81c936fe4814dc44643747be18d0b313", checked := Try.checked }
namespace Rows
def none {H : Type} : Left H := { results := [], args := [] }

/-- 'penstocklaw01.WireMessages': WHATEVER THE INPUT: true; the input reads as it did. -/
def wireMessagesSpec : ChangeSpec := { name := "wireMessages", fn := fun _ => fun
  | [d1, d2] => { results := [.lit (.bool true)], args := [d1, d2] }
  | _ => none }
def wireMessagesRow : OpenClaim := { program := "ytehmneckcfchmaa", sum := "ba27924fcf3d3ddc0b0a2926853e8d0a81c936fe4814dc44643747be18d0b313", func := "penstock/penstocklaw01.WireMessages", spec := "wireMessages", unfollowed := true, recurses := true, apart := false }
def WireMessagesSaid : Prop := wireMessagesRow.holds Try.pinned (OpenSpec.ofChange wireMessagesSpec)

/-- ITS FALSE NEIGHBOUR: 'it returns false'. Refute it at one input. -/
def wireMessagesWrong : ChangeSpec := { name := "wireMessages", fn := fun _ => fun
  | [d1, d2] => { results := [.lit (.bool false)], args := [d1, d2] }
  | _ => none }
def WireMessagesWrongFalsely : Prop := wireMessagesRow.holds Try.pinned (OpenSpec.ofChange wireMessagesWrong)

/-- 'penstocklaw01.WireBack': WHATEVER THE INPUT: true; the input reads as it did. -/
def wireBackSpec : ChangeSpec := { name := "wireBack", fn := fun _ => fun
  | [d] => { results := [.lit (.bool true)], args := [d] }
  | _ => none }
def wireBackRow : OpenClaim := { program := "ytehmneckcfchmaa", sum := "ba27924fcf3d3ddc0b0a2926853e8d0a81c936fe4814dc44643747be18d0b313", func := "penstock/penstocklaw01.WireBack", spec := "wireBack", unfollowed := true, recurses := true, apart := false }
def WireBackSaid : Prop := wireBackRow.holds Try.pinned (OpenSpec.ofChange wireBackSpec)

/-- ITS FALSE NEIGHBOUR: 'it returns false'. Refute it at one input. -/
def wireBackWrong : ChangeSpec := { name := "wireBack", fn := fun _ => fun
  | [d] => { results := [.lit (.bool false)], args := [d] }
  | _ => none }
def WireBackWrongFalsely : Prop := wireBackRow.holds Try.pinned (OpenSpec.ofChange wireBackWrong)

/-- 'penstocklaw01.WireParts': WHATEVER THE INPUT: true; the input reads as it did. -/
def wirePartsSpec : ChangeSpec := { name := "wireParts", fn := fun _ => fun
  | [d1, d2, d3] => { results := [.lit (.bool true)], args := [d1, d2, d3] }
  | _ => none }
def wirePartsRow : OpenClaim := { program := "ytehmneckcfchmaa", sum := "ba27924fcf3d3ddc0b0a2926853e8d0a81c936fe4814dc44643747be18d0b313", func := "penstock/penstocklaw01.WireParts", spec := "wireParts", unfollowed := true, recurses := true, apart := false }
def WirePartsSaid : Prop := wirePartsRow.holds Try.pinned (OpenSpec.ofChange wirePartsSpec)

/-- ITS FALSE NEIGHBOUR: 'it returns false'. Refute it at one input. -/
def wirePartsWrong : ChangeSpec := { name := "wireParts", fn := fun _ => fun
  | [d1, d2, d3] => { results := [.lit (.bool false)], args := [d1, d2, d3] }
  | _ => none }
def WirePartsWrongFalsely : Prop := wirePartsRow.holds Try.pinned (OpenSpec.ofChange wirePartsWrong)

/-- 'penstocklaw01.WireFields': WHATEVER THE INPUT: true; the input reads as it did. -/
def wireFieldsSpec : ChangeSpec := { name := "wireFields", fn := fun _ => fun
  | [d1, d2] => { results := [.lit (.bool true)], args := [d1, d2] }
  | _ => none }
def wireFieldsRow : OpenClaim := { program := "ytehmneckcfchmaa", sum := "ba27924fcf3d3ddc0b0a2926853e8d0a81c936fe4814dc44643747be18d0b313", func := "penstock/penstocklaw01.WireFields", spec := "wireFields", unfollowed := true, recurses := true, apart := false }
def WireFieldsSaid : Prop := wireFieldsRow.holds Try.pinned (OpenSpec.ofChange wireFieldsSpec)

/-- ITS FALSE NEIGHBOUR: 'it returns false'. Refute it at one input. -/
def wireFieldsWrong : ChangeSpec := { name := "wireFields", fn := fun _ => fun
  | [d1, d2] => { results := [.lit (.bool false)], args := [d1, d2] }
  | _ => none }
def WireFieldsWrongFalsely : Prop := wireFieldsRow.holds Try.pinned (OpenSpec.ofChange wireFieldsWrong)

/-- 'penstocklaw01.WireNumbers': WHATEVER THE INPUT: true; the input reads as it did. -/
def wireNumbersSpec : ChangeSpec := { name := "wireNumbers", fn := fun _ => fun
  | [d1, d2] => { results := [.lit (.bool true)], args := [d1, d2] }
  | _ => none }
def wireNumbersRow : OpenClaim := { program := "ytehmneckcfchmaa", sum := "ba27924fcf3d3ddc0b0a2926853e8d0a81c936fe4814dc44643747be18d0b313", func := "penstock/penstocklaw01.WireNumbers", spec := "wireNumbers", unfollowed := true, recurses := true, apart := false }
def WireNumbersSaid : Prop := wireNumbersRow.holds Try.pinned (OpenSpec.ofChange wireNumbersSpec)

/-- ITS FALSE NEIGHBOUR: 'it returns false'. Refute it at one input. -/
def wireNumbersWrong : ChangeSpec := { name := "wireNumbers", fn := fun _ => fun
  | [d1, d2] => { results := [.lit (.bool false)], args := [d1, d2] }
  | _ => none }
def WireNumbersWrongFalsely : Prop := wireNumbersRow.holds Try.pinned (OpenSpec.ofChange wireNumbersWrong)

/-- 'penstocklaw01.WireZigs': WHATEVER THE INPUT: true; the input reads as it did. -/
def wireZigsSpec : ChangeSpec := { name := "wireZigs", fn := fun _ => fun
  | [d1, d2, d3] => { results := [.lit (.bool true)], args := [d1, d2, d3] }
  | _ => none }
def wireZigsRow : OpenClaim := { program := "ytehmneckcfchmaa", sum := "ba27924fcf3d3ddc0b0a2926853e8d0a81c936fe4814dc44643747be18d0b313", func := "penstock/penstocklaw01.WireZigs", spec := "wireZigs", unfollowed := true, recurses := true, apart := false }
def WireZigsSaid : Prop := wireZigsRow.holds Try.pinned (OpenSpec.ofChange wireZigsSpec)

/-- ITS FALSE NEIGHBOUR: 'it returns false'. Refute it at one input. -/
def wireZigsWrong : ChangeSpec := { name := "wireZigs", fn := fun _ => fun
  | [d1, d2, d3] => { results := [.lit (.bool false)], args := [d1, d2, d3] }
  | _ => none }
def WireZigsWrongFalsely : Prop := wireZigsRow.holds Try.pinned (OpenSpec.ofChange wireZigsWrong)

/-- 'penstocklaw01.WireFinds': WHATEVER THE INPUT: true; the input reads as it did. -/
def wireFindsSpec : ChangeSpec := { name := "wireFinds", fn := fun _ => fun
  | [d1, d2, d3] => { results := [.lit (.bool true)], args := [d1, d2, d3] }
  | _ => none }
def wireFindsRow : OpenClaim := { program := "ytehmneckcfchmaa", sum := "ba27924fcf3d3ddc0b0a2926853e8d0a81c936fe4814dc44643747be18d0b313", func := "penstock/penstocklaw01.WireFinds", spec := "wireFinds", unfollowed := true, recurses := true, apart := false }
def WireFindsSaid : Prop := wireFindsRow.holds Try.pinned (OpenSpec.ofChange wireFindsSpec)

/-- ITS FALSE NEIGHBOUR: 'it returns false'. Refute it at one input. -/
def wireFindsWrong : ChangeSpec := { name := "wireFinds", fn := fun _ => fun
  | [d1, d2, d3] => { results := [.lit (.bool false)], args := [d1, d2, d3] }
  | _ => none }
def WireFindsWrongFalsely : Prop := wireFindsRow.holds Try.pinned (OpenSpec.ofChange wireFindsWrong)

/-- 'penstocklaw01.WireLooks': WHATEVER THE INPUT: true; the input reads as it did. -/
def wireLooksSpec : ChangeSpec := { name := "wireLooks", fn := fun _ => fun
  | [d1, d2] => { results := [.lit (.bool true)], args := [d1, d2] }
  | _ => none }
def wireLooksRow : OpenClaim := { program := "ytehmneckcfchmaa", sum := "ba27924fcf3d3ddc0b0a2926853e8d0a81c936fe4814dc44643747be18d0b313", func := "penstock/penstocklaw01.WireLooks", spec := "wireLooks", unfollowed := true, recurses := true, apart := false }
def WireLooksSaid : Prop := wireLooksRow.holds Try.pinned (OpenSpec.ofChange wireLooksSpec)

/-- ITS FALSE NEIGHBOUR: 'it returns false'. Refute it at one input. -/
def wireLooksWrong : ChangeSpec := { name := "wireLooks", fn := fun _ => fun
  | [d1, d2] => { results := [.lit (.bool false)], args := [d1, d2] }
  | _ => none }
def WireLooksWrongFalsely : Prop := wireLooksRow.holds Try.pinned (OpenSpec.ofChange wireLooksWrong)

/- THE SECOND FORM. 'bulk': how many values and letters a reading holds, each counted each time it is reached (what is shared counts as often as it is met; a slice's spare places count too). A statement '..UptoSaid' is the law's where the arguments, and the package variables that the reading takes, are together of bulk at most 1048576: NARROWER than '..Said'. Prove '..Said' where nothing that the law and all that it calls make is longer than what came in: it says more and counts as full. Else prove '..UptoSaid'. A law counts once. -/
mutual
def uptoBulk {H : Type} : DataW H → Nat
  | .lit (.string bytes) => bytes.length + 1
  | .lit _ => 1
  | .nil => 1
  | .ptr d => uptoBulk d + 1
  | .slice elems spare => uptoBulkAll elems + uptoBulkAll spare + 1
  | .agg parts => uptoBulkAll parts + 1
  | .iface _ d => uptoBulk d + 1
  | .map entries => uptoBulkEntries entries + 1
  | .held _ => 1
def uptoBulkAll {H : Type} : List (DataW H) → Nat
  | [] => 0
  | d :: r => uptoBulk d + uptoBulkAll r
def uptoBulkEntries {H : Type} : List (Lit × DataW H) → Nat
  | [] => 0
  | x :: r => uptoBulkEntry x + uptoBulkEntries r
def uptoBulkEntry {H : Type} : Lit × DataW H → Nat
  | (.string bytes, d) => bytes.length + uptoBulk d + 1
  | (_, d) => uptoBulk d + 1
 end
def uptoSmall : (H : Type) → List (DataW H) → Bool := fun _ ds => decide (uptoBulkAll ds ≤ 1048576)
def OpenSpec.upto (s : _root_.Go.ChangeSpec) : _root_.Go.OpenSpec := { _root_.Go.OpenSpec.ofChange s with cond := some uptoSmall }

/-- 'penstocklaw01.WireMessages', WHERE WHAT IT READS IS OF BULK AT MOST 1048576: true; the input reads as it did. -/
def wireMessagesUptoRow : OpenClaim := { program := "ytehmneckcfchmaa", sum := "ba27924fcf3d3ddc0b0a2926853e8d0a81c936fe4814dc44643747be18d0b313", func := "penstock/penstocklaw01.WireMessages", spec := "wireMessages", unfollowed := true, recurses := true, apart := false, narrowed := true }
def WireMessagesUptoSaid : Prop := wireMessagesUptoRow.holds Try.pinned (OpenSpec.upto wireMessagesSpec)

/-- 'penstocklaw01.WireBack', WHERE WHAT IT READS IS OF BULK AT MOST 1048576: true; the input reads as it did. -/
def wireBackUptoRow : OpenClaim := { program := "ytehmneckcfchmaa", sum := "ba27924fcf3d3ddc0b0a2926853e8d0a81c936fe4814dc44643747be18d0b313", func := "penstock/penstocklaw01.WireBack", spec := "wireBack", unfollowed := true, recurses := true, apart := false, narrowed := true }
def WireBackUptoSaid : Prop := wireBackUptoRow.holds Try.pinned (OpenSpec.upto wireBackSpec)

/-- 'penstocklaw01.WireParts', WHERE WHAT IT READS IS OF BULK AT MOST 1048576: true; the input reads as it did. -/
def wirePartsUptoRow : OpenClaim := { program := "ytehmneckcfchmaa", sum := "ba27924fcf3d3ddc0b0a2926853e8d0a81c936fe4814dc44643747be18d0b313", func := "penstock/penstocklaw01.WireParts", spec := "wireParts", unfollowed := true, recurses := true, apart := false, narrowed := true }
def WirePartsUptoSaid : Prop := wirePartsUptoRow.holds Try.pinned (OpenSpec.upto wirePartsSpec)

/-- 'penstocklaw01.WireFields', WHERE WHAT IT READS IS OF BULK AT MOST 1048576: true; the input reads as it did. -/
def wireFieldsUptoRow : OpenClaim := { program := "ytehmneckcfchmaa", sum := "ba27924fcf3d3ddc0b0a2926853e8d0a81c936fe4814dc44643747be18d0b313", func := "penstock/penstocklaw01.WireFields", spec := "wireFields", unfollowed := true, recurses := true, apart := false, narrowed := true }
def WireFieldsUptoSaid : Prop := wireFieldsUptoRow.holds Try.pinned (OpenSpec.upto wireFieldsSpec)

/-- 'penstocklaw01.WireNumbers', WHERE WHAT IT READS IS OF BULK AT MOST 1048576: true; the input reads as it did. -/
def wireNumbersUptoRow : OpenClaim := { program := "ytehmneckcfchmaa", sum := "ba27924fcf3d3ddc0b0a2926853e8d0a81c936fe4814dc44643747be18d0b313", func := "penstock/penstocklaw01.WireNumbers", spec := "wireNumbers", unfollowed := true, recurses := true, apart := false, narrowed := true }
def WireNumbersUptoSaid : Prop := wireNumbersUptoRow.holds Try.pinned (OpenSpec.upto wireNumbersSpec)

/-- 'penstocklaw01.WireZigs', WHERE WHAT IT READS IS OF BULK AT MOST 1048576: true; the input reads as it did. -/
def wireZigsUptoRow : OpenClaim := { program := "ytehmneckcfchmaa", sum := "ba27924fcf3d3ddc0b0a2926853e8d0a81c936fe4814dc44643747be18d0b313", func := "penstock/penstocklaw01.WireZigs", spec := "wireZigs", unfollowed := true, recurses := true, apart := false, narrowed := true }
def WireZigsUptoSaid : Prop := wireZigsUptoRow.holds Try.pinned (OpenSpec.upto wireZigsSpec)

/-- 'penstocklaw01.WireFinds', WHERE WHAT IT READS IS OF BULK AT MOST 1048576: true; the input reads as it did. -/
def wireFindsUptoRow : OpenClaim := { program := "ytehmneckcfchmaa", sum := "ba27924fcf3d3ddc0b0a2926853e8d0a81c936fe4814dc44643747be18d0b313", func := "penstock/penstocklaw01.WireFinds", spec := "wireFinds", unfollowed := true, recurses := true, apart := false, narrowed := true }
def WireFindsUptoSaid : Prop := wireFindsUptoRow.holds Try.pinned (OpenSpec.upto wireFindsSpec)

/-- 'penstocklaw01.WireLooks', WHERE WHAT IT READS IS OF BULK AT MOST 1048576: true; the input reads as it did. -/
def wireLooksUptoRow : OpenClaim := { program := "ytehmneckcfchmaa", sum := "ba27924fcf3d3ddc0b0a2926853e8d0a81c936fe4814dc44643747be18d0b313", func := "penstock/penstocklaw01.WireLooks", spec := "wireLooks", unfollowed := true, recurses := true, apart := false, narrowed := true }
def WireLooksUptoSaid : Prop := wireLooksUptoRow.holds Try.pinned (OpenSpec.upto wireLooksSpec)

end Rows
end Go.Proofs.Ytehmneckcfchmaa
