/-
  No cell of these rows narrows 'for every input' (looked for: loops, veiled, ifaces, maps, wideKeys, modest, calm, conditions, laid).
  DERIVED. THE GIVEN ROWS OF THIS SEAT. 11 by the template 'for every input the law returns true; each argument reads behind the call as it read before'; 0 by the template 'total and deterministic' (their statements: YtmdmnjjlpefigaaTotals.lean).
  GIVEN WITH THE SEED: the statements are not yours to turn. If you find one false, say at which input.
  Laid BY PROGRAM, IN A SANDBOX (cutbox-rows.mjs): the forced cells as the released guide's own fill.sh prints them over the translation 8e9e6a53ced60e95… (all of the seat's roots in one cut). By AI agents, Wed Nov 11 2026. No macro, syntax, notation, axiom, sorry.
-/
import Derived.Test.YtmdmnjjlpefigaaChecked
import GoSem.Claim
import GoSem.ClaimJoined
import GoSem.ClaimMapViews
import Derived.JoinedTies
import Derived.KernelRfl
namespace Go.Proofs.Ytmdmnjjlpefigaa
/- THE CELL 'sum', in the pinned program and in every row, IS THE sha256 OF THE DUMP (.gsa) THAT YtmdmnjjlpefigaaProg.lean LOADS. Nothing in Lean hashes anything: it is a label: what it is worth is what the hold of that sum in a sandbox is worth. -/
noncomputable def Try.pinned : Pinned := { name := "ytmdmnjjlpefigaa", sum := "8e9e6a53ced60e957188803519b42aebb641df9eee20141eadc2ceaac0b3cf03", checked := Try.checked }
namespace Rows
def none {H : Type} : Left H := { results := [], args := [] }

/-- 'laws.FnExactIsExtent': WHATEVER THE INPUT: true; the input reads as it did. -/
def fnExactIsExtentSpec : ChangeSpec := { name := "fnExactIsExtent", fn := fun _ => fun
  | [d] => { results := [.lit (.bool true)], args := [d] }
  | _ => none }
def fnExactIsExtentRow : OpenClaim := { program := "ytmdmnjjlpefigaa", sum := "8e9e6a53ced60e957188803519b42aebb641df9eee20141eadc2ceaac0b3cf03", func := "loop.example/g00894/laws.FnExactIsExtent", spec := "fnExactIsExtent", recurses := true, apart := false }
def FnExactIsExtentSaid : Prop := fnExactIsExtentRow.holds Try.pinned (OpenSpec.ofChange fnExactIsExtentSpec)

/-- ITS FALSE NEIGHBOUR: 'it returns false'. Refute it at one input. -/
def fnExactIsExtentWrong : ChangeSpec := { name := "fnExactIsExtent", fn := fun _ => fun
  | [d] => { results := [.lit (.bool false)], args := [d] }
  | _ => none }
def FnExactIsExtentWrongFalsely : Prop := fnExactIsExtentRow.holds Try.pinned (OpenSpec.ofChange fnExactIsExtentWrong)

/-- 'laws.FnExactCountExtents': WHATEVER THE INPUT: true; the input reads as it did. -/
def fnExactCountExtentsSpec : ChangeSpec := { name := "fnExactCountExtents", fn := fun _ => fun
  | [d1, d2] => { results := [.lit (.bool true)], args := [d1, d2] }
  | _ => none }
def fnExactCountExtentsRow : OpenClaim := { program := "ytmdmnjjlpefigaa", sum := "8e9e6a53ced60e957188803519b42aebb641df9eee20141eadc2ceaac0b3cf03", func := "loop.example/g00894/laws.FnExactCountExtents", spec := "fnExactCountExtents", recurses := true, apart := false }
def FnExactCountExtentsSaid : Prop := fnExactCountExtentsRow.holds Try.pinned (OpenSpec.ofChange fnExactCountExtentsSpec)

/-- ITS FALSE NEIGHBOUR: 'it returns false'. Refute it at one input. -/
def fnExactCountExtentsWrong : ChangeSpec := { name := "fnExactCountExtents", fn := fun _ => fun
  | [d1, d2] => { results := [.lit (.bool false)], args := [d1, d2] }
  | _ => none }
def FnExactCountExtentsWrongFalsely : Prop := fnExactCountExtentsRow.holds Try.pinned (OpenSpec.ofChange fnExactCountExtentsWrong)

/-- 'laws.FnExactFindExtent': WHATEVER THE INPUT: true; the input reads as it did. -/
def fnExactFindExtentSpec : ChangeSpec := { name := "fnExactFindExtent", fn := fun _ => fun
  | [d1, d2, d3] => { results := [.lit (.bool true)], args := [d1, d2, d3] }
  | _ => none }
def fnExactFindExtentRow : OpenClaim := { program := "ytmdmnjjlpefigaa", sum := "8e9e6a53ced60e957188803519b42aebb641df9eee20141eadc2ceaac0b3cf03", func := "loop.example/g00894/laws.FnExactFindExtent", spec := "fnExactFindExtent", recurses := true, apart := false }
def FnExactFindExtentSaid : Prop := fnExactFindExtentRow.holds Try.pinned (OpenSpec.ofChange fnExactFindExtentSpec)

/-- ITS FALSE NEIGHBOUR: 'it returns false'. Refute it at one input. -/
def fnExactFindExtentWrong : ChangeSpec := { name := "fnExactFindExtent", fn := fun _ => fun
  | [d1, d2, d3] => { results := [.lit (.bool false)], args := [d1, d2, d3] }
  | _ => none }
def FnExactFindExtentWrongFalsely : Prop := fnExactFindExtentRow.holds Try.pinned (OpenSpec.ofChange fnExactFindExtentWrong)

/-- 'laws.FnExactReachBy': WHATEVER THE INPUT: true; the input reads as it did. -/
def fnExactReachBySpec : ChangeSpec := { name := "fnExactReachBy", fn := fun _ => fun
  | [d1, d2] => { results := [.lit (.bool true)], args := [d1, d2] }
  | _ => none }
def fnExactReachByRow : OpenClaim := { program := "ytmdmnjjlpefigaa", sum := "8e9e6a53ced60e957188803519b42aebb641df9eee20141eadc2ceaac0b3cf03", func := "loop.example/g00894/laws.FnExactReachBy", spec := "fnExactReachBy", recurses := true, apart := false }
def FnExactReachBySaid : Prop := fnExactReachByRow.holds Try.pinned (OpenSpec.ofChange fnExactReachBySpec)

/-- ITS FALSE NEIGHBOUR: 'it returns false'. Refute it at one input. -/
def fnExactReachByWrong : ChangeSpec := { name := "fnExactReachBy", fn := fun _ => fun
  | [d1, d2] => { results := [.lit (.bool false)], args := [d1, d2] }
  | _ => none }
def FnExactReachByWrongFalsely : Prop := fnExactReachByRow.holds Try.pinned (OpenSpec.ofChange fnExactReachByWrong)

/-- 'laws.FnExactTouchSign': WHATEVER THE INPUT: true; the input reads as it did. -/
def fnExactTouchSignSpec : ChangeSpec := { name := "fnExactTouchSign", fn := fun _ => fun
  | [d1, d2, d3] => { results := [.lit (.bool true)], args := [d1, d2, d3] }
  | _ => none }
def fnExactTouchSignRow : OpenClaim := { program := "ytmdmnjjlpefigaa", sum := "8e9e6a53ced60e957188803519b42aebb641df9eee20141eadc2ceaac0b3cf03", func := "loop.example/g00894/laws.FnExactTouchSign", spec := "fnExactTouchSign", apart := false }
def FnExactTouchSignSaid : Prop := fnExactTouchSignRow.holds Try.pinned (OpenSpec.ofChange fnExactTouchSignSpec)

/-- ITS FALSE NEIGHBOUR: 'it returns false'. Refute it at one input. -/
def fnExactTouchSignWrong : ChangeSpec := { name := "fnExactTouchSign", fn := fun _ => fun
  | [d1, d2, d3] => { results := [.lit (.bool false)], args := [d1, d2, d3] }
  | _ => none }
def FnExactTouchSignWrongFalsely : Prop := fnExactTouchSignRow.holds Try.pinned (OpenSpec.ofChange fnExactTouchSignWrong)

/-- 'laws.FnExactLeadSigns': WHATEVER THE INPUT: true; the input reads as it did. -/
def fnExactLeadSignsSpec : ChangeSpec := { name := "fnExactLeadSigns", fn := fun _ => fun
  | [d1, d2] => { results := [.lit (.bool true)], args := [d1, d2] }
  | _ => none }
def fnExactLeadSignsRow : OpenClaim := { program := "ytmdmnjjlpefigaa", sum := "8e9e6a53ced60e957188803519b42aebb641df9eee20141eadc2ceaac0b3cf03", func := "loop.example/g00894/laws.FnExactLeadSigns", spec := "fnExactLeadSigns", apart := false }
def FnExactLeadSignsSaid : Prop := fnExactLeadSignsRow.holds Try.pinned (OpenSpec.ofChange fnExactLeadSignsSpec)

/-- ITS FALSE NEIGHBOUR: 'it returns false'. Refute it at one input. -/
def fnExactLeadSignsWrong : ChangeSpec := { name := "fnExactLeadSigns", fn := fun _ => fun
  | [d1, d2] => { results := [.lit (.bool false)], args := [d1, d2] }
  | _ => none }
def FnExactLeadSignsWrongFalsely : Prop := fnExactLeadSignsRow.holds Try.pinned (OpenSpec.ofChange fnExactLeadSignsWrong)

/-- 'laws.FnExactCheckFault': WHATEVER THE INPUT: true; the input reads as it did. -/
def fnExactCheckFaultSpec : ChangeSpec := { name := "fnExactCheckFault", fn := fun _ => fun
  | [d1, d2, d3, d4] => { results := [.lit (.bool true)], args := [d1, d2, d3, d4] }
  | _ => none }
def fnExactCheckFaultRow : OpenClaim := { program := "ytmdmnjjlpefigaa", sum := "8e9e6a53ced60e957188803519b42aebb641df9eee20141eadc2ceaac0b3cf03", func := "loop.example/g00894/laws.FnExactCheckFault", spec := "fnExactCheckFault", apart := false }
def FnExactCheckFaultSaid : Prop := fnExactCheckFaultRow.holds Try.pinned (OpenSpec.ofChange fnExactCheckFaultSpec)

/-- ITS FALSE NEIGHBOUR: 'it returns false'. Refute it at one input. -/
def fnExactCheckFaultWrong : ChangeSpec := { name := "fnExactCheckFault", fn := fun _ => fun
  | [d1, d2, d3, d4] => { results := [.lit (.bool false)], args := [d1, d2, d3, d4] }
  | _ => none }
def FnExactCheckFaultWrongFalsely : Prop := fnExactCheckFaultRow.holds Try.pinned (OpenSpec.ofChange fnExactCheckFaultWrong)

/-- 'laws.FnExactMakeFault': WHATEVER THE INPUT: true; the input reads as it did. -/
def fnExactMakeFaultSpec : ChangeSpec := { name := "fnExactMakeFault", fn := fun _ => fun
  | [d1, d2, d3] => { results := [.lit (.bool true)], args := [d1, d2, d3] }
  | _ => none }
def fnExactMakeFaultRow : OpenClaim := { program := "ytmdmnjjlpefigaa", sum := "8e9e6a53ced60e957188803519b42aebb641df9eee20141eadc2ceaac0b3cf03", func := "loop.example/g00894/laws.FnExactMakeFault", spec := "fnExactMakeFault", apart := false }
def FnExactMakeFaultSaid : Prop := fnExactMakeFaultRow.holds Try.pinned (OpenSpec.ofChange fnExactMakeFaultSpec)

/-- ITS FALSE NEIGHBOUR: 'it returns false'. Refute it at one input. -/
def fnExactMakeFaultWrong : ChangeSpec := { name := "fnExactMakeFault", fn := fun _ => fun
  | [d1, d2, d3] => { results := [.lit (.bool false)], args := [d1, d2, d3] }
  | _ => none }
def FnExactMakeFaultWrongFalsely : Prop := fnExactMakeFaultRow.holds Try.pinned (OpenSpec.ofChange fnExactMakeFaultWrong)

/-- 'laws.FnExactCheckProof': WHATEVER THE INPUT: true; the input reads as it did. -/
def fnExactCheckProofSpec : ChangeSpec := { name := "fnExactCheckProof", fn := fun _ => fun
  | [d1, d2, d3, d4] => { results := [.lit (.bool true)], args := [d1, d2, d3, d4] }
  | _ => none }
def fnExactCheckProofRow : OpenClaim := { program := "ytmdmnjjlpefigaa", sum := "8e9e6a53ced60e957188803519b42aebb641df9eee20141eadc2ceaac0b3cf03", func := "loop.example/g00894/laws.FnExactCheckProof", spec := "fnExactCheckProof", apart := false }
def FnExactCheckProofSaid : Prop := fnExactCheckProofRow.holds Try.pinned (OpenSpec.ofChange fnExactCheckProofSpec)

/-- ITS FALSE NEIGHBOUR: 'it returns false'. Refute it at one input. -/
def fnExactCheckProofWrong : ChangeSpec := { name := "fnExactCheckProof", fn := fun _ => fun
  | [d1, d2, d3, d4] => { results := [.lit (.bool false)], args := [d1, d2, d3, d4] }
  | _ => none }
def FnExactCheckProofWrongFalsely : Prop := fnExactCheckProofRow.holds Try.pinned (OpenSpec.ofChange fnExactCheckProofWrong)

/-- 'laws.FnExactFirstLie': WHATEVER THE INPUT: true; the input reads as it did. -/
def fnExactFirstLieSpec : ChangeSpec := { name := "fnExactFirstLie", fn := fun _ => fun
  | [d1, d2, d3, d4] => { results := [.lit (.bool true)], args := [d1, d2, d3, d4] }
  | _ => none }
def fnExactFirstLieRow : OpenClaim := { program := "ytmdmnjjlpefigaa", sum := "8e9e6a53ced60e957188803519b42aebb641df9eee20141eadc2ceaac0b3cf03", func := "loop.example/g00894/laws.FnExactFirstLie", spec := "fnExactFirstLie", apart := false }
def FnExactFirstLieSaid : Prop := fnExactFirstLieRow.holds Try.pinned (OpenSpec.ofChange fnExactFirstLieSpec)

/-- ITS FALSE NEIGHBOUR: 'it returns false'. Refute it at one input. -/
def fnExactFirstLieWrong : ChangeSpec := { name := "fnExactFirstLie", fn := fun _ => fun
  | [d1, d2, d3, d4] => { results := [.lit (.bool false)], args := [d1, d2, d3, d4] }
  | _ => none }
def FnExactFirstLieWrongFalsely : Prop := fnExactFirstLieRow.holds Try.pinned (OpenSpec.ofChange fnExactFirstLieWrong)

/-- 'laws.FnExactNextHead': WHATEVER THE INPUT: true; the input reads as it did. -/
def fnExactNextHeadSpec : ChangeSpec := { name := "fnExactNextHead", fn := fun _ => fun
  | [d1, d2, d3, d4] => { results := [.lit (.bool true)], args := [d1, d2, d3, d4] }
  | _ => none }
def fnExactNextHeadRow : OpenClaim := { program := "ytmdmnjjlpefigaa", sum := "8e9e6a53ced60e957188803519b42aebb641df9eee20141eadc2ceaac0b3cf03", func := "loop.example/g00894/laws.FnExactNextHead", spec := "fnExactNextHead", recurses := true, apart := false }
def FnExactNextHeadSaid : Prop := fnExactNextHeadRow.holds Try.pinned (OpenSpec.ofChange fnExactNextHeadSpec)

/-- ITS FALSE NEIGHBOUR: 'it returns false'. Refute it at one input. -/
def fnExactNextHeadWrong : ChangeSpec := { name := "fnExactNextHead", fn := fun _ => fun
  | [d1, d2, d3, d4] => { results := [.lit (.bool false)], args := [d1, d2, d3, d4] }
  | _ => none }
def FnExactNextHeadWrongFalsely : Prop := fnExactNextHeadRow.holds Try.pinned (OpenSpec.ofChange fnExactNextHeadWrong)

/- THE SECOND FORM. 'bulk': how many values and letters a reading holds, each counted each time it is reached (what is shared counts as often as it is met; a slice's spare places count too). A statement '..UptoSaid' is the law's where the arguments, and the package variables that the reading takes, are together of bulk at most 1048576: NARROWER than '..Said'. Prove '..Said' where nothing that the law and all that it calls make is longer than what came in: it says more and counts as full. Else prove '..UptoSaid'. A law counts once. -/
mutual
def uptoBulk {H : Type} : DataW H → Nat
  | .lit (.string bytes) => bytes.length + 1
  | .lit _ => 1
  | .nil => 1
  | .ptr d => uptoBulk d + 1
  | .slice elems spare => uptoBulkAll elems + uptoBulkAll spare + 1
  | .agg parts => uptoBulkAll parts + 1
  | .iface _ d => uptoBulk d + 1
  | .map entries => uptoBulkEntries entries + 1
  | .held _ => 1
def uptoBulkAll {H : Type} : List (DataW H) → Nat
  | [] => 0
  | d :: r => uptoBulk d + uptoBulkAll r
def uptoBulkEntries {H : Type} : List (Lit × DataW H) → Nat
  | [] => 0
  | x :: r => uptoBulkEntry x + uptoBulkEntries r
def uptoBulkEntry {H : Type} : Lit × DataW H → Nat
  | (.string bytes, d) => bytes.length + uptoBulk d + 1
  | (_, d) => uptoBulk d + 1
 end
def uptoSmall : (H : Type) → List (DataW H) → Bool := fun _ ds => decide (uptoBulkAll ds ≤ 1048576)
def OpenSpec.upto (s : _root_.Go.ChangeSpec) : _root_.Go.OpenSpec := { _root_.Go.OpenSpec.ofChange s with cond := some uptoSmall }

/-- 'laws.FnExactIsExtent', WHERE WHAT IT READS IS OF BULK AT MOST 1048576: true; the input reads as it did. -/
def fnExactIsExtentUptoRow : OpenClaim := { program := "ytmdmnjjlpefigaa", sum := "8e9e6a53ced60e957188803519b42aebb641df9eee20141eadc2ceaac0b3cf03", func := "loop.example/g00894/laws.FnExactIsExtent", spec := "fnExactIsExtent", recurses := true, apart := false, narrowed := true }
def FnExactIsExtentUptoSaid : Prop := fnExactIsExtentUptoRow.holds Try.pinned (OpenSpec.upto fnExactIsExtentSpec)

/-- 'laws.FnExactCountExtents', WHERE WHAT IT READS IS OF BULK AT MOST 1048576: true; the input reads as it did. -/
def fnExactCountExtentsUptoRow : OpenClaim := { program := "ytmdmnjjlpefigaa", sum := "8e9e6a53ced60e957188803519b42aebb641df9eee20141eadc2ceaac0b3cf03", func := "loop.example/g00894/laws.FnExactCountExtents", spec := "fnExactCountExtents", recurses := true, apart := false, narrowed := true }
def FnExactCountExtentsUptoSaid : Prop := fnExactCountExtentsUptoRow.holds Try.pinned (OpenSpec.upto fnExactCountExtentsSpec)

/-- 'laws.FnExactFindExtent', WHERE WHAT IT READS IS OF BULK AT MOST 1048576: true; the input reads as it did. -/
def fnExactFindExtentUptoRow : OpenClaim := { program := "ytmdmnjjlpefigaa", sum := "8e9e6a53ced60e957188803519b42aebb641df9eee20141eadc2ceaac0b3cf03", func := "loop.example/g00894/laws.FnExactFindExtent", spec := "fnExactFindExtent", recurses := true, apart := false, narrowed := true }
def FnExactFindExtentUptoSaid : Prop := fnExactFindExtentUptoRow.holds Try.pinned (OpenSpec.upto fnExactFindExtentSpec)

/-- 'laws.FnExactReachBy', WHERE WHAT IT READS IS OF BULK AT MOST 1048576: true; the input reads as it did. -/
def fnExactReachByUptoRow : OpenClaim := { program := "ytmdmnjjlpefigaa", sum := "8e9e6a53ced60e957188803519b42aebb641df9eee20141eadc2ceaac0b3cf03", func := "loop.example/g00894/laws.FnExactReachBy", spec := "fnExactReachBy", recurses := true, apart := false, narrowed := true }
def FnExactReachByUptoSaid : Prop := fnExactReachByUptoRow.holds Try.pinned (OpenSpec.upto fnExactReachBySpec)

/-- 'laws.FnExactTouchSign', WHERE WHAT IT READS IS OF BULK AT MOST 1048576: true; the input reads as it did. -/
def fnExactTouchSignUptoRow : OpenClaim := { program := "ytmdmnjjlpefigaa", sum := "8e9e6a53ced60e957188803519b42aebb641df9eee20141eadc2ceaac0b3cf03", func := "loop.example/g00894/laws.FnExactTouchSign", spec := "fnExactTouchSign", apart := false, narrowed := true }
def FnExactTouchSignUptoSaid : Prop := fnExactTouchSignUptoRow.holds Try.pinned (OpenSpec.upto fnExactTouchSignSpec)

/-- 'laws.FnExactLeadSigns', WHERE WHAT IT READS IS OF BULK AT MOST 1048576: true; the input reads as it did. -/
def fnExactLeadSignsUptoRow : OpenClaim := { program := "ytmdmnjjlpefigaa", sum := "8e9e6a53ced60e957188803519b42aebb641df9eee20141eadc2ceaac0b3cf03", func := "loop.example/g00894/laws.FnExactLeadSigns", spec := "fnExactLeadSigns", apart := false, narrowed := true }
def FnExactLeadSignsUptoSaid : Prop := fnExactLeadSignsUptoRow.holds Try.pinned (OpenSpec.upto fnExactLeadSignsSpec)

/-- 'laws.FnExactCheckFault', WHERE WHAT IT READS IS OF BULK AT MOST 1048576: true; the input reads as it did. -/
def fnExactCheckFaultUptoRow : OpenClaim := { program := "ytmdmnjjlpefigaa", sum := "8e9e6a53ced60e957188803519b42aebb641df9eee20141eadc2ceaac0b3cf03", func := "loop.example/g00894/laws.FnExactCheckFault", spec := "fnExactCheckFault", apart := false, narrowed := true }
def FnExactCheckFaultUptoSaid : Prop := fnExactCheckFaultUptoRow.holds Try.pinned (OpenSpec.upto fnExactCheckFaultSpec)

/-- 'laws.FnExactMakeFault', WHERE WHAT IT READS IS OF BULK AT MOST 1048576: true; the input reads as it did. -/
def fnExactMakeFaultUptoRow : OpenClaim := { program := "ytmdmnjjlpefigaa", sum := "8e9e6a53ced60e957188803519b42aebb641df9eee20141eadc2ceaac0b3cf03", func := "loop.example/g00894/laws.FnExactMakeFault", spec := "fnExactMakeFault", apart := false, narrowed := true }
def FnExactMakeFaultUptoSaid : Prop := fnExactMakeFaultUptoRow.holds Try.pinned (OpenSpec.upto fnExactMakeFaultSpec)

/-- 'laws.FnExactCheckProof', WHERE WHAT IT READS IS OF BULK AT MOST 1048576: true; the input reads as it did. -/
def fnExactCheckProofUptoRow : OpenClaim := { program := "ytmdmnjjlpefigaa", sum := "8e9e6a53ced60e957188803519b42aebb641df9eee20141eadc2ceaac0b3cf03", func := "loop.example/g00894/laws.FnExactCheckProof", spec := "fnExactCheckProof", apart := false, narrowed := true }
def FnExactCheckProofUptoSaid : Prop := fnExactCheckProofUptoRow.holds Try.pinned (OpenSpec.upto fnExactCheckProofSpec)

/-- 'laws.FnExactFirstLie', WHERE WHAT IT READS IS OF BULK AT MOST 1048576: true; the input reads as it did. -/
def fnExactFirstLieUptoRow : OpenClaim := { program := "ytmdmnjjlpefigaa", sum := "8e9e6a53ced60e957188803519b42aebb641df9eee20141eadc2ceaac0b3cf03", func := "loop.example/g00894/laws.FnExactFirstLie", spec := "fnExactFirstLie", apart := false, narrowed := true }
def FnExactFirstLieUptoSaid : Prop := fnExactFirstLieUptoRow.holds Try.pinned (OpenSpec.upto fnExactFirstLieSpec)

/-- 'laws.FnExactNextHead', WHERE WHAT IT READS IS OF BULK AT MOST 1048576: true; the input reads as it did. -/
def fnExactNextHeadUptoRow : OpenClaim := { program := "ytmdmnjjlpefigaa", sum := "8e9e6a53ced60e957188803519b42aebb641df9eee20141eadc2ceaac0b3cf03", func := "loop.example/g00894/laws.FnExactNextHead", spec := "fnExactNextHead", recurses := true, apart := false, narrowed := true }
def FnExactNextHeadUptoSaid : Prop := fnExactNextHeadUptoRow.holds Try.pinned (OpenSpec.upto fnExactNextHeadSpec)

end Rows
end Go.Proofs.Ytmdmnjjlpefigaa
