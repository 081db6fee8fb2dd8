/-
  No cell of these rows narrows 'for every input' (looked for: loops, veiled, ifaces, maps, wideKeys, modest, calm, conditions, laid).
  DERIVED. THE GIVEN ROWS OF THIS SEAT. 12 by the template 'for every input the law returns true; each argument reads behind the call as it read before'; 0 by the template 'total and deterministic' (their statements: YtcpfcgcdahhnjaaTotals.lean).
  GIVEN WITH THE SEED: the statements are not yours to turn. If you find one false, say at which input.
  Laid BY PROGRAM, IN A SANDBOX (cutbox-rows.mjs): the forced cells as the released guide's own fill.sh prints them over the translation 74ba33ba6af72e01… (all of the seat's roots in one cut). By AI agents, Wed Nov 11 2026. No macro, syntax, notation, axiom, sorry.
-/
import Derived.Test.YtcpfcgcdahhnjaaChecked
import GoSem.Claim
import GoSem.ClaimJoined
import GoSem.ClaimMapViews
import Derived.JoinedTies
import Derived.KernelRfl
namespace Go.Proofs.Ytcpfcgcdahhnjaa
/- THE CELL 'sum', in the pinned program and in every row, IS THE sha256 OF THE DUMP (.gsa) THAT YtcpfcgcdahhnjaaProg.lean LOADS. Nothing in Lean hashes anything: it is a label: what it is worth is what the hold of that sum in a sandbox is worth. -/
noncomputable def Try.pinned : Pinned := { name := "ytcpfcgcdahhnjaa", sum := "74ba33ba6af72e01d9163b831c9204a3899ff8da0e9d589703dc5f7e6c7e019a", checked := Try.checked }
namespace Rows
def none {H : Type} : Left H := { results := [], args := [] }

/-- 'laws.FnExactErrorsOf': WHATEVER THE INPUT: true; the input reads as it did. -/
def fnExactErrorsOfSpec : ChangeSpec := { name := "fnExactErrorsOf", fn := fun _ => fun
  | [d1, d2, d3] => { results := [.lit (.bool true)], args := [d1, d2, d3] }
  | _ => none }
def fnExactErrorsOfRow : OpenClaim := { program := "ytcpfcgcdahhnjaa", sum := "74ba33ba6af72e01d9163b831c9204a3899ff8da0e9d589703dc5f7e6c7e019a", func := "loop.example/g00894/laws.FnExactErrorsOf", spec := "fnExactErrorsOf", plainKeys := false, apart := false }
def FnExactErrorsOfSaid : Prop := fnExactErrorsOfRow.holds Try.pinned (OpenSpec.ofChange fnExactErrorsOfSpec)

/-- ITS FALSE NEIGHBOUR: 'it returns false'. Refute it at one input. -/
def fnExactErrorsOfWrong : ChangeSpec := { name := "fnExactErrorsOf", fn := fun _ => fun
  | [d1, d2, d3] => { results := [.lit (.bool false)], args := [d1, d2, d3] }
  | _ => none }
def FnExactErrorsOfWrongFalsely : Prop := fnExactErrorsOfRow.holds Try.pinned (OpenSpec.ofChange fnExactErrorsOfWrong)

/-- 'laws.FnExactGoodBlows': WHATEVER THE INPUT: true; the input reads as it did. -/
def fnExactGoodBlowsSpec : ChangeSpec := { name := "fnExactGoodBlows", fn := fun _ => fun
  | [d1, d2] => { results := [.lit (.bool true)], args := [d1, d2] }
  | _ => none }
def fnExactGoodBlowsRow : OpenClaim := { program := "ytcpfcgcdahhnjaa", sum := "74ba33ba6af72e01d9163b831c9204a3899ff8da0e9d589703dc5f7e6c7e019a", func := "loop.example/g00894/laws.FnExactGoodBlows", spec := "fnExactGoodBlows", plainKeys := false, apart := false }
def FnExactGoodBlowsSaid : Prop := fnExactGoodBlowsRow.holds Try.pinned (OpenSpec.ofChange fnExactGoodBlowsSpec)

/-- ITS FALSE NEIGHBOUR: 'it returns false'. Refute it at one input. -/
def fnExactGoodBlowsWrong : ChangeSpec := { name := "fnExactGoodBlows", fn := fun _ => fun
  | [d1, d2] => { results := [.lit (.bool false)], args := [d1, d2] }
  | _ => none }
def FnExactGoodBlowsWrongFalsely : Prop := fnExactGoodBlowsRow.holds Try.pinned (OpenSpec.ofChange fnExactGoodBlowsWrong)

/-- 'laws.FnExactPricesOf': WHATEVER THE INPUT: true; the input reads as it did. -/
def fnExactPricesOfSpec : ChangeSpec := { name := "fnExactPricesOf", fn := fun _ => fun
  | [d1, d2, d3] => { results := [.lit (.bool true)], args := [d1, d2, d3] }
  | _ => none }
def fnExactPricesOfRow : OpenClaim := { program := "ytcpfcgcdahhnjaa", sum := "74ba33ba6af72e01d9163b831c9204a3899ff8da0e9d589703dc5f7e6c7e019a", func := "loop.example/g00894/laws.FnExactPricesOf", spec := "fnExactPricesOf", plainKeys := false, apart := false }
def FnExactPricesOfSaid : Prop := fnExactPricesOfRow.holds Try.pinned (OpenSpec.ofChange fnExactPricesOfSpec)

/-- ITS FALSE NEIGHBOUR: 'it returns false'. Refute it at one input. -/
def fnExactPricesOfWrong : ChangeSpec := { name := "fnExactPricesOf", fn := fun _ => fun
  | [d1, d2, d3] => { results := [.lit (.bool false)], args := [d1, d2, d3] }
  | _ => none }
def FnExactPricesOfWrongFalsely : Prop := fnExactPricesOfRow.holds Try.pinned (OpenSpec.ofChange fnExactPricesOfWrong)

/-- 'laws.FnExactBestMatch': WHATEVER THE INPUT: true; the input reads as it did. -/
def fnExactBestMatchSpec : ChangeSpec := { name := "fnExactBestMatch", fn := fun _ => fun
  | [d1, d2, d3] => { results := [.lit (.bool true)], args := [d1, d2, d3] }
  | _ => none }
def fnExactBestMatchRow : OpenClaim := { program := "ytcpfcgcdahhnjaa", sum := "74ba33ba6af72e01d9163b831c9204a3899ff8da0e9d589703dc5f7e6c7e019a", func := "loop.example/g00894/laws.FnExactBestMatch", spec := "fnExactBestMatch", plainKeys := false, apart := false }
def FnExactBestMatchSaid : Prop := fnExactBestMatchRow.holds Try.pinned (OpenSpec.ofChange fnExactBestMatchSpec)

/-- ITS FALSE NEIGHBOUR: 'it returns false'. Refute it at one input. -/
def fnExactBestMatchWrong : ChangeSpec := { name := "fnExactBestMatch", fn := fun _ => fun
  | [d1, d2, d3] => { results := [.lit (.bool false)], args := [d1, d2, d3] }
  | _ => none }
def FnExactBestMatchWrongFalsely : Prop := fnExactBestMatchRow.holds Try.pinned (OpenSpec.ofChange fnExactBestMatchWrong)

/-- 'laws.FnExactCheckPrices': WHATEVER THE INPUT: true; the input reads as it did. -/
def fnExactCheckPricesSpec : ChangeSpec := { name := "fnExactCheckPrices", fn := fun _ => fun
  | [d1, d2, d3, d4, d5] => { results := [.lit (.bool true)], args := [d1, d2, d3, d4, d5] }
  | _ => none }
def fnExactCheckPricesRow : OpenClaim := { program := "ytcpfcgcdahhnjaa", sum := "74ba33ba6af72e01d9163b831c9204a3899ff8da0e9d589703dc5f7e6c7e019a", func := "loop.example/g00894/laws.FnExactCheckPrices", spec := "fnExactCheckPrices", plainKeys := false, apart := false }
def FnExactCheckPricesSaid : Prop := fnExactCheckPricesRow.holds Try.pinned (OpenSpec.ofChange fnExactCheckPricesSpec)

/-- ITS FALSE NEIGHBOUR: 'it returns false'. Refute it at one input. -/
def fnExactCheckPricesWrong : ChangeSpec := { name := "fnExactCheckPrices", fn := fun _ => fun
  | [d1, d2, d3, d4, d5] => { results := [.lit (.bool false)], args := [d1, d2, d3, d4, d5] }
  | _ => none }
def FnExactCheckPricesWrongFalsely : Prop := fnExactCheckPricesRow.holds Try.pinned (OpenSpec.ofChange fnExactCheckPricesWrong)

/-- 'laws.FnExactIdealStrikes': WHATEVER THE INPUT: true; the input reads as it did. -/
def fnExactIdealStrikesSpec : ChangeSpec := { name := "fnExactIdealStrikes", fn := fun _ => fun
  | [d1, d2] => { results := [.lit (.bool true)], args := [d1, d2] }
  | _ => none }
def fnExactIdealStrikesRow : OpenClaim := { program := "ytcpfcgcdahhnjaa", sum := "74ba33ba6af72e01d9163b831c9204a3899ff8da0e9d589703dc5f7e6c7e019a", func := "loop.example/g00894/laws.FnExactIdealStrikes", spec := "fnExactIdealStrikes", plainKeys := false, apart := false }
def FnExactIdealStrikesSaid : Prop := fnExactIdealStrikesRow.holds Try.pinned (OpenSpec.ofChange fnExactIdealStrikesSpec)

/-- ITS FALSE NEIGHBOUR: 'it returns false'. Refute it at one input. -/
def fnExactIdealStrikesWrong : ChangeSpec := { name := "fnExactIdealStrikes", fn := fun _ => fun
  | [d1, d2] => { results := [.lit (.bool false)], args := [d1, d2] }
  | _ => none }
def FnExactIdealStrikesWrongFalsely : Prop := fnExactIdealStrikesRow.holds Try.pinned (OpenSpec.ofChange fnExactIdealStrikesWrong)

/-- 'laws.FnExactMergeStrikes': WHATEVER THE INPUT: true; the input reads as it did. -/
def fnExactMergeStrikesSpec : ChangeSpec := { name := "fnExactMergeStrikes", fn := fun _ => fun
  | [d1, d2] => { results := [.lit (.bool true)], args := [d1, d2] }
  | _ => none }
def fnExactMergeStrikesRow : OpenClaim := { program := "ytcpfcgcdahhnjaa", sum := "74ba33ba6af72e01d9163b831c9204a3899ff8da0e9d589703dc5f7e6c7e019a", func := "loop.example/g00894/laws.FnExactMergeStrikes", spec := "fnExactMergeStrikes", unfollowed := true, recurses := true, plainKeys := false, apart := false }
def FnExactMergeStrikesSaid : Prop := fnExactMergeStrikesRow.holds Try.pinned (OpenSpec.ofChange fnExactMergeStrikesSpec)

/-- ITS FALSE NEIGHBOUR: 'it returns false'. Refute it at one input. -/
def fnExactMergeStrikesWrong : ChangeSpec := { name := "fnExactMergeStrikes", fn := fun _ => fun
  | [d1, d2] => { results := [.lit (.bool false)], args := [d1, d2] }
  | _ => none }
def FnExactMergeStrikesWrongFalsely : Prop := fnExactMergeStrikesRow.holds Try.pinned (OpenSpec.ofChange fnExactMergeStrikesWrong)

/-- 'laws.FnExactMatchBell': WHATEVER THE INPUT: true; the input reads as it did. -/
def fnExactMatchBellSpec : ChangeSpec := { name := "fnExactMatchBell", fn := fun _ => fun
  | [d1, d2, d3, d4, d5] => { results := [.lit (.bool true)], args := [d1, d2, d3, d4, d5] }
  | _ => none }
def fnExactMatchBellRow : OpenClaim := { program := "ytcpfcgcdahhnjaa", sum := "74ba33ba6af72e01d9163b831c9204a3899ff8da0e9d589703dc5f7e6c7e019a", func := "loop.example/g00894/laws.FnExactMatchBell", spec := "fnExactMatchBell", plainKeys := false, apart := false }
def FnExactMatchBellSaid : Prop := fnExactMatchBellRow.holds Try.pinned (OpenSpec.ofChange fnExactMatchBellSpec)

/-- ITS FALSE NEIGHBOUR: 'it returns false'. Refute it at one input. -/
def fnExactMatchBellWrong : ChangeSpec := { name := "fnExactMatchBell", fn := fun _ => fun
  | [d1, d2, d3, d4, d5] => { results := [.lit (.bool false)], args := [d1, d2, d3, d4, d5] }
  | _ => none }
def FnExactMatchBellWrongFalsely : Prop := fnExactMatchBellRow.holds Try.pinned (OpenSpec.ofChange fnExactMatchBellWrong)

/-- 'laws.FnExactSameProof': WHATEVER THE INPUT: true; the input reads as it did. -/
def fnExactSameProofSpec : ChangeSpec := { name := "fnExactSameProof", fn := fun _ => fun
  | [d1, d2] => { results := [.lit (.bool true)], args := [d1, d2] }
  | _ => none }
def fnExactSameProofRow : OpenClaim := { program := "ytcpfcgcdahhnjaa", sum := "74ba33ba6af72e01d9163b831c9204a3899ff8da0e9d589703dc5f7e6c7e019a", func := "loop.example/g00894/laws.FnExactSameProof", spec := "fnExactSameProof", plainKeys := false, apart := false }
def FnExactSameProofSaid : Prop := fnExactSameProofRow.holds Try.pinned (OpenSpec.ofChange fnExactSameProofSpec)

/-- ITS FALSE NEIGHBOUR: 'it returns false'. Refute it at one input. -/
def fnExactSameProofWrong : ChangeSpec := { name := "fnExactSameProof", fn := fun _ => fun
  | [d1, d2] => { results := [.lit (.bool false)], args := [d1, d2] }
  | _ => none }
def FnExactSameProofWrongFalsely : Prop := fnExactSameProofRow.holds Try.pinned (OpenSpec.ofChange fnExactSameProofWrong)

/-- 'laws.FnExactIsExtent': WHATEVER THE INPUT: true; the input reads as it did. -/
def fnExactIsExtentSpec : ChangeSpec := { name := "fnExactIsExtent", fn := fun _ => fun
  | [d] => { results := [.lit (.bool true)], args := [d] }
  | _ => none }
def fnExactIsExtentRow : OpenClaim := { program := "ytcpfcgcdahhnjaa", sum := "74ba33ba6af72e01d9163b831c9204a3899ff8da0e9d589703dc5f7e6c7e019a", func := "loop.example/g00894/laws.FnExactIsExtent", spec := "fnExactIsExtent", recurses := true, plainKeys := false, apart := false }
def FnExactIsExtentSaid : Prop := fnExactIsExtentRow.holds Try.pinned (OpenSpec.ofChange fnExactIsExtentSpec)

/-- ITS FALSE NEIGHBOUR: 'it returns false'. Refute it at one input. -/
def fnExactIsExtentWrong : ChangeSpec := { name := "fnExactIsExtent", fn := fun _ => fun
  | [d] => { results := [.lit (.bool false)], args := [d] }
  | _ => none }
def FnExactIsExtentWrongFalsely : Prop := fnExactIsExtentRow.holds Try.pinned (OpenSpec.ofChange fnExactIsExtentWrong)

/-- 'laws.FnExactCountExtents': WHATEVER THE INPUT: true; the input reads as it did. -/
def fnExactCountExtentsSpec : ChangeSpec := { name := "fnExactCountExtents", fn := fun _ => fun
  | [d1, d2] => { results := [.lit (.bool true)], args := [d1, d2] }
  | _ => none }
def fnExactCountExtentsRow : OpenClaim := { program := "ytcpfcgcdahhnjaa", sum := "74ba33ba6af72e01d9163b831c9204a3899ff8da0e9d589703dc5f7e6c7e019a", func := "loop.example/g00894/laws.FnExactCountExtents", spec := "fnExactCountExtents", recurses := true, plainKeys := false, apart := false }
def FnExactCountExtentsSaid : Prop := fnExactCountExtentsRow.holds Try.pinned (OpenSpec.ofChange fnExactCountExtentsSpec)

/-- ITS FALSE NEIGHBOUR: 'it returns false'. Refute it at one input. -/
def fnExactCountExtentsWrong : ChangeSpec := { name := "fnExactCountExtents", fn := fun _ => fun
  | [d1, d2] => { results := [.lit (.bool false)], args := [d1, d2] }
  | _ => none }
def FnExactCountExtentsWrongFalsely : Prop := fnExactCountExtentsRow.holds Try.pinned (OpenSpec.ofChange fnExactCountExtentsWrong)

/-- 'laws.FnExactFindExtent': WHATEVER THE INPUT: true; the input reads as it did. -/
def fnExactFindExtentSpec : ChangeSpec := { name := "fnExactFindExtent", fn := fun _ => fun
  | [d1, d2, d3] => { results := [.lit (.bool true)], args := [d1, d2, d3] }
  | _ => none }
def fnExactFindExtentRow : OpenClaim := { program := "ytcpfcgcdahhnjaa", sum := "74ba33ba6af72e01d9163b831c9204a3899ff8da0e9d589703dc5f7e6c7e019a", func := "loop.example/g00894/laws.FnExactFindExtent", spec := "fnExactFindExtent", recurses := true, plainKeys := false, apart := false }
def FnExactFindExtentSaid : Prop := fnExactFindExtentRow.holds Try.pinned (OpenSpec.ofChange fnExactFindExtentSpec)

/-- ITS FALSE NEIGHBOUR: 'it returns false'. Refute it at one input. -/
def fnExactFindExtentWrong : ChangeSpec := { name := "fnExactFindExtent", fn := fun _ => fun
  | [d1, d2, d3] => { results := [.lit (.bool false)], args := [d1, d2, d3] }
  | _ => none }
def FnExactFindExtentWrongFalsely : Prop := fnExactFindExtentRow.holds Try.pinned (OpenSpec.ofChange fnExactFindExtentWrong)

/- THE SECOND FORM. 'bulk': how many values and letters a reading holds, each counted each time it is reached (what is shared counts as often as it is met; a slice's spare places count too). A statement '..UptoSaid' is the law's where the arguments, and the package variables that the reading takes, are together of bulk at most 1048576: NARROWER than '..Said'. Prove '..Said' where nothing that the law and all that it calls make is longer than what came in: it says more and counts as full. Else prove '..UptoSaid'. A law counts once. -/
mutual
def uptoBulk {H : Type} : DataW H → Nat
  | .lit (.string bytes) => bytes.length + 1
  | .lit _ => 1
  | .nil => 1
  | .ptr d => uptoBulk d + 1
  | .slice elems spare => uptoBulkAll elems + uptoBulkAll spare + 1
  | .agg parts => uptoBulkAll parts + 1
  | .iface _ d => uptoBulk d + 1
  | .map entries => uptoBulkEntries entries + 1
  | .held _ => 1
def uptoBulkAll {H : Type} : List (DataW H) → Nat
  | [] => 0
  | d :: r => uptoBulk d + uptoBulkAll r
def uptoBulkEntries {H : Type} : List (Lit × DataW H) → Nat
  | [] => 0
  | x :: r => uptoBulkEntry x + uptoBulkEntries r
def uptoBulkEntry {H : Type} : Lit × DataW H → Nat
  | (.string bytes, d) => bytes.length + uptoBulk d + 1
  | (_, d) => uptoBulk d + 1
 end
def uptoSmall : (H : Type) → List (DataW H) → Bool := fun _ ds => decide (uptoBulkAll ds ≤ 1048576)
def OpenSpec.upto (s : _root_.Go.ChangeSpec) : _root_.Go.OpenSpec := { _root_.Go.OpenSpec.ofChange s with cond := some uptoSmall }

/-- 'laws.FnExactErrorsOf', WHERE WHAT IT READS IS OF BULK AT MOST 1048576: true; the input reads as it did. -/
def fnExactErrorsOfUptoRow : OpenClaim := { program := "ytcpfcgcdahhnjaa", sum := "74ba33ba6af72e01d9163b831c9204a3899ff8da0e9d589703dc5f7e6c7e019a", func := "loop.example/g00894/laws.FnExactErrorsOf", spec := "fnExactErrorsOf", plainKeys := false, apart := false, narrowed := true }
def FnExactErrorsOfUptoSaid : Prop := fnExactErrorsOfUptoRow.holds Try.pinned (OpenSpec.upto fnExactErrorsOfSpec)

/-- 'laws.FnExactGoodBlows', WHERE WHAT IT READS IS OF BULK AT MOST 1048576: true; the input reads as it did. -/
def fnExactGoodBlowsUptoRow : OpenClaim := { program := "ytcpfcgcdahhnjaa", sum := "74ba33ba6af72e01d9163b831c9204a3899ff8da0e9d589703dc5f7e6c7e019a", func := "loop.example/g00894/laws.FnExactGoodBlows", spec := "fnExactGoodBlows", plainKeys := false, apart := false, narrowed := true }
def FnExactGoodBlowsUptoSaid : Prop := fnExactGoodBlowsUptoRow.holds Try.pinned (OpenSpec.upto fnExactGoodBlowsSpec)

/-- 'laws.FnExactPricesOf', WHERE WHAT IT READS IS OF BULK AT MOST 1048576: true; the input reads as it did. -/
def fnExactPricesOfUptoRow : OpenClaim := { program := "ytcpfcgcdahhnjaa", sum := "74ba33ba6af72e01d9163b831c9204a3899ff8da0e9d589703dc5f7e6c7e019a", func := "loop.example/g00894/laws.FnExactPricesOf", spec := "fnExactPricesOf", plainKeys := false, apart := false, narrowed := true }
def FnExactPricesOfUptoSaid : Prop := fnExactPricesOfUptoRow.holds Try.pinned (OpenSpec.upto fnExactPricesOfSpec)

/-- 'laws.FnExactBestMatch', WHERE WHAT IT READS IS OF BULK AT MOST 1048576: true; the input reads as it did. -/
def fnExactBestMatchUptoRow : OpenClaim := { program := "ytcpfcgcdahhnjaa", sum := "74ba33ba6af72e01d9163b831c9204a3899ff8da0e9d589703dc5f7e6c7e019a", func := "loop.example/g00894/laws.FnExactBestMatch", spec := "fnExactBestMatch", plainKeys := false, apart := false, narrowed := true }
def FnExactBestMatchUptoSaid : Prop := fnExactBestMatchUptoRow.holds Try.pinned (OpenSpec.upto fnExactBestMatchSpec)

/-- 'laws.FnExactCheckPrices', WHERE WHAT IT READS IS OF BULK AT MOST 1048576: true; the input reads as it did. -/
def fnExactCheckPricesUptoRow : OpenClaim := { program := "ytcpfcgcdahhnjaa", sum := "74ba33ba6af72e01d9163b831c9204a3899ff8da0e9d589703dc5f7e6c7e019a", func := "loop.example/g00894/laws.FnExactCheckPrices", spec := "fnExactCheckPrices", plainKeys := false, apart := false, narrowed := true }
def FnExactCheckPricesUptoSaid : Prop := fnExactCheckPricesUptoRow.holds Try.pinned (OpenSpec.upto fnExactCheckPricesSpec)

/-- 'laws.FnExactIdealStrikes', WHERE WHAT IT READS IS OF BULK AT MOST 1048576: true; the input reads as it did. -/
def fnExactIdealStrikesUptoRow : OpenClaim := { program := "ytcpfcgcdahhnjaa", sum := "74ba33ba6af72e01d9163b831c9204a3899ff8da0e9d589703dc5f7e6c7e019a", func := "loop.example/g00894/laws.FnExactIdealStrikes", spec := "fnExactIdealStrikes", plainKeys := false, apart := false, narrowed := true }
def FnExactIdealStrikesUptoSaid : Prop := fnExactIdealStrikesUptoRow.holds Try.pinned (OpenSpec.upto fnExactIdealStrikesSpec)

/-- 'laws.FnExactMergeStrikes', WHERE WHAT IT READS IS OF BULK AT MOST 1048576: true; the input reads as it did. -/
def fnExactMergeStrikesUptoRow : OpenClaim := { program := "ytcpfcgcdahhnjaa", sum := "74ba33ba6af72e01d9163b831c9204a3899ff8da0e9d589703dc5f7e6c7e019a", func := "loop.example/g00894/laws.FnExactMergeStrikes", spec := "fnExactMergeStrikes", unfollowed := true, recurses := true, plainKeys := false, apart := false, narrowed := true }
def FnExactMergeStrikesUptoSaid : Prop := fnExactMergeStrikesUptoRow.holds Try.pinned (OpenSpec.upto fnExactMergeStrikesSpec)

/-- 'laws.FnExactMatchBell', WHERE WHAT IT READS IS OF BULK AT MOST 1048576: true; the input reads as it did. -/
def fnExactMatchBellUptoRow : OpenClaim := { program := "ytcpfcgcdahhnjaa", sum := "74ba33ba6af72e01d9163b831c9204a3899ff8da0e9d589703dc5f7e6c7e019a", func := "loop.example/g00894/laws.FnExactMatchBell", spec := "fnExactMatchBell", plainKeys := false, apart := false, narrowed := true }
def FnExactMatchBellUptoSaid : Prop := fnExactMatchBellUptoRow.holds Try.pinned (OpenSpec.upto fnExactMatchBellSpec)

/-- 'laws.FnExactSameProof', WHERE WHAT IT READS IS OF BULK AT MOST 1048576: true; the input reads as it did. -/
def fnExactSameProofUptoRow : OpenClaim := { program := "ytcpfcgcdahhnjaa", sum := "74ba33ba6af72e01d9163b831c9204a3899ff8da0e9d589703dc5f7e6c7e019a", func := "loop.example/g00894/laws.FnExactSameProof", spec := "fnExactSameProof", plainKeys := false, apart := false, narrowed := true }
def FnExactSameProofUptoSaid : Prop := fnExactSameProofUptoRow.holds Try.pinned (OpenSpec.upto fnExactSameProofSpec)

/-- 'laws.FnExactIsExtent', WHERE WHAT IT READS IS OF BULK AT MOST 1048576: true; the input reads as it did. -/
def fnExactIsExtentUptoRow : OpenClaim := { program := "ytcpfcgcdahhnjaa", sum := "74ba33ba6af72e01d9163b831c9204a3899ff8da0e9d589703dc5f7e6c7e019a", func := "loop.example/g00894/laws.FnExactIsExtent", spec := "fnExactIsExtent", recurses := true, plainKeys := false, apart := false, narrowed := true }
def FnExactIsExtentUptoSaid : Prop := fnExactIsExtentUptoRow.holds Try.pinned (OpenSpec.upto fnExactIsExtentSpec)

/-- 'laws.FnExactCountExtents', WHERE WHAT IT READS IS OF BULK AT MOST 1048576: true; the input reads as it did. -/
def fnExactCountExtentsUptoRow : OpenClaim := { program := "ytcpfcgcdahhnjaa", sum := "74ba33ba6af72e01d9163b831c9204a3899ff8da0e9d589703dc5f7e6c7e019a", func := "loop.example/g00894/laws.FnExactCountExtents", spec := "fnExactCountExtents", recurses := true, plainKeys := false, apart := false, narrowed := true }
def FnExactCountExtentsUptoSaid : Prop := fnExactCountExtentsUptoRow.holds Try.pinned (OpenSpec.upto fnExactCountExtentsSpec)

/-- 'laws.FnExactFindExtent', WHERE WHAT IT READS IS OF BULK AT MOST 1048576: true; the input reads as it did. -/
def fnExactFindExtentUptoRow : OpenClaim := { program := "ytcpfcgcdahhnjaa", sum := "74ba33ba6af72e01d9163b831c9204a3899ff8da0e9d589703dc5f7e6c7e019a", func := "loop.example/g00894/laws.FnExactFindExtent", spec := "fnExactFindExtent", recurses := true, plainKeys := false, apart := false, narrowed := true }
def FnExactFindExtentUptoSaid : Prop := fnExactFindExtentUptoRow.holds Try.pinned (OpenSpec.upto fnExactFindExtentSpec)

end Rows
end Go.Proofs.Ytcpfcgcdahhnjaa
