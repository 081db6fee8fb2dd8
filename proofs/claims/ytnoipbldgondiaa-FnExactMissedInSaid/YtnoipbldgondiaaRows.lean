/-
  No cell of these rows narrows 'for every input' (looked for: loops, veiled, ifaces, maps, wideKeys, modest, calm, conditions, laid).
  DERIVED. THE GIVEN ROWS OF THIS SEAT. 12 by the template 'for every input the law returns true; each argument reads behind the call as it read before'; 0 by the template 'total and deterministic' (their statements: YtnoipbldgondiaaTotals.lean).
  GIVEN WITH THE SEED: the statements are not yours to turn. If you find one false, say at which input.
  Laid BY PROGRAM, IN A SANDBOX (cutbox-rows.mjs): the forced cells as the released guide's own fill.sh prints them over the translation f2f0cea5290c80db… (all of the seat's roots in one cut). By AI agents, Wed Nov 11 2026. No macro, syntax, notation, axiom, sorry.
-/
import Derived.Test.YtnoipbldgondiaaChecked
import GoSem.Claim
import GoSem.ClaimJoined
import GoSem.ClaimMapViews
import Derived.JoinedTies
import Derived.KernelRfl
namespace Go.Proofs.Ytnoipbldgondiaa
/- THE CELL 'sum', in the pinned program and in every row, IS THE sha256 OF THE DUMP (.gsa) THAT YtnoipbldgondiaaProg.lean LOADS. Nothing in Lean hashes anything: it is a label: what it is worth is what the hold of that sum in a sandbox is worth. -/
noncomputable def Try.pinned : Pinned := { name := "ytnoipbldgondiaa", sum := "f2f0cea5290c80db254aacf0eccfa370223fc2d6f3410dfff98850e963f04093", checked := Try.checked }
namespace Rows
def none {H : Type} : Left H := { results := [], args := [] }

/-- 'laws.FnExactShiftStrikes': WHATEVER THE INPUT: true; the input reads as it did. -/
def fnExactShiftStrikesSpec : ChangeSpec := { name := "fnExactShiftStrikes", fn := fun _ => fun
  | [d1, d2] => { results := [.lit (.bool true)], args := [d1, d2] }
  | _ => none }
def fnExactShiftStrikesRow : OpenClaim := { program := "ytnoipbldgondiaa", sum := "f2f0cea5290c80db254aacf0eccfa370223fc2d6f3410dfff98850e963f04093", func := "loop.example/g00894/laws.FnExactShiftStrikes", spec := "fnExactShiftStrikes", plainKeys := false, apart := false }
def FnExactShiftStrikesSaid : Prop := fnExactShiftStrikesRow.holds Try.pinned (OpenSpec.ofChange fnExactShiftStrikesSpec)

/-- ITS FALSE NEIGHBOUR: 'it returns false'. Refute it at one input. -/
def fnExactShiftStrikesWrong : ChangeSpec := { name := "fnExactShiftStrikes", fn := fun _ => fun
  | [d1, d2] => { results := [.lit (.bool false)], args := [d1, d2] }
  | _ => none }
def FnExactShiftStrikesWrongFalsely : Prop := fnExactShiftStrikesRow.holds Try.pinned (OpenSpec.ofChange fnExactShiftStrikesWrong)

/-- 'laws.FnExactMissedIn': WHATEVER THE INPUT: true; the input reads as it did. -/
def fnExactMissedInSpec : ChangeSpec := { name := "fnExactMissedIn", fn := fun _ => fun
  | [d] => { results := [.lit (.bool true)], args := [d] }
  | _ => none }
def fnExactMissedInRow : OpenClaim := { program := "ytnoipbldgondiaa", sum := "f2f0cea5290c80db254aacf0eccfa370223fc2d6f3410dfff98850e963f04093", func := "loop.example/g00894/laws.FnExactMissedIn", spec := "fnExactMissedIn", plainKeys := false, apart := false }
def FnExactMissedInSaid : Prop := fnExactMissedInRow.holds Try.pinned (OpenSpec.ofChange fnExactMissedInSpec)

/-- ITS FALSE NEIGHBOUR: 'it returns false'. Refute it at one input. -/
def fnExactMissedInWrong : ChangeSpec := { name := "fnExactMissedIn", fn := fun _ => fun
  | [d] => { results := [.lit (.bool false)], args := [d] }
  | _ => none }
def FnExactMissedInWrongFalsely : Prop := fnExactMissedInRow.holds Try.pinned (OpenSpec.ofChange fnExactMissedInWrong)

/-- 'laws.FnExactCostOf': WHATEVER THE INPUT: true; the input reads as it did. -/
def fnExactCostOfSpec : ChangeSpec := { name := "fnExactCostOf", fn := fun _ => fun
  | [d1, d2, d3, d4] => { results := [.lit (.bool true)], args := [d1, d2, d3, d4] }
  | _ => none }
def fnExactCostOfRow : OpenClaim := { program := "ytnoipbldgondiaa", sum := "f2f0cea5290c80db254aacf0eccfa370223fc2d6f3410dfff98850e963f04093", func := "loop.example/g00894/laws.FnExactCostOf", spec := "fnExactCostOf", plainKeys := false, apart := false }
def FnExactCostOfSaid : Prop := fnExactCostOfRow.holds Try.pinned (OpenSpec.ofChange fnExactCostOfSpec)

/-- ITS FALSE NEIGHBOUR: 'it returns false'. Refute it at one input. -/
def fnExactCostOfWrong : ChangeSpec := { name := "fnExactCostOf", fn := fun _ => fun
  | [d1, d2, d3, d4] => { results := [.lit (.bool false)], args := [d1, d2, d3, d4] }
  | _ => none }
def FnExactCostOfWrongFalsely : Prop := fnExactCostOfRow.holds Try.pinned (OpenSpec.ofChange fnExactCostOfWrong)

/-- 'laws.FnExactClippedIn': WHATEVER THE INPUT: true; the input reads as it did. -/
def fnExactClippedInSpec : ChangeSpec := { name := "fnExactClippedIn", fn := fun _ => fun
  | [d1, d2] => { results := [.lit (.bool true)], args := [d1, d2] }
  | _ => none }
def fnExactClippedInRow : OpenClaim := { program := "ytnoipbldgondiaa", sum := "f2f0cea5290c80db254aacf0eccfa370223fc2d6f3410dfff98850e963f04093", func := "loop.example/g00894/laws.FnExactClippedIn", spec := "fnExactClippedIn", plainKeys := false, apart := false }
def FnExactClippedInSaid : Prop := fnExactClippedInRow.holds Try.pinned (OpenSpec.ofChange fnExactClippedInSpec)

/-- ITS FALSE NEIGHBOUR: 'it returns false'. Refute it at one input. -/
def fnExactClippedInWrong : ChangeSpec := { name := "fnExactClippedIn", fn := fun _ => fun
  | [d1, d2] => { results := [.lit (.bool false)], args := [d1, d2] }
  | _ => none }
def FnExactClippedInWrongFalsely : Prop := fnExactClippedInRow.holds Try.pinned (OpenSpec.ofChange fnExactClippedInWrong)

/-- 'laws.FnExactExtraIn': WHATEVER THE INPUT: true; the input reads as it did. -/
def fnExactExtraInSpec : ChangeSpec := { name := "fnExactExtraIn", fn := fun _ => fun
  | [d1, d2] => { results := [.lit (.bool true)], args := [d1, d2] }
  | _ => none }
def fnExactExtraInRow : OpenClaim := { program := "ytnoipbldgondiaa", sum := "f2f0cea5290c80db254aacf0eccfa370223fc2d6f3410dfff98850e963f04093", func := "loop.example/g00894/laws.FnExactExtraIn", spec := "fnExactExtraIn", plainKeys := false, apart := false }
def FnExactExtraInSaid : Prop := fnExactExtraInRow.holds Try.pinned (OpenSpec.ofChange fnExactExtraInSpec)

/-- ITS FALSE NEIGHBOUR: 'it returns false'. Refute it at one input. -/
def fnExactExtraInWrong : ChangeSpec := { name := "fnExactExtraIn", fn := fun _ => fun
  | [d1, d2] => { results := [.lit (.bool false)], args := [d1, d2] }
  | _ => none }
def FnExactExtraInWrongFalsely : Prop := fnExactExtraInRow.holds Try.pinned (OpenSpec.ofChange fnExactExtraInWrong)

/-- 'laws.FnExactOfBell': WHATEVER THE INPUT: true; the input reads as it did. -/
def fnExactOfBellSpec : ChangeSpec := { name := "fnExactOfBell", fn := fun _ => fun
  | [d1, d2] => { results := [.lit (.bool true)], args := [d1, d2] }
  | _ => none }
def fnExactOfBellRow : OpenClaim := { program := "ytnoipbldgondiaa", sum := "f2f0cea5290c80db254aacf0eccfa370223fc2d6f3410dfff98850e963f04093", func := "loop.example/g00894/laws.FnExactOfBell", spec := "fnExactOfBell", plainKeys := false, apart := false }
def FnExactOfBellSaid : Prop := fnExactOfBellRow.holds Try.pinned (OpenSpec.ofChange fnExactOfBellSpec)

/-- ITS FALSE NEIGHBOUR: 'it returns false'. Refute it at one input. -/
def fnExactOfBellWrong : ChangeSpec := { name := "fnExactOfBell", fn := fun _ => fun
  | [d1, d2] => { results := [.lit (.bool false)], args := [d1, d2] }
  | _ => none }
def FnExactOfBellWrongFalsely : Prop := fnExactOfBellRow.holds Try.pinned (OpenSpec.ofChange fnExactOfBellWrong)

/-- 'laws.FnExactPricesOf': WHATEVER THE INPUT: true; the input reads as it did. -/
def fnExactPricesOfSpec : ChangeSpec := { name := "fnExactPricesOf", fn := fun _ => fun
  | [d1, d2, d3] => { results := [.lit (.bool true)], args := [d1, d2, d3] }
  | _ => none }
def fnExactPricesOfRow : OpenClaim := { program := "ytnoipbldgondiaa", sum := "f2f0cea5290c80db254aacf0eccfa370223fc2d6f3410dfff98850e963f04093", func := "loop.example/g00894/laws.FnExactPricesOf", spec := "fnExactPricesOf", plainKeys := false, apart := false }
def FnExactPricesOfSaid : Prop := fnExactPricesOfRow.holds Try.pinned (OpenSpec.ofChange fnExactPricesOfSpec)

/-- ITS FALSE NEIGHBOUR: 'it returns false'. Refute it at one input. -/
def fnExactPricesOfWrong : ChangeSpec := { name := "fnExactPricesOf", fn := fun _ => fun
  | [d1, d2, d3] => { results := [.lit (.bool false)], args := [d1, d2, d3] }
  | _ => none }
def FnExactPricesOfWrongFalsely : Prop := fnExactPricesOfRow.holds Try.pinned (OpenSpec.ofChange fnExactPricesOfWrong)

/-- 'laws.FnExactBestMatch': WHATEVER THE INPUT: true; the input reads as it did. -/
def fnExactBestMatchSpec : ChangeSpec := { name := "fnExactBestMatch", fn := fun _ => fun
  | [d1, d2, d3] => { results := [.lit (.bool true)], args := [d1, d2, d3] }
  | _ => none }
def fnExactBestMatchRow : OpenClaim := { program := "ytnoipbldgondiaa", sum := "f2f0cea5290c80db254aacf0eccfa370223fc2d6f3410dfff98850e963f04093", func := "loop.example/g00894/laws.FnExactBestMatch", spec := "fnExactBestMatch", plainKeys := false, apart := false }
def FnExactBestMatchSaid : Prop := fnExactBestMatchRow.holds Try.pinned (OpenSpec.ofChange fnExactBestMatchSpec)

/-- ITS FALSE NEIGHBOUR: 'it returns false'. Refute it at one input. -/
def fnExactBestMatchWrong : ChangeSpec := { name := "fnExactBestMatch", fn := fun _ => fun
  | [d1, d2, d3] => { results := [.lit (.bool false)], args := [d1, d2, d3] }
  | _ => none }
def FnExactBestMatchWrongFalsely : Prop := fnExactBestMatchRow.holds Try.pinned (OpenSpec.ofChange fnExactBestMatchWrong)

/-- 'laws.FnExactCheckPrices': WHATEVER THE INPUT: true; the input reads as it did. -/
def fnExactCheckPricesSpec : ChangeSpec := { name := "fnExactCheckPrices", fn := fun _ => fun
  | [d1, d2, d3, d4, d5] => { results := [.lit (.bool true)], args := [d1, d2, d3, d4, d5] }
  | _ => none }
def fnExactCheckPricesRow : OpenClaim := { program := "ytnoipbldgondiaa", sum := "f2f0cea5290c80db254aacf0eccfa370223fc2d6f3410dfff98850e963f04093", func := "loop.example/g00894/laws.FnExactCheckPrices", spec := "fnExactCheckPrices", plainKeys := false, apart := false }
def FnExactCheckPricesSaid : Prop := fnExactCheckPricesRow.holds Try.pinned (OpenSpec.ofChange fnExactCheckPricesSpec)

/-- ITS FALSE NEIGHBOUR: 'it returns false'. Refute it at one input. -/
def fnExactCheckPricesWrong : ChangeSpec := { name := "fnExactCheckPrices", fn := fun _ => fun
  | [d1, d2, d3, d4, d5] => { results := [.lit (.bool false)], args := [d1, d2, d3, d4, d5] }
  | _ => none }
def FnExactCheckPricesWrongFalsely : Prop := fnExactCheckPricesRow.holds Try.pinned (OpenSpec.ofChange fnExactCheckPricesWrong)

/-- 'laws.FnExactErrorsOf': WHATEVER THE INPUT: true; the input reads as it did. -/
def fnExactErrorsOfSpec : ChangeSpec := { name := "fnExactErrorsOf", fn := fun _ => fun
  | [d1, d2, d3] => { results := [.lit (.bool true)], args := [d1, d2, d3] }
  | _ => none }
def fnExactErrorsOfRow : OpenClaim := { program := "ytnoipbldgondiaa", sum := "f2f0cea5290c80db254aacf0eccfa370223fc2d6f3410dfff98850e963f04093", func := "loop.example/g00894/laws.FnExactErrorsOf", spec := "fnExactErrorsOf", plainKeys := false, apart := false }
def FnExactErrorsOfSaid : Prop := fnExactErrorsOfRow.holds Try.pinned (OpenSpec.ofChange fnExactErrorsOfSpec)

/-- ITS FALSE NEIGHBOUR: 'it returns false'. Refute it at one input. -/
def fnExactErrorsOfWrong : ChangeSpec := { name := "fnExactErrorsOf", fn := fun _ => fun
  | [d1, d2, d3] => { results := [.lit (.bool false)], args := [d1, d2, d3] }
  | _ => none }
def FnExactErrorsOfWrongFalsely : Prop := fnExactErrorsOfRow.holds Try.pinned (OpenSpec.ofChange fnExactErrorsOfWrong)

/-- 'laws.FnExactMergeStrikes': WHATEVER THE INPUT: true; the input reads as it did. -/
def fnExactMergeStrikesSpec : ChangeSpec := { name := "fnExactMergeStrikes", fn := fun _ => fun
  | [d1, d2] => { results := [.lit (.bool true)], args := [d1, d2] }
  | _ => none }
def fnExactMergeStrikesRow : OpenClaim := { program := "ytnoipbldgondiaa", sum := "f2f0cea5290c80db254aacf0eccfa370223fc2d6f3410dfff98850e963f04093", func := "loop.example/g00894/laws.FnExactMergeStrikes", spec := "fnExactMergeStrikes", unfollowed := true, recurses := true, plainKeys := false, apart := false }
def FnExactMergeStrikesSaid : Prop := fnExactMergeStrikesRow.holds Try.pinned (OpenSpec.ofChange fnExactMergeStrikesSpec)

/-- ITS FALSE NEIGHBOUR: 'it returns false'. Refute it at one input. -/
def fnExactMergeStrikesWrong : ChangeSpec := { name := "fnExactMergeStrikes", fn := fun _ => fun
  | [d1, d2] => { results := [.lit (.bool false)], args := [d1, d2] }
  | _ => none }
def FnExactMergeStrikesWrongFalsely : Prop := fnExactMergeStrikesRow.holds Try.pinned (OpenSpec.ofChange fnExactMergeStrikesWrong)

/-- 'laws.FnExactIdealStrikes': WHATEVER THE INPUT: true; the input reads as it did. -/
def fnExactIdealStrikesSpec : ChangeSpec := { name := "fnExactIdealStrikes", fn := fun _ => fun
  | [d1, d2] => { results := [.lit (.bool true)], args := [d1, d2] }
  | _ => none }
def fnExactIdealStrikesRow : OpenClaim := { program := "ytnoipbldgondiaa", sum := "f2f0cea5290c80db254aacf0eccfa370223fc2d6f3410dfff98850e963f04093", func := "loop.example/g00894/laws.FnExactIdealStrikes", spec := "fnExactIdealStrikes", plainKeys := false, apart := false }
def FnExactIdealStrikesSaid : Prop := fnExactIdealStrikesRow.holds Try.pinned (OpenSpec.ofChange fnExactIdealStrikesSpec)

/-- ITS FALSE NEIGHBOUR: 'it returns false'. Refute it at one input. -/
def fnExactIdealStrikesWrong : ChangeSpec := { name := "fnExactIdealStrikes", fn := fun _ => fun
  | [d1, d2] => { results := [.lit (.bool false)], args := [d1, d2] }
  | _ => none }
def FnExactIdealStrikesWrongFalsely : Prop := fnExactIdealStrikesRow.holds Try.pinned (OpenSpec.ofChange fnExactIdealStrikesWrong)

/- THE SECOND FORM. 'bulk': how many values and letters a reading holds, each counted each time it is reached (what is shared counts as often as it is met; a slice's spare places count too). A statement '..UptoSaid' is the law's where the arguments, and the package variables that the reading takes, are together of bulk at most 1048576: NARROWER than '..Said'. Prove '..Said' where nothing that the law and all that it calls make is longer than what came in: it says more and counts as full. Else prove '..UptoSaid'. A law counts once. -/
mutual
def uptoBulk {H : Type} : DataW H → Nat
  | .lit (.string bytes) => bytes.length + 1
  | .lit _ => 1
  | .nil => 1
  | .ptr d => uptoBulk d + 1
  | .slice elems spare => uptoBulkAll elems + uptoBulkAll spare + 1
  | .agg parts => uptoBulkAll parts + 1
  | .iface _ d => uptoBulk d + 1
  | .map entries => uptoBulkEntries entries + 1
  | .held _ => 1
def uptoBulkAll {H : Type} : List (DataW H) → Nat
  | [] => 0
  | d :: r => uptoBulk d + uptoBulkAll r
def uptoBulkEntries {H : Type} : List (Lit × DataW H) → Nat
  | [] => 0
  | x :: r => uptoBulkEntry x + uptoBulkEntries r
def uptoBulkEntry {H : Type} : Lit × DataW H → Nat
  | (.string bytes, d) => bytes.length + uptoBulk d + 1
  | (_, d) => uptoBulk d + 1
 end
def uptoSmall : (H : Type) → List (DataW H) → Bool := fun _ ds => decide (uptoBulkAll ds ≤ 1048576)
def OpenSpec.upto (s : _root_.Go.ChangeSpec) : _root_.Go.OpenSpec := { _root_.Go.OpenSpec.ofChange s with cond := some uptoSmall }

/-- 'laws.FnExactShiftStrikes', WHERE WHAT IT READS IS OF BULK AT MOST 1048576: true; the input reads as it did. -/
def fnExactShiftStrikesUptoRow : OpenClaim := { program := "ytnoipbldgondiaa", sum := "f2f0cea5290c80db254aacf0eccfa370223fc2d6f3410dfff98850e963f04093", func := "loop.example/g00894/laws.FnExactShiftStrikes", spec := "fnExactShiftStrikes", plainKeys := false, apart := false, narrowed := true }
def FnExactShiftStrikesUptoSaid : Prop := fnExactShiftStrikesUptoRow.holds Try.pinned (OpenSpec.upto fnExactShiftStrikesSpec)

/-- 'laws.FnExactMissedIn', WHERE WHAT IT READS IS OF BULK AT MOST 1048576: true; the input reads as it did. -/
def fnExactMissedInUptoRow : OpenClaim := { program := "ytnoipbldgondiaa", sum := "f2f0cea5290c80db254aacf0eccfa370223fc2d6f3410dfff98850e963f04093", func := "loop.example/g00894/laws.FnExactMissedIn", spec := "fnExactMissedIn", plainKeys := false, apart := false, narrowed := true }
def FnExactMissedInUptoSaid : Prop := fnExactMissedInUptoRow.holds Try.pinned (OpenSpec.upto fnExactMissedInSpec)

/-- 'laws.FnExactCostOf', WHERE WHAT IT READS IS OF BULK AT MOST 1048576: true; the input reads as it did. -/
def fnExactCostOfUptoRow : OpenClaim := { program := "ytnoipbldgondiaa", sum := "f2f0cea5290c80db254aacf0eccfa370223fc2d6f3410dfff98850e963f04093", func := "loop.example/g00894/laws.FnExactCostOf", spec := "fnExactCostOf", plainKeys := false, apart := false, narrowed := true }
def FnExactCostOfUptoSaid : Prop := fnExactCostOfUptoRow.holds Try.pinned (OpenSpec.upto fnExactCostOfSpec)

/-- 'laws.FnExactClippedIn', WHERE WHAT IT READS IS OF BULK AT MOST 1048576: true; the input reads as it did. -/
def fnExactClippedInUptoRow : OpenClaim := { program := "ytnoipbldgondiaa", sum := "f2f0cea5290c80db254aacf0eccfa370223fc2d6f3410dfff98850e963f04093", func := "loop.example/g00894/laws.FnExactClippedIn", spec := "fnExactClippedIn", plainKeys := false, apart := false, narrowed := true }
def FnExactClippedInUptoSaid : Prop := fnExactClippedInUptoRow.holds Try.pinned (OpenSpec.upto fnExactClippedInSpec)

/-- 'laws.FnExactExtraIn', WHERE WHAT IT READS IS OF BULK AT MOST 1048576: true; the input reads as it did. -/
def fnExactExtraInUptoRow : OpenClaim := { program := "ytnoipbldgondiaa", sum := "f2f0cea5290c80db254aacf0eccfa370223fc2d6f3410dfff98850e963f04093", func := "loop.example/g00894/laws.FnExactExtraIn", spec := "fnExactExtraIn", plainKeys := false, apart := false, narrowed := true }
def FnExactExtraInUptoSaid : Prop := fnExactExtraInUptoRow.holds Try.pinned (OpenSpec.upto fnExactExtraInSpec)

/-- 'laws.FnExactOfBell', WHERE WHAT IT READS IS OF BULK AT MOST 1048576: true; the input reads as it did. -/
def fnExactOfBellUptoRow : OpenClaim := { program := "ytnoipbldgondiaa", sum := "f2f0cea5290c80db254aacf0eccfa370223fc2d6f3410dfff98850e963f04093", func := "loop.example/g00894/laws.FnExactOfBell", spec := "fnExactOfBell", plainKeys := false, apart := false, narrowed := true }
def FnExactOfBellUptoSaid : Prop := fnExactOfBellUptoRow.holds Try.pinned (OpenSpec.upto fnExactOfBellSpec)

/-- 'laws.FnExactPricesOf', WHERE WHAT IT READS IS OF BULK AT MOST 1048576: true; the input reads as it did. -/
def fnExactPricesOfUptoRow : OpenClaim := { program := "ytnoipbldgondiaa", sum := "f2f0cea5290c80db254aacf0eccfa370223fc2d6f3410dfff98850e963f04093", func := "loop.example/g00894/laws.FnExactPricesOf", spec := "fnExactPricesOf", plainKeys := false, apart := false, narrowed := true }
def FnExactPricesOfUptoSaid : Prop := fnExactPricesOfUptoRow.holds Try.pinned (OpenSpec.upto fnExactPricesOfSpec)

/-- 'laws.FnExactBestMatch', WHERE WHAT IT READS IS OF BULK AT MOST 1048576: true; the input reads as it did. -/
def fnExactBestMatchUptoRow : OpenClaim := { program := "ytnoipbldgondiaa", sum := "f2f0cea5290c80db254aacf0eccfa370223fc2d6f3410dfff98850e963f04093", func := "loop.example/g00894/laws.FnExactBestMatch", spec := "fnExactBestMatch", plainKeys := false, apart := false, narrowed := true }
def FnExactBestMatchUptoSaid : Prop := fnExactBestMatchUptoRow.holds Try.pinned (OpenSpec.upto fnExactBestMatchSpec)

/-- 'laws.FnExactCheckPrices', WHERE WHAT IT READS IS OF BULK AT MOST 1048576: true; the input reads as it did. -/
def fnExactCheckPricesUptoRow : OpenClaim := { program := "ytnoipbldgondiaa", sum := "f2f0cea5290c80db254aacf0eccfa370223fc2d6f3410dfff98850e963f04093", func := "loop.example/g00894/laws.FnExactCheckPrices", spec := "fnExactCheckPrices", plainKeys := false, apart := false, narrowed := true }
def FnExactCheckPricesUptoSaid : Prop := fnExactCheckPricesUptoRow.holds Try.pinned (OpenSpec.upto fnExactCheckPricesSpec)

/-- 'laws.FnExactErrorsOf', WHERE WHAT IT READS IS OF BULK AT MOST 1048576: true; the input reads as it did. -/
def fnExactErrorsOfUptoRow : OpenClaim := { program := "ytnoipbldgondiaa", sum := "f2f0cea5290c80db254aacf0eccfa370223fc2d6f3410dfff98850e963f04093", func := "loop.example/g00894/laws.FnExactErrorsOf", spec := "fnExactErrorsOf", plainKeys := false, apart := false, narrowed := true }
def FnExactErrorsOfUptoSaid : Prop := fnExactErrorsOfUptoRow.holds Try.pinned (OpenSpec.upto fnExactErrorsOfSpec)

/-- 'laws.FnExactMergeStrikes', WHERE WHAT IT READS IS OF BULK AT MOST 1048576: true; the input reads as it did. -/
def fnExactMergeStrikesUptoRow : OpenClaim := { program := "ytnoipbldgondiaa", sum := "f2f0cea5290c80db254aacf0eccfa370223fc2d6f3410dfff98850e963f04093", func := "loop.example/g00894/laws.FnExactMergeStrikes", spec := "fnExactMergeStrikes", unfollowed := true, recurses := true, plainKeys := false, apart := false, narrowed := true }
def FnExactMergeStrikesUptoSaid : Prop := fnExactMergeStrikesUptoRow.holds Try.pinned (OpenSpec.upto fnExactMergeStrikesSpec)

/-- 'laws.FnExactIdealStrikes', WHERE WHAT IT READS IS OF BULK AT MOST 1048576: true; the input reads as it did. -/
def fnExactIdealStrikesUptoRow : OpenClaim := { program := "ytnoipbldgondiaa", sum := "f2f0cea5290c80db254aacf0eccfa370223fc2d6f3410dfff98850e963f04093", func := "loop.example/g00894/laws.FnExactIdealStrikes", spec := "fnExactIdealStrikes", plainKeys := false, apart := false, narrowed := true }
def FnExactIdealStrikesUptoSaid : Prop := fnExactIdealStrikesUptoRow.holds Try.pinned (OpenSpec.upto fnExactIdealStrikesSpec)

end Rows
end Go.Proofs.Ytnoipbldgondiaa
