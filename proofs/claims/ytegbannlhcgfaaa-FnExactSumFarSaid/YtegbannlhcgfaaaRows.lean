/-
  No cell of these rows narrows 'for every input' (looked for: loops, veiled, ifaces, maps, wideKeys, modest, calm, conditions, laid).
  DERIVED. THE GIVEN ROWS OF THIS SEAT. 6 by the template 'for every input the law returns true; each argument reads behind the call as it read before'; 0 by the template 'total and deterministic' (their statements: YtegbannlhcgfaaaTotals.lean).
  GIVEN WITH THE SEED: the statements are not yours to turn. If you find one false, say at which input.
  Laid BY PROGRAM, IN A SANDBOX (cutbox-rows.mjs): the forced cells as the released guide's own fill.sh prints them over the translation fa80443b2fe16dcd… (all of the seat's roots in one cut). By AI agents, Wed Nov 11 2026. No macro, syntax, notation, axiom, sorry.
-/
import Derived.Test.YtegbannlhcgfaaaChecked
import GoSem.Claim
import GoSem.ClaimJoined
import GoSem.ClaimMapViews
import Derived.JoinedTies
import Derived.KernelRfl
namespace Go.Proofs.Ytegbannlhcgfaaa
/- THE CELL 'sum', in the pinned program and in every row, IS THE sha256 OF THE DUMP (.gsa) THAT YtegbannlhcgfaaaProg.lean LOADS. Nothing in Lean hashes anything: it is a label: what it is worth is what the hold of that sum in a sandbox is worth. -/
noncomputable def Try.pinned : Pinned := { name := "ytegbannlhcgfaaa", sum := "fa80443b2fe16dcd02bbad2162e38f894fd2ff9ce4fae7d12bc38e0290b4e84f", checked := Try.checked }
namespace Rows
def none {H : Type} : Left H := { results := [], args := [] }

/-- 'laws.FnExactGoodBeat': WHATEVER THE INPUT: true; the input reads as it did. -/
def fnExactGoodBeatSpec : ChangeSpec := { name := "fnExactGoodBeat", fn := fun _ => fun
  | [d] => { results := [.lit (.bool true)], args := [d] }
  | _ => none }
def fnExactGoodBeatRow : OpenClaim := { program := "ytegbannlhcgfaaa", sum := "fa80443b2fe16dcd02bbad2162e38f894fd2ff9ce4fae7d12bc38e0290b4e84f", func := "loop.example/g00894/laws.FnExactGoodBeat", spec := "fnExactGoodBeat", plainKeys := false, apart := false }
def FnExactGoodBeatSaid : Prop := fnExactGoodBeatRow.holds Try.pinned (OpenSpec.ofChange fnExactGoodBeatSpec)

/-- ITS FALSE NEIGHBOUR: 'it returns false'. Refute it at one input. -/
def fnExactGoodBeatWrong : ChangeSpec := { name := "fnExactGoodBeat", fn := fun _ => fun
  | [d] => { results := [.lit (.bool false)], args := [d] }
  | _ => none }
def FnExactGoodBeatWrongFalsely : Prop := fnExactGoodBeatRow.holds Try.pinned (OpenSpec.ofChange fnExactGoodBeatWrong)

/-- 'laws.FnExactBlowAt': WHATEVER THE INPUT: true; the input reads as it did. -/
def fnExactBlowAtSpec : ChangeSpec := { name := "fnExactBlowAt", fn := fun _ => fun
  | [d1, d2, d3, d4] => { results := [.lit (.bool true)], args := [d1, d2, d3, d4] }
  | _ => none }
def fnExactBlowAtRow : OpenClaim := { program := "ytegbannlhcgfaaa", sum := "fa80443b2fe16dcd02bbad2162e38f894fd2ff9ce4fae7d12bc38e0290b4e84f", func := "loop.example/g00894/laws.FnExactBlowAt", spec := "fnExactBlowAt", plainKeys := false, apart := false }
def FnExactBlowAtSaid : Prop := fnExactBlowAtRow.holds Try.pinned (OpenSpec.ofChange fnExactBlowAtSpec)

/-- ITS FALSE NEIGHBOUR: 'it returns false'. Refute it at one input. -/
def fnExactBlowAtWrong : ChangeSpec := { name := "fnExactBlowAt", fn := fun _ => fun
  | [d1, d2, d3, d4] => { results := [.lit (.bool false)], args := [d1, d2, d3, d4] }
  | _ => none }
def FnExactBlowAtWrongFalsely : Prop := fnExactBlowAtRow.holds Try.pinned (OpenSpec.ofChange fnExactBlowAtWrong)

/-- 'laws.FnExactGoodTimes': WHATEVER THE INPUT: true; the input reads as it did. -/
def fnExactGoodTimesSpec : ChangeSpec := { name := "fnExactGoodTimes", fn := fun _ => fun
  | [d] => { results := [.lit (.bool true)], args := [d] }
  | _ => none }
def fnExactGoodTimesRow : OpenClaim := { program := "ytegbannlhcgfaaa", sum := "fa80443b2fe16dcd02bbad2162e38f894fd2ff9ce4fae7d12bc38e0290b4e84f", func := "loop.example/g00894/laws.FnExactGoodTimes", spec := "fnExactGoodTimes", plainKeys := false, apart := false }
def FnExactGoodTimesSaid : Prop := fnExactGoodTimesRow.holds Try.pinned (OpenSpec.ofChange fnExactGoodTimesSpec)

/-- ITS FALSE NEIGHBOUR: 'it returns false'. Refute it at one input. -/
def fnExactGoodTimesWrong : ChangeSpec := { name := "fnExactGoodTimes", fn := fun _ => fun
  | [d] => { results := [.lit (.bool false)], args := [d] }
  | _ => none }
def FnExactGoodTimesWrongFalsely : Prop := fnExactGoodTimesRow.holds Try.pinned (OpenSpec.ofChange fnExactGoodTimesWrong)

/-- 'laws.FnExactGoodStrikes': WHATEVER THE INPUT: true; the input reads as it did. -/
def fnExactGoodStrikesSpec : ChangeSpec := { name := "fnExactGoodStrikes", fn := fun _ => fun
  | [d] => { results := [.lit (.bool true)], args := [d] }
  | _ => none }
def fnExactGoodStrikesRow : OpenClaim := { program := "ytegbannlhcgfaaa", sum := "fa80443b2fe16dcd02bbad2162e38f894fd2ff9ce4fae7d12bc38e0290b4e84f", func := "loop.example/g00894/laws.FnExactGoodStrikes", spec := "fnExactGoodStrikes", plainKeys := false, apart := false }
def FnExactGoodStrikesSaid : Prop := fnExactGoodStrikesRow.holds Try.pinned (OpenSpec.ofChange fnExactGoodStrikesSpec)

/-- ITS FALSE NEIGHBOUR: 'it returns false'. Refute it at one input. -/
def fnExactGoodStrikesWrong : ChangeSpec := { name := "fnExactGoodStrikes", fn := fun _ => fun
  | [d] => { results := [.lit (.bool false)], args := [d] }
  | _ => none }
def FnExactGoodStrikesWrongFalsely : Prop := fnExactGoodStrikesRow.holds Try.pinned (OpenSpec.ofChange fnExactGoodStrikesWrong)

/-- 'laws.FnExactGoodBlows': WHATEVER THE INPUT: true; the input reads as it did. -/
def fnExactGoodBlowsSpec : ChangeSpec := { name := "fnExactGoodBlows", fn := fun _ => fun
  | [d1, d2] => { results := [.lit (.bool true)], args := [d1, d2] }
  | _ => none }
def fnExactGoodBlowsRow : OpenClaim := { program := "ytegbannlhcgfaaa", sum := "fa80443b2fe16dcd02bbad2162e38f894fd2ff9ce4fae7d12bc38e0290b4e84f", func := "loop.example/g00894/laws.FnExactGoodBlows", spec := "fnExactGoodBlows", plainKeys := false, apart := false }
def FnExactGoodBlowsSaid : Prop := fnExactGoodBlowsRow.holds Try.pinned (OpenSpec.ofChange fnExactGoodBlowsSpec)

/-- ITS FALSE NEIGHBOUR: 'it returns false'. Refute it at one input. -/
def fnExactGoodBlowsWrong : ChangeSpec := { name := "fnExactGoodBlows", fn := fun _ => fun
  | [d1, d2] => { results := [.lit (.bool false)], args := [d1, d2] }
  | _ => none }
def FnExactGoodBlowsWrongFalsely : Prop := fnExactGoodBlowsRow.holds Try.pinned (OpenSpec.ofChange fnExactGoodBlowsWrong)

/-- 'laws.FnExactSumFar': WHATEVER THE INPUT: true; the input reads as it did. -/
def fnExactSumFarSpec : ChangeSpec := { name := "fnExactSumFar", fn := fun _ => fun
  | [d1, d2, d3] => { results := [.lit (.bool true)], args := [d1, d2, d3] }
  | _ => none }
def fnExactSumFarRow : OpenClaim := { program := "ytegbannlhcgfaaa", sum := "fa80443b2fe16dcd02bbad2162e38f894fd2ff9ce4fae7d12bc38e0290b4e84f", func := "loop.example/g00894/laws.FnExactSumFar", spec := "fnExactSumFar", plainKeys := false, apart := false }
def FnExactSumFarSaid : Prop := fnExactSumFarRow.holds Try.pinned (OpenSpec.ofChange fnExactSumFarSpec)

/-- ITS FALSE NEIGHBOUR: 'it returns false'. Refute it at one input. -/
def fnExactSumFarWrong : ChangeSpec := { name := "fnExactSumFar", fn := fun _ => fun
  | [d1, d2, d3] => { results := [.lit (.bool false)], args := [d1, d2, d3] }
  | _ => none }
def FnExactSumFarWrongFalsely : Prop := fnExactSumFarRow.holds Try.pinned (OpenSpec.ofChange fnExactSumFarWrong)

/- THE SECOND FORM. 'bulk': how many values and letters a reading holds, each counted each time it is reached (what is shared counts as often as it is met; a slice's spare places count too). A statement '..UptoSaid' is the law's where the arguments, and the package variables that the reading takes, are together of bulk at most 1048576: NARROWER than '..Said'. Prove '..Said' where nothing that the law and all that it calls make is longer than what came in: it says more and counts as full. Else prove '..UptoSaid'. A law counts once. -/
mutual
def uptoBulk {H : Type} : DataW H → Nat
  | .lit (.string bytes) => bytes.length + 1
  | .lit _ => 1
  | .nil => 1
  | .ptr d => uptoBulk d + 1
  | .slice elems spare => uptoBulkAll elems + uptoBulkAll spare + 1
  | .agg parts => uptoBulkAll parts + 1
  | .iface _ d => uptoBulk d + 1
  | .map entries => uptoBulkEntries entries + 1
  | .held _ => 1
def uptoBulkAll {H : Type} : List (DataW H) → Nat
  | [] => 0
  | d :: r => uptoBulk d + uptoBulkAll r
def uptoBulkEntries {H : Type} : List (Lit × DataW H) → Nat
  | [] => 0
  | x :: r => uptoBulkEntry x + uptoBulkEntries r
def uptoBulkEntry {H : Type} : Lit × DataW H → Nat
  | (.string bytes, d) => bytes.length + uptoBulk d + 1
  | (_, d) => uptoBulk d + 1
 end
def uptoSmall : (H : Type) → List (DataW H) → Bool := fun _ ds => decide (uptoBulkAll ds ≤ 1048576)
def OpenSpec.upto (s : _root_.Go.ChangeSpec) : _root_.Go.OpenSpec := { _root_.Go.OpenSpec.ofChange s with cond := some uptoSmall }

/-- 'laws.FnExactGoodBeat', WHERE WHAT IT READS IS OF BULK AT MOST 1048576: true; the input reads as it did. -/
def fnExactGoodBeatUptoRow : OpenClaim := { program := "ytegbannlhcgfaaa", sum := "fa80443b2fe16dcd02bbad2162e38f894fd2ff9ce4fae7d12bc38e0290b4e84f", func := "loop.example/g00894/laws.FnExactGoodBeat", spec := "fnExactGoodBeat", plainKeys := false, apart := false, narrowed := true }
def FnExactGoodBeatUptoSaid : Prop := fnExactGoodBeatUptoRow.holds Try.pinned (OpenSpec.upto fnExactGoodBeatSpec)

/-- 'laws.FnExactBlowAt', WHERE WHAT IT READS IS OF BULK AT MOST 1048576: true; the input reads as it did. -/
def fnExactBlowAtUptoRow : OpenClaim := { program := "ytegbannlhcgfaaa", sum := "fa80443b2fe16dcd02bbad2162e38f894fd2ff9ce4fae7d12bc38e0290b4e84f", func := "loop.example/g00894/laws.FnExactBlowAt", spec := "fnExactBlowAt", plainKeys := false, apart := false, narrowed := true }
def FnExactBlowAtUptoSaid : Prop := fnExactBlowAtUptoRow.holds Try.pinned (OpenSpec.upto fnExactBlowAtSpec)

/-- 'laws.FnExactGoodTimes', WHERE WHAT IT READS IS OF BULK AT MOST 1048576: true; the input reads as it did. -/
def fnExactGoodTimesUptoRow : OpenClaim := { program := "ytegbannlhcgfaaa", sum := "fa80443b2fe16dcd02bbad2162e38f894fd2ff9ce4fae7d12bc38e0290b4e84f", func := "loop.example/g00894/laws.FnExactGoodTimes", spec := "fnExactGoodTimes", plainKeys := false, apart := false, narrowed := true }
def FnExactGoodTimesUptoSaid : Prop := fnExactGoodTimesUptoRow.holds Try.pinned (OpenSpec.upto fnExactGoodTimesSpec)

/-- 'laws.FnExactGoodStrikes', WHERE WHAT IT READS IS OF BULK AT MOST 1048576: true; the input reads as it did. -/
def fnExactGoodStrikesUptoRow : OpenClaim := { program := "ytegbannlhcgfaaa", sum := "fa80443b2fe16dcd02bbad2162e38f894fd2ff9ce4fae7d12bc38e0290b4e84f", func := "loop.example/g00894/laws.FnExactGoodStrikes", spec := "fnExactGoodStrikes", plainKeys := false, apart := false, narrowed := true }
def FnExactGoodStrikesUptoSaid : Prop := fnExactGoodStrikesUptoRow.holds Try.pinned (OpenSpec.upto fnExactGoodStrikesSpec)

/-- 'laws.FnExactGoodBlows', WHERE WHAT IT READS IS OF BULK AT MOST 1048576: true; the input reads as it did. -/
def fnExactGoodBlowsUptoRow : OpenClaim := { program := "ytegbannlhcgfaaa", sum := "fa80443b2fe16dcd02bbad2162e38f894fd2ff9ce4fae7d12bc38e0290b4e84f", func := "loop.example/g00894/laws.FnExactGoodBlows", spec := "fnExactGoodBlows", plainKeys := false, apart := false, narrowed := true }
def FnExactGoodBlowsUptoSaid : Prop := fnExactGoodBlowsUptoRow.holds Try.pinned (OpenSpec.upto fnExactGoodBlowsSpec)

/-- 'laws.FnExactSumFar', WHERE WHAT IT READS IS OF BULK AT MOST 1048576: true; the input reads as it did. -/
def fnExactSumFarUptoRow : OpenClaim := { program := "ytegbannlhcgfaaa", sum := "fa80443b2fe16dcd02bbad2162e38f894fd2ff9ce4fae7d12bc38e0290b4e84f", func := "loop.example/g00894/laws.FnExactSumFar", spec := "fnExactSumFar", plainKeys := false, apart := false, narrowed := true }
def FnExactSumFarUptoSaid : Prop := fnExactSumFarUptoRow.holds Try.pinned (OpenSpec.upto fnExactSumFarSpec)

end Rows
end Go.Proofs.Ytegbannlhcgfaaa
