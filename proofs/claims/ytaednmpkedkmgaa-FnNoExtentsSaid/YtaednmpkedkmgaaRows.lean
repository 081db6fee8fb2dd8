/-
  No cell of these rows narrows 'for every input' (looked for: loops, veiled, ifaces, maps, wideKeys, modest, calm, conditions, laid).
  DERIVED. THE GIVEN ROWS OF THIS SEAT. 3 by the template 'for every input the law returns true; each argument reads behind the call as it read before'; 0 by the template 'total and deterministic' (their statements: YtaednmpkedkmgaaTotals.lean).
  GIVEN WITH THE SEED: the statements are not yours to turn. If you find one false, say at which input.
  Laid BY PROGRAM, IN A SANDBOX (cutbox-rows.mjs): the forced cells as the released guide's own fill.sh prints them over the translation 374694048f45af42… (all of the seat's roots in one cut). By AI agents, Wed Nov 11 2026. No macro, syntax, notation, axiom, sorry.
-/
import Derived.Test.YtaednmpkedkmgaaChecked
import GoSem.Claim
import GoSem.ClaimJoined
import GoSem.ClaimMapViews
import Derived.JoinedTies
import Derived.KernelRfl
namespace Go.Proofs.Ytaednmpkedkmgaa
/- THE CELL 'sum', in the pinned program and in every row, IS THE sha256 OF THE DUMP (.gsa) THAT YtaednmpkedkmgaaProg.lean LOADS. Nothing in Lean hashes anything: it is a label: what it is worth is what the hold of that sum in a sandbox is worth. -/
noncomputable def Try.pinned : Pinned := { name := "ytaednmpkedkmgaa", sum := "374694048f45af426517c8aff7a5c2fd3c0e065161d3ecc55295bfa7918c8148", checked := Try.checked }
namespace Rows
def none {H : Type} : Left H := { results := [], args := [] }

/-- 'laws.FnEvens': WHATEVER THE INPUT: true; the input reads as it did. -/
def fnEvensSpec : ChangeSpec := { name := "fnEvens", fn := fun _ => fun
  | [d1, d2] => { results := [.lit (.bool true)], args := [d1, d2] }
  | _ => none }
def fnEvensRow : OpenClaim := { program := "ytaednmpkedkmgaa", sum := "374694048f45af426517c8aff7a5c2fd3c0e065161d3ecc55295bfa7918c8148", func := "loop.example/g00894/laws.FnEvens", spec := "fnEvens", recurses := true, apart := false }
def FnEvensSaid : Prop := fnEvensRow.holds Try.pinned (OpenSpec.ofChange fnEvensSpec)

/-- ITS FALSE NEIGHBOUR: 'it returns false'. Refute it at one input. -/
def fnEvensWrong : ChangeSpec := { name := "fnEvens", fn := fun _ => fun
  | [d1, d2] => { results := [.lit (.bool false)], args := [d1, d2] }
  | _ => none }
def FnEvensWrongFalsely : Prop := fnEvensRow.holds Try.pinned (OpenSpec.ofChange fnEvensWrong)

/-- 'laws.FnExtents': WHATEVER THE INPUT: true; the input reads as it did. -/
def fnExtentsSpec : ChangeSpec := { name := "fnExtents", fn := fun _ => fun
  | [d1, d2] => { results := [.lit (.bool true)], args := [d1, d2] }
  | _ => none }
def fnExtentsRow : OpenClaim := { program := "ytaednmpkedkmgaa", sum := "374694048f45af426517c8aff7a5c2fd3c0e065161d3ecc55295bfa7918c8148", func := "loop.example/g00894/laws.FnExtents", spec := "fnExtents", recurses := true, apart := false }
def FnExtentsSaid : Prop := fnExtentsRow.holds Try.pinned (OpenSpec.ofChange fnExtentsSpec)

/-- ITS FALSE NEIGHBOUR: 'it returns false'. Refute it at one input. -/
def fnExtentsWrong : ChangeSpec := { name := "fnExtents", fn := fun _ => fun
  | [d1, d2] => { results := [.lit (.bool false)], args := [d1, d2] }
  | _ => none }
def FnExtentsWrongFalsely : Prop := fnExtentsRow.holds Try.pinned (OpenSpec.ofChange fnExtentsWrong)

/-- 'laws.FnNoExtents': WHATEVER THE INPUT: true; the input reads as it did. -/
def fnNoExtentsSpec : ChangeSpec := { name := "fnNoExtents", fn := fun _ => fun
  | [d1, d2] => { results := [.lit (.bool true)], args := [d1, d2] }
  | _ => none }
def fnNoExtentsRow : OpenClaim := { program := "ytaednmpkedkmgaa", sum := "374694048f45af426517c8aff7a5c2fd3c0e065161d3ecc55295bfa7918c8148", func := "loop.example/g00894/laws.FnNoExtents", spec := "fnNoExtents", recurses := true, apart := false }
def FnNoExtentsSaid : Prop := fnNoExtentsRow.holds Try.pinned (OpenSpec.ofChange fnNoExtentsSpec)

/-- ITS FALSE NEIGHBOUR: 'it returns false'. Refute it at one input. -/
def fnNoExtentsWrong : ChangeSpec := { name := "fnNoExtents", fn := fun _ => fun
  | [d1, d2] => { results := [.lit (.bool false)], args := [d1, d2] }
  | _ => none }
def FnNoExtentsWrongFalsely : Prop := fnNoExtentsRow.holds Try.pinned (OpenSpec.ofChange fnNoExtentsWrong)

/- THE SECOND FORM. 'bulk': how many values and letters a reading holds, each counted each time it is reached (what is shared counts as often as it is met; a slice's spare places count too). A statement '..UptoSaid' is the law's where the arguments, and the package variables that the reading takes, are together of bulk at most 1048576: NARROWER than '..Said'. Prove '..Said' where nothing that the law and all that it calls make is longer than what came in: it says more and counts as full. Else prove '..UptoSaid'. A law counts once. -/
mutual
def uptoBulk {H : Type} : DataW H → Nat
  | .lit (.string bytes) => bytes.length + 1
  | .lit _ => 1
  | .nil => 1
  | .ptr d => uptoBulk d + 1
  | .slice elems spare => uptoBulkAll elems + uptoBulkAll spare + 1
  | .agg parts => uptoBulkAll parts + 1
  | .iface _ d => uptoBulk d + 1
  | .map entries => uptoBulkEntries entries + 1
  | .held _ => 1
def uptoBulkAll {H : Type} : List (DataW H) → Nat
  | [] => 0
  | d :: r => uptoBulk d + uptoBulkAll r
def uptoBulkEntries {H : Type} : List (Lit × DataW H) → Nat
  | [] => 0
  | x :: r => uptoBulkEntry x + uptoBulkEntries r
def uptoBulkEntry {H : Type} : Lit × DataW H → Nat
  | (.string bytes, d) => bytes.length + uptoBulk d + 1
  | (_, d) => uptoBulk d + 1
 end
def uptoSmall : (H : Type) → List (DataW H) → Bool := fun _ ds => decide (uptoBulkAll ds ≤ 1048576)
def OpenSpec.upto (s : _root_.Go.ChangeSpec) : _root_.Go.OpenSpec := { _root_.Go.OpenSpec.ofChange s with cond := some uptoSmall }

/-- 'laws.FnEvens', WHERE WHAT IT READS IS OF BULK AT MOST 1048576: true; the input reads as it did. -/
def fnEvensUptoRow : OpenClaim := { program := "ytaednmpkedkmgaa", sum := "374694048f45af426517c8aff7a5c2fd3c0e065161d3ecc55295bfa7918c8148", func := "loop.example/g00894/laws.FnEvens", spec := "fnEvens", recurses := true, apart := false, narrowed := true }
def FnEvensUptoSaid : Prop := fnEvensUptoRow.holds Try.pinned (OpenSpec.upto fnEvensSpec)

/-- 'laws.FnExtents', WHERE WHAT IT READS IS OF BULK AT MOST 1048576: true; the input reads as it did. -/
def fnExtentsUptoRow : OpenClaim := { program := "ytaednmpkedkmgaa", sum := "374694048f45af426517c8aff7a5c2fd3c0e065161d3ecc55295bfa7918c8148", func := "loop.example/g00894/laws.FnExtents", spec := "fnExtents", recurses := true, apart := false, narrowed := true }
def FnExtentsUptoSaid : Prop := fnExtentsUptoRow.holds Try.pinned (OpenSpec.upto fnExtentsSpec)

/-- 'laws.FnNoExtents', WHERE WHAT IT READS IS OF BULK AT MOST 1048576: true; the input reads as it did. -/
def fnNoExtentsUptoRow : OpenClaim := { program := "ytaednmpkedkmgaa", sum := "374694048f45af426517c8aff7a5c2fd3c0e065161d3ecc55295bfa7918c8148", func := "loop.example/g00894/laws.FnNoExtents", spec := "fnNoExtents", recurses := true, apart := false, narrowed := true }
def FnNoExtentsUptoSaid : Prop := fnNoExtentsUptoRow.holds Try.pinned (OpenSpec.upto fnNoExtentsSpec)

end Rows
end Go.Proofs.Ytaednmpkedkmgaa
