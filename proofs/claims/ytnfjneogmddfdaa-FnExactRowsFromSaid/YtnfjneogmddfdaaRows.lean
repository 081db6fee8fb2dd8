/-
  No cell of these rows narrows 'for every input' (looked for: loops, veiled, ifaces, maps, wideKeys, modest, calm, conditions, laid).
  DERIVED. THE GIVEN ROWS OF THIS SEAT. 9 by the template 'for every input the law returns true; each argument reads behind the call as it read before'; 0 by the template 'total and deterministic' (their statements: YtnfjneogmddfdaaTotals.lean).
  GIVEN WITH THE SEED: the statements are not yours to turn. If you find one false, say at which input.
  Laid BY PROGRAM, IN A SANDBOX (cutbox-rows.mjs): the forced cells as the released guide's own fill.sh prints them over the translation 4468de18b31ceaba… (all of the seat's roots in one cut). By AI agents, Wed Nov 11 2026. No macro, syntax, notation, axiom, sorry.
-/
import Derived.Test.YtnfjneogmddfdaaChecked
import GoSem.Claim
import GoSem.ClaimJoined
import GoSem.ClaimMapViews
import Derived.JoinedTies
import Derived.KernelRfl
namespace Go.Proofs.Ytnfjneogmddfdaa
/- THE CELL 'sum', in the pinned program and in every row, IS THE sha256 OF THE DUMP (.gsa) THAT YtnfjneogmddfdaaProg.lean LOADS. Nothing in Lean hashes anything: it is a label: what it is worth is what the hold of that sum in a sandbox is worth. -/
noncomputable def Try.pinned : Pinned := { name := "ytnfjneogmddfdaa", sum := "4468de18b31ceabaaeae773f33583b08980f85d72f5fb7d4383b77af5707f50f", checked := Try.checked }
namespace Rows
def none {H : Type} : Left H := { results := [], args := [] }

/-- 'laws.FnExactChangeSign': WHATEVER THE INPUT: true; the input reads as it did. -/
def fnExactChangeSignSpec : ChangeSpec := { name := "fnExactChangeSign", fn := fun _ => fun
  | [d1, d2] => { results := [.lit (.bool true)], args := [d1, d2] }
  | _ => none }
def fnExactChangeSignRow : OpenClaim := { program := "ytnfjneogmddfdaa", sum := "4468de18b31ceabaaeae773f33583b08980f85d72f5fb7d4383b77af5707f50f", func := "loop.example/g00894/laws.FnExactChangeSign", spec := "fnExactChangeSign", apart := false }
def FnExactChangeSignSaid : Prop := fnExactChangeSignRow.holds Try.pinned (OpenSpec.ofChange fnExactChangeSignSpec)

/-- ITS FALSE NEIGHBOUR: 'it returns false'. Refute it at one input. -/
def fnExactChangeSignWrong : ChangeSpec := { name := "fnExactChangeSign", fn := fun _ => fun
  | [d1, d2] => { results := [.lit (.bool false)], args := [d1, d2] }
  | _ => none }
def FnExactChangeSignWrongFalsely : Prop := fnExactChangeSignRow.holds Try.pinned (OpenSpec.ofChange fnExactChangeSignWrong)

/-- 'laws.FnExactSignsOf': WHATEVER THE INPUT: true; the input reads as it did. -/
def fnExactSignsOfSpec : ChangeSpec := { name := "fnExactSignsOf", fn := fun _ => fun
  | [d] => { results := [.lit (.bool true)], args := [d] }
  | _ => none }
def fnExactSignsOfRow : OpenClaim := { program := "ytnfjneogmddfdaa", sum := "4468de18b31ceabaaeae773f33583b08980f85d72f5fb7d4383b77af5707f50f", func := "loop.example/g00894/laws.FnExactSignsOf", spec := "fnExactSignsOf", apart := false }
def FnExactSignsOfSaid : Prop := fnExactSignsOfRow.holds Try.pinned (OpenSpec.ofChange fnExactSignsOfSpec)

/-- ITS FALSE NEIGHBOUR: 'it returns false'. Refute it at one input. -/
def fnExactSignsOfWrong : ChangeSpec := { name := "fnExactSignsOf", fn := fun _ => fun
  | [d] => { results := [.lit (.bool false)], args := [d] }
  | _ => none }
def FnExactSignsOfWrongFalsely : Prop := fnExactSignsOfRow.holds Try.pinned (OpenSpec.ofChange fnExactSignsOfWrong)

/-- 'laws.FnExactOddsIn': WHATEVER THE INPUT: true; the input reads as it did. -/
def fnExactOddsInSpec : ChangeSpec := { name := "fnExactOddsIn", fn := fun _ => fun
  | [d1, d2] => { results := [.lit (.bool true)], args := [d1, d2] }
  | _ => none }
def fnExactOddsInRow : OpenClaim := { program := "ytnfjneogmddfdaa", sum := "4468de18b31ceabaaeae773f33583b08980f85d72f5fb7d4383b77af5707f50f", func := "loop.example/g00894/laws.FnExactOddsIn", spec := "fnExactOddsIn", apart := false }
def FnExactOddsInSaid : Prop := fnExactOddsInRow.holds Try.pinned (OpenSpec.ofChange fnExactOddsInSpec)

/-- ITS FALSE NEIGHBOUR: 'it returns false'. Refute it at one input. -/
def fnExactOddsInWrong : ChangeSpec := { name := "fnExactOddsIn", fn := fun _ => fun
  | [d1, d2] => { results := [.lit (.bool false)], args := [d1, d2] }
  | _ => none }
def FnExactOddsInWrongFalsely : Prop := fnExactOddsInRow.holds Try.pinned (OpenSpec.ofChange fnExactOddsInWrong)

/-- 'laws.FnExactRowsFrom': WHATEVER THE INPUT: true; the input reads as it did. -/
def fnExactRowsFromSpec : ChangeSpec := { name := "fnExactRowsFrom", fn := fun _ => fun
  | [d1, d2] => { results := [.lit (.bool true)], args := [d1, d2] }
  | _ => none }
def fnExactRowsFromRow : OpenClaim := { program := "ytnfjneogmddfdaa", sum := "4468de18b31ceabaaeae773f33583b08980f85d72f5fb7d4383b77af5707f50f", func := "loop.example/g00894/laws.FnExactRowsFrom", spec := "fnExactRowsFrom", apart := false }
def FnExactRowsFromSaid : Prop := fnExactRowsFromRow.holds Try.pinned (OpenSpec.ofChange fnExactRowsFromSpec)

/-- ITS FALSE NEIGHBOUR: 'it returns false'. Refute it at one input. -/
def fnExactRowsFromWrong : ChangeSpec := { name := "fnExactRowsFrom", fn := fun _ => fun
  | [d1, d2] => { results := [.lit (.bool false)], args := [d1, d2] }
  | _ => none }
def FnExactRowsFromWrongFalsely : Prop := fnExactRowsFromRow.holds Try.pinned (OpenSpec.ofChange fnExactRowsFromWrong)

/-- 'laws.FnExactCountExtents': WHATEVER THE INPUT: true; the input reads as it did. -/
def fnExactCountExtentsSpec : ChangeSpec := { name := "fnExactCountExtents", fn := fun _ => fun
  | [d1, d2] => { results := [.lit (.bool true)], args := [d1, d2] }
  | _ => none }
def fnExactCountExtentsRow : OpenClaim := { program := "ytnfjneogmddfdaa", sum := "4468de18b31ceabaaeae773f33583b08980f85d72f5fb7d4383b77af5707f50f", func := "loop.example/g00894/laws.FnExactCountExtents", spec := "fnExactCountExtents", recurses := true, apart := false }
def FnExactCountExtentsSaid : Prop := fnExactCountExtentsRow.holds Try.pinned (OpenSpec.ofChange fnExactCountExtentsSpec)

/-- ITS FALSE NEIGHBOUR: 'it returns false'. Refute it at one input. -/
def fnExactCountExtentsWrong : ChangeSpec := { name := "fnExactCountExtents", fn := fun _ => fun
  | [d1, d2] => { results := [.lit (.bool false)], args := [d1, d2] }
  | _ => none }
def FnExactCountExtentsWrongFalsely : Prop := fnExactCountExtentsRow.holds Try.pinned (OpenSpec.ofChange fnExactCountExtentsWrong)

/-- 'laws.FnExactIsExtent': WHATEVER THE INPUT: true; the input reads as it did. -/
def fnExactIsExtentSpec : ChangeSpec := { name := "fnExactIsExtent", fn := fun _ => fun
  | [d] => { results := [.lit (.bool true)], args := [d] }
  | _ => none }
def fnExactIsExtentRow : OpenClaim := { program := "ytnfjneogmddfdaa", sum := "4468de18b31ceabaaeae773f33583b08980f85d72f5fb7d4383b77af5707f50f", func := "loop.example/g00894/laws.FnExactIsExtent", spec := "fnExactIsExtent", recurses := true, apart := false }
def FnExactIsExtentSaid : Prop := fnExactIsExtentRow.holds Try.pinned (OpenSpec.ofChange fnExactIsExtentSpec)

/-- ITS FALSE NEIGHBOUR: 'it returns false'. Refute it at one input. -/
def fnExactIsExtentWrong : ChangeSpec := { name := "fnExactIsExtent", fn := fun _ => fun
  | [d] => { results := [.lit (.bool false)], args := [d] }
  | _ => none }
def FnExactIsExtentWrongFalsely : Prop := fnExactIsExtentRow.holds Try.pinned (OpenSpec.ofChange fnExactIsExtentWrong)

/-- 'laws.FnExactFindExtent': WHATEVER THE INPUT: true; the input reads as it did. -/
def fnExactFindExtentSpec : ChangeSpec := { name := "fnExactFindExtent", fn := fun _ => fun
  | [d1, d2, d3] => { results := [.lit (.bool true)], args := [d1, d2, d3] }
  | _ => none }
def fnExactFindExtentRow : OpenClaim := { program := "ytnfjneogmddfdaa", sum := "4468de18b31ceabaaeae773f33583b08980f85d72f5fb7d4383b77af5707f50f", func := "loop.example/g00894/laws.FnExactFindExtent", spec := "fnExactFindExtent", recurses := true, apart := false }
def FnExactFindExtentSaid : Prop := fnExactFindExtentRow.holds Try.pinned (OpenSpec.ofChange fnExactFindExtentSpec)

/-- ITS FALSE NEIGHBOUR: 'it returns false'. Refute it at one input. -/
def fnExactFindExtentWrong : ChangeSpec := { name := "fnExactFindExtent", fn := fun _ => fun
  | [d1, d2, d3] => { results := [.lit (.bool false)], args := [d1, d2, d3] }
  | _ => none }
def FnExactFindExtentWrongFalsely : Prop := fnExactFindExtentRow.holds Try.pinned (OpenSpec.ofChange fnExactFindExtentWrong)

/-- 'laws.FnExactReachBy': WHATEVER THE INPUT: true; the input reads as it did. -/
def fnExactReachBySpec : ChangeSpec := { name := "fnExactReachBy", fn := fun _ => fun
  | [d1, d2] => { results := [.lit (.bool true)], args := [d1, d2] }
  | _ => none }
def fnExactReachByRow : OpenClaim := { program := "ytnfjneogmddfdaa", sum := "4468de18b31ceabaaeae773f33583b08980f85d72f5fb7d4383b77af5707f50f", func := "loop.example/g00894/laws.FnExactReachBy", spec := "fnExactReachBy", recurses := true, apart := false }
def FnExactReachBySaid : Prop := fnExactReachByRow.holds Try.pinned (OpenSpec.ofChange fnExactReachBySpec)

/-- ITS FALSE NEIGHBOUR: 'it returns false'. Refute it at one input. -/
def fnExactReachByWrong : ChangeSpec := { name := "fnExactReachBy", fn := fun _ => fun
  | [d1, d2] => { results := [.lit (.bool false)], args := [d1, d2] }
  | _ => none }
def FnExactReachByWrongFalsely : Prop := fnExactReachByRow.holds Try.pinned (OpenSpec.ofChange fnExactReachByWrong)

/-- 'laws.FnExactSameProof': WHATEVER THE INPUT: true; the input reads as it did. -/
def fnExactSameProofSpec : ChangeSpec := { name := "fnExactSameProof", fn := fun _ => fun
  | [d1, d2] => { results := [.lit (.bool true)], args := [d1, d2] }
  | _ => none }
def fnExactSameProofRow : OpenClaim := { program := "ytnfjneogmddfdaa", sum := "4468de18b31ceabaaeae773f33583b08980f85d72f5fb7d4383b77af5707f50f", func := "loop.example/g00894/laws.FnExactSameProof", spec := "fnExactSameProof", apart := false }
def FnExactSameProofSaid : Prop := fnExactSameProofRow.holds Try.pinned (OpenSpec.ofChange fnExactSameProofSpec)

/-- ITS FALSE NEIGHBOUR: 'it returns false'. Refute it at one input. -/
def fnExactSameProofWrong : ChangeSpec := { name := "fnExactSameProof", fn := fun _ => fun
  | [d1, d2] => { results := [.lit (.bool false)], args := [d1, d2] }
  | _ => none }
def FnExactSameProofWrongFalsely : Prop := fnExactSameProofRow.holds Try.pinned (OpenSpec.ofChange fnExactSameProofWrong)

/- THE SECOND FORM. 'bulk': how many values and letters a reading holds, each counted each time it is reached (what is shared counts as often as it is met; a slice's spare places count too). A statement '..UptoSaid' is the law's where the arguments, and the package variables that the reading takes, are together of bulk at most 1048576: NARROWER than '..Said'. Prove '..Said' where nothing that the law and all that it calls make is longer than what came in: it says more and counts as full. Else prove '..UptoSaid'. A law counts once. -/
mutual
def uptoBulk {H : Type} : DataW H → Nat
  | .lit (.string bytes) => bytes.length + 1
  | .lit _ => 1
  | .nil => 1
  | .ptr d => uptoBulk d + 1
  | .slice elems spare => uptoBulkAll elems + uptoBulkAll spare + 1
  | .agg parts => uptoBulkAll parts + 1
  | .iface _ d => uptoBulk d + 1
  | .map entries => uptoBulkEntries entries + 1
  | .held _ => 1
def uptoBulkAll {H : Type} : List (DataW H) → Nat
  | [] => 0
  | d :: r => uptoBulk d + uptoBulkAll r
def uptoBulkEntries {H : Type} : List (Lit × DataW H) → Nat
  | [] => 0
  | x :: r => uptoBulkEntry x + uptoBulkEntries r
def uptoBulkEntry {H : Type} : Lit × DataW H → Nat
  | (.string bytes, d) => bytes.length + uptoBulk d + 1
  | (_, d) => uptoBulk d + 1
 end
def uptoSmall : (H : Type) → List (DataW H) → Bool := fun _ ds => decide (uptoBulkAll ds ≤ 1048576)
def OpenSpec.upto (s : _root_.Go.ChangeSpec) : _root_.Go.OpenSpec := { _root_.Go.OpenSpec.ofChange s with cond := some uptoSmall }

/-- 'laws.FnExactChangeSign', WHERE WHAT IT READS IS OF BULK AT MOST 1048576: true; the input reads as it did. -/
def fnExactChangeSignUptoRow : OpenClaim := { program := "ytnfjneogmddfdaa", sum := "4468de18b31ceabaaeae773f33583b08980f85d72f5fb7d4383b77af5707f50f", func := "loop.example/g00894/laws.FnExactChangeSign", spec := "fnExactChangeSign", apart := false, narrowed := true }
def FnExactChangeSignUptoSaid : Prop := fnExactChangeSignUptoRow.holds Try.pinned (OpenSpec.upto fnExactChangeSignSpec)

/-- 'laws.FnExactSignsOf', WHERE WHAT IT READS IS OF BULK AT MOST 1048576: true; the input reads as it did. -/
def fnExactSignsOfUptoRow : OpenClaim := { program := "ytnfjneogmddfdaa", sum := "4468de18b31ceabaaeae773f33583b08980f85d72f5fb7d4383b77af5707f50f", func := "loop.example/g00894/laws.FnExactSignsOf", spec := "fnExactSignsOf", apart := false, narrowed := true }
def FnExactSignsOfUptoSaid : Prop := fnExactSignsOfUptoRow.holds Try.pinned (OpenSpec.upto fnExactSignsOfSpec)

/-- 'laws.FnExactOddsIn', WHERE WHAT IT READS IS OF BULK AT MOST 1048576: true; the input reads as it did. -/
def fnExactOddsInUptoRow : OpenClaim := { program := "ytnfjneogmddfdaa", sum := "4468de18b31ceabaaeae773f33583b08980f85d72f5fb7d4383b77af5707f50f", func := "loop.example/g00894/laws.FnExactOddsIn", spec := "fnExactOddsIn", apart := false, narrowed := true }
def FnExactOddsInUptoSaid : Prop := fnExactOddsInUptoRow.holds Try.pinned (OpenSpec.upto fnExactOddsInSpec)

/-- 'laws.FnExactRowsFrom', WHERE WHAT IT READS IS OF BULK AT MOST 1048576: true; the input reads as it did. -/
def fnExactRowsFromUptoRow : OpenClaim := { program := "ytnfjneogmddfdaa", sum := "4468de18b31ceabaaeae773f33583b08980f85d72f5fb7d4383b77af5707f50f", func := "loop.example/g00894/laws.FnExactRowsFrom", spec := "fnExactRowsFrom", apart := false, narrowed := true }
def FnExactRowsFromUptoSaid : Prop := fnExactRowsFromUptoRow.holds Try.pinned (OpenSpec.upto fnExactRowsFromSpec)

/-- 'laws.FnExactCountExtents', WHERE WHAT IT READS IS OF BULK AT MOST 1048576: true; the input reads as it did. -/
def fnExactCountExtentsUptoRow : OpenClaim := { program := "ytnfjneogmddfdaa", sum := "4468de18b31ceabaaeae773f33583b08980f85d72f5fb7d4383b77af5707f50f", func := "loop.example/g00894/laws.FnExactCountExtents", spec := "fnExactCountExtents", recurses := true, apart := false, narrowed := true }
def FnExactCountExtentsUptoSaid : Prop := fnExactCountExtentsUptoRow.holds Try.pinned (OpenSpec.upto fnExactCountExtentsSpec)

/-- 'laws.FnExactIsExtent', WHERE WHAT IT READS IS OF BULK AT MOST 1048576: true; the input reads as it did. -/
def fnExactIsExtentUptoRow : OpenClaim := { program := "ytnfjneogmddfdaa", sum := "4468de18b31ceabaaeae773f33583b08980f85d72f5fb7d4383b77af5707f50f", func := "loop.example/g00894/laws.FnExactIsExtent", spec := "fnExactIsExtent", recurses := true, apart := false, narrowed := true }
def FnExactIsExtentUptoSaid : Prop := fnExactIsExtentUptoRow.holds Try.pinned (OpenSpec.upto fnExactIsExtentSpec)

/-- 'laws.FnExactFindExtent', WHERE WHAT IT READS IS OF BULK AT MOST 1048576: true; the input reads as it did. -/
def fnExactFindExtentUptoRow : OpenClaim := { program := "ytnfjneogmddfdaa", sum := "4468de18b31ceabaaeae773f33583b08980f85d72f5fb7d4383b77af5707f50f", func := "loop.example/g00894/laws.FnExactFindExtent", spec := "fnExactFindExtent", recurses := true, apart := false, narrowed := true }
def FnExactFindExtentUptoSaid : Prop := fnExactFindExtentUptoRow.holds Try.pinned (OpenSpec.upto fnExactFindExtentSpec)

/-- 'laws.FnExactReachBy', WHERE WHAT IT READS IS OF BULK AT MOST 1048576: true; the input reads as it did. -/
def fnExactReachByUptoRow : OpenClaim := { program := "ytnfjneogmddfdaa", sum := "4468de18b31ceabaaeae773f33583b08980f85d72f5fb7d4383b77af5707f50f", func := "loop.example/g00894/laws.FnExactReachBy", spec := "fnExactReachBy", recurses := true, apart := false, narrowed := true }
def FnExactReachByUptoSaid : Prop := fnExactReachByUptoRow.holds Try.pinned (OpenSpec.upto fnExactReachBySpec)

/-- 'laws.FnExactSameProof', WHERE WHAT IT READS IS OF BULK AT MOST 1048576: true; the input reads as it did. -/
def fnExactSameProofUptoRow : OpenClaim := { program := "ytnfjneogmddfdaa", sum := "4468de18b31ceabaaeae773f33583b08980f85d72f5fb7d4383b77af5707f50f", func := "loop.example/g00894/laws.FnExactSameProof", spec := "fnExactSameProof", apart := false, narrowed := true }
def FnExactSameProofUptoSaid : Prop := fnExactSameProofUptoRow.holds Try.pinned (OpenSpec.upto fnExactSameProofSpec)

end Rows
end Go.Proofs.Ytnfjneogmddfdaa
