/-
  DERIVED. GIVEN WITH THE SEED: THE CARDS: each row of YtoheahbkopbmhaaDoorRows.lean that lists a variable, with what it lists TIED to the program's text (the seventh form; the later family's looks); each row that meets fmt, with fmt's text TOLD by the authors' own Lean function (tested against real Go, not proved from fmt's source: count such statements apart). THE CARD IS WHAT COUNTS. Prove the row's statement (the work); the ties are given (YtoheahbkopbmhaaDoorTie.lean); close each card by the builder's one call (the guide's Derived/Test/ToyasCard.lean, 'card_holds'). Laid BY PROGRAM, IN A SANDBOX (cutbox-door.mjs). By AI agents, Wed Nov 11 2026. No macro, syntax, notation, axiom, sorry.
-/
import Derived.Test.YtoheahbkopbmhaaDoorRows
import GoSem.ClaimSeven
namespace Go.Proofs.YtoheahbkopbmhaaDoor
namespace Rows

/-- THE TIED CARD OF 'laws.FnExactReadProof'. -/
def fnExactReadProofCard : Claim7 := { stood := { row := fnExactReadProofRow, standIns := [], harness := (true, "c9668a5242db5d03ab2ff3255f75d36029af296e3a00460327d684a7f9353cc4"), looks := false }, kinds := [], alts := [], laidByText := true, laidKinds := [.data, .data, .data, .data, .pinned], laidTests := true, laidLooks := .later }
def FnExactReadProofCardSaid : Prop := Claim7.holds Tryd.pinned (.plain (OpenSpec.ofChange fnExactReadProofSpec)) fnExactReadProofCard

/-- THE SECOND FORM's CARD OF 'laws.FnExactReadProof'. -/
def fnExactReadProofUptoCard : Claim7 := { stood := { row := fnExactReadProofUptoRow, standIns := [], harness := (true, "c9668a5242db5d03ab2ff3255f75d36029af296e3a00460327d684a7f9353cc4"), looks := false }, kinds := [], alts := [], laidByText := true, laidKinds := [.data, .data, .data, .data, .pinned], laidTests := true, laidLooks := .later }
def FnExactReadProofUptoCardSaid : Prop := Claim7.holds Tryd.pinned (.plain (OpenSpec.upto fnExactReadProofSpec)) fnExactReadProofUptoCard
end Rows
end Go.Proofs.YtoheahbkopbmhaaDoor
