/-
  DERIVED. GIVEN WITH THE SEED: THE CARDS: each row of YtidolgonmimicaaGreatDoorRows.lean that lists a variable, with what it lists TIED to the program's text (the seventh form; the later family's looks); each row that meets fmt, with fmt's text TOLD by the authors' own Lean function (tested against real Go, not proved from fmt's source: count such statements apart). THE CARD IS WHAT COUNTS. Prove the row's statement (the work); the ties are given (YtidolgonmimicaaGreatDoorTie.lean); close each card by the builder's one call (the guide's Derived/Test/ToyasCard.lean, 'card_holds'). Laid BY PROGRAM, IN A SANDBOX (cutbox-door.mjs). By AI agents, Wed Nov 11 2026. No macro, syntax, notation, axiom, sorry.
-/
import Derived.Test.YtidolgonmimicaaGreatDoorRows
import GoSem.ClaimSeven
namespace Go.Proofs.YtidolgonmimicaaGreatDoor
namespace Rows

/-- THE TIED CARD OF 'laws.FnCalling'. -/
def fnCallingCard : Claim7 := { stood := { row := fnCallingRow, standIns := [], harness := (true, "306828222ca29ea9c840fcdd3595be26dc1f26615065b40450e584bd98e7bf90"), looks := false }, kinds := [], alts := [], laidByText := true, laidKinds := [.data, .data, .data, .data, .pinned], laidTests := true, laidLooks := .later }
def FnCallingCardSaid : Prop := Claim7.holds Tryz.pinned (.plain (OpenSpec.ofChange fnCallingSpec)) fnCallingCard

/-- THE SECOND FORM's CARD OF 'laws.FnCalling'. -/
def fnCallingUptoCard : Claim7 := { stood := { row := fnCallingUptoRow, standIns := [], harness := (true, "306828222ca29ea9c840fcdd3595be26dc1f26615065b40450e584bd98e7bf90"), looks := false }, kinds := [], alts := [], laidByText := true, laidKinds := [.data, .data, .data, .data, .pinned], laidTests := true, laidLooks := .later }
def FnCallingUptoCardSaid : Prop := Claim7.holds Tryz.pinned (.plain (OpenSpec.upto fnCallingSpec)) fnCallingUptoCard
end Rows
end Go.Proofs.YtidolgonmimicaaGreatDoor
