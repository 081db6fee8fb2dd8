/-
  DERIVED. GIVEN WITH THE SEED: THE CARDS: each row of YthffeljicohpdaaGreatDoorRows.lean that lists a variable, with what it lists TIED to the program's text (the seventh form; the later family's looks); each row that meets fmt, with fmt's text TOLD by the authors' own Lean function (tested against real Go, not proved from fmt's source: count such statements apart). THE CARD IS WHAT COUNTS. Prove the row's statement (the work); the ties are given (YthffeljicohpdaaGreatDoorTie.lean); close each card by the builder's one call (the guide's Derived/Test/ToyasCard.lean, 'card_holds'). Laid BY PROGRAM, IN A SANDBOX (cutbox-door.mjs). By AI agents, Wed Nov 11 2026. No macro, syntax, notation, axiom, sorry.
-/
import Derived.Test.YthffeljicohpdaaGreatDoorRows
import GoSem.ClaimSeven
namespace Go.Proofs.YthffeljicohpdaaGreatDoor
namespace Rows

/-- THE TIED CARD OF 'laws.FnStrikeTexts'. -/
def fnStrikeTextsCard : Claim7 := { stood := { row := fnStrikeTextsRow, standIns := [], harness := (true, "97edc9d25acf9e82439b11ef93911abd347471617de7c0391bea9e4f7907d890"), looks := false }, kinds := [], alts := [], laidByText := true, laidKinds := [.data, .data, .data, .data, .pinned], laidTests := true, laidLooks := .later }
def FnStrikeTextsCardSaid : Prop := Claim7.holds Tryz.pinned (.plain (OpenSpec.ofChange fnStrikeTextsSpec)) fnStrikeTextsCard

/-- THE SECOND FORM's CARD OF 'laws.FnStrikeTexts'. -/
def fnStrikeTextsUptoCard : Claim7 := { stood := { row := fnStrikeTextsUptoRow, standIns := [], harness := (true, "97edc9d25acf9e82439b11ef93911abd347471617de7c0391bea9e4f7907d890"), looks := false }, kinds := [], alts := [], laidByText := true, laidKinds := [.data, .data, .data, .data, .pinned], laidTests := true, laidLooks := .later }
def FnStrikeTextsUptoCardSaid : Prop := Claim7.holds Tryz.pinned (.plain (OpenSpec.upto fnStrikeTextsSpec)) fnStrikeTextsUptoCard
end Rows
end Go.Proofs.YthffeljicohpdaaGreatDoor
