/-
  DERIVED. GIVEN WITH THE SEED: THE CARDS: each row of YtpccbmndgdiloaaDoorRows.lean that lists a variable, with what it lists TIED to the program's text (the seventh form; the later family's looks); each row that meets fmt, with fmt's text TOLD by the authors' own Lean function (tested against real Go, not proved from fmt's source: count such statements apart). THE CARD IS WHAT COUNTS. Prove the row's statement (the work); the ties are given (YtpccbmndgdiloaaDoorTie.lean); close each card by the builder's one call (the guide's Derived/Test/ToyasCard.lean, 'card_holds'). Laid BY PROGRAM, IN A SANDBOX (cutbox-door.mjs). By AI agents, Wed Nov 11 2026. No macro, syntax, notation, axiom, sorry.
-/
import Derived.Test.YtpccbmndgdiloaaDoorRows
import GoSem.ClaimSeven
namespace Go.Proofs.YtpccbmndgdiloaaDoor
namespace Rows

/-- THE TIED CARD OF 'laws.FnStrikes'. -/
def fnStrikesCard : Claim7 := { stood := { row := fnStrikesRow, standIns := [], harness := (true, "8e1599793859ad11862caba1d6716fd1dc52ec0611ef375f5aac724e317b7911"), looks := false }, kinds := [], alts := [], laidByText := true, laidKinds := [.data, .data, .data], laidTests := true, laidLooks := .later }
def FnStrikesCardSaid : Prop := Claim7.holds Tryd.pinned (.plain (OpenSpec.ofChange fnStrikesSpec)) fnStrikesCard

/-- THE SECOND FORM's CARD OF 'laws.FnStrikes'. -/
def fnStrikesUptoCard : Claim7 := { stood := { row := fnStrikesUptoRow, standIns := [], harness := (true, "8e1599793859ad11862caba1d6716fd1dc52ec0611ef375f5aac724e317b7911"), looks := false }, kinds := [], alts := [], laidByText := true, laidKinds := [.data, .data, .data], laidTests := true, laidLooks := .later }
def FnStrikesUptoCardSaid : Prop := Claim7.holds Tryd.pinned (.plain (OpenSpec.upto fnStrikesSpec)) fnStrikesUptoCard
end Rows
end Go.Proofs.YtpccbmndgdiloaaDoor
