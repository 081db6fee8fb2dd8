/-
  DERIVED. GIVEN WITH THE SEED: THE CARDS: each row of YtmlhdchglhkhiaaDoorRows.lean that lists a variable, with what it lists TIED to the program's text (the seventh form; the later family's looks); each row that meets fmt, with fmt's text TOLD by the authors' own Lean function (tested against real Go, not proved from fmt's source: count such statements apart). THE CARD IS WHAT COUNTS. Prove the row's statement (the work); the ties are given (YtmlhdchglhkhiaaDoorTie.lean); close each card by the builder's one call (the guide's Derived/Test/ToyasCard.lean, 'card_holds'). Laid BY PROGRAM, IN A SANDBOX (cutbox-door.mjs). By AI agents, Wed Nov 11 2026. No macro, syntax, notation, axiom, sorry.
-/
import Derived.Test.YtmlhdchglhkhiaaDoorRows
import GoSem.ClaimSeven
namespace Go.Proofs.YtmlhdchglhkhiaaDoor
namespace Rows

/-- THE TIED CARD OF 'laws.FnExactStrikesText'. -/
def fnExactStrikesTextCard : Claim7 := { stood := { row := fnExactStrikesTextRow, standIns := [], harness := (true, "6a947f92c3761395cfcff2b4421a7a09ad0c8df52b2ed9b6672bac3c57ca7f6c"), looks := false }, kinds := [], alts := [], laidByText := true, laidKinds := [.data, .data, .data], laidTests := true, laidLooks := .later }
def FnExactStrikesTextCardSaid : Prop := Claim7.holds Tryd.pinned (.plain (OpenSpec.ofChange fnExactStrikesTextSpec)) fnExactStrikesTextCard

/-- THE TIED CARD OF 'laws.FnExactCutRows'. -/
def fnExactCutRowsCard : Claim7 := { stood := { row := fnExactCutRowsRow, standIns := [], harness := (true, "6a947f92c3761395cfcff2b4421a7a09ad0c8df52b2ed9b6672bac3c57ca7f6c"), looks := false }, kinds := [], alts := [], laidByText := true, laidKinds := [.data, .data, .data], laidTests := true, laidLooks := .later }
def FnExactCutRowsCardSaid : Prop := Claim7.holds Tryd.pinned (.plain (OpenSpec.ofChange fnExactCutRowsSpec)) fnExactCutRowsCard

/-- THE TIED CARD OF 'laws.FnExactReadStrikes'. -/
def fnExactReadStrikesCard : Claim7 := { stood := { row := fnExactReadStrikesRow, standIns := [], harness := (true, "6a947f92c3761395cfcff2b4421a7a09ad0c8df52b2ed9b6672bac3c57ca7f6c"), looks := false }, kinds := [], alts := [], laidByText := true, laidKinds := [.data, .pinned], laidTests := true, laidLooks := .later }
def FnExactReadStrikesCardSaid : Prop := Claim7.holds Tryd.pinned (.plain (OpenSpec.ofChange fnExactReadStrikesSpec)) fnExactReadStrikesCard

/-- THE TIED CARD OF 'laws.FnExactProofText'. -/
def fnExactProofTextCard : Claim7 := { stood := { row := fnExactProofTextRow, standIns := [], harness := (true, "6a947f92c3761395cfcff2b4421a7a09ad0c8df52b2ed9b6672bac3c57ca7f6c"), looks := false }, kinds := [], alts := [], laidByText := true, laidKinds := [.data, .data, .data], laidTests := true, laidLooks := .later }
def FnExactProofTextCardSaid : Prop := Claim7.holds Tryd.pinned (.plain (OpenSpec.ofChange fnExactProofTextSpec)) fnExactProofTextCard

/-- THE TIED CARD OF 'laws.FnExactReadProof'. -/
def fnExactReadProofCard : Claim7 := { stood := { row := fnExactReadProofRow, standIns := [], harness := (true, "6a947f92c3761395cfcff2b4421a7a09ad0c8df52b2ed9b6672bac3c57ca7f6c"), looks := false }, kinds := [], alts := [], laidByText := true, laidKinds := [.data, .data, .data, .data, .pinned], laidTests := true, laidLooks := .later }
def FnExactReadProofCardSaid : Prop := Claim7.holds Tryd.pinned (.plain (OpenSpec.ofChange fnExactReadProofSpec)) fnExactReadProofCard

/-- THE SECOND FORM's CARD OF 'laws.FnExactStrikesText'. -/
def fnExactStrikesTextUptoCard : Claim7 := { stood := { row := fnExactStrikesTextUptoRow, standIns := [], harness := (true, "6a947f92c3761395cfcff2b4421a7a09ad0c8df52b2ed9b6672bac3c57ca7f6c"), looks := false }, kinds := [], alts := [], laidByText := true, laidKinds := [.data, .data, .data], laidTests := true, laidLooks := .later }
def FnExactStrikesTextUptoCardSaid : Prop := Claim7.holds Tryd.pinned (.plain (OpenSpec.upto fnExactStrikesTextSpec)) fnExactStrikesTextUptoCard

/-- THE SECOND FORM's CARD OF 'laws.FnExactCutRows'. -/
def fnExactCutRowsUptoCard : Claim7 := { stood := { row := fnExactCutRowsUptoRow, standIns := [], harness := (true, "6a947f92c3761395cfcff2b4421a7a09ad0c8df52b2ed9b6672bac3c57ca7f6c"), looks := false }, kinds := [], alts := [], laidByText := true, laidKinds := [.data, .data, .data], laidTests := true, laidLooks := .later }
def FnExactCutRowsUptoCardSaid : Prop := Claim7.holds Tryd.pinned (.plain (OpenSpec.upto fnExactCutRowsSpec)) fnExactCutRowsUptoCard

/-- THE SECOND FORM's CARD OF 'laws.FnExactReadStrikes'. -/
def fnExactReadStrikesUptoCard : Claim7 := { stood := { row := fnExactReadStrikesUptoRow, standIns := [], harness := (true, "6a947f92c3761395cfcff2b4421a7a09ad0c8df52b2ed9b6672bac3c57ca7f6c"), looks := false }, kinds := [], alts := [], laidByText := true, laidKinds := [.data, .pinned], laidTests := true, laidLooks := .later }
def FnExactReadStrikesUptoCardSaid : Prop := Claim7.holds Tryd.pinned (.plain (OpenSpec.upto fnExactReadStrikesSpec)) fnExactReadStrikesUptoCard

/-- THE SECOND FORM's CARD OF 'laws.FnExactProofText'. -/
def fnExactProofTextUptoCard : Claim7 := { stood := { row := fnExactProofTextUptoRow, standIns := [], harness := (true, "6a947f92c3761395cfcff2b4421a7a09ad0c8df52b2ed9b6672bac3c57ca7f6c"), looks := false }, kinds := [], alts := [], laidByText := true, laidKinds := [.data, .data, .data], laidTests := true, laidLooks := .later }
def FnExactProofTextUptoCardSaid : Prop := Claim7.holds Tryd.pinned (.plain (OpenSpec.upto fnExactProofTextSpec)) fnExactProofTextUptoCard

/-- THE SECOND FORM's CARD OF 'laws.FnExactReadProof'. -/
def fnExactReadProofUptoCard : Claim7 := { stood := { row := fnExactReadProofUptoRow, standIns := [], harness := (true, "6a947f92c3761395cfcff2b4421a7a09ad0c8df52b2ed9b6672bac3c57ca7f6c"), looks := false }, kinds := [], alts := [], laidByText := true, laidKinds := [.data, .data, .data, .data, .pinned], laidTests := true, laidLooks := .later }
def FnExactReadProofUptoCardSaid : Prop := Claim7.holds Tryd.pinned (.plain (OpenSpec.upto fnExactReadProofSpec)) fnExactReadProofUptoCard
end Rows
end Go.Proofs.YtmlhdchglhkhiaaDoor
