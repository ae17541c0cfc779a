/-
  DERIVED. GIVEN WITH THE SEED: THE CARDS: each row of YthaegflpecbfgaaGreatDoorRows.lean that lists a variable, with what it lists TIED to the program's text (the seventh form; the later family's looks); each row that meets fmt, with fmt's text TOLD by the authors' own Lean function (tested against real Go, not proved from fmt's source: count such statements apart). THE CARD IS WHAT COUNTS. Prove the row's statement (the work); the ties are given (YthaegflpecbfgaaGreatDoorTie.lean); close each card by the builder's one call (the guide's Derived/Test/ToyasCard.lean, 'card_holds'). Laid BY PROGRAM, IN A SANDBOX (cutbox-door.mjs). By AI agents, Wed Nov 11 2026. No macro, syntax, notation, axiom, sorry.
-/
import Derived.Test.YthaegflpecbfgaaGreatDoorRows
import GoSem.ClaimSeven
namespace Go.Proofs.YthaegflpecbfgaaGreatDoor
namespace Rows

/-- THE TIED CARD OF 'kerbsidelaw37.FormTells'. -/
def formTellsCard : Claim7 := { stood := { row := formTellsRow, standIns := [], harness := (true, "80e1465781d0e09a6a8f19e55909dce1db84f2a601fc04d701b96c3c9e23c08a"), looks := false }, kinds := [], alts := [], laidByText := true, laidKinds := [.data], laidTests := true, laidLooks := .later }
def FormTellsCardSaid : Prop := Claim7.holds Tryz.pinned (.plain (OpenSpec.ofChange formTellsSpec)) formTellsCard

/-- THE TIED CARD OF 'kerbsidelaw37.FormValue'. -/
def formValueCard : Claim7 := { stood := { row := formValueRow, standIns := [], harness := (true, "80e1465781d0e09a6a8f19e55909dce1db84f2a601fc04d701b96c3c9e23c08a"), looks := false }, kinds := [], alts := [], laidByText := true, laidKinds := [.data], laidTests := true, laidLooks := .later }
def FormValueCardSaid : Prop := Claim7.holds Tryz.pinned (.plain (OpenSpec.ofChange formValueSpec)) formValueCard

/-- THE TIED CARD OF 'kerbsidelaw37.FormConvex'. -/
def formConvexCard : Claim7 := { stood := { row := formConvexRow, standIns := [], harness := (true, "80e1465781d0e09a6a8f19e55909dce1db84f2a601fc04d701b96c3c9e23c08a"), looks := false }, kinds := [], alts := [], laidByText := true, laidKinds := [.data], laidTests := true, laidLooks := .later }
def FormConvexCardSaid : Prop := Claim7.holds Tryz.pinned (.plain (OpenSpec.ofChange formConvexSpec)) formConvexCard

/-- THE TIED CARD OF 'kerbsidelaw37.FormStraight'. -/
def formStraightCard : Claim7 := { stood := { row := formStraightRow, standIns := [], harness := (true, "80e1465781d0e09a6a8f19e55909dce1db84f2a601fc04d701b96c3c9e23c08a"), looks := false }, kinds := [], alts := [], laidByText := true, laidKinds := [.data], laidTests := true, laidLooks := .later }
def FormStraightCardSaid : Prop := Claim7.holds Tryz.pinned (.plain (OpenSpec.ofChange formStraightSpec)) formStraightCard

/-- THE TIED CARD OF 'kerbsidelaw37.FormPairs'. -/
def formPairsCard : Claim7 := { stood := { row := formPairsRow, standIns := [], harness := (true, "80e1465781d0e09a6a8f19e55909dce1db84f2a601fc04d701b96c3c9e23c08a"), looks := false }, kinds := [], alts := [], laidByText := true, laidKinds := [.data], laidTests := true, laidLooks := .later }
def FormPairsCardSaid : Prop := Claim7.holds Tryz.pinned (.plain (OpenSpec.ofChange formPairsSpec)) formPairsCard

/-- THE SECOND FORM's CARD OF 'kerbsidelaw37.FormTells'. -/
def formTellsUptoCard : Claim7 := { stood := { row := formTellsUptoRow, standIns := [], harness := (true, "80e1465781d0e09a6a8f19e55909dce1db84f2a601fc04d701b96c3c9e23c08a"), looks := false }, kinds := [], alts := [], laidByText := true, laidKinds := [.data], laidTests := true, laidLooks := .later }
def FormTellsUptoCardSaid : Prop := Claim7.holds Tryz.pinned (.plain (OpenSpec.upto formTellsSpec)) formTellsUptoCard

/-- THE SECOND FORM's CARD OF 'kerbsidelaw37.FormValue'. -/
def formValueUptoCard : Claim7 := { stood := { row := formValueUptoRow, standIns := [], harness := (true, "80e1465781d0e09a6a8f19e55909dce1db84f2a601fc04d701b96c3c9e23c08a"), looks := false }, kinds := [], alts := [], laidByText := true, laidKinds := [.data], laidTests := true, laidLooks := .later }
def FormValueUptoCardSaid : Prop := Claim7.holds Tryz.pinned (.plain (OpenSpec.upto formValueSpec)) formValueUptoCard

/-- THE SECOND FORM's CARD OF 'kerbsidelaw37.FormConvex'. -/
def formConvexUptoCard : Claim7 := { stood := { row := formConvexUptoRow, standIns := [], harness := (true, "80e1465781d0e09a6a8f19e55909dce1db84f2a601fc04d701b96c3c9e23c08a"), looks := false }, kinds := [], alts := [], laidByText := true, laidKinds := [.data], laidTests := true, laidLooks := .later }
def FormConvexUptoCardSaid : Prop := Claim7.holds Tryz.pinned (.plain (OpenSpec.upto formConvexSpec)) formConvexUptoCard

/-- THE SECOND FORM's CARD OF 'kerbsidelaw37.FormStraight'. -/
def formStraightUptoCard : Claim7 := { stood := { row := formStraightUptoRow, standIns := [], harness := (true, "80e1465781d0e09a6a8f19e55909dce1db84f2a601fc04d701b96c3c9e23c08a"), looks := false }, kinds := [], alts := [], laidByText := true, laidKinds := [.data], laidTests := true, laidLooks := .later }
def FormStraightUptoCardSaid : Prop := Claim7.holds Tryz.pinned (.plain (OpenSpec.upto formStraightSpec)) formStraightUptoCard

/-- THE SECOND FORM's CARD OF 'kerbsidelaw37.FormPairs'. -/
def formPairsUptoCard : Claim7 := { stood := { row := formPairsUptoRow, standIns := [], harness := (true, "80e1465781d0e09a6a8f19e55909dce1db84f2a601fc04d701b96c3c9e23c08a"), looks := false }, kinds := [], alts := [], laidByText := true, laidKinds := [.data], laidTests := true, laidLooks := .later }
def FormPairsUptoCardSaid : Prop := Claim7.holds Tryz.pinned (.plain (OpenSpec.upto formPairsSpec)) formPairsUptoCard
end Rows
end Go.Proofs.YthaegflpecbfgaaGreatDoor
