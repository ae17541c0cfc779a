/-
  DERIVED. GIVEN WITH THE SEED: THE CARDS: each row of YtjegnogjkddnbaaGreatDoorRows.lean that lists a variable, with what it lists TIED to the program's text (the seventh form; the later family's looks); each row that meets fmt, with fmt's text TOLD by the authors' own Lean function (tested against real Go, not proved from fmt's source: count such statements apart). THE CARD IS WHAT COUNTS. Prove the row's statement (the work); the ties are given (YtjegnogjkddnbaaGreatDoorTie.lean); close each card by the builder's one call (the guide's Derived/Test/ToyasCard.lean, 'card_holds'). Laid BY PROGRAM, IN A SANDBOX (cutbox-door.mjs). By AI agents, Wed Nov 11 2026. No macro, syntax, notation, axiom, sorry.
-/
import Derived.Test.YtjegnogjkddnbaaGreatDoorRows
import GoSem.ClaimSeven
namespace Go.Proofs.YtjegnogjkddnbaaGreatDoor
namespace Rows

/-- THE TIED CARD OF 'kerbsidelaw50.ProofTells'. -/
def proofTellsCard : Claim7 := { stood := { row := proofTellsRow, standIns := [], harness := (true, "8ee1fb1b6b2e54fa1bc8822aee63a2c81fdad9f1459a4b0f53e17450ef5c4629"), looks := true }, kinds := [], alts := [], laidByText := true, laidKinds := [.data, .data, .data, .data, .sentinel, .sentinel, .pinned], laidTests := true, laidLooks := .later }
def ProofTellsCardSaid : Prop := Claim7.holds Tryz.pinned (.plain (OpenSpec.ofChange proofTellsSpec)) proofTellsCard

/-- THE SECOND FORM's CARD OF 'kerbsidelaw50.ProofTells'. -/
def proofTellsUptoCard : Claim7 := { stood := { row := proofTellsUptoRow, standIns := [], harness := (true, "8ee1fb1b6b2e54fa1bc8822aee63a2c81fdad9f1459a4b0f53e17450ef5c4629"), looks := true }, kinds := [], alts := [], laidByText := true, laidKinds := [.data, .data, .data, .data, .sentinel, .sentinel, .pinned], laidTests := true, laidLooks := .later }
def ProofTellsUptoCardSaid : Prop := Claim7.holds Tryz.pinned (.plain (OpenSpec.upto proofTellsSpec)) proofTellsUptoCard
end Rows
end Go.Proofs.YtjegnogjkddnbaaGreatDoor
