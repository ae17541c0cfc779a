/-
  DERIVED. GIVEN WITH THE SEED: THE CARDS: each row of YtpihabofmnnbbaaGreatDoorRows.lean that lists a variable, with what it lists TIED to the program's text (the seventh form; the later family's looks); each row that meets fmt, with fmt's text TOLD by the authors' own Lean function (tested against real Go, not proved from fmt's source: count such statements apart). THE CARD IS WHAT COUNTS. Prove the row's statement (the work); the ties are given (YtpihabofmnnbbaaGreatDoorTie.lean); close each card by the builder's one call (the guide's Derived/Test/ToyasCard.lean, 'card_holds'). Laid BY PROGRAM, IN A SANDBOX (cutbox-door.mjs). By AI agents, Wed Nov 11 2026. No macro, syntax, notation, axiom, sorry.
-/
import Derived.Test.YtpihabofmnnbbaaGreatDoorRows
import GoSem.ClaimSeven
namespace Go.Proofs.YtpihabofmnnbbaaGreatDoor
namespace Rows

/-- THE TIED CARD OF 'kerbsidelaw35.TariffTells'. -/
def tariffTellsCard : Claim7 := { stood := { row := tariffTellsRow, standIns := [], harness := (true, "4acdfc0a0f9223bd532ceb6fbd3311af63c8107091b54767c5569e027967e081"), looks := false }, kinds := [], alts := [], laidByText := true, laidKinds := [.data, .data, .data, .data], laidTests := true, laidLooks := .later }
def TariffTellsCardSaid : Prop := Claim7.holds Tryz.pinned (.plain (OpenSpec.ofChange tariffTellsSpec)) tariffTellsCard

/-- THE SECOND FORM's CARD OF 'kerbsidelaw35.TariffTells'. -/
def tariffTellsUptoCard : Claim7 := { stood := { row := tariffTellsUptoRow, standIns := [], harness := (true, "4acdfc0a0f9223bd532ceb6fbd3311af63c8107091b54767c5569e027967e081"), looks := false }, kinds := [], alts := [], laidByText := true, laidKinds := [.data, .data, .data, .data], laidTests := true, laidLooks := .later }
def TariffTellsUptoCardSaid : Prop := Claim7.holds Tryz.pinned (.plain (OpenSpec.upto tariffTellsSpec)) tariffTellsUptoCard
end Rows
end Go.Proofs.YtpihabofmnnbbaaGreatDoor
