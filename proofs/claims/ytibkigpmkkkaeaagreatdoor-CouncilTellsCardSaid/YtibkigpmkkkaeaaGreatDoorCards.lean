/-
  DERIVED. GIVEN WITH THE SEED: THE CARDS: each row of YtibkigpmkkkaeaaGreatDoorRows.lean that lists a variable, with what it lists TIED to the program's text (the seventh form; the later family's looks); each row that meets fmt, with fmt's text TOLD by the authors' own Lean function (tested against real Go, not proved from fmt's source: count such statements apart). THE CARD IS WHAT COUNTS. Prove the row's statement (the work); the ties are given (YtibkigpmkkkaeaaGreatDoorTie.lean); close each card by the builder's one call (the guide's Derived/Test/ToyasCard.lean, 'card_holds'). Laid BY PROGRAM, IN A SANDBOX (cutbox-door.mjs). By AI agents, Wed Nov 11 2026. No macro, syntax, notation, axiom, sorry.
-/
import Derived.Test.YtibkigpmkkkaeaaGreatDoorRows
import GoSem.ClaimSeven
namespace Go.Proofs.YtibkigpmkkkaeaaGreatDoor
namespace Rows

/-- THE TIED CARD OF 'kerbsidelaw40.CouncilTells'. -/
def councilTellsCard : Claim7 := { stood := { row := councilTellsRow, standIns := [], harness := (true, "bdb7ea87cf67c223a8b57d411dbd9dc2d9e25c3aafc3a5e895c589bdd5cbb608"), looks := false }, kinds := [], alts := [], laidByText := true, laidKinds := [.data], laidTests := true, laidLooks := .later }
def CouncilTellsCardSaid : Prop := Claim7.holds Tryz.pinned (.plain (OpenSpec.ofChange councilTellsSpec)) councilTellsCard

/-- THE SECOND FORM's CARD OF 'kerbsidelaw40.CouncilTells'. -/
def councilTellsUptoCard : Claim7 := { stood := { row := councilTellsUptoRow, standIns := [], harness := (true, "bdb7ea87cf67c223a8b57d411dbd9dc2d9e25c3aafc3a5e895c589bdd5cbb608"), looks := false }, kinds := [], alts := [], laidByText := true, laidKinds := [.data], laidTests := true, laidLooks := .later }
def CouncilTellsUptoCardSaid : Prop := Claim7.holds Tryz.pinned (.plain (OpenSpec.upto councilTellsSpec)) councilTellsUptoCard
end Rows
end Go.Proofs.YtibkigpmkkkaeaaGreatDoor
