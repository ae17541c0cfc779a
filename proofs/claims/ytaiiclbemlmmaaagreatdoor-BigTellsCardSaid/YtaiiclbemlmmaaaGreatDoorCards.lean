/-
  DERIVED. GIVEN WITH THE SEED: THE CARDS: each row of YtaiiclbemlmmaaaGreatDoorRows.lean that lists a variable, with what it lists TIED to the program's text (the seventh form; the later family's looks); each row that meets fmt, with fmt's text TOLD by the authors' own Lean function (tested against real Go, not proved from fmt's source: count such statements apart). THE CARD IS WHAT COUNTS. Prove the row's statement (the work); the ties are given (YtaiiclbemlmmaaaGreatDoorTie.lean); close each card by the builder's one call (the guide's Derived/Test/ToyasCard.lean, 'card_holds'). Laid BY PROGRAM, IN A SANDBOX (cutbox-door.mjs). By AI agents, Wed Nov 11 2026. No macro, syntax, notation, axiom, sorry.
-/
import Derived.Test.YtaiiclbemlmmaaaGreatDoorRows
import GoSem.ClaimSeven
namespace Go.Proofs.YtaiiclbemlmmaaaGreatDoor
namespace Rows

/-- THE TIED CARD OF 'kerbsidelaw04.BigTells'. -/
def bigTellsCard : Claim7 := { stood := { row := bigTellsRow, standIns := [], harness := (true, "91c27c8ffa082a6bc9418e91d9a6da68e641ded2f3db354830fb31758c82e887"), looks := false }, kinds := [], alts := [], laidByText := true, laidKinds := [.data, .data, .data, .data, .pinned], laidTests := true, laidLooks := .later }
def BigTellsCardSaid : Prop := Claim7.holds Tryz.pinned (.plain (OpenSpec.ofChange bigTellsSpec)) bigTellsCard

/-- THE SECOND FORM's CARD OF 'kerbsidelaw04.BigTells'. -/
def bigTellsUptoCard : Claim7 := { stood := { row := bigTellsUptoRow, standIns := [], harness := (true, "91c27c8ffa082a6bc9418e91d9a6da68e641ded2f3db354830fb31758c82e887"), looks := false }, kinds := [], alts := [], laidByText := true, laidKinds := [.data, .data, .data, .data, .pinned], laidTests := true, laidLooks := .later }
def BigTellsUptoCardSaid : Prop := Claim7.holds Tryz.pinned (.plain (OpenSpec.upto bigTellsSpec)) bigTellsUptoCard
end Rows
end Go.Proofs.YtaiiclbemlmmaaaGreatDoor
