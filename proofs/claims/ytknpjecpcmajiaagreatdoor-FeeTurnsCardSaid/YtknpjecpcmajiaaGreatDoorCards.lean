/-
  DERIVED. GIVEN WITH THE SEED: THE CARDS: each row of YtknpjecpcmajiaaGreatDoorRows.lean that lists a variable, with what it lists TIED to the program's text (the seventh form; the later family's looks); each row that meets fmt, with fmt's text TOLD by the authors' own Lean function (tested against real Go, not proved from fmt's source: count such statements apart). THE CARD IS WHAT COUNTS. Prove the row's statement (the work); the ties are given (YtknpjecpcmajiaaGreatDoorTie.lean); close each card by the builder's one call (the guide's Derived/Test/ToyasCard.lean, 'card_holds'). Laid BY PROGRAM, IN A SANDBOX (cutbox-door.mjs). By AI agents, Wed Nov 11 2026. No macro, syntax, notation, axiom, sorry.
-/
import Derived.Test.YtknpjecpcmajiaaGreatDoorRows
import GoSem.ClaimSeven
namespace Go.Proofs.YtknpjecpcmajiaaGreatDoor
namespace Rows

/-- THE TIED CARD OF 'kerbsidelaw36.FeeTurns'. -/
def feeTurnsCard : Claim7 := { stood := { row := feeTurnsRow, standIns := [], harness := (true, "6685f0cf66156bde2d93e24a76fa49d24081df37bdedf762673e42f7cec12066"), looks := false }, kinds := [], alts := [], laidByText := true, laidKinds := [.data, .data, .data, .data], laidTests := true, laidLooks := .later }
def FeeTurnsCardSaid : Prop := Claim7.holds Tryz.pinned (.plain (OpenSpec.ofChange feeTurnsSpec)) feeTurnsCard

/-- THE SECOND FORM's CARD OF 'kerbsidelaw36.FeeTurns'. -/
def feeTurnsUptoCard : Claim7 := { stood := { row := feeTurnsUptoRow, standIns := [], harness := (true, "6685f0cf66156bde2d93e24a76fa49d24081df37bdedf762673e42f7cec12066"), looks := false }, kinds := [], alts := [], laidByText := true, laidKinds := [.data, .data, .data, .data], laidTests := true, laidLooks := .later }
def FeeTurnsUptoCardSaid : Prop := Claim7.holds Tryz.pinned (.plain (OpenSpec.upto feeTurnsSpec)) feeTurnsUptoCard
end Rows
end Go.Proofs.YtknpjecpcmajiaaGreatDoor
