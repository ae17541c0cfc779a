/-
  DERIVED. GIVEN WITH THE SEED: THE CARDS: each row of YteekaonhdckicaaGreatDoorRows.lean that lists a variable, with what it lists TIED to the program's text (the seventh form; the later family's looks); each row that meets fmt, with fmt's text TOLD by the authors' own Lean function (tested against real Go, not proved from fmt's source: count such statements apart). THE CARD IS WHAT COUNTS. Prove the row's statement (the work); the ties are given (YteekaonhdckicaaGreatDoorTie.lean); close each card by the builder's one call (the guide's Derived/Test/ToyasCard.lean, 'card_holds'). Laid BY PROGRAM, IN A SANDBOX (cutbox-door.mjs). By AI agents, Wed Nov 11 2026. No macro, syntax, notation, axiom, sorry.
-/
import Derived.Test.YteekaonhdckicaaGreatDoorRows
import GoSem.ClaimSeven
namespace Go.Proofs.YteekaonhdckicaaGreatDoor
namespace Rows

/-- THE TIED CARD OF 'kerbsidelaw50.ProofTexts'. -/
def proofTextsCard : Claim7 := { stood := { row := proofTextsRow, standIns := [], harness := (true, "8b4f619a8a5df40efd95156ec0e82f26d6a6f6aa74b805c3b8b2a408ca93a6ed"), looks := true }, kinds := [], alts := [], laidByText := true, laidKinds := [.data, .data, .data, .data, .sentinel, .sentinel, .pinned], laidTests := true, laidLooks := .later }
def ProofTextsCardSaid : Prop := Claim7.holds Tryz.pinned (.plain (OpenSpec.ofChange proofTextsSpec)) proofTextsCard

/-- THE TIED CARD OF 'kerbsidelaw50.ProofNarrows'. -/
def proofNarrowsCard : Claim7 := { stood := { row := proofNarrowsRow, standIns := [], harness := (true, "8b4f619a8a5df40efd95156ec0e82f26d6a6f6aa74b805c3b8b2a408ca93a6ed"), looks := true }, kinds := [], alts := [], laidByText := true, laidKinds := [.data, .data, .data, .data, .sentinel, .sentinel, .pinned], laidTests := true, laidLooks := .later }
def ProofNarrowsCardSaid : Prop := Claim7.holds Tryz.pinned (.plain (OpenSpec.ofChange proofNarrowsSpec)) proofNarrowsCard

/-- THE TIED CARD OF 'kerbsidelaw50.ProofTells'. -/
def proofTellsCard : Claim7 := { stood := { row := proofTellsRow, standIns := [], harness := (true, "8b4f619a8a5df40efd95156ec0e82f26d6a6f6aa74b805c3b8b2a408ca93a6ed"), looks := true }, kinds := [], alts := [], laidByText := true, laidKinds := [.data, .data, .data, .data, .sentinel, .sentinel, .pinned], laidTests := true, laidLooks := .later }
def ProofTellsCardSaid : Prop := Claim7.holds Tryz.pinned (.plain (OpenSpec.ofChange proofTellsSpec)) proofTellsCard

/-- THE SECOND FORM's CARD OF 'kerbsidelaw50.ProofTexts'. -/
def proofTextsUptoCard : Claim7 := { stood := { row := proofTextsUptoRow, standIns := [], harness := (true, "8b4f619a8a5df40efd95156ec0e82f26d6a6f6aa74b805c3b8b2a408ca93a6ed"), looks := true }, kinds := [], alts := [], laidByText := true, laidKinds := [.data, .data, .data, .data, .sentinel, .sentinel, .pinned], laidTests := true, laidLooks := .later }
def ProofTextsUptoCardSaid : Prop := Claim7.holds Tryz.pinned (.plain (OpenSpec.upto proofTextsSpec)) proofTextsUptoCard

/-- THE SECOND FORM's CARD OF 'kerbsidelaw50.ProofNarrows'. -/
def proofNarrowsUptoCard : Claim7 := { stood := { row := proofNarrowsUptoRow, standIns := [], harness := (true, "8b4f619a8a5df40efd95156ec0e82f26d6a6f6aa74b805c3b8b2a408ca93a6ed"), looks := true }, kinds := [], alts := [], laidByText := true, laidKinds := [.data, .data, .data, .data, .sentinel, .sentinel, .pinned], laidTests := true, laidLooks := .later }
def ProofNarrowsUptoCardSaid : Prop := Claim7.holds Tryz.pinned (.plain (OpenSpec.upto proofNarrowsSpec)) proofNarrowsUptoCard

/-- THE SECOND FORM's CARD OF 'kerbsidelaw50.ProofTells'. -/
def proofTellsUptoCard : Claim7 := { stood := { row := proofTellsUptoRow, standIns := [], harness := (true, "8b4f619a8a5df40efd95156ec0e82f26d6a6f6aa74b805c3b8b2a408ca93a6ed"), looks := true }, kinds := [], alts := [], laidByText := true, laidKinds := [.data, .data, .data, .data, .sentinel, .sentinel, .pinned], laidTests := true, laidLooks := .later }
def ProofTellsUptoCardSaid : Prop := Claim7.holds Tryz.pinned (.plain (OpenSpec.upto proofTellsSpec)) proofTellsUptoCard
end Rows
end Go.Proofs.YteekaonhdckicaaGreatDoor
