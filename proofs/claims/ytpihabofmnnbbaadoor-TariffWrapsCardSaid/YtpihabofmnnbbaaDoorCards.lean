/-
  DERIVED. GIVEN WITH THE SEED: THE CARDS: each row of YtpihabofmnnbbaaDoorRows.lean that lists a variable, with what it lists TIED to the program's text (the seventh form; the later family's looks); each row that meets fmt, with fmt's text TOLD by the authors' own Lean function (tested against real Go, not proved from fmt's source: count such statements apart). THE CARD IS WHAT COUNTS. Prove the row's statement (the work); the ties are given (YtpihabofmnnbbaaDoorTie.lean); close each card by the builder's one call (the guide's Derived/Test/ToyasCard.lean, 'card_holds'). Laid BY PROGRAM, IN A SANDBOX (cutbox-door.mjs). By AI agents, Wed Nov 11 2026. No macro, syntax, notation, axiom, sorry.
-/
import Derived.Test.YtpihabofmnnbbaaDoorRows
import GoSem.ClaimSeven
namespace Go.Proofs.YtpihabofmnnbbaaDoor
namespace Rows

/-- THE TIED CARD OF 'kerbsidelaw35.TariffBack'. -/
def tariffBackCard : Claim7 := { stood := { row := tariffBackRow, standIns := [], harness := (true, "4c0bce8fcf0c50e7204ad0233079020aff4adf4cd925654691f92f08dc331df8"), looks := false }, kinds := [], alts := [], laidByText := true, laidKinds := [.data, .data, .data, .data], laidTests := true, laidLooks := .later }
def TariffBackCardSaid : Prop := Claim7.holds Tryd.pinned (.plain (OpenSpec.ofChange tariffBackSpec)) tariffBackCard

/-- THE TIED CARD OF 'kerbsidelaw35.TariffTypes'. -/
def tariffTypesCard : Claim7 := { stood := { row := tariffTypesRow, standIns := [], harness := (true, "4c0bce8fcf0c50e7204ad0233079020aff4adf4cd925654691f92f08dc331df8"), looks := false }, kinds := [], alts := [], laidByText := true, laidKinds := [.data, .data, .data, .data], laidTests := true, laidLooks := .later }
def TariffTypesCardSaid : Prop := Claim7.holds Tryd.pinned (.plain (OpenSpec.ofChange tariffTypesSpec)) tariffTypesCard

/-- THE TIED CARD OF 'kerbsidelaw35.TariffParts'. -/
def tariffPartsCard : Claim7 := { stood := { row := tariffPartsRow, standIns := [], harness := (true, "4c0bce8fcf0c50e7204ad0233079020aff4adf4cd925654691f92f08dc331df8"), looks := false }, kinds := [], alts := [], laidByText := true, laidKinds := [.data, .data, .data, .data], laidTests := true, laidLooks := .later }
def TariffPartsCardSaid : Prop := Claim7.holds Tryd.pinned (.plain (OpenSpec.ofChange tariffPartsSpec)) tariffPartsCard

/-- THE TIED CARD OF 'kerbsidelaw35.TariffWraps'. -/
def tariffWrapsCard : Claim7 := { stood := { row := tariffWrapsRow, standIns := [], harness := (true, "4c0bce8fcf0c50e7204ad0233079020aff4adf4cd925654691f92f08dc331df8"), looks := false }, kinds := [], alts := [], laidByText := true, laidKinds := [.data, .data, .data, .data], laidTests := true, laidLooks := .later }
def TariffWrapsCardSaid : Prop := Claim7.holds Tryd.pinned (.plain (OpenSpec.ofChange tariffWrapsSpec)) tariffWrapsCard

/-- THE SECOND FORM's CARD OF 'kerbsidelaw35.TariffBack'. -/
def tariffBackUptoCard : Claim7 := { stood := { row := tariffBackUptoRow, standIns := [], harness := (true, "4c0bce8fcf0c50e7204ad0233079020aff4adf4cd925654691f92f08dc331df8"), looks := false }, kinds := [], alts := [], laidByText := true, laidKinds := [.data, .data, .data, .data], laidTests := true, laidLooks := .later }
def TariffBackUptoCardSaid : Prop := Claim7.holds Tryd.pinned (.plain (OpenSpec.upto tariffBackSpec)) tariffBackUptoCard

/-- THE SECOND FORM's CARD OF 'kerbsidelaw35.TariffTypes'. -/
def tariffTypesUptoCard : Claim7 := { stood := { row := tariffTypesUptoRow, standIns := [], harness := (true, "4c0bce8fcf0c50e7204ad0233079020aff4adf4cd925654691f92f08dc331df8"), looks := false }, kinds := [], alts := [], laidByText := true, laidKinds := [.data, .data, .data, .data], laidTests := true, laidLooks := .later }
def TariffTypesUptoCardSaid : Prop := Claim7.holds Tryd.pinned (.plain (OpenSpec.upto tariffTypesSpec)) tariffTypesUptoCard

/-- THE SECOND FORM's CARD OF 'kerbsidelaw35.TariffParts'. -/
def tariffPartsUptoCard : Claim7 := { stood := { row := tariffPartsUptoRow, standIns := [], harness := (true, "4c0bce8fcf0c50e7204ad0233079020aff4adf4cd925654691f92f08dc331df8"), looks := false }, kinds := [], alts := [], laidByText := true, laidKinds := [.data, .data, .data, .data], laidTests := true, laidLooks := .later }
def TariffPartsUptoCardSaid : Prop := Claim7.holds Tryd.pinned (.plain (OpenSpec.upto tariffPartsSpec)) tariffPartsUptoCard

/-- THE SECOND FORM's CARD OF 'kerbsidelaw35.TariffWraps'. -/
def tariffWrapsUptoCard : Claim7 := { stood := { row := tariffWrapsUptoRow, standIns := [], harness := (true, "4c0bce8fcf0c50e7204ad0233079020aff4adf4cd925654691f92f08dc331df8"), looks := false }, kinds := [], alts := [], laidByText := true, laidKinds := [.data, .data, .data, .data], laidTests := true, laidLooks := .later }
def TariffWrapsUptoCardSaid : Prop := Claim7.holds Tryd.pinned (.plain (OpenSpec.upto tariffWrapsSpec)) tariffWrapsUptoCard
end Rows
end Go.Proofs.YtpihabofmnnbbaaDoor
