/-
  DERIVED. GIVEN WITH THE SEED: THE CARDS: each row of YtibkigpmkkkaeaaDoorRows.lean that lists a variable, with what it lists TIED to the program's text (the seventh form; the later family's looks); each row that meets fmt, with fmt's text TOLD by the authors' own Lean function (tested against real Go, not proved from fmt's source: count such statements apart). THE CARD IS WHAT COUNTS. Prove the row's statement (the work); the ties are given (YtibkigpmkkkaeaaDoorTie.lean); close each card by the builder's one call (the guide's Derived/Test/ToyasCard.lean, 'card_holds'). Laid BY PROGRAM, IN A SANDBOX (cutbox-door.mjs). By AI agents, Wed Nov 11 2026. No macro, syntax, notation, axiom, sorry.
-/
import Derived.Test.YtibkigpmkkkaeaaDoorRows
import GoSem.ClaimSeven
namespace Go.Proofs.YtibkigpmkkkaeaaDoor
namespace Rows

/-- THE TIED CARD OF 'kerbsidelaw40.CouncilNotice'. -/
def councilNoticeCard : Claim7 := { stood := { row := councilNoticeRow, standIns := [], harness := (true, "2f25c33df84abae4fe474dac79023168cf48f7a88e167776f9c33e7c3866bca8"), looks := false }, kinds := [], alts := [], laidByText := true, laidKinds := [.data], laidTests := true, laidLooks := .later }
def CouncilNoticeCardSaid : Prop := Claim7.holds Tryd.pinned (.plain (OpenSpec.ofChange councilNoticeSpec)) councilNoticeCard

/-- THE TIED CARD OF 'kerbsidelaw40.CouncilMajority'. -/
def councilMajorityCard : Claim7 := { stood := { row := councilMajorityRow, standIns := [], harness := (true, "2f25c33df84abae4fe474dac79023168cf48f7a88e167776f9c33e7c3866bca8"), looks := false }, kinds := [], alts := [], laidByText := true, laidKinds := [.data], laidTests := true, laidLooks := .later }
def CouncilMajorityCardSaid : Prop := Claim7.holds Tryd.pinned (.plain (OpenSpec.ofChange councilMajoritySpec)) councilMajorityCard

/-- THE TIED CARD OF 'kerbsidelaw40.CouncilVotes'. -/
def councilVotesCard : Claim7 := { stood := { row := councilVotesRow, standIns := [], harness := (true, "2f25c33df84abae4fe474dac79023168cf48f7a88e167776f9c33e7c3866bca8"), looks := false }, kinds := [], alts := [], laidByText := true, laidKinds := [.data], laidTests := true, laidLooks := .later }
def CouncilVotesCardSaid : Prop := Claim7.holds Tryd.pinned (.plain (OpenSpec.ofChange councilVotesSpec)) councilVotesCard

/-- THE TIED CARD OF 'kerbsidelaw40.CouncilAhead'. -/
def councilAheadCard : Claim7 := { stood := { row := councilAheadRow, standIns := [], harness := (true, "2f25c33df84abae4fe474dac79023168cf48f7a88e167776f9c33e7c3866bca8"), looks := false }, kinds := [], alts := [], laidByText := true, laidKinds := [.data], laidTests := true, laidLooks := .later }
def CouncilAheadCardSaid : Prop := Claim7.holds Tryd.pinned (.plain (OpenSpec.ofChange councilAheadSpec)) councilAheadCard

/-- THE SECOND FORM's CARD OF 'kerbsidelaw40.CouncilNotice'. -/
def councilNoticeUptoCard : Claim7 := { stood := { row := councilNoticeUptoRow, standIns := [], harness := (true, "2f25c33df84abae4fe474dac79023168cf48f7a88e167776f9c33e7c3866bca8"), looks := false }, kinds := [], alts := [], laidByText := true, laidKinds := [.data], laidTests := true, laidLooks := .later }
def CouncilNoticeUptoCardSaid : Prop := Claim7.holds Tryd.pinned (.plain (OpenSpec.upto councilNoticeSpec)) councilNoticeUptoCard

/-- THE SECOND FORM's CARD OF 'kerbsidelaw40.CouncilMajority'. -/
def councilMajorityUptoCard : Claim7 := { stood := { row := councilMajorityUptoRow, standIns := [], harness := (true, "2f25c33df84abae4fe474dac79023168cf48f7a88e167776f9c33e7c3866bca8"), looks := false }, kinds := [], alts := [], laidByText := true, laidKinds := [.data], laidTests := true, laidLooks := .later }
def CouncilMajorityUptoCardSaid : Prop := Claim7.holds Tryd.pinned (.plain (OpenSpec.upto councilMajoritySpec)) councilMajorityUptoCard

/-- THE SECOND FORM's CARD OF 'kerbsidelaw40.CouncilVotes'. -/
def councilVotesUptoCard : Claim7 := { stood := { row := councilVotesUptoRow, standIns := [], harness := (true, "2f25c33df84abae4fe474dac79023168cf48f7a88e167776f9c33e7c3866bca8"), looks := false }, kinds := [], alts := [], laidByText := true, laidKinds := [.data], laidTests := true, laidLooks := .later }
def CouncilVotesUptoCardSaid : Prop := Claim7.holds Tryd.pinned (.plain (OpenSpec.upto councilVotesSpec)) councilVotesUptoCard

/-- THE SECOND FORM's CARD OF 'kerbsidelaw40.CouncilAhead'. -/
def councilAheadUptoCard : Claim7 := { stood := { row := councilAheadUptoRow, standIns := [], harness := (true, "2f25c33df84abae4fe474dac79023168cf48f7a88e167776f9c33e7c3866bca8"), looks := false }, kinds := [], alts := [], laidByText := true, laidKinds := [.data], laidTests := true, laidLooks := .later }
def CouncilAheadUptoCardSaid : Prop := Claim7.holds Tryd.pinned (.plain (OpenSpec.upto councilAheadSpec)) councilAheadUptoCard
end Rows
end Go.Proofs.YtibkigpmkkkaeaaDoor
