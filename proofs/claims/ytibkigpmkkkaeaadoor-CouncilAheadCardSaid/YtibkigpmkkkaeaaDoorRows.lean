/-
  NARROWER THAN 'FOR EVERY INPUT', by the rows' own cells (each row's printed sentence says how): CouncilNotice: laid · CouncilMajority: laid · CouncilVotes: laid · CouncilAhead: laid.
  DERIVED. THE GIVEN ROWS OF THIS SEAT. 4 by the template 'for every input the law returns true; each argument reads behind the call as it read before'; 0 by the template 'total and deterministic' (their statements: YtibkigpmkkkaeaaDoorTotals.lean).
  GIVEN WITH THE SEED: the statements are not yours to turn. If you find one false, say at which input.
  Laid BY PROGRAM, IN A SANDBOX (cutbox-rows.mjs): the forced cells as the released guide's own fill.sh prints them over the translation 505f344ff85381e9… (all of the seat's roots in one cut). By AI agents, Wed Nov 11 2026. No macro, syntax, notation, axiom, sorry.
-/
import Derived.Test.YtibkigpmkkkaeaaDoorChecked
import GoSem.Claim
import GoSem.ClaimJoined
import GoSem.ClaimMapViews
import Derived.JoinedTies
import Derived.KernelRfl
namespace Go.Proofs.YtibkigpmkkkaeaaDoor
/- THE CELL 'sum', in the pinned program and in every row, IS THE sha256 OF THE DUMP (.gsa) THAT YtibkigpmkkkaeaaDoorProg.lean LOADS. Nothing in Lean hashes anything: it is a label: what it is worth is what the hold of that sum in a sandbox is worth. -/
noncomputable def Tryd.pinned : Pinned := { name := "ytibkigpmkkkaeaadoor", sum := "505f344ff85381e91b386389df9895f59b048345f7362e87c39c8d3ac9c4a633", checked := Tryd.checked }
namespace Rows
def none {H : Type} : Left H := { results := [], args := [] }

/- WHAT THE LISTED PACKAGE-LEVEL VARIABLES READ AS WHEN THE CALL BEGINS. Each datum BY PROGRAM (the guide's laid-datum.mjs) off the statement by which the dump's own 'gosem.cut.vars' lays the variable. In a bare row this is a premise. The card (YtibkigpmkkkaeaaDoorCards.lean) ties it to the program's text. -/
def laid_kerbside_lexer_signs {H : Type} : DataW H := .agg [.lit (.int .u8 40), .lit (.int .u8 41), .lit (.int .u8 44), .lit (.int .u8 59), .lit (.int .u8 58), .lit (.int .u8 61), .lit (.int .u8 60), .lit (.int .u8 43), .lit (.int .u8 45), .lit (.int .u8 42), .lit (.int .u8 47), .lit (.int .u8 123), .lit (.int .u8 125)]

/-- 'kerbsidelaw40.CouncilNotice': WHATEVER THE INPUT: true; the input reads as it did. -/
def councilNoticeSpec : ChangeSpec := { name := "councilNotice", fn := fun _ => fun
  | [d1, d2, d3, d4, d5, d6] => { results := [.lit (.bool true)], args := [d1, d2, d3, d4, d5, d6] }
  | _ => none }
def councilNoticeRow : OpenClaim := { program := "ytibkigpmkkkaeaadoor", sum := "505f344ff85381e91b386389df9895f59b048345f7362e87c39c8d3ac9c4a633", func := "kerbside/kerbsidelaw40.CouncilNotice", spec := "councilNotice", unfollowed := true, recurses := true, named := ["kerbside/lexer.signs"], apart := false, laid := [("kerbside/lexer.signs", laid_kerbside_lexer_signs)] }
def CouncilNoticeSaid : Prop := councilNoticeRow.holds Tryd.pinned (OpenSpec.ofChange councilNoticeSpec)

/-- ITS FALSE NEIGHBOUR: 'it returns false'. Refute it at one input. -/
def councilNoticeWrong : ChangeSpec := { name := "councilNotice", fn := fun _ => fun
  | [d1, d2, d3, d4, d5, d6] => { results := [.lit (.bool false)], args := [d1, d2, d3, d4, d5, d6] }
  | _ => none }
def CouncilNoticeWrongFalsely : Prop := councilNoticeRow.holds Tryd.pinned (OpenSpec.ofChange councilNoticeWrong)

/-- 'kerbsidelaw40.CouncilMajority': WHATEVER THE INPUT: true; the input reads as it did. -/
def councilMajoritySpec : ChangeSpec := { name := "councilMajority", fn := fun _ => fun
  | [d1, d2, d3, d4] => { results := [.lit (.bool true)], args := [d1, d2, d3, d4] }
  | _ => none }
def councilMajorityRow : OpenClaim := { program := "ytibkigpmkkkaeaadoor", sum := "505f344ff85381e91b386389df9895f59b048345f7362e87c39c8d3ac9c4a633", func := "kerbside/kerbsidelaw40.CouncilMajority", spec := "councilMajority", unfollowed := true, recurses := true, named := ["kerbside/lexer.signs"], apart := false, laid := [("kerbside/lexer.signs", laid_kerbside_lexer_signs)] }
def CouncilMajoritySaid : Prop := councilMajorityRow.holds Tryd.pinned (OpenSpec.ofChange councilMajoritySpec)

/-- ITS FALSE NEIGHBOUR: 'it returns false'. Refute it at one input. -/
def councilMajorityWrong : ChangeSpec := { name := "councilMajority", fn := fun _ => fun
  | [d1, d2, d3, d4] => { results := [.lit (.bool false)], args := [d1, d2, d3, d4] }
  | _ => none }
def CouncilMajorityWrongFalsely : Prop := councilMajorityRow.holds Tryd.pinned (OpenSpec.ofChange councilMajorityWrong)

/-- 'kerbsidelaw40.CouncilVotes': WHATEVER THE INPUT: true; the input reads as it did. -/
def councilVotesSpec : ChangeSpec := { name := "councilVotes", fn := fun _ => fun
  | [d1, d2, d3] => { results := [.lit (.bool true)], args := [d1, d2, d3] }
  | _ => none }
def councilVotesRow : OpenClaim := { program := "ytibkigpmkkkaeaadoor", sum := "505f344ff85381e91b386389df9895f59b048345f7362e87c39c8d3ac9c4a633", func := "kerbside/kerbsidelaw40.CouncilVotes", spec := "councilVotes", unfollowed := true, recurses := true, named := ["kerbside/lexer.signs"], apart := false, laid := [("kerbside/lexer.signs", laid_kerbside_lexer_signs)] }
def CouncilVotesSaid : Prop := councilVotesRow.holds Tryd.pinned (OpenSpec.ofChange councilVotesSpec)

/-- ITS FALSE NEIGHBOUR: 'it returns false'. Refute it at one input. -/
def councilVotesWrong : ChangeSpec := { name := "councilVotes", fn := fun _ => fun
  | [d1, d2, d3] => { results := [.lit (.bool false)], args := [d1, d2, d3] }
  | _ => none }
def CouncilVotesWrongFalsely : Prop := councilVotesRow.holds Tryd.pinned (OpenSpec.ofChange councilVotesWrong)

/-- 'kerbsidelaw40.CouncilAhead': WHATEVER THE INPUT: true; the input reads as it did. -/
def councilAheadSpec : ChangeSpec := { name := "councilAhead", fn := fun _ => fun
  | [d1, d2, d3, d4, d5, d6, d7, d8] => { results := [.lit (.bool true)], args := [d1, d2, d3, d4, d5, d6, d7, d8] }
  | _ => none }
def councilAheadRow : OpenClaim := { program := "ytibkigpmkkkaeaadoor", sum := "505f344ff85381e91b386389df9895f59b048345f7362e87c39c8d3ac9c4a633", func := "kerbside/kerbsidelaw40.CouncilAhead", spec := "councilAhead", unfollowed := true, recurses := true, named := ["kerbside/lexer.signs"], apart := false, laid := [("kerbside/lexer.signs", laid_kerbside_lexer_signs)] }
def CouncilAheadSaid : Prop := councilAheadRow.holds Tryd.pinned (OpenSpec.ofChange councilAheadSpec)

/-- ITS FALSE NEIGHBOUR: 'it returns false'. Refute it at one input. -/
def councilAheadWrong : ChangeSpec := { name := "councilAhead", fn := fun _ => fun
  | [d1, d2, d3, d4, d5, d6, d7, d8] => { results := [.lit (.bool false)], args := [d1, d2, d3, d4, d5, d6, d7, d8] }
  | _ => none }
def CouncilAheadWrongFalsely : Prop := councilAheadRow.holds Tryd.pinned (OpenSpec.ofChange councilAheadWrong)

/- THE SECOND FORM. 'bulk': how many values and letters a reading holds, each counted each time it is reached (what is shared counts as often as it is met; a slice's spare places count too). A statement '..UptoSaid' is the law's where the arguments, and the package variables that the reading takes, are together of bulk at most 1048576: NARROWER than '..Said'. Prove '..Said' where nothing that the law and all that it calls make is longer than what came in: it says more and counts as full. Else prove '..UptoSaid'. A law counts once. -/
mutual
def uptoBulk {H : Type} : DataW H → Nat
  | .lit (.string bytes) => bytes.length + 1
  | .lit _ => 1
  | .nil => 1
  | .ptr d => uptoBulk d + 1
  | .slice elems spare => uptoBulkAll elems + uptoBulkAll spare + 1
  | .agg parts => uptoBulkAll parts + 1
  | .iface _ d => uptoBulk d + 1
  | .map entries => uptoBulkEntries entries + 1
  | .held _ => 1
def uptoBulkAll {H : Type} : List (DataW H) → Nat
  | [] => 0
  | d :: r => uptoBulk d + uptoBulkAll r
def uptoBulkEntries {H : Type} : List (Lit × DataW H) → Nat
  | [] => 0
  | x :: r => uptoBulkEntry x + uptoBulkEntries r
def uptoBulkEntry {H : Type} : Lit × DataW H → Nat
  | (.string bytes, d) => bytes.length + uptoBulk d + 1
  | (_, d) => uptoBulk d + 1
 end
def uptoSmall : (H : Type) → List (DataW H) → Bool := fun _ ds => decide (uptoBulkAll ds ≤ 1048576)
def OpenSpec.upto (s : _root_.Go.ChangeSpec) : _root_.Go.OpenSpec := { _root_.Go.OpenSpec.ofChange s with cond := some uptoSmall }

/-- 'kerbsidelaw40.CouncilNotice', WHERE WHAT IT READS IS OF BULK AT MOST 1048576: true; the input reads as it did. -/
def councilNoticeUptoRow : OpenClaim := { program := "ytibkigpmkkkaeaadoor", sum := "505f344ff85381e91b386389df9895f59b048345f7362e87c39c8d3ac9c4a633", func := "kerbside/kerbsidelaw40.CouncilNotice", spec := "councilNotice", unfollowed := true, recurses := true, named := ["kerbside/lexer.signs"], apart := false, laid := [("kerbside/lexer.signs", laid_kerbside_lexer_signs)], narrowed := true }
def CouncilNoticeUptoSaid : Prop := councilNoticeUptoRow.holds Tryd.pinned (OpenSpec.upto councilNoticeSpec)

/-- 'kerbsidelaw40.CouncilMajority', WHERE WHAT IT READS IS OF BULK AT MOST 1048576: true; the input reads as it did. -/
def councilMajorityUptoRow : OpenClaim := { program := "ytibkigpmkkkaeaadoor", sum := "505f344ff85381e91b386389df9895f59b048345f7362e87c39c8d3ac9c4a633", func := "kerbside/kerbsidelaw40.CouncilMajority", spec := "councilMajority", unfollowed := true, recurses := true, named := ["kerbside/lexer.signs"], apart := false, laid := [("kerbside/lexer.signs", laid_kerbside_lexer_signs)], narrowed := true }
def CouncilMajorityUptoSaid : Prop := councilMajorityUptoRow.holds Tryd.pinned (OpenSpec.upto councilMajoritySpec)

/-- 'kerbsidelaw40.CouncilVotes', WHERE WHAT IT READS IS OF BULK AT MOST 1048576: true; the input reads as it did. -/
def councilVotesUptoRow : OpenClaim := { program := "ytibkigpmkkkaeaadoor", sum := "505f344ff85381e91b386389df9895f59b048345f7362e87c39c8d3ac9c4a633", func := "kerbside/kerbsidelaw40.CouncilVotes", spec := "councilVotes", unfollowed := true, recurses := true, named := ["kerbside/lexer.signs"], apart := false, laid := [("kerbside/lexer.signs", laid_kerbside_lexer_signs)], narrowed := true }
def CouncilVotesUptoSaid : Prop := councilVotesUptoRow.holds Tryd.pinned (OpenSpec.upto councilVotesSpec)

/-- 'kerbsidelaw40.CouncilAhead', WHERE WHAT IT READS IS OF BULK AT MOST 1048576: true; the input reads as it did. -/
def councilAheadUptoRow : OpenClaim := { program := "ytibkigpmkkkaeaadoor", sum := "505f344ff85381e91b386389df9895f59b048345f7362e87c39c8d3ac9c4a633", func := "kerbside/kerbsidelaw40.CouncilAhead", spec := "councilAhead", unfollowed := true, recurses := true, named := ["kerbside/lexer.signs"], apart := false, laid := [("kerbside/lexer.signs", laid_kerbside_lexer_signs)], narrowed := true }
def CouncilAheadUptoSaid : Prop := councilAheadUptoRow.holds Tryd.pinned (OpenSpec.upto councilAheadSpec)

end Rows
end Go.Proofs.YtibkigpmkkkaeaaDoor
