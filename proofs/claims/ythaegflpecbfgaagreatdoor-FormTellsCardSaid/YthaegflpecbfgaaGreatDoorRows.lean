/-
  NARROWER THAN 'FOR EVERY INPUT', by the rows' own cells (each row's printed sentence says how): FormTells: loops, laid · FormValue: loops, laid · FormConvex: laid · FormStraight: loops, laid · FormPairs: loops, laid.
  DERIVED. THE GIVEN ROWS OF THIS SEAT. 5 by the template 'for every input the law returns true; each argument reads behind the call as it read before'; 0 by the template 'total and deterministic' (their statements: YthaegflpecbfgaaGreatDoorTotals.lean).
  GIVEN WITH THE SEED: the statements are not yours to turn. If you find one false, say at which input.
  Laid BY PROGRAM, IN A SANDBOX (cutbox-rows.mjs): the forced cells as the released guide's own fill.sh prints them over the translation 6b299c7b509050fd… (all of the seat's roots in one cut). By AI agents, Wed Nov 11 2026. No macro, syntax, notation, axiom, sorry.
-/
import Derived.Test.YthaegflpecbfgaaGreatDoorChecked
import GoSem.Claim
import GoSem.ClaimJoined
import GoSem.ClaimMapViews
import Derived.JoinedTies
import Derived.KernelRfl
namespace Go.Proofs.YthaegflpecbfgaaGreatDoor
/- THE CELL 'sum', in the pinned program and in every row, IS THE sha256 OF THE DUMP (.gsa) THAT YthaegflpecbfgaaGreatDoorProg.lean LOADS. Nothing in Lean hashes anything: it is a label: what it is worth is what the hold of that sum in a sandbox is worth. -/
noncomputable def Tryz.pinned : Pinned := { name := "ythaegflpecbfgaagreatdoor", sum := "6b299c7b509050fd656ed4293dec0d8f9eab327b1f0a66c260e72a840b7dfc5e", checked := Tryz.checked }
namespace Rows
def none {H : Type} : Left H := { results := [], args := [] }

/- WHAT THE LISTED PACKAGE-LEVEL VARIABLES READ AS WHEN THE CALL BEGINS. Each datum BY PROGRAM (the guide's laid-datum.mjs) off the statement by which the dump's own 'gosem.cut.vars' lays the variable. In a bare row this is a premise. The card (YthaegflpecbfgaaGreatDoorCards.lean) ties it to the program's text. -/
def laid_kerbside_lexer_signs {H : Type} : DataW H := .agg [.lit (.int .u8 40), .lit (.int .u8 41), .lit (.int .u8 44), .lit (.int .u8 59), .lit (.int .u8 58), .lit (.int .u8 61), .lit (.int .u8 60), .lit (.int .u8 43), .lit (.int .u8 45), .lit (.int .u8 42), .lit (.int .u8 47), .lit (.int .u8 123), .lit (.int .u8 125)]

/-- 'kerbsidelaw37.FormTells': WHATEVER THE INPUT: true; the input reads as it did. -/
def formTellsSpec : ChangeSpec := { name := "formTells", fn := fun _ => fun
  | [d1, d2, d3, d4, d5] => { results := [.lit (.bool true)], args := [d1, d2, d3, d4, d5] }
  | _ => none }
def formTellsRow : OpenClaim := { program := "ythaegflpecbfgaagreatdoor", sum := "6b299c7b509050fd656ed4293dec0d8f9eab327b1f0a66c260e72a840b7dfc5e", func := "kerbside/kerbsidelaw37.FormTells", spec := "formTells", unfollowed := true, recurses := true, named := ["kerbside/lexer.signs"], loops := true, apart := false, laid := [("kerbside/lexer.signs", laid_kerbside_lexer_signs)] }
def FormTellsSaid : Prop := formTellsRow.holds Tryz.pinned (OpenSpec.ofChange formTellsSpec)

/-- ITS FALSE NEIGHBOUR: 'it returns false'. Refute it at one input. -/
def formTellsWrong : ChangeSpec := { name := "formTells", fn := fun _ => fun
  | [d1, d2, d3, d4, d5] => { results := [.lit (.bool false)], args := [d1, d2, d3, d4, d5] }
  | _ => none }
def FormTellsWrongFalsely : Prop := formTellsRow.holds Tryz.pinned (OpenSpec.ofChange formTellsWrong)

/-- 'kerbsidelaw37.FormValue': WHATEVER THE INPUT: true; the input reads as it did. -/
def formValueSpec : ChangeSpec := { name := "formValue", fn := fun _ => fun
  | [d1, d2, d3, d4] => { results := [.lit (.bool true)], args := [d1, d2, d3, d4] }
  | _ => none }
def formValueRow : OpenClaim := { program := "ythaegflpecbfgaagreatdoor", sum := "6b299c7b509050fd656ed4293dec0d8f9eab327b1f0a66c260e72a840b7dfc5e", func := "kerbside/kerbsidelaw37.FormValue", spec := "formValue", unfollowed := true, recurses := true, named := ["kerbside/lexer.signs"], loops := true, apart := false, laid := [("kerbside/lexer.signs", laid_kerbside_lexer_signs)] }
def FormValueSaid : Prop := formValueRow.holds Tryz.pinned (OpenSpec.ofChange formValueSpec)

/-- ITS FALSE NEIGHBOUR: 'it returns false'. Refute it at one input. -/
def formValueWrong : ChangeSpec := { name := "formValue", fn := fun _ => fun
  | [d1, d2, d3, d4] => { results := [.lit (.bool false)], args := [d1, d2, d3, d4] }
  | _ => none }
def FormValueWrongFalsely : Prop := formValueRow.holds Tryz.pinned (OpenSpec.ofChange formValueWrong)

/-- 'kerbsidelaw37.FormConvex': WHATEVER THE INPUT: true; the input reads as it did. -/
def formConvexSpec : ChangeSpec := { name := "formConvex", fn := fun _ => fun
  | [d1, d2, d3, d4] => { results := [.lit (.bool true)], args := [d1, d2, d3, d4] }
  | _ => none }
def formConvexRow : OpenClaim := { program := "ythaegflpecbfgaagreatdoor", sum := "6b299c7b509050fd656ed4293dec0d8f9eab327b1f0a66c260e72a840b7dfc5e", func := "kerbside/kerbsidelaw37.FormConvex", spec := "formConvex", unfollowed := true, recurses := true, named := ["kerbside/lexer.signs"], apart := false, laid := [("kerbside/lexer.signs", laid_kerbside_lexer_signs)] }
def FormConvexSaid : Prop := formConvexRow.holds Tryz.pinned (OpenSpec.ofChange formConvexSpec)

/-- ITS FALSE NEIGHBOUR: 'it returns false'. Refute it at one input. -/
def formConvexWrong : ChangeSpec := { name := "formConvex", fn := fun _ => fun
  | [d1, d2, d3, d4] => { results := [.lit (.bool false)], args := [d1, d2, d3, d4] }
  | _ => none }
def FormConvexWrongFalsely : Prop := formConvexRow.holds Tryz.pinned (OpenSpec.ofChange formConvexWrong)

/-- 'kerbsidelaw37.FormStraight': WHATEVER THE INPUT: true; the input reads as it did. -/
def formStraightSpec : ChangeSpec := { name := "formStraight", fn := fun _ => fun
  | [d1, d2, d3] => { results := [.lit (.bool true)], args := [d1, d2, d3] }
  | _ => none }
def formStraightRow : OpenClaim := { program := "ythaegflpecbfgaagreatdoor", sum := "6b299c7b509050fd656ed4293dec0d8f9eab327b1f0a66c260e72a840b7dfc5e", func := "kerbside/kerbsidelaw37.FormStraight", spec := "formStraight", unfollowed := true, recurses := true, named := ["kerbside/lexer.signs"], loops := true, apart := false, laid := [("kerbside/lexer.signs", laid_kerbside_lexer_signs)] }
def FormStraightSaid : Prop := formStraightRow.holds Tryz.pinned (OpenSpec.ofChange formStraightSpec)

/-- ITS FALSE NEIGHBOUR: 'it returns false'. Refute it at one input. -/
def formStraightWrong : ChangeSpec := { name := "formStraight", fn := fun _ => fun
  | [d1, d2, d3] => { results := [.lit (.bool false)], args := [d1, d2, d3] }
  | _ => none }
def FormStraightWrongFalsely : Prop := formStraightRow.holds Tryz.pinned (OpenSpec.ofChange formStraightWrong)

/-- 'kerbsidelaw37.FormPairs': WHATEVER THE INPUT: true; the input reads as it did. -/
def formPairsSpec : ChangeSpec := { name := "formPairs", fn := fun _ => fun
  | [d1, d2, d3, d4, d5] => { results := [.lit (.bool true)], args := [d1, d2, d3, d4, d5] }
  | _ => none }
def formPairsRow : OpenClaim := { program := "ythaegflpecbfgaagreatdoor", sum := "6b299c7b509050fd656ed4293dec0d8f9eab327b1f0a66c260e72a840b7dfc5e", func := "kerbside/kerbsidelaw37.FormPairs", spec := "formPairs", unfollowed := true, recurses := true, named := ["kerbside/lexer.signs"], loops := true, apart := false, laid := [("kerbside/lexer.signs", laid_kerbside_lexer_signs)] }
def FormPairsSaid : Prop := formPairsRow.holds Tryz.pinned (OpenSpec.ofChange formPairsSpec)

/-- ITS FALSE NEIGHBOUR: 'it returns false'. Refute it at one input. -/
def formPairsWrong : ChangeSpec := { name := "formPairs", fn := fun _ => fun
  | [d1, d2, d3, d4, d5] => { results := [.lit (.bool false)], args := [d1, d2, d3, d4, d5] }
  | _ => none }
def FormPairsWrongFalsely : Prop := formPairsRow.holds Tryz.pinned (OpenSpec.ofChange formPairsWrong)

/- THE SECOND FORM. 'bulk': how many values and letters a reading holds, each counted each time it is reached (what is shared counts as often as it is met; a slice's spare places count too). A statement '..UptoSaid' is the law's where the arguments, and the package variables that the reading takes, are together of bulk at most 1048576: NARROWER than '..Said'. Prove '..Said' where nothing that the law and all that it calls make is longer than what came in: it says more and counts as full. Else prove '..UptoSaid'. A law counts once. -/
mutual
def uptoBulk {H : Type} : DataW H → Nat
  | .lit (.string bytes) => bytes.length + 1
  | .lit _ => 1
  | .nil => 1
  | .ptr d => uptoBulk d + 1
  | .slice elems spare => uptoBulkAll elems + uptoBulkAll spare + 1
  | .agg parts => uptoBulkAll parts + 1
  | .iface _ d => uptoBulk d + 1
  | .map entries => uptoBulkEntries entries + 1
  | .held _ => 1
def uptoBulkAll {H : Type} : List (DataW H) → Nat
  | [] => 0
  | d :: r => uptoBulk d + uptoBulkAll r
def uptoBulkEntries {H : Type} : List (Lit × DataW H) → Nat
  | [] => 0
  | x :: r => uptoBulkEntry x + uptoBulkEntries r
def uptoBulkEntry {H : Type} : Lit × DataW H → Nat
  | (.string bytes, d) => bytes.length + uptoBulk d + 1
  | (_, d) => uptoBulk d + 1
 end
def uptoSmall : (H : Type) → List (DataW H) → Bool := fun _ ds => decide (uptoBulkAll ds ≤ 1048576)
def OpenSpec.upto (s : _root_.Go.ChangeSpec) : _root_.Go.OpenSpec := { _root_.Go.OpenSpec.ofChange s with cond := some uptoSmall }

/-- 'kerbsidelaw37.FormTells', WHERE WHAT IT READS IS OF BULK AT MOST 1048576: true; the input reads as it did. -/
def formTellsUptoRow : OpenClaim := { program := "ythaegflpecbfgaagreatdoor", sum := "6b299c7b509050fd656ed4293dec0d8f9eab327b1f0a66c260e72a840b7dfc5e", func := "kerbside/kerbsidelaw37.FormTells", spec := "formTells", unfollowed := true, recurses := true, named := ["kerbside/lexer.signs"], loops := true, apart := false, laid := [("kerbside/lexer.signs", laid_kerbside_lexer_signs)], narrowed := true }
def FormTellsUptoSaid : Prop := formTellsUptoRow.holds Tryz.pinned (OpenSpec.upto formTellsSpec)

/-- 'kerbsidelaw37.FormValue', WHERE WHAT IT READS IS OF BULK AT MOST 1048576: true; the input reads as it did. -/
def formValueUptoRow : OpenClaim := { program := "ythaegflpecbfgaagreatdoor", sum := "6b299c7b509050fd656ed4293dec0d8f9eab327b1f0a66c260e72a840b7dfc5e", func := "kerbside/kerbsidelaw37.FormValue", spec := "formValue", unfollowed := true, recurses := true, named := ["kerbside/lexer.signs"], loops := true, apart := false, laid := [("kerbside/lexer.signs", laid_kerbside_lexer_signs)], narrowed := true }
def FormValueUptoSaid : Prop := formValueUptoRow.holds Tryz.pinned (OpenSpec.upto formValueSpec)

/-- 'kerbsidelaw37.FormConvex', WHERE WHAT IT READS IS OF BULK AT MOST 1048576: true; the input reads as it did. -/
def formConvexUptoRow : OpenClaim := { program := "ythaegflpecbfgaagreatdoor", sum := "6b299c7b509050fd656ed4293dec0d8f9eab327b1f0a66c260e72a840b7dfc5e", func := "kerbside/kerbsidelaw37.FormConvex", spec := "formConvex", unfollowed := true, recurses := true, named := ["kerbside/lexer.signs"], apart := false, laid := [("kerbside/lexer.signs", laid_kerbside_lexer_signs)], narrowed := true }
def FormConvexUptoSaid : Prop := formConvexUptoRow.holds Tryz.pinned (OpenSpec.upto formConvexSpec)

/-- 'kerbsidelaw37.FormStraight', WHERE WHAT IT READS IS OF BULK AT MOST 1048576: true; the input reads as it did. -/
def formStraightUptoRow : OpenClaim := { program := "ythaegflpecbfgaagreatdoor", sum := "6b299c7b509050fd656ed4293dec0d8f9eab327b1f0a66c260e72a840b7dfc5e", func := "kerbside/kerbsidelaw37.FormStraight", spec := "formStraight", unfollowed := true, recurses := true, named := ["kerbside/lexer.signs"], loops := true, apart := false, laid := [("kerbside/lexer.signs", laid_kerbside_lexer_signs)], narrowed := true }
def FormStraightUptoSaid : Prop := formStraightUptoRow.holds Tryz.pinned (OpenSpec.upto formStraightSpec)

/-- 'kerbsidelaw37.FormPairs', WHERE WHAT IT READS IS OF BULK AT MOST 1048576: true; the input reads as it did. -/
def formPairsUptoRow : OpenClaim := { program := "ythaegflpecbfgaagreatdoor", sum := "6b299c7b509050fd656ed4293dec0d8f9eab327b1f0a66c260e72a840b7dfc5e", func := "kerbside/kerbsidelaw37.FormPairs", spec := "formPairs", unfollowed := true, recurses := true, named := ["kerbside/lexer.signs"], loops := true, apart := false, laid := [("kerbside/lexer.signs", laid_kerbside_lexer_signs)], narrowed := true }
def FormPairsUptoSaid : Prop := formPairsUptoRow.holds Tryz.pinned (OpenSpec.upto formPairsSpec)

end Rows
end Go.Proofs.YthaegflpecbfgaaGreatDoor
