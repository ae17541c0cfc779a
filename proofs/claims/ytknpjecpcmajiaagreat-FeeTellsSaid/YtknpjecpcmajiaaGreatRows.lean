/-
  NARROWER THAN 'FOR EVERY INPUT', by the rows' own cells (each row's printed sentence says how): FeeTells: loops · FeeMixes: loops · FeeSmooth: loops.
  DERIVED. THE GIVEN ROWS OF THIS SEAT. 3 by the template 'for every input the law returns true; each argument reads behind the call as it read before'; 0 by the template 'total and deterministic' (their statements: YtknpjecpcmajiaaGreatTotals.lean).
  GIVEN WITH THE SEED: the statements are not yours to turn. If you find one false, say at which input.
  Laid BY PROGRAM, IN A SANDBOX (cutbox-rows.mjs): the forced cells as the released guide's own fill.sh prints them over the translation b30e385841a41093… (all of the seat's roots in one cut). By AI agents, Wed Nov 11 2026. No macro, syntax, notation, axiom, sorry.
-/
import Derived.Test.YtknpjecpcmajiaaGreatChecked
import GoSem.Claim
import GoSem.ClaimJoined
import GoSem.ClaimMapViews
import Derived.JoinedTies
import Derived.KernelRfl
namespace Go.Proofs.YtknpjecpcmajiaaGreat
/- THE CELL 'sum', in the pinned program and in every row, IS THE sha256 OF THE DUMP (.gsa) THAT YtknpjecpcmajiaaGreatProg.lean LOADS. Nothing in Lean hashes anything: it is a label: what it is worth is what the hold of that sum in a sandbox is worth. -/
noncomputable def Tryz.pinned : Pinned := { name := "ytknpjecpcmajiaagreat", sum := "b30e385841a41093f67a8dd24109259de9d2a49b5c14054ef6a91aebcdc97a26", checked := Tryz.checked }
namespace Rows
def none {H : Type} : Left H := { results := [], args := [] }

/-- 'kerbsidelaw36.FeeTells': WHATEVER THE INPUT: true; the input reads as it did. -/
def feeTellsSpec : ChangeSpec := { name := "feeTells", fn := fun _ => fun
  | [d1, d2, d3, d4] => { results := [.lit (.bool true)], args := [d1, d2, d3, d4] }
  | _ => none }
def feeTellsRow : OpenClaim := { program := "ytknpjecpcmajiaagreat", sum := "b30e385841a41093f67a8dd24109259de9d2a49b5c14054ef6a91aebcdc97a26", func := "kerbside/kerbsidelaw36.FeeTells", spec := "feeTells", unfollowed := true, recurses := true, loops := true, apart := false }
def FeeTellsSaid : Prop := feeTellsRow.holds Tryz.pinned (OpenSpec.ofChange feeTellsSpec)

/-- ITS FALSE NEIGHBOUR: 'it returns false'. Refute it at one input. -/
def feeTellsWrong : ChangeSpec := { name := "feeTells", fn := fun _ => fun
  | [d1, d2, d3, d4] => { results := [.lit (.bool false)], args := [d1, d2, d3, d4] }
  | _ => none }
def FeeTellsWrongFalsely : Prop := feeTellsRow.holds Tryz.pinned (OpenSpec.ofChange feeTellsWrong)

/-- 'kerbsidelaw36.FeeMixes': WHATEVER THE INPUT: true; the input reads as it did. -/
def feeMixesSpec : ChangeSpec := { name := "feeMixes", fn := fun _ => fun
  | [d1, d2, d3, d4, d5, d6] => { results := [.lit (.bool true)], args := [d1, d2, d3, d4, d5, d6] }
  | _ => none }
def feeMixesRow : OpenClaim := { program := "ytknpjecpcmajiaagreat", sum := "b30e385841a41093f67a8dd24109259de9d2a49b5c14054ef6a91aebcdc97a26", func := "kerbside/kerbsidelaw36.FeeMixes", spec := "feeMixes", unfollowed := true, recurses := true, loops := true, apart := false }
def FeeMixesSaid : Prop := feeMixesRow.holds Tryz.pinned (OpenSpec.ofChange feeMixesSpec)

/-- ITS FALSE NEIGHBOUR: 'it returns false'. Refute it at one input. -/
def feeMixesWrong : ChangeSpec := { name := "feeMixes", fn := fun _ => fun
  | [d1, d2, d3, d4, d5, d6] => { results := [.lit (.bool false)], args := [d1, d2, d3, d4, d5, d6] }
  | _ => none }
def FeeMixesWrongFalsely : Prop := feeMixesRow.holds Tryz.pinned (OpenSpec.ofChange feeMixesWrong)

/-- 'kerbsidelaw36.FeeSmooth': WHATEVER THE INPUT: true; the input reads as it did. -/
def feeSmoothSpec : ChangeSpec := { name := "feeSmooth", fn := fun _ => fun
  | [d1, d2, d3, d4, d5] => { results := [.lit (.bool true)], args := [d1, d2, d3, d4, d5] }
  | _ => none }
def feeSmoothRow : OpenClaim := { program := "ytknpjecpcmajiaagreat", sum := "b30e385841a41093f67a8dd24109259de9d2a49b5c14054ef6a91aebcdc97a26", func := "kerbside/kerbsidelaw36.FeeSmooth", spec := "feeSmooth", unfollowed := true, recurses := true, loops := true, apart := false }
def FeeSmoothSaid : Prop := feeSmoothRow.holds Tryz.pinned (OpenSpec.ofChange feeSmoothSpec)

/-- ITS FALSE NEIGHBOUR: 'it returns false'. Refute it at one input. -/
def feeSmoothWrong : ChangeSpec := { name := "feeSmooth", fn := fun _ => fun
  | [d1, d2, d3, d4, d5] => { results := [.lit (.bool false)], args := [d1, d2, d3, d4, d5] }
  | _ => none }
def FeeSmoothWrongFalsely : Prop := feeSmoothRow.holds Tryz.pinned (OpenSpec.ofChange feeSmoothWrong)

/- THE SECOND FORM. 'bulk': how many values and letters a reading holds, each counted each time it is reached (what is shared counts as often as it is met; a slice's spare places count too). A statement '..UptoSaid' is the law's where the arguments, and the package variables that the reading takes, are together of bulk at most 1048576: NARROWER than '..Said'. Prove '..Said' where nothing that the law and all that it calls make is longer than what came in: it says more and counts as full. Else prove '..UptoSaid'. A law counts once. -/
mutual
def uptoBulk {H : Type} : DataW H → Nat
  | .lit (.string bytes) => bytes.length + 1
  | .lit _ => 1
  | .nil => 1
  | .ptr d => uptoBulk d + 1
  | .slice elems spare => uptoBulkAll elems + uptoBulkAll spare + 1
  | .agg parts => uptoBulkAll parts + 1
  | .iface _ d => uptoBulk d + 1
  | .map entries => uptoBulkEntries entries + 1
  | .held _ => 1
def uptoBulkAll {H : Type} : List (DataW H) → Nat
  | [] => 0
  | d :: r => uptoBulk d + uptoBulkAll r
def uptoBulkEntries {H : Type} : List (Lit × DataW H) → Nat
  | [] => 0
  | x :: r => uptoBulkEntry x + uptoBulkEntries r
def uptoBulkEntry {H : Type} : Lit × DataW H → Nat
  | (.string bytes, d) => bytes.length + uptoBulk d + 1
  | (_, d) => uptoBulk d + 1
 end
def uptoSmall : (H : Type) → List (DataW H) → Bool := fun _ ds => decide (uptoBulkAll ds ≤ 1048576)
def OpenSpec.upto (s : _root_.Go.ChangeSpec) : _root_.Go.OpenSpec := { _root_.Go.OpenSpec.ofChange s with cond := some uptoSmall }

/-- 'kerbsidelaw36.FeeTells', WHERE WHAT IT READS IS OF BULK AT MOST 1048576: true; the input reads as it did. -/
def feeTellsUptoRow : OpenClaim := { program := "ytknpjecpcmajiaagreat", sum := "b30e385841a41093f67a8dd24109259de9d2a49b5c14054ef6a91aebcdc97a26", func := "kerbside/kerbsidelaw36.FeeTells", spec := "feeTells", unfollowed := true, recurses := true, loops := true, apart := false, narrowed := true }
def FeeTellsUptoSaid : Prop := feeTellsUptoRow.holds Tryz.pinned (OpenSpec.upto feeTellsSpec)

/-- 'kerbsidelaw36.FeeMixes', WHERE WHAT IT READS IS OF BULK AT MOST 1048576: true; the input reads as it did. -/
def feeMixesUptoRow : OpenClaim := { program := "ytknpjecpcmajiaagreat", sum := "b30e385841a41093f67a8dd24109259de9d2a49b5c14054ef6a91aebcdc97a26", func := "kerbside/kerbsidelaw36.FeeMixes", spec := "feeMixes", unfollowed := true, recurses := true, loops := true, apart := false, narrowed := true }
def FeeMixesUptoSaid : Prop := feeMixesUptoRow.holds Tryz.pinned (OpenSpec.upto feeMixesSpec)

/-- 'kerbsidelaw36.FeeSmooth', WHERE WHAT IT READS IS OF BULK AT MOST 1048576: true; the input reads as it did. -/
def feeSmoothUptoRow : OpenClaim := { program := "ytknpjecpcmajiaagreat", sum := "b30e385841a41093f67a8dd24109259de9d2a49b5c14054ef6a91aebcdc97a26", func := "kerbside/kerbsidelaw36.FeeSmooth", spec := "feeSmooth", unfollowed := true, recurses := true, loops := true, apart := false, narrowed := true }
def FeeSmoothUptoSaid : Prop := feeSmoothUptoRow.holds Tryz.pinned (OpenSpec.upto feeSmoothSpec)

end Rows
end Go.Proofs.YtknpjecpcmajiaaGreat
