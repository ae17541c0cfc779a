/-
  THE LISTED TABLE: what its cells hold when the call begins; the start for the witness.
-/
import Derived.Test.YtaibejlploombaaDoorWrap
namespace Go.Proofs.YtaibejlploombaaDoor.Wrap
open Go Go.ChangeShapes Go.WideShapes Go.ChangeAt Go.RowKit Rt

theorem gTab : Tryd.prog.globalNamed "kerbside/lexer.signs" = some 0 := by kernel_rfl
theorem gTabType : (Tryd.prog.globals[0]?).map (·.type) = some 50 := by kernel_rfl
theorem cells50 : Tryd.prog.cellsOf 50 = 13 := by kernel_rfl
theorem cells5 : Tryd.prog.cellsOf 5 = 1 := by kernel_rfl

def tab : List (String × DataW Unit) := [("kerbside/lexer.signs", Rows.laid_kerbside_lexer_signs)]

theorem table {W : World} (h : laidMetH Tryd.prog tab W) : FC (all W) 0 0 [.int .u8 40, .int .u8 41, .int .u8 44, .int .u8 59, .int .u8 58, .int .u8 61, .int .u8 60, .int .u8 43, .int .u8 45, .int .u8 42, .int .u8 47, .int .u8 123, .int .u8 125] :=
  fc_of_var gTab (show Lib.TabIs Tryd.prog W "kerbside/lexer.signs" .u8 [40, 41, 44, 59, 58, 61, 60, 43, 45, 42, 47, 123, 125] from
    Lib.tabIs_of_head (rest := []) gTab gTabType Tryd.underlying50 Tryd.underlying5 cells5 cells50 h)

noncomputable def laidWorld (os : Os) : World :=
  { World.holding Tryd.prog os ⟨#[], #[], []⟩ with heap := (World.holding Tryd.prog os ⟨#[], #[], []⟩).heap.modify 0 fun
      | .cells _ t frozen => .cells #[.int .u8 40, .int .u8 41, .int .u8 44, .int .u8 59, .int .u8 58, .int .u8 61, .int .u8 60, .int .u8 43, .int .u8 45, .int .u8 42, .int .u8 47, .int .u8 123, .int .u8 125] t frozen
      | o => o }
theorem laid_met (os : Os) (args : Array Value) : laidMet Tryd.prog tab ((laidWorld os).forCall (fun _ _ => 0) ⟨#[], args, []⟩).memory :=
  laidMet_of_run' 8 (by kernel_rfl) (by kernel_rfl)
end Go.Proofs.YtaibejlploombaaDoor.Wrap
