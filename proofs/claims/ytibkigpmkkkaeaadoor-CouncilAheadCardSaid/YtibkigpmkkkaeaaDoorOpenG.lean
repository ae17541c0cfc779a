/-
  FROM AN ARGUMENT's READING TO WHAT THE MIRRORS TAKE, for each type of a parameter; the listed tables; the start for the witness. Printed by wrap5.py.
-/
import Derived.Test.YtibkigpmkkkaeaaDoorOpen
import Derived.Test.YtibkigpmkkkaeaaDoorMirD
import Derived.Test.YtibkigpmkkkaeaaDoorMirG
namespace Go.Proofs.YtibkigpmkkkaeaaDoor.Wrap
open Go Go.ChangeShapes Go.WideShapes Go.ChangeAt Go.RowKit Rt

theorem opens3 (W : World) : Opens Tryd.prog W 3 (Rp.int .i64) (fun z => IntKind.i64.min ≤ z ∧ z ≤ IntKind.i64.max) := opens_int Tryd.underlying3
theorem cells3 : Tryd.prog.cellsOf 3 = 1 := by kernel_rfl
def ok24 (l : List Int) : Prop := l.length ≤ maxLen ∧ ∀ x ∈ l, (IntKind.i64.min ≤ x ∧ x ≤ IntKind.i64.max)
theorem opens24 (W : World) : Opens Tryd.prog W 24 (Rp.sl (Rp.int .i64)) ok24 := opens_slice Tryd.underlying24 (r := (Rp.int .i64)) (by rw [cells3]; rfl) (by decide) (opens3 W)
theorem opens4 (W : World) : Opens Tryd.prog W 4 Rp.bool (fun _ => True) := opens_bool Tryd.underlying4
theorem cells4 : Tryd.prog.cellsOf 4 = 1 := by kernel_rfl
theorem cells53 : Tryd.prog.cellsOf 53 = 3 := by kernel_rfl
def ok53 (x : M.Vote) : Prop := (IntKind.i64.min ≤ x.Motion ∧ x.Motion ≤ IntKind.i64.max) ∧ (IntKind.i64.min ≤ x.Commune ∧ x.Commune ≤ IntKind.i64.max) ∧ True
set_option maxRecDepth 100000 in
theorem opens53 (W : World) : Opens Tryd.prog W 53 M.rp_Vote ok53 := by
  intro H enc fuel cs x h
  obtain ⟨xs, n, _, _, hl, hn, hf⟩ := DataW.trod_struct Tryd.underlying53 h
  obtain ⟨y0, r0, o0⟩ := field_of hn hf (i := 0) rfl (opens3 W)
  have e0' := r0
  have e0 : (cs.drop 0).take (Tryd.prog.cellsOf 3) = [.int .i64 y0] := e0'
  rw [cells3] at e0
  obtain ⟨y1, r1, o1⟩ := field_of hn hf (i := 1) rfl (opens3 W)
  have e1' := r1
  have e1 : (cs.drop 1).take (Tryd.prog.cellsOf 3) = [.int .i64 y1] := e1'
  rw [cells3] at e1
  obtain ⟨y2, r2, o2⟩ := field_of hn hf (i := 2) rfl (opens4 W)
  have e2' := r2
  have e2 : (cs.drop 2).take (Tryd.prog.cellsOf 4) = [.bool y2] := e2'
  rw [cells4] at e2
  rw [cells53] at hl
  refine ⟨⟨y0, y1, y2⟩, ?_, o0, o1, o2⟩
  show cs = _
  have hd : cs.drop 3 = [] := List.drop_of_length_le (by omega)
  have h0 : cs = cs.drop 0 := (List.drop_zero).symm
  rw [h0]
  rw [show cs.drop 0 = (cs.drop 0).take 1 ++ cs.drop 1 from cut_step cs 0 1, e0]
  rw [show cs.drop 1 = (cs.drop 1).take 1 ++ cs.drop 2 from cut_step cs 1 1, e1]
  rw [show cs.drop 2 = (cs.drop 2).take 1 ++ cs.drop 3 from cut_step cs 2 1, e2]
  rw [hd]
  rfl
def ok23 (l : List M.Vote) : Prop := l.length ≤ maxLen ∧ ∀ x ∈ l, ok53 x
theorem opens23 (W : World) : Opens Tryd.prog W 23 (Rp.sl M.rp_Vote) ok23 := opens_slice Tryd.underlying23 (r := M.rp_Vote) (by rw [cells53]; rfl) (by decide) (opens53 W)
theorem opens5 (W : World) : Opens Tryd.prog W 5 (Rp.int .u8) (fun z => IntKind.u8.min ≤ z ∧ z ≤ IntKind.u8.max) := opens_int Tryd.underlying5
theorem opens9 (W : World) : Opens Tryd.prog W 9 Rp.str (fun s => s.length ≤ maxLen) := opens_str Tryd.underlying9
theorem cells9 : Tryd.prog.cellsOf 9 = 1 := by kernel_rfl
theorem cells42 : Tryd.prog.cellsOf 42 = 3 := by kernel_rfl
def ok42 (x : M.Motion) : Prop := x.Text.length ≤ maxLen ∧ (IntKind.i64.min ≤ x.Day ∧ x.Day ≤ IntKind.i64.max) ∧ (IntKind.i64.min ≤ x.From ∧ x.From ≤ IntKind.i64.max)
set_option maxRecDepth 100000 in
theorem opens42 (W : World) : Opens Tryd.prog W 42 M.rp_Motion ok42 := by
  intro H enc fuel cs x h
  obtain ⟨xs, n, _, _, hl, hn, hf⟩ := DataW.trod_struct Tryd.underlying42 h
  obtain ⟨y0, r0, o0⟩ := field_of hn hf (i := 0) rfl (opens9 W)
  have e0' := r0
  have e0 : (cs.drop 0).take (Tryd.prog.cellsOf 9) = [vs y0] := e0'
  rw [cells9] at e0
  obtain ⟨y1, r1, o1⟩ := field_of hn hf (i := 1) rfl (opens3 W)
  have e1' := r1
  have e1 : (cs.drop 1).take (Tryd.prog.cellsOf 3) = [.int .i64 y1] := e1'
  rw [cells3] at e1
  obtain ⟨y2, r2, o2⟩ := field_of hn hf (i := 2) rfl (opens3 W)
  have e2' := r2
  have e2 : (cs.drop 2).take (Tryd.prog.cellsOf 3) = [.int .i64 y2] := e2'
  rw [cells3] at e2
  rw [cells42] at hl
  refine ⟨⟨y0, y1, y2⟩, ?_, o0, o1, o2⟩
  show cs = _
  have hd : cs.drop 3 = [] := List.drop_of_length_le (by omega)
  have h0 : cs = cs.drop 0 := (List.drop_zero).symm
  rw [h0]
  rw [show cs.drop 0 = (cs.drop 0).take 1 ++ cs.drop 1 from cut_step cs 0 1, e0]
  rw [show cs.drop 1 = (cs.drop 1).take 1 ++ cs.drop 2 from cut_step cs 1 1, e1]
  rw [show cs.drop 2 = (cs.drop 2).take 1 ++ cs.drop 3 from cut_step cs 2 1, e2]
  rw [hd]
  rfl
def ok22 (l : List M.Motion) : Prop := l.length ≤ maxLen ∧ ∀ x ∈ l, ok42 x
theorem opens22 (W : World) : Opens Tryd.prog W 22 (Rp.sl M.rp_Motion) ok22 := opens_slice Tryd.underlying22 (r := M.rp_Motion) (by rw [cells42]; rfl) (by decide) (opens42 W)
def ok25 (l : List Bs) : Prop := l.length ≤ maxLen ∧ ∀ x ∈ l, x.length ≤ maxLen
theorem opens25 (W : World) : Opens Tryd.prog W 25 (Rp.sl Rp.str) ok25 := opens_slice Tryd.underlying25 (r := Rp.str) (by rw [cells9]; rfl) (by decide) (opens9 W)

def tabs : List (String × DataW Unit) := [("kerbside/lexer.signs", Rows.laid_kerbside_lexer_signs)]
theorem cells108 : Tryd.prog.cellsOf 108 = 13 := by kernel_rfl
theorem cells5 : Tryd.prog.cellsOf 5 = 1 := by kernel_rfl
theorem gTab0 : Tryd.prog.globalNamed "kerbside/lexer.signs" = some 0 := by kernel_rfl
theorem gTabType0 : (Tryd.prog.globals[0]?).map (·.type) = some 108 := by kernel_rfl
theorem table0 {W : World} (h : laidMetH Tryd.prog tabs W) : FX (all W) 0 [.int .u8 40, .int .u8 41, .int .u8 44, .int .u8 59, .int .u8 58, .int .u8 61, .int .u8 60, .int .u8 43, .int .u8 45, .int .u8 42, .int .u8 47, .int .u8 123, .int .u8 125] := by
  have h1 : laidMet Tryd.prog tabs W := h
  have h2 : laidMet Tryd.prog (("kerbside/lexer.signs", Lib.tabData .u8 [40, 41, 44, 59, 58, 61, 60, 43, 45, 42, 47, 123, 125]) :: _) W := h1
  exact fx_of_var gTab0 (Lib.tabIs_of_head gTab0 gTabType0 Tryd.underlying108 Tryd.underlying5 cells5 cells108 h2)

/-- a datum's cells -/
def laidCells : DataW Unit → List Value
  | .lit (.int k z) => [.int k z]
  | .agg xs => xs.flatMap fun | .lit (.int k z) => [.int k z] | .agg [.lit (.int k z), .lit (.int k' z')] => [.int k z, .int k' z'] | _ => []
  | _ => []
def putIn (h : Array Obj) (g : Nat) (d : DataW Unit) : Array Obj := h.modify g fun
  | .cells _ t frozen => .cells (laidCells d).toArray t frozen
  | o => o
noncomputable def laidWorld (os : Os) : World :=
  { World.holding Tryd.prog os ⟨#[], #[], []⟩ with heap := (putIn (World.holding Tryd.prog os ⟨#[], #[], []⟩).heap 0 Rows.laid_kerbside_lexer_signs) }
theorem laid_met (os : Os) (args : Array Value) : laidMet Tryd.prog tabs ((laidWorld os).forCall (fun _ _ => 0) ⟨#[], args, []⟩).memory :=
  laidMet_of_run' 8 (by kernel_rfl) (by kernel_rfl)
end Go.Proofs.YtibkigpmkkkaeaaDoor.Wrap
