/-
  FROM AN ARGUMENT's READING TO WHAT THE MIRRORS TAKE, for each type of a parameter; the listed tables; the start for the witness. Printed by wrap5.py.
-/
import Derived.Test.YtibkigpmkkkaeaaGreatDoorOpen
import Derived.Test.YtibkigpmkkkaeaaGreatDoorOpenX
import Derived.Test.YtibkigpmkkkaeaaGreatDoorMirD
import Derived.Test.YtibkigpmkkkaeaaGreatDoorMirG
namespace Go.Proofs.YtibkigpmkkkaeaaGreatDoor.Wrap
open Go Go.ChangeShapes Go.WideShapes Go.ChangeAt Go.RowKit Rt
theorem opens9 (W : World) : Opens Tryz.prog W 9 Rp.str (fun s => s.length ≤ maxLen) := opens_str Tryz.underlying9
theorem cells9 : Tryz.prog.cellsOf 9 = 1 := by kernel_rfl
theorem opens3 (W : World) : Opens Tryz.prog W 3 (Rp.int .i64) (fun z => IntKind.i64.min ≤ z ∧ z ≤ IntKind.i64.max) := opens_int Tryz.underlying3
theorem cells3 : Tryz.prog.cellsOf 3 = 1 := by kernel_rfl
theorem cells48 : Tryz.prog.cellsOf 48 = 3 := by kernel_rfl
def ok48 (x : M.Motion) : Prop := x.Text.length ≤ maxLen ∧ (IntKind.i64.min ≤ x.Day ∧ x.Day ≤ IntKind.i64.max) ∧ (IntKind.i64.min ≤ x.From ∧ x.From ≤ IntKind.i64.max)
set_option maxRecDepth 100000 in
theorem opens48 (W : World) : Opens Tryz.prog W 48 M.rp_Motion ok48 := by
  intro H enc fuel cs x h
  obtain ⟨xs, n, _, _, hl, hn, hf⟩ := DataW.trod_struct Tryz.underlying48 h
  obtain ⟨y0, r0, o0⟩ := field_of hn hf (i := 0) rfl (opens9 W)
  have e0' := r0
  have e0 : (cs.drop 0).take (Tryz.prog.cellsOf 9) = [vs y0] := e0'
  rw [cells9] at e0
  obtain ⟨y1, r1, o1⟩ := field_of hn hf (i := 1) rfl (opens3 W)
  have e1' := r1
  have e1 : (cs.drop 1).take (Tryz.prog.cellsOf 3) = [.int .i64 y1] := e1'
  rw [cells3] at e1
  obtain ⟨y2, r2, o2⟩ := field_of hn hf (i := 2) rfl (opens3 W)
  have e2' := r2
  have e2 : (cs.drop 2).take (Tryz.prog.cellsOf 3) = [.int .i64 y2] := e2'
  rw [cells3] at e2
  rw [cells48] at hl
  refine ⟨⟨y0, y1, y2⟩, ?_, o0, o1, o2⟩
  show cs = _
  have hd : cs.drop 3 = [] := List.drop_of_length_le (by omega)
  have h0 : cs = cs.drop 0 := (List.drop_zero).symm
  rw [h0]
  rw [show cs.drop 0 = (cs.drop 0).take 1 ++ cs.drop 1 from cut_step cs 0 1, e0]
  rw [show cs.drop 1 = (cs.drop 1).take 1 ++ cs.drop 2 from cut_step cs 1 1, e1]
  rw [show cs.drop 2 = (cs.drop 2).take 1 ++ cs.drop 3 from cut_step cs 2 1, e2]
  rw [hd]
  rfl
def ok22 (l : List M.Motion) : Prop := l.length ≤ maxLen ∧ ∀ x ∈ l, ok48 x
theorem opens22 (W : World) : Opens Tryz.prog W 22 (Rp.sl M.rp_Motion) ok22 := opens_slice Tryz.underlying22 (r := M.rp_Motion) (by rw [cells48]; rfl) (by decide) (opens48 W)
theorem opens4 (W : World) : Opens Tryz.prog W 4 Rp.bool (fun _ => True) := opens_bool Tryz.underlying4
theorem cells4 : Tryz.prog.cellsOf 4 = 1 := by kernel_rfl
theorem cells52 : Tryz.prog.cellsOf 52 = 3 := by kernel_rfl
def ok52 (x : M.Vote) : Prop := (IntKind.i64.min ≤ x.Motion ∧ x.Motion ≤ IntKind.i64.max) ∧ (IntKind.i64.min ≤ x.Commune ∧ x.Commune ≤ IntKind.i64.max) ∧ True
set_option maxRecDepth 100000 in
theorem opens52 (W : World) : Opens Tryz.prog W 52 M.rp_Vote ok52 := by
  intro H enc fuel cs x h
  obtain ⟨xs, n, _, _, hl, hn, hf⟩ := DataW.trod_struct Tryz.underlying52 h
  obtain ⟨y0, r0, o0⟩ := field_of hn hf (i := 0) rfl (opens3 W)
  have e0' := r0
  have e0 : (cs.drop 0).take (Tryz.prog.cellsOf 3) = [.int .i64 y0] := e0'
  rw [cells3] at e0
  obtain ⟨y1, r1, o1⟩ := field_of hn hf (i := 1) rfl (opens3 W)
  have e1' := r1
  have e1 : (cs.drop 1).take (Tryz.prog.cellsOf 3) = [.int .i64 y1] := e1'
  rw [cells3] at e1
  obtain ⟨y2, r2, o2⟩ := field_of hn hf (i := 2) rfl (opens4 W)
  have e2' := r2
  have e2 : (cs.drop 2).take (Tryz.prog.cellsOf 4) = [.bool y2] := e2'
  rw [cells4] at e2
  rw [cells52] at hl
  refine ⟨⟨y0, y1, y2⟩, ?_, o0, o1, o2⟩
  show cs = _
  have hd : cs.drop 3 = [] := List.drop_of_length_le (by omega)
  have h0 : cs = cs.drop 0 := (List.drop_zero).symm
  rw [h0]
  rw [show cs.drop 0 = (cs.drop 0).take 1 ++ cs.drop 1 from cut_step cs 0 1, e0]
  rw [show cs.drop 1 = (cs.drop 1).take 1 ++ cs.drop 2 from cut_step cs 1 1, e1]
  rw [show cs.drop 2 = (cs.drop 2).take 1 ++ cs.drop 3 from cut_step cs 2 1, e2]
  rw [hd]
  rfl
def ok23 (l : List M.Vote) : Prop := l.length ≤ maxLen ∧ ∀ x ∈ l, ok52 x
theorem opens23 (W : World) : Opens Tryz.prog W 23 (Rp.sl M.rp_Vote) ok23 := opens_slice Tryz.underlying23 (r := M.rp_Vote) (by rw [cells52]; rfl) (by decide) (opens52 W)
def ok24 (l : List Int) : Prop := l.length ≤ maxLen ∧ ∀ x ∈ l, (IntKind.i64.min ≤ x ∧ x ≤ IntKind.i64.max)
theorem opens24 (W : World) : Opens Tryz.prog W 24 (Rp.sl (Rp.int .i64)) ok24 := opens_slice Tryz.underlying24 (r := (Rp.int .i64)) (by rw [cells3]; rfl) (by decide) (opens3 W)
def ok25 (l : List Bs) : Prop := l.length ≤ maxLen ∧ ∀ x ∈ l, x.length ≤ maxLen
theorem opens25 (W : World) : Opens Tryz.prog W 25 (Rp.sl Rp.str) ok25 := opens_slice Tryz.underlying25 (r := Rp.str) (by rw [cells9]; rfl) (by decide) (opens9 W)
theorem cells36 : Tryz.prog.cellsOf 36 = 1 := by kernel_rfl
theorem cells38 : Tryz.prog.cellsOf 38 = 4 := by kernel_rfl
inductive WfX : M.Expr → Prop
  | mk {o n : Int} {s : Rt.Bs} {l : List M.Expr} : (IntKind.i64.min ≤ o ∧ o ≤ IntKind.i64.max) → (IntKind.i64.min ≤ n ∧ n ≤ IntKind.i64.max) → s.length ≤ maxLen → l.length ≤ maxLen → (∀ y, y ∈ l → WfX y) → WfX ⟨o, n, s, l⟩
def ok38 (x : M.Expr) : Prop := WfX x
set_option maxRecDepth 100000 in
theorem opensX38 (W : World) {H : Type} (enc : TypeId × Value → H) : ∀ (fuel : Nat) (cs : List Value) (x : DataW H × List MemPlace), DataW.trod enc Tryz.prog W 0 (fun _ => true) true fuel 38 cs = some x → ∃ y, M.rp_Expr.R (all W) cs y ∧ WfX y := by
  intro fuel
  induction fuel using Nat.strongRecOn with
  | ind fuel ih =>
    intro cs x h
    obtain ⟨xs, n, hfu, _, hl, hn, hf⟩ := DataW.trod_struct Tryz.underlying38 h
    obtain ⟨y0, r0, o0⟩ := field_of hn hf (i := 0) rfl (opens3 W)
    obtain ⟨y1, r1, o1⟩ := field_of hn hf (i := 1) rfl (opens3 W)
    obtain ⟨y2, r2, o2⟩ := field_of hn hf (i := 2) rfl (opens9 W)
    have h3 : DataW.trod enc Tryz.prog W 0 (fun _ => true) true n 36 ((cs.drop 3).take (Tryz.prog.cellsOf 36)) = xs[3]? := hf 3 _ rfl
    have h3l : 3 < xs.length := by rw [hn]; decide
    rw [List.getElem?_eq_getElem h3l] at h3
    obtain ⟨l, ⟨a, m, c, e3', s3⟩, o3, o4⟩ := slice_at Tryz.underlying36 (r := M.rp_Expr) (ok := WfX) (by rw [cells38]; rfl) (by decide) h3 (fun j cs' x' hj hx => ih j (by omega) cs' x' hx)
    have e0 : (cs.drop 0).take (Tryz.prog.cellsOf 3) = [.int .i64 y0] := r0
    have e1 : (cs.drop 1).take (Tryz.prog.cellsOf 3) = [.int .i64 y1] := r1
    have e2 : (cs.drop 2).take (Tryz.prog.cellsOf 9) = [vs y2] := r2
    have e3 : (cs.drop 3).take (Tryz.prog.cellsOf 36) = [.slice a m c] := e3'
    rw [cells3] at e0 e1
    rw [cells9] at e2
    rw [cells36] at e3
    rw [cells38] at hl
    refine ⟨⟨y0, y1, y2, l⟩, M.expr_iff.2 ⟨a, m, c, ?_, s3⟩, WfX.mk o0 o1 o2 o3 o4⟩
    show cs = _
    have hd : cs.drop 4 = [] := List.drop_of_length_le (by omega)
    have h0 : cs = cs.drop 0 := (List.drop_zero).symm
    rw [h0]
    rw [show cs.drop 0 = (cs.drop 0).take 1 ++ cs.drop 1 from cut_step cs 0 1, e0]
    rw [show cs.drop 1 = (cs.drop 1).take 1 ++ cs.drop 2 from cut_step cs 1 1, e1]
    rw [show cs.drop 2 = (cs.drop 2).take 1 ++ cs.drop 3 from cut_step cs 2 1, e2]
    rw [show cs.drop 3 = (cs.drop 3).take 1 ++ cs.drop 4 from cut_step cs 3 1, e3]
    rw [hd]
    rfl
theorem opens38 (W : World) : Opens Tryz.prog W 38 M.rp_Expr ok38 := fun enc fuel cs x h => opensX38 W enc fuel cs x h
theorem cells40 : Tryz.prog.cellsOf 40 = 6 := by kernel_rfl
def ok40 (x : M.Tariff) : Prop := x.Name.length ≤ maxLen ∧ ok38 x.Fee ∧ (IntKind.i64.min ≤ x.Cap ∧ x.Cap ≤ IntKind.i64.max)
set_option maxRecDepth 100000 in
theorem opens40 (W : World) : Opens Tryz.prog W 40 M.rp_Tariff ok40 := by
  intro H enc fuel cs x h
  obtain ⟨xs, n, _, _, hl, hn, hf⟩ := DataW.trod_struct Tryz.underlying40 h
  obtain ⟨y0, r0, o0⟩ := field_of hn hf (i := 0) rfl (opens9 W)
  have e0' := r0
  have e0 : (cs.drop 0).take (Tryz.prog.cellsOf 9) = [vs y0] := e0'
  rw [cells9] at e0
  obtain ⟨y1, r1, o1⟩ := field_of hn hf (i := 1) rfl (opens38 W)
  obtain ⟨a1_3, n1_3, c1_3, e1', s1_3⟩ := (M.expr_iff.1 r1)
  have e1 : (cs.drop 1).take (Tryz.prog.cellsOf 38) = [.int .i64 y1.Op, .int .i64 y1.N, vs y1.Name, .slice a1_3 n1_3 c1_3] := e1'
  rw [cells38] at e1
  obtain ⟨y2, r2, o2⟩ := field_of hn hf (i := 2) rfl (opens3 W)
  have e2' := r2
  have e2 : (cs.drop 5).take (Tryz.prog.cellsOf 3) = [.int .i64 y2] := e2'
  rw [cells3] at e2
  rw [cells40] at hl
  refine ⟨⟨y0, y1, y2⟩, ⟨a1_3, n1_3, c1_3, ?_, s1_3⟩, o0, o1, o2⟩
  show cs = _
  have hd : cs.drop 6 = [] := List.drop_of_length_le (by omega)
  have h0 : cs = cs.drop 0 := (List.drop_zero).symm
  rw [h0]
  rw [show cs.drop 0 = (cs.drop 0).take 1 ++ cs.drop 1 from cut_step cs 0 1, e0]
  rw [show cs.drop 1 = (cs.drop 1).take 4 ++ cs.drop 5 from cut_step cs 1 4, e1]
  rw [show cs.drop 5 = (cs.drop 5).take 1 ++ cs.drop 6 from cut_step cs 5 1, e2]
  rw [hd]
  rfl
theorem cells56 : Tryz.prog.cellsOf 56 = 7 := by kernel_rfl
def ok56 (x : M.Version) : Prop := (IntKind.i64.min ≤ x.From ∧ x.From ≤ IntKind.i64.max) ∧ ok40 x.Tariff
set_option maxRecDepth 100000 in
theorem opens56 (W : World) : Opens Tryz.prog W 56 M.rp_Version ok56 := by
  intro H enc fuel cs x h
  obtain ⟨xs, n, _, _, hl, hn, hf⟩ := DataW.trod_struct Tryz.underlying56 h
  obtain ⟨y0, r0, o0⟩ := field_of hn hf (i := 0) rfl (opens3 W)
  have e0' := r0
  have e0 : (cs.drop 0).take (Tryz.prog.cellsOf 3) = [.int .i64 y0] := e0'
  rw [cells3] at e0
  obtain ⟨y1, r1, o1⟩ := field_of hn hf (i := 1) rfl (opens40 W)
  obtain ⟨a1_4, n1_4, c1_4, e1', s1_4⟩ := r1
  have e1 : (cs.drop 1).take (Tryz.prog.cellsOf 40) = [vs y1.Name, .int .i64 y1.Fee.Op, .int .i64 y1.Fee.N, vs y1.Fee.Name, .slice a1_4 n1_4 c1_4, .int .i64 y1.Cap] := e1'
  rw [cells40] at e1
  rw [cells56] at hl
  refine ⟨⟨y0, y1⟩, ⟨a1_4, n1_4, c1_4, ?_, s1_4⟩, o0, o1⟩
  show cs = _
  have hd : cs.drop 7 = [] := List.drop_of_length_le (by omega)
  have h0 : cs = cs.drop 0 := (List.drop_zero).symm
  rw [h0]
  rw [show cs.drop 0 = (cs.drop 0).take 1 ++ cs.drop 1 from cut_step cs 0 1, e0]
  rw [show cs.drop 1 = (cs.drop 1).take 6 ++ cs.drop 7 from cut_step cs 1 6, e1]
  rw [hd]
  rfl
def ok26 (l : List M.Version) : Prop := l.length ≤ maxLen ∧ ∀ x ∈ l, ok56 x
theorem opens26 (W : World) : Opens Tryz.prog W 26 (Rp.sl M.rp_Version) ok26 := opens_slice Tryz.underlying26 (r := M.rp_Version) (by rw [cells56]; rfl) (by decide) (opens56 W)
def tabs : List (String × DataW Unit) := [("kerbside/lexer.signs", Rows.laid_kerbside_lexer_signs)]
theorem cells127 : Tryz.prog.cellsOf 127 = 13 := by kernel_rfl
theorem cells5 : Tryz.prog.cellsOf 5 = 1 := by kernel_rfl
theorem gTab0 : Tryz.prog.globalNamed "kerbside/lexer.signs" = some 0 := by kernel_rfl
theorem gTabType0 : (Tryz.prog.globals[0]?).map (·.type) = some 127 := by kernel_rfl
theorem table0 {W : World} (h : laidMetH Tryz.prog tabs W) : FX (all W) 0 [.int .u8 40, .int .u8 41, .int .u8 44, .int .u8 59, .int .u8 58, .int .u8 61, .int .u8 60, .int .u8 43, .int .u8 45, .int .u8 42, .int .u8 47, .int .u8 123, .int .u8 125] := by
  have h1 : laidMet Tryz.prog tabs W := h
  have h2 : laidMet Tryz.prog (("kerbside/lexer.signs", Lib.tabData .u8 [40, 41, 44, 59, 58, 61, 60, 43, 45, 42, 47, 123, 125]) :: _) W := h1
  exact fx_of_var gTab0 (Lib.tabIs_of_head gTab0 gTabType0 Tryz.underlying127 Tryz.underlying5 cells5 cells127 h2)
/-- a datum's cells -/
def laidCells : DataW Unit → List Value
  | .lit (.int k z) => [.int k z]
  | .agg xs => xs.flatMap fun | .lit (.int k z) => [.int k z] | .agg [.lit (.int k z), .lit (.int k' z')] => [.int k z, .int k' z'] | _ => []
  | _ => []
def putIn (h : Array Obj) (g : Nat) (d : DataW Unit) : Array Obj := h.modify g fun
  | .cells _ t frozen => .cells (laidCells d).toArray t frozen
  | o => o
noncomputable def laidWorld (os : Os) : World :=
  { World.holding Tryz.prog os ⟨#[], #[], []⟩ with heap := (putIn (World.holding Tryz.prog os ⟨#[], #[], []⟩).heap 0 Rows.laid_kerbside_lexer_signs) }
theorem laid_met (os : Os) (args : Array Value) : laidMet Tryz.prog tabs ((laidWorld os).forCall (fun _ _ => 0) ⟨#[], args, []⟩).memory :=
  laidMet_of_run' 8 (by kernel_rfl) (by kernel_rfl)
end Go.Proofs.YtibkigpmkkkaeaaGreatDoor.Wrap
