/-
  FROM AN ARGUMENT's READING TO WHAT THE MIRRORS TAKE, for each type of a parameter; the listed tables; the start for the witness. Printed by wrap5.py.
-/
import Derived.Test.YtpihabofmnnbbaaDoorOpenX
import Derived.Test.YtpihabofmnnbbaaDoorMirG
namespace Go.Proofs.YtpihabofmnnbbaaDoor.Wrap
open Go Go.ChangeShapes Go.WideShapes Go.ChangeAt Go.RowKit Rt

theorem opens9 (W : World) : Opens Tryd.prog W 9 Rp.str (fun s => s.length ≤ maxLen) := opens_str Tryd.underlying9
theorem cells9 : Tryd.prog.cellsOf 9 = 1 := by kernel_rfl
theorem opens3 (W : World) : Opens Tryd.prog W 3 (Rp.int .i64) (fun z => IntKind.i64.min ≤ z ∧ z ≤ IntKind.i64.max) := opens_int Tryd.underlying3
theorem cells3 : Tryd.prog.cellsOf 3 = 1 := by kernel_rfl
theorem cells22 : Tryd.prog.cellsOf 22 = 1 := by kernel_rfl
theorem cells24 : Tryd.prog.cellsOf 24 = 4 := by kernel_rfl
inductive WfX : M.Expr → Prop
  | mk {o n : Int} {s : Rt.Bs} {l : List M.Expr} : (IntKind.i64.min ≤ o ∧ o ≤ IntKind.i64.max) → (IntKind.i64.min ≤ n ∧ n ≤ IntKind.i64.max) → s.length ≤ maxLen → l.length ≤ maxLen → (∀ y, y ∈ l → WfX y) → WfX ⟨o, n, s, l⟩
def ok24 (x : M.Expr) : Prop := WfX x
set_option maxRecDepth 100000 in
theorem opensX24 (W : World) {H : Type} (enc : TypeId × Value → H) : ∀ (fuel : Nat) (cs : List Value) (x : DataW H × List MemPlace), DataW.trod enc Tryd.prog W 0 (fun _ => true) true fuel 24 cs = some x → ∃ y, M.rp_Expr.R (all W) cs y ∧ WfX y := by
  intro fuel
  induction fuel using Nat.strongRecOn with
  | ind fuel ih =>
    intro cs x h
    obtain ⟨xs, n, hfu, _, hl, hn, hf⟩ := DataW.trod_struct Tryd.underlying24 h
    obtain ⟨y0, r0, o0⟩ := field_of hn hf (i := 0) rfl (opens3 W)
    obtain ⟨y1, r1, o1⟩ := field_of hn hf (i := 1) rfl (opens3 W)
    obtain ⟨y2, r2, o2⟩ := field_of hn hf (i := 2) rfl (opens9 W)
    have h3 : DataW.trod enc Tryd.prog W 0 (fun _ => true) true n 22 ((cs.drop 3).take (Tryd.prog.cellsOf 22)) = xs[3]? := hf 3 _ rfl
    have h3l : 3 < xs.length := by rw [hn]; decide
    rw [List.getElem?_eq_getElem h3l] at h3
    obtain ⟨l, ⟨a, m, c, e3', s3⟩, o3, o4⟩ := slice_at Tryd.underlying22 (r := M.rp_Expr) (ok := WfX) (by rw [cells24]; rfl) (by decide) h3 (fun j cs' x' hj hx => ih j (by omega) cs' x' hx)
    have e0 : (cs.drop 0).take (Tryd.prog.cellsOf 3) = [.int .i64 y0] := r0
    have e1 : (cs.drop 1).take (Tryd.prog.cellsOf 3) = [.int .i64 y1] := r1
    have e2 : (cs.drop 2).take (Tryd.prog.cellsOf 9) = [vs y2] := r2
    have e3 : (cs.drop 3).take (Tryd.prog.cellsOf 22) = [.slice a m c] := e3'
    rw [cells3] at e0 e1
    rw [cells9] at e2
    rw [cells22] at e3
    rw [cells24] at hl
    refine ⟨⟨y0, y1, y2, l⟩, M.expr_iff.2 ⟨a, m, c, ?_, s3⟩, WfX.mk o0 o1 o2 o3 o4⟩
    show cs = _
    have hd : cs.drop 4 = [] := List.drop_of_length_le (by omega)
    have h0 : cs = cs.drop 0 := (List.drop_zero).symm
    rw [h0]
    rw [show cs.drop 0 = (cs.drop 0).take 1 ++ cs.drop 1 from cut_step cs 0 1, e0]
    rw [show cs.drop 1 = (cs.drop 1).take 1 ++ cs.drop 2 from cut_step cs 1 1, e1]
    rw [show cs.drop 2 = (cs.drop 2).take 1 ++ cs.drop 3 from cut_step cs 2 1, e2]
    rw [show cs.drop 3 = (cs.drop 3).take 1 ++ cs.drop 4 from cut_step cs 3 1, e3]
    rw [hd]
    rfl
theorem opens24 (W : World) : Opens Tryd.prog W 24 M.rp_Expr ok24 := fun enc fuel cs x h => opensX24 W enc fuel cs x h
theorem cells26 : Tryd.prog.cellsOf 26 = 6 := by kernel_rfl
def ok26 (x : M.Tariff) : Prop := x.Name.length ≤ maxLen ∧ ok24 x.Fee ∧ (IntKind.i64.min ≤ x.Cap ∧ x.Cap ≤ IntKind.i64.max)
set_option maxRecDepth 100000 in
theorem opens26 (W : World) : Opens Tryd.prog W 26 M.rp_Tariff ok26 := by
  intro H enc fuel cs x h
  obtain ⟨xs, n, _, _, hl, hn, hf⟩ := DataW.trod_struct Tryd.underlying26 h
  obtain ⟨y0, r0, o0⟩ := field_of hn hf (i := 0) rfl (opens9 W)
  have e0' := r0
  have e0 : (cs.drop 0).take (Tryd.prog.cellsOf 9) = [vs y0] := e0'
  rw [cells9] at e0
  obtain ⟨y1, r1, o1⟩ := field_of hn hf (i := 1) rfl (opens24 W)
  obtain ⟨a1_3, n1_3, c1_3, e1', s1_3⟩ := (M.expr_iff.1 r1)
  have e1 : (cs.drop 1).take (Tryd.prog.cellsOf 24) = [.int .i64 y1.Op, .int .i64 y1.N, vs y1.Name, .slice a1_3 n1_3 c1_3] := e1'
  rw [cells24] at e1
  obtain ⟨y2, r2, o2⟩ := field_of hn hf (i := 2) rfl (opens3 W)
  have e2' := r2
  have e2 : (cs.drop 5).take (Tryd.prog.cellsOf 3) = [.int .i64 y2] := e2'
  rw [cells3] at e2
  rw [cells26] at hl
  refine ⟨⟨y0, y1, y2⟩, ⟨a1_3, n1_3, c1_3, ?_, s1_3⟩, o0, o1, o2⟩
  show cs = _
  have hd : cs.drop 6 = [] := List.drop_of_length_le (by omega)
  have h0 : cs = cs.drop 0 := (List.drop_zero).symm
  rw [h0]
  rw [show cs.drop 0 = (cs.drop 0).take 1 ++ cs.drop 1 from cut_step cs 0 1, e0]
  rw [show cs.drop 1 = (cs.drop 1).take 4 ++ cs.drop 5 from cut_step cs 1 4, e1]
  rw [show cs.drop 5 = (cs.drop 5).take 1 ++ cs.drop 6 from cut_step cs 5 1, e2]
  rw [hd]
  rfl
theorem opens5 (W : World) : Opens Tryd.prog W 5 (Rp.int .u8) (fun z => IntKind.u8.min ≤ z ∧ z ≤ IntKind.u8.max) := opens_int Tryd.underlying5

def tabs : List (String × DataW Unit) := [("math/bits.deBruijn32tab", Rows.laid_math_bits_deBruijn32tab), ("math/bits.deBruijn64tab", Rows.laid_math_bits_deBruijn64tab), ("internal/strconv.uint64pow10", Rows.laid_internal_strconv_uint64pow10), ("kerbside/lexer.signs", Rows.laid_kerbside_lexer_signs)]
theorem cells89 : Tryd.prog.cellsOf 89 = 13 := by kernel_rfl
theorem cells5 : Tryd.prog.cellsOf 5 = 1 := by kernel_rfl
theorem gTab0 : Tryd.prog.globalNamed "kerbside/lexer.signs" = some 0 := by kernel_rfl
theorem gTabType0 : (Tryd.prog.globals[0]?).map (·.type) = some 89 := by kernel_rfl
theorem table0 {W : World} (h : laidMetH Tryd.prog tabs W) : FX (all W) 0 [.int .u8 40, .int .u8 41, .int .u8 44, .int .u8 59, .int .u8 58, .int .u8 61, .int .u8 60, .int .u8 43, .int .u8 45, .int .u8 42, .int .u8 47, .int .u8 123, .int .u8 125] := by
  have h1 : laidMet Tryd.prog tabs W := h
  have h2 : laidMet Tryd.prog (("kerbside/lexer.signs", Lib.tabData .u8 [40, 41, 44, 59, 58, 61, 60, 43, 45, 42, 47, 123, 125]) :: _) W := h1.tail.tail.tail
  exact fx_of_var gTab0 (Lib.tabIs_of_head gTab0 gTabType0 Tryd.underlying89 Tryd.underlying5 cells5 cells89 h2)
theorem cells120 : Tryd.prog.cellsOf 120 = 20 := by kernel_rfl
theorem cells109 : Tryd.prog.cellsOf 109 = 1 := by kernel_rfl
theorem gTab1 : Tryd.prog.globalNamed "internal/strconv.uint64pow10" = some 1 := by kernel_rfl
theorem gTabType1 : (Tryd.prog.globals[1]?).map (·.type) = some 120 := by kernel_rfl
theorem table1 {W : World} (h : laidMetH Tryd.prog tabs W) : FX (all W) 1 (Lib.pow10Tab.map (Value.int .u64)) := by
  have h1 : laidMet Tryd.prog tabs W := h
  have h2 : laidMet Tryd.prog (("internal/strconv.uint64pow10", Lib.tabData .u64 [1, 10, 100, 1000, 10000, 100000, 1000000, 10000000, 100000000, 1000000000, 10000000000, 100000000000, 1000000000000, 10000000000000, 100000000000000, 1000000000000000, 10000000000000000, 100000000000000000, 1000000000000000000, 10000000000000000000]) :: _) W := h1.tail.tail
  exact fx_of_var gTab1 (Lib.tabIs_of_head gTab1 gTabType1 Tryd.underlying120 Tryd.underlying109 cells109 cells120 h2)

/-- a datum's cells -/
def laidCells : DataW Unit → List Value
  | .lit (.int k z) => [.int k z]
  | .agg xs => xs.flatMap fun | .lit (.int k z) => [.int k z] | .agg [.lit (.int k z), .lit (.int k' z')] => [.int k z, .int k' z'] | _ => []
  | _ => []
def putIn (h : Array Obj) (g : Nat) (d : DataW Unit) : Array Obj := h.modify g fun
  | .cells _ t frozen => .cells (laidCells d).toArray t frozen
  | o => o
noncomputable def laidWorld (os : Os) : World :=
  { World.holding Tryd.prog os ⟨#[], #[], []⟩ with heap := (putIn (putIn (putIn (putIn (World.holding Tryd.prog os ⟨#[], #[], []⟩).heap 3 Rows.laid_math_bits_deBruijn32tab) 4 Rows.laid_math_bits_deBruijn64tab) 1 Rows.laid_internal_strconv_uint64pow10) 0 Rows.laid_kerbside_lexer_signs) }
theorem laid_met (os : Os) (args : Array Value) : laidMet Tryd.prog tabs ((laidWorld os).forCall (fun _ _ => 0) ⟨#[], args, []⟩).memory :=
  laidMet_of_run' 8 (by kernel_rfl) (by kernel_rfl)
end Go.Proofs.YtpihabofmnnbbaaDoor.Wrap
