/-
  FROM AN ARGUMENT's READING TO WHAT THE MIRRORS TAKE, for each type of a parameter; the listed tables; the start for the witness. Printed by wrap5.py.
-/
import Derived.Test.YtaanocaobllohaaGreatDoorOpen
import Derived.Test.YtaanocaobllohaaGreatDoorMirA
import Derived.Test.YtaanocaobllohaaGreatDoorMirF
namespace Go.Proofs.YtaanocaobllohaaGreatDoor.Wrap
open Go Go.ChangeShapes Go.WideShapes Go.ChangeAt Go.RowKit Rt
theorem c7r (W : World) : c0i Tryz.prog W 3 (Rp.int .i64) (fun z => IntKind.i64.min ≤ z ∧ z ≤ IntKind.i64.max) := c4v Tryz.underlying3
theorem cells3 : Tryz.prog.cellsOf 3 = 1 := by kernel_rfl
def ok22 (l : List Int) : Prop := l.length ≤ maxLen ∧ ∀ x ∈ l, (IntKind.i64.min ≤ x ∧ x ≤ IntKind.i64.max)
theorem c8t (W : World) : c0i Tryz.prog W 22 (Rp.sl (Rp.int .i64)) ok22 := c1s Tryz.underlying22 (r := (Rp.int .i64)) (by rw [cells3]; rfl) (by decide) (c7r W)
theorem cells22 : Tryz.prog.cellsOf 22 = 1 := by kernel_rfl
theorem cells24 : Tryz.prog.cellsOf 24 = 2 := by kernel_rfl
def ok24 (x : M.Big) : Prop := (IntKind.i64.min ≤ x.Sign ∧ x.Sign ≤ IntKind.i64.max) ∧ ok22 x.Digits
set_option maxRecDepth 100000 in
theorem c5c (W : World) : c0i Tryz.prog W 24 M.rp_Big ok24 := by
  intro H enc fuel cs x h
  obtain ⟨xs, n, _, _, hl, hn, hf⟩ := DataW.trod_struct Tryz.underlying24 h
  obtain ⟨y0, r0, o0⟩ := b6m hn hf (i := 0) rfl (c7r W)
  have e0' := r0
  have e0 : (cs.drop 0).take (Tryz.prog.cellsOf 3) = [.int .i64 y0] := e0'
  rw [cells3] at e0
  obtain ⟨y1, r1, o1⟩ := b6m hn hf (i := 1) rfl (c8t W)
  obtain ⟨a1_0, n1_0, c1_0, e1', s1_0⟩ := r1
  have e1 : (cs.drop 1).take (Tryz.prog.cellsOf 22) = [.slice a1_0 n1_0 c1_0] := e1'
  rw [cells22] at e1
  rw [cells24] at hl
  refine ⟨⟨y0, y1⟩, ⟨a1_0, n1_0, c1_0, ?_, s1_0⟩, o0, o1⟩
  show cs = _
  have hd : cs.drop 2 = [] := List.drop_of_length_le (by omega)
  have h0 : cs = cs.drop 0 := (List.drop_zero).symm
  rw [h0]
  rw [show cs.drop 0 = (cs.drop 0).take 1 ++ cs.drop 1 from b6l cs 0 1, e0]
  rw [show cs.drop 1 = (cs.drop 1).take 1 ++ cs.drop 2 from b6l cs 1 1, e1]
  rw [hd]
  rfl
theorem cells26 : Tryz.prog.cellsOf 26 = 4 := by kernel_rfl
def ok26 (x : M.Frac) : Prop := ok24 x.P ∧ ok24 x.Q
set_option maxRecDepth 100000 in
theorem c5v (W : World) : c0i Tryz.prog W 26 M.rp_Frac ok26 := by
  intro H enc fuel cs x h
  obtain ⟨xs, n, _, _, hl, hn, hf⟩ := DataW.trod_struct Tryz.underlying26 h
  obtain ⟨y0, r0, o0⟩ := b6m hn hf (i := 0) rfl (c5c W)
  obtain ⟨a0_1, n0_1, c0_1, e0', s0_1⟩ := r0
  have e0 : (cs.drop 0).take (Tryz.prog.cellsOf 24) = [.int .i64 y0.Sign, .slice a0_1 n0_1 c0_1] := e0'
  rw [cells24] at e0
  obtain ⟨y1, r1, o1⟩ := b6m hn hf (i := 1) rfl (c5c W)
  obtain ⟨a1_1, n1_1, c1_1, e1', s1_1⟩ := r1
  have e1 : (cs.drop 2).take (Tryz.prog.cellsOf 24) = [.int .i64 y1.Sign, .slice a1_1 n1_1 c1_1] := e1'
  rw [cells24] at e1
  rw [cells26] at hl
  refine ⟨⟨y0, y1⟩, ⟨a0_1, n0_1, c0_1, a1_1, n1_1, c1_1, ?_, s0_1, s1_1⟩, o0, o1⟩
  show cs = _
  have hd : cs.drop 4 = [] := List.drop_of_length_le (by omega)
  have h0 : cs = cs.drop 0 := (List.drop_zero).symm
  rw [h0]
  rw [show cs.drop 0 = (cs.drop 0).take 2 ++ cs.drop 2 from b6l cs 0 2, e0]
  rw [show cs.drop 2 = (cs.drop 2).take 2 ++ cs.drop 4 from b6l cs 2 2, e1]
  rw [hd]
  rfl
def tabs : List (String × DataW Unit) := [("math/bits.deBruijn32tab", Rows.laid_math_bits_deBruijn32tab), ("math/bits.deBruijn64tab", Rows.laid_math_bits_deBruijn64tab), ("internal/strconv.uint64pow10", Rows.laid_internal_strconv_uint64pow10), ("unicode/utf8.acceptRanges", Rows.laid_unicode_utf8_acceptRanges), ("unicode/utf8.first", Rows.laid_unicode_utf8_first)]
theorem cells143 : Tryz.prog.cellsOf 143 = 20 := by kernel_rfl
theorem cells67 : Tryz.prog.cellsOf 67 = 1 := by kernel_rfl
theorem gTab3 : Tryz.prog.globalNamed "internal/strconv.uint64pow10" = some 3 := by kernel_rfl
theorem gTabType3 : (Tryz.prog.globals[3]?).map (·.type) = some 143 := by kernel_rfl
theorem d0d {W : World} (h : laidMetH Tryz.prog tabs W) : FX (all W) 3 (Lib.pow10Tab.map (Value.int .u64)) := by
  have h1 : laidMet Tryz.prog tabs W := h
  have h2 : laidMet Tryz.prog (("internal/strconv.uint64pow10", Lib.tabData .u64 [1, 10, 100, 1000, 10000, 100000, 1000000, 10000000, 100000000, 1000000000, 10000000000, 100000000000, 1000000000000, 10000000000000, 100000000000000, 1000000000000000, 10000000000000000, 100000000000000000, 1000000000000000000, 10000000000000000000]) :: _) W := h1.tail.tail
  exact c4u gTab3 (Lib.tabIs_of_head gTab3 gTabType3 Tryz.underlying143 Tryz.underlying67 cells67 cells143 h2)
/-- a datum's cells -/
def laidCells : DataW Unit → List Value
  | .lit (.int k z) => [.int k z]
  | .agg xs => xs.flatMap fun | .lit (.int k z) => [.int k z] | .agg [.lit (.int k z), .lit (.int k' z')] => [.int k z, .int k' z'] | _ => []
  | _ => []
def c4s (h : Array Obj) (g : Nat) (d : DataW Unit) : Array Obj := h.modify g fun
  | .cells _ t frozen => .cells (laidCells d).toArray t frozen
  | o => o
noncomputable def b6q (os : Os) : World :=
  { World.holding Tryz.prog os ⟨#[], #[], []⟩ with heap := (c4s (c4s (c4s (c4s (c4s (World.holding Tryz.prog os ⟨#[], #[], []⟩).heap 4 Rows.laid_math_bits_deBruijn32tab) 5 Rows.laid_math_bits_deBruijn64tab) 3 Rows.laid_internal_strconv_uint64pow10) 2 Rows.laid_unicode_utf8_acceptRanges) 1 Rows.laid_unicode_utf8_first) }
theorem c6s (os : Os) (args : Array Value) : laidMet Tryz.prog tabs ((b6q os).forCall (fun _ _ => 0) ⟨#[], args, []⟩).memory :=
  laidMet_of_run' 8 (by kernel_rfl) (by kernel_rfl)
end Go.Proofs.YtaanocaobllohaaGreatDoor.Wrap
