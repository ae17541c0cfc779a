/-
  A big integer among the arguments; the listed table; the start for the witness.
-/
import Derived.Test.YtaiiclbemlmmaaaDoorOpen
import Derived.Test.YtaiiclbemlmmaaaDoorExtB
namespace Go.Proofs.YtaiiclbemlmmaaaDoor.Wrap
open Go Go.ChangeShapes Go.WideShapes Go.ChangeAt Go.RowKit Rt

theorem cells24 : Tryd.prog.cellsOf 24 = 2 := by kernel_rfl
theorem cells3 : Tryd.prog.cellsOf 3 = 1 := by kernel_rfl
theorem cells22 : Tryd.prog.cellsOf 22 = 1 := by kernel_rfl
theorem opens_digits (W : World) : Opens Tryd.prog W 22 (Rp.sl (Rp.int .i64)) (fun _ => True) := fun enc fuel cs x h => by
  obtain ⟨y, h1, _⟩ := opens_slice Tryd.underlying22 (r := Rp.int .i64) (by rw [cells3]; rfl) (by decide) (opens_int Tryd.underlying3) enc fuel cs x h
  exact ⟨y, h1, trivial⟩
set_option maxRecDepth 100000 in
theorem open_big {W : World} {b0 : Nat} {re : Reach} {H : Type} {enc : TypeId × Value → H} {v : Value} {d : DataW H} {ps : List MemPlace}
    (hval : Value.okWide Tryd.prog W re b0 24 v) (h : DataW.Trod enc Tryd.prog W 0 (fun _ => true) true 24 v d ps) : ∃ s a n c ds, v = .agg #[.int .i64 s, .slice a n c] ∧ SlR (Rp.int .i64) (all W) a n c ds := by
  obtain ⟨cs, rfl, hsz⟩ := okWide_struct Tryd.underlying24 hval
  rw [cells24] at hsz
  obtain ⟨fuel, hf⟩ := h
  obtain ⟨xs, n, _, _, hl, hn, hf⟩ := DataW.trod_struct Tryd.underlying24 hf
  obtain ⟨y0, r0, _⟩ := field_of hn hf (i := 0) rfl (opens_int (W := W) Tryd.underlying3)
  obtain ⟨y1, ⟨a, m, c, e1, r1⟩, _⟩ := field_of hn hf (i := 1) rfl (opens_digits W)
  have r0' : (cs.toList.drop 0).take (Tryd.prog.cellsOf 3) = [.int .i64 y0] := r0
  have r1' : (cs.toList.drop 1).take (Tryd.prog.cellsOf 22) = [.slice a m c] := e1
  rw [cells3] at r0'
  rw [cells22] at r1'
  refine ⟨y0, a, m, c, y1, ?_, r1⟩
  have : cs.toList = [.int .i64 y0, .slice a m c] := by
    rw [← List.drop_zero (l := cs.toList), cut_step cs.toList 0 1, cut_step cs.toList (0 + 1) 1, r0', r1', List.drop_of_length_le (by simp; omega)]
    rfl
  rw [← Array.toArray_toList (xs := cs), this]

theorem gTab : Tryd.prog.globalNamed "internal/strconv.uint64pow10" = some 2 := by kernel_rfl
theorem gTabType : (Tryd.prog.globals[2]?).map (·.type) = some 119 := by kernel_rfl
theorem cells119 : Tryd.prog.cellsOf 119 = 20 := by kernel_rfl
theorem cells63 : Tryd.prog.cellsOf 63 = 1 := by kernel_rfl

def tabs : List (String × DataW Unit) := [("math/bits.deBruijn32tab", Rows.laid_math_bits_deBruijn32tab), ("math/bits.deBruijn64tab", Rows.laid_math_bits_deBruijn64tab), ("internal/strconv.uint64pow10", Rows.laid_internal_strconv_uint64pow10), ("unicode/utf8.acceptRanges", Rows.laid_unicode_utf8_acceptRanges), ("unicode/utf8.first", Rows.laid_unicode_utf8_first)]
theorem table {W : World} (h : laidMetH Tryd.prog tabs W) : FX (all W) 2 (Lib.pow10Tab.map (Value.int .u64)) := by
  have h1 : laidMet Tryd.prog tabs W := h
  have h2 : laidMet Tryd.prog (("internal/strconv.uint64pow10", Lib.tabData .u64 Lib.pow10Tab) :: _) W := h1.tail.tail
  exact fx_of_var gTab (Lib.tabIs_of_head gTab gTabType Tryd.underlying119 Tryd.underlying63 cells63 cells119 h2)

/-- a datum's cells -/
def laidCells : DataW Unit → List Value
  | .lit (.int k z) => [.int k z]
  | .agg xs => xs.flatMap fun | .lit (.int k z) => [.int k z] | .agg [.lit (.int k z), .lit (.int k' z')] => [.int k z, .int k' z'] | _ => []
  | _ => []
def putIn (h : Array Obj) (g : Nat) (d : DataW Unit) : Array Obj := h.modify g fun
  | .cells _ t frozen => .cells (laidCells d).toArray t frozen
  | o => o
noncomputable def laidWorld (os : Os) : World :=
  { World.holding Tryd.prog os ⟨#[], #[], []⟩ with heap := putIn (putIn (putIn (putIn (putIn (World.holding Tryd.prog os ⟨#[], #[], []⟩).heap 4 Rows.laid_math_bits_deBruijn32tab) 5 Rows.laid_math_bits_deBruijn64tab) 2 Rows.laid_internal_strconv_uint64pow10) 1 Rows.laid_unicode_utf8_acceptRanges) 0 Rows.laid_unicode_utf8_first }
theorem laid_met (os : Os) (args : Array Value) : laidMet Tryd.prog tabs ((laidWorld os).forCall (fun _ _ => 0) ⟨#[], args, []⟩).memory :=
  laidMet_of_run' 8 (by kernel_rfl) (by kernel_rfl)
end Go.Proofs.YtaiiclbemlmmaaaDoor.Wrap
