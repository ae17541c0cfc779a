/-
  A token, and a list of tokens, among the arguments.
-/
import Derived.Test.YtaibejlploombaaDoorOpen
import Derived.Test.YtaibejlploombaaDoorMirA
namespace Go.Proofs.YtaibejlploombaaDoor.Wrap
open Go Go.ChangeShapes Go.WideShapes Go.ChangeAt Go.RowKit Rt

theorem cells32 : Tryd.prog.cellsOf 32 = 4 := by kernel_rfl
theorem cells3 : Tryd.prog.cellsOf 3 = 1 := by kernel_rfl
theorem cells9 : Tryd.prog.cellsOf 9 = 1 := by kernel_rfl
theorem opens_token (W : World) : Opens Tryd.prog W 32 M.rp_Token (fun _ => True) := by
  intro H enc fuel cs x h
  obtain ⟨xs, n, _, _, hl, hn, hf⟩ := DataW.trod_struct Tryd.underlying32 h
  obtain ⟨y0, r0, _⟩ := field_of hn hf (i := 0) rfl (opens_int (W := W) Tryd.underlying3)
  obtain ⟨y1, r1, _⟩ := field_of hn hf (i := 1) rfl (opens_str (W := W) Tryd.underlying9)
  obtain ⟨y2, r2, _⟩ := field_of hn hf (i := 2) rfl (opens_int (W := W) Tryd.underlying3)
  obtain ⟨y3, r3, _⟩ := field_of hn hf (i := 3) rfl (opens_int (W := W) Tryd.underlying3)
  refine ⟨⟨y0, y1, y2, y3⟩, ?_, trivial⟩
  rw [cells32] at hl
  have r0' : (cs.drop 0).take (Tryd.prog.cellsOf 3) = [.int .i64 y0] := r0
  have r1' : (cs.drop 1).take (Tryd.prog.cellsOf 9) = [vs y1] := r1
  have r2' : (cs.drop 2).take (Tryd.prog.cellsOf 3) = [.int .i64 y2] := r2
  have r3' : (cs.drop 3).take (Tryd.prog.cellsOf 3) = [.int .i64 y3] := r3
  rw [cells3] at r0' r2' r3'
  rw [cells9] at r1'
  show cs = _
  rw [← List.drop_zero (l := cs), cut_step cs 0 1, cut_step cs (0 + 1) 1, cut_step cs (0 + 1 + 1) 1, cut_step cs (0 + 1 + 1 + 1) 1, r0', r1', r2', r3', List.drop_of_length_le (by omega)]
  rfl
theorem open_tokens {W : World} {b0 : Nat} {re : Reach} {H : Type} {enc : TypeId × Value → H} {v : Value} {d : DataW H} {ps : List MemPlace}
    (hval : Value.okWide Tryd.prog W re b0 23 v) (h : DataW.Trod enc Tryd.prog W 0 (fun _ => true) true 23 v d ps) : ∃ a c l, v = .slice a l.length c ∧ SlR M.rp_Token (all W) a c l := by
  obtain ⟨a, c, l, h1, h2, _⟩ := open_sl Tryd.underlying23 (opens_slice Tryd.underlying23 (r := M.rp_Token) (by rw [cells32]; rfl) (by decide) (opens_token W)) hval h
  exact ⟨a, c, l, h1, h2⟩
end Go.Proofs.YtaibejlploombaaDoor.Wrap
