/-
  THE CARD OF FracTells. Printed by wrap5.py.
-/
import Derived.Test.YtaanocaobllohaaGreatDoorOpenG
import Derived.Test.YtaanocaobllohaaGreatDoorMirT2
import Derived.Test.YtaanocaobllohaaGreatDoorFrLTells
namespace Go.Proofs.YtaanocaobllohaaGreatDoor.FracTells
open Go Go.ChangeShapes Go.WideShapes Go.ChangeAt Go.RowKit Rt Wrap
set_option maxRecDepth 100000 in
theorem c0b (H : Type) (enc : TypeId × Value → H) (W : World) (base : Nat) (args : Array Value) (ds gs : List (DataW H)) (before : List MemPlace)
    (hval : ∀ (j : Nat) t v, Tryz.f3.params[j]? = some t → args[j]? = some v → Value.okWide Tryz.prog W .any base t v)
    (hW : DataW.Whole enc Tryz.prog Tryz.f3.params.toList Rows.fracTellsSpec.vars false W args.toList ds gs before) (hL : laidMetH Tryz.prog tabs W) :
    Calls Tryz.prog 3 args W fun e W' => ∃ v, e = .returned v ∧ Rows.fracTellsSpec.post enc Tryz.prog Tryz.f3 false true false false W args v W' := by
  have hW' := hW
  obtain ⟨p, q, hA0, hV, rfl, hfz, hnd⟩ := hW
  have hA : DataW.TrodAll enc Tryz.prog W 0 (fun _ => true) true Tryz.f3.params.toList args.toList ds p := hA0
  rw [Tryz.params3] at hA hval
  obtain ⟨v0, vs0, d0, ds0, p0, q0, hargs, rfl, rfl, h0, r0⟩ := trodAll_cons hA
  obtain ⟨v1, vs1, d1, ds1, p1, q1, rfl, rfl, rfl, h1, r1⟩ := trodAll_cons r0
  obtain ⟨v2, vs2, d2, ds2, p2, q2, rfl, rfl, rfl, h2, r2⟩ := trodAll_cons r1
  obtain ⟨v3, vs3, d3, ds3, p3, q3, rfl, rfl, rfl, h3, r3⟩ := trodAll_cons r2
  obtain ⟨v4, vs4, d4, ds4, p4, q4, rfl, rfl, rfl, h4, r4⟩ := trodAll_cons r3
  obtain ⟨rfl, rfl, rfl⟩ := trodAll_nil r4
  obtain rfl : args = #[v0, v1, v2, v3, v4] := by cases args; simp_all
  obtain ⟨rfl, rfl⟩ := trodVars_none hV
  obtain ⟨cs0, rfl, hsz0⟩ := okWide_struct Tryz.underlying26 (hval 0 26 v0 rfl rfl)
  obtain ⟨y0, hr0, ho0⟩ := c3h (c5v W) h0
  obtain ⟨ax0_1, nx0_1, cx0_1, ax0_3, nx0_3, cx0_3, he0, sx0_1, sx0_3⟩ := hr0
  have he0' : cs0.toList = [.int .i64 y0.P.Sign, .slice ax0_1 nx0_1 cx0_1, .int .i64 y0.Q.Sign, .slice ax0_3 nx0_3 cx0_3] := he0
  obtain rfl : cs0 = #[.int .i64 y0.P.Sign, .slice ax0_1 nx0_1 cx0_1, .int .i64 y0.Q.Sign, .slice ax0_3 nx0_3 cx0_3] := by rw [← Array.toArray_toList (xs := cs0), he0']
  obtain ⟨cs1, rfl, hsz1⟩ := okWide_struct Tryz.underlying26 (hval 1 26 v1 rfl rfl)
  obtain ⟨y1, hr1, ho1⟩ := c3h (c5v W) h1
  obtain ⟨ax1_1, nx1_1, cx1_1, ax1_3, nx1_3, cx1_3, he1, sx1_1, sx1_3⟩ := hr1
  have he1' : cs1.toList = [.int .i64 y1.P.Sign, .slice ax1_1 nx1_1 cx1_1, .int .i64 y1.Q.Sign, .slice ax1_3 nx1_3 cx1_3] := he1
  obtain rfl : cs1 = #[.int .i64 y1.P.Sign, .slice ax1_1 nx1_1 cx1_1, .int .i64 y1.Q.Sign, .slice ax1_3 nx1_3 cx1_3] := by rw [← Array.toArray_toList (xs := cs1), he1']
  obtain ⟨i2, rfl, rfl, rfl, hi2⟩ := open_int Tryz.underlying3 (hval 2 3 v2 rfl rfl) h2
  obtain ⟨i3, rfl, rfl, rfl, hi3⟩ := open_int Tryz.underlying3 (hval 3 3 v3 rfl rfl) h3
  obtain ⟨s4, rfl, rfl, rfl, hs4⟩ := Go.ChangeMaps.open_string Tryz.underlying9 (hval 4 9 v4 rfl rfl) h4
  have e : #[Value.agg #[.int .i64 y0.P.Sign, .slice ax0_1 nx0_1 cx0_1, .int .i64 y0.Q.Sign, .slice ax0_3 nx0_3 cx0_3], Value.agg #[.int .i64 y1.P.Sign, .slice ax1_1 nx1_1 cx1_1, .int .i64 y1.Q.Sign, .slice ax1_3 nx1_3 cx1_3], Value.int .i64 i2, Value.int .i64 i3, Value.string s4] = (#[Value.agg #[.int .i64 y0.P.Sign, .slice ax0_1 nx0_1 cx0_1, .int .i64 y0.Q.Sign, .slice ax0_3 nx0_3 cx0_3], Value.agg #[.int .i64 y1.P.Sign, .slice ax1_1 nx1_1 cx1_1, .int .i64 y1.Q.Sign, .slice ax1_3 nx1_3 cx1_3], Value.int .i64 i2, Value.int .i64 i3, vs s4.data.toList] : Array Value) := by simp only [c8r]
  rw [e] at hW' ⊢
  obtain ⟨N, hN⟩ := D.ftells_ev' y0 y1 i2 i3 hi2 hi3 s4.data.toList
  refine (M.law05_FracTells_ok N y0 y1 i2 i3 s4.data.toList true (hN N (Nat.le_refl N)) (c8x W) sx0_1 sx0_3 sx1_1 sx1_3 (d0d hL)).mono ?_
  rintro e W' ⟨v, F', O', rfl, hh, rfl, rfl⟩
  refine ⟨_, rfl, c4r laidOut ?_ rfl (by kernel_rfl) Tryz.underlying4 rfl hW' hh.below⟩
  rw [Tryz.params3]
  intro t ht
  have ht : t ∈ [26, 26, 3, 3, 9] := ht
  rcases List.mem_cons.1 ht with rfl | ht
  · exact ⟨by kernel_rfl, of_decide_eq_true (by kernel_rfl)⟩
  rcases List.mem_cons.1 ht with rfl | ht
  · exact ⟨by kernel_rfl, of_decide_eq_true (by kernel_rfl)⟩
  rcases List.mem_cons.1 ht with rfl | ht
  · exact ⟨by kernel_rfl, of_decide_eq_true (by kernel_rfl)⟩
  rcases List.mem_cons.1 ht with rfl | ht
  · exact ⟨by kernel_rfl, of_decide_eq_true (by kernel_rfl)⟩
  rcases List.mem_cons.1 ht with rfl | ht
  · exact ⟨by kernel_rfl, of_decide_eq_true (by kernel_rfl)⟩
  exact absurd ht (List.not_mem_nil)
theorem reads (os : Os) {H : Type} (enc : TypeId × Value → H) : ∃ places, DataW.whole enc Tryz.prog ((b6q os).forCall (fun _ _ => 0) ⟨#[], #[.agg #[.int .i64 0, .slice none 0 0, .int .i64 0, .slice none 0 0], .agg #[.int .i64 0, .slice none 0 0, .int .i64 0, .slice none 0 0], .int .i64 0, .int .i64 0, .string ⟨#[]⟩], []⟩).memory Tryz.f3.params.toList Rows.fracTellsSpec.vars false (#[.agg #[.int .i64 0, .slice none 0 0, .int .i64 0, .slice none 0 0], .agg #[.int .i64 0, .slice none 0 0, .int .i64 0, .slice none 0 0], .int .i64 0, .int .i64 0, .string ⟨#[]⟩] : Array Value).toList 8 = some ([.agg [.agg [.lit (.int .i64 0), .nil], .agg [.lit (.int .i64 0), .nil]], .agg [.agg [.lit (.int .i64 0), .nil], .agg [.lit (.int .i64 0), .nil]], .lit (.int .i64 0), .lit (.int .i64 0), .lit (.string [])], [], places) :=
  ⟨[], by kernel_rfl⟩
set_option maxRecDepth 100000 in
theorem d0x (os : Os) (started : os.Started) (H : Type) (enc : TypeId × Value → H) (F : Stop.Interp) :
    ReturnsInHanded {} Tryz.checked os 3 .any ((OpenSpec.ofChange Rows.fracTellsSpec).preRow enc Tryz.prog Tryz.f3 Rows.fracTellsRow.domain false Rows.fracTellsRow.laid) (((OpenSpec.ofChange Rows.fracTellsSpec).at F).post enc Tryz.prog Tryz.f3 false true false false) := by
  obtain ⟨places, hx⟩ := reads os enc
  refine returnsInHanded_of_row (C := Tryz.checked) (s := OpenSpec.ofChange Rows.fracTellsSpec) own started (by kernel_rfl) Tryz.func3
    (witness_row_at (enc := enc) (C := Tryz.checked) false (b6q os) #[.agg #[.int .i64 0, .slice none 0 0, .int .i64 0, .slice none 0 0], .agg #[.int .i64 0, .slice none 0 0, .int .i64 0, .slice none 0 0], .int .i64 0, .int .i64 0, .string ⟨#[]⟩] rfl (by kernel_rfl) (by kernel_rfl) (by kernel_rfl)
      (OpenSpec.preRow_of_cond 8 hx (by kernel_rfl) (fun k hk => by cases hk) (by kernel_rfl) (c6s os _))) ?_
  intro W base args ds gs before hval hW _ _ _ hL _ _
  exact c0b H enc W base args ds gs before hval hW hL
theorem said : Rows.FracTellsSaid :=
  OpenClaim.holds_of_cond 3 Tryz.f3 rfl rfl rfl rfl rfl rfl rfl ⟨rfl, rfl, rfl, rfl, rfl⟩ rfl rfl rfl rfl rfl (by kernel_rfl) Tryz.func3 (by kernel_rfl)
    (of_decide_eq_true (by kernel_rfl)) (by unfold Func.isWrapper; first | (rw [if_pos (by decide +kernel)]; kernel_rfl) | (rw [if_neg (by decide +kernel)]; exact ⟨rfl, rfl⟩))
    (fun os started H enc _ F => by rw [OpenClaim.pre_eq_preRow]; exact d0x os started H enc F)
theorem plain (f : FuncId) (fn : Func) (hf : Tryz.pinned.checked.prog.funcNamed "kerbside/kerbsidelaw05.FracTells" = some f) (hfn : Tryz.pinned.checked.prog.funcs[f]? = some fn) :
    false = Tryz.pinned.checked.prog.looks [] ∧ ∀ (j : Nat) t, fn.params[j]? = some t → Tryz.pinned.checked.prog.wantsStandIn t = false := by
  obtain rfl : f = 3 := Option.some.inj ((show Tryz.prog.funcNamed "kerbside/kerbsidelaw05.FracTells" = some 3 by kernel_rfl).symm.trans hf) |>.symm
  obtain rfl : fn = Tryz.f3 := (Option.some.inj (Tryz.func3.symm.trans hfn)).symm
  refine ⟨by kernel_rfl, fun j t ht => ?_⟩
  rw [Tryz.params3] at ht
  have ht : t ∈ [26, 26, 3, 3, 9] := Array.mem_toList_iff.2 (Array.mem_of_getElem? ht)
  rcases List.mem_cons.1 ht with rfl | ht
  · exact (show Tryz.prog.wantsStandIn 26 = false by kernel_rfl)
  rcases List.mem_cons.1 ht with rfl | ht
  · exact (show Tryz.prog.wantsStandIn 26 = false by kernel_rfl)
  rcases List.mem_cons.1 ht with rfl | ht
  · exact (show Tryz.prog.wantsStandIn 3 = false by kernel_rfl)
  rcases List.mem_cons.1 ht with rfl | ht
  · exact (show Tryz.prog.wantsStandIn 3 = false by kernel_rfl)
  rcases List.mem_cons.1 ht with rfl | ht
  · exact (show Tryz.prog.wantsStandIn 9 = false by kernel_rfl)
  exact absurd ht (List.not_mem_nil)
/-- ████ THE CARD ████ -/
theorem card : Rows.FracTellsCardSaid :=
  Claim7.holds_tied_plain_at .later [] _ _ _ _ said (fun _ h => by cases h) (by kernel_rfl) (fun _ h => by cases h) fracTells_row_tie rfl ⟨rfl, rfl⟩ (by kernel_rfl) rfl plain (by kernel_rfl)
end Go.Proofs.YtaanocaobllohaaGreatDoor.FracTells
