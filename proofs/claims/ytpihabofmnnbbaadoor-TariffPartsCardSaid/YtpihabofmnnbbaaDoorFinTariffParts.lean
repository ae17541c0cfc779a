/-
  THE CARD OF TariffParts. Printed by wrap5.py.
-/
import Derived.Test.YtpihabofmnnbbaaDoorOpenG
import Derived.Test.YtpihabofmnnbbaaDoorMirD3
import Derived.Test.YtpihabofmnnbbaaDoorPrLParts
namespace Go.Proofs.YtpihabofmnnbbaaDoor.TariffParts
open Go Go.ChangeShapes Go.WideShapes Go.ChangeAt Go.RowKit Rt Wrap

set_option maxRecDepth 100000 in
theorem contract (H : Type) (enc : TypeId × Value → H) (W : World) (base : Nat) (args : Array Value) (ds gs : List (DataW H)) (before : List MemPlace)
    (hval : ∀ (j : Nat) t v, Tryd.f5.params[j]? = some t → args[j]? = some v → Value.okWide Tryd.prog W .any base t v)
    (hW : DataW.Whole enc Tryd.prog Tryd.f5.params.toList Rows.tariffPartsSpec.vars false W args.toList ds gs before) (hL : laidMetH Tryd.prog tabs W) :
    Calls Tryd.prog 5 args W fun e W' => ∃ v, e = .returned v ∧ Rows.tariffPartsSpec.post enc Tryd.prog Tryd.f5 false true false false W args v W' := by
  have hW' := hW
  obtain ⟨p, q, hA0, hV, rfl, hfz, hnd⟩ := hW
  have hA : DataW.TrodAll enc Tryd.prog W 0 (fun _ => true) true Tryd.f5.params.toList args.toList ds p := hA0
  rw [Tryd.params5] at hA hval
  obtain ⟨v0, vs0, d0, ds0, p0, q0, hargs, rfl, rfl, h0, r0⟩ := trodAll_cons hA
  obtain ⟨v1, vs1, d1, ds1, p1, q1, rfl, rfl, rfl, h1, r1⟩ := trodAll_cons r0
  obtain ⟨rfl, rfl, rfl⟩ := trodAll_nil r1
  obtain rfl : args = #[v0, v1] := by cases args; simp_all
  obtain ⟨rfl, rfl⟩ := trodVars_none hV
  obtain ⟨cs0, rfl, hsz0⟩ := okWide_struct Tryd.underlying24 (hval 0 24 v0 rfl rfl)
  obtain ⟨y0, hr0, ho0⟩ := open_arg (opens24 W) h0
  obtain ⟨ax0_3, nx0_3, cx0_3, he0, sx0_3⟩ := (M.expr_iff.1 hr0)
  have he0' : cs0.toList = [.int .i64 y0.Op, .int .i64 y0.N, vs y0.Name, .slice ax0_3 nx0_3 cx0_3] := he0
  obtain rfl : cs0 = #[.int .i64 y0.Op, .int .i64 y0.N, vs y0.Name, .slice ax0_3 nx0_3 cx0_3] := by rw [← Array.toArray_toList (xs := cs0), he0']
  obtain ⟨a1, n1, c1, l1, rfl, hl1, ho1⟩ := open_sl Tryd.underlying36 (opens36 W) (hval 1 36 v1 rfl rfl) h1
  obtain ⟨N, hN⟩ := Pr.parts_ev y0 l1
  refine (M.law35_TariffParts_ok N y0 l1 true (hN N (Nat.le_refl N)) (all_sat W) sx0_3 hl1 (table0 hL) (table1 hL)).mono ?_
  rintro e W' ⟨v, F', O', rfl, hh, rfl, rfl⟩
  refine ⟨_, rfl, post_true laidOut ?_ rfl (by kernel_rfl) Tryd.underlying4 rfl hW' hh.below⟩
  rw [Tryd.params5]
  intro t ht
  have ht : t ∈ [24, 36] := ht
  rcases List.mem_cons.1 ht with rfl | ht
  · exact ⟨by kernel_rfl, of_decide_eq_true (by kernel_rfl)⟩
  rcases List.mem_cons.1 ht with rfl | ht
  · exact ⟨by kernel_rfl, of_decide_eq_true (by kernel_rfl)⟩
  exact absurd ht (List.not_mem_nil)

theorem reads (os : Os) {H : Type} (enc : TypeId × Value → H) : ∃ places, DataW.whole enc Tryd.prog ((laidWorld os).forCall (fun _ _ => 0) ⟨#[], #[.agg #[.int .i64 0, .int .i64 0, .string ⟨#[]⟩, .slice none 0 0], .slice none 0 0], []⟩).memory Tryd.f5.params.toList Rows.tariffPartsSpec.vars false (#[.agg #[.int .i64 0, .int .i64 0, .string ⟨#[]⟩, .slice none 0 0], .slice none 0 0] : Array Value).toList 8 = some ([.agg [.lit (.int .i64 0), .lit (.int .i64 0), .lit (.string []), .nil], .nil], [], places) :=
  ⟨[], by kernel_rfl⟩

set_option maxRecDepth 100000 in
theorem lifted (os : Os) (started : os.Started) (H : Type) (enc : TypeId × Value → H) (F : Stop.Interp) :
    ReturnsInHanded {} Tryd.checked os 5 .any ((OpenSpec.ofChange Rows.tariffPartsSpec).preRow enc Tryd.prog Tryd.f5 Rows.tariffPartsRow.domain false Rows.tariffPartsRow.laid) (((OpenSpec.ofChange Rows.tariffPartsSpec).at F).post enc Tryd.prog Tryd.f5 false true false false) := by
  obtain ⟨places, hx⟩ := reads os enc
  refine returnsInHanded_of_row (C := Tryd.checked) (s := OpenSpec.ofChange Rows.tariffPartsSpec) own started (by kernel_rfl) Tryd.func5
    (witness_row_at (enc := enc) (C := Tryd.checked) false (laidWorld os) #[.agg #[.int .i64 0, .int .i64 0, .string ⟨#[]⟩, .slice none 0 0], .slice none 0 0] rfl (by kernel_rfl) (by kernel_rfl) (by kernel_rfl)
      (OpenSpec.preRow_of_cond 8 hx (by kernel_rfl) (fun k hk => by cases hk) (by kernel_rfl) (laid_met os _))) ?_
  intro W base args ds gs before hval hW _ _ _ hL _ _
  exact contract H enc W base args ds gs before hval hW hL

theorem said : Rows.TariffPartsSaid :=
  OpenClaim.holds_of_cond 5 Tryd.f5 rfl rfl rfl rfl rfl rfl rfl ⟨rfl, rfl, rfl, rfl, rfl⟩ rfl rfl rfl rfl rfl (by kernel_rfl) Tryd.func5 (by kernel_rfl)
    (of_decide_eq_true (by kernel_rfl)) (by unfold Func.isWrapper; first | (rw [if_pos (by decide +kernel)]; kernel_rfl) | (rw [if_neg (by decide +kernel)]; exact ⟨rfl, rfl⟩))
    (fun os started H enc _ F => by rw [OpenClaim.pre_eq_preRow]; exact lifted os started H enc F)

theorem plain (f : FuncId) (fn : Func) (hf : Tryd.pinned.checked.prog.funcNamed "kerbside/kerbsidelaw35.TariffParts" = some f) (hfn : Tryd.pinned.checked.prog.funcs[f]? = some fn) :
    false = Tryd.pinned.checked.prog.looks [] ∧ ∀ (j : Nat) t, fn.params[j]? = some t → Tryd.pinned.checked.prog.wantsStandIn t = false := by
  obtain rfl : f = 5 := Option.some.inj ((show Tryd.prog.funcNamed "kerbside/kerbsidelaw35.TariffParts" = some 5 by kernel_rfl).symm.trans hf) |>.symm
  obtain rfl : fn = Tryd.f5 := (Option.some.inj (Tryd.func5.symm.trans hfn)).symm
  refine ⟨by kernel_rfl, fun j t ht => ?_⟩
  rw [Tryd.params5] at ht
  have ht : t ∈ [24, 36] := Array.mem_toList_iff.2 (Array.mem_of_getElem? ht)
  rcases List.mem_cons.1 ht with rfl | ht
  · exact (show Tryd.prog.wantsStandIn 24 = false by kernel_rfl)
  rcases List.mem_cons.1 ht with rfl | ht
  · exact (show Tryd.prog.wantsStandIn 36 = false by kernel_rfl)
  exact absurd ht (List.not_mem_nil)

/-- ████ THE CARD ████ -/
theorem card : Rows.TariffPartsCardSaid :=
  Claim7.holds_tied_plain_at .later [] _ _ _ _ said (fun _ h => by cases h) (by kernel_rfl) (fun _ h => by cases h) tariffParts_row_tie rfl ⟨rfl, rfl⟩ (by kernel_rfl) rfl plain (by kernel_rfl)
end Go.Proofs.YtpihabofmnnbbaaDoor.TariffParts
