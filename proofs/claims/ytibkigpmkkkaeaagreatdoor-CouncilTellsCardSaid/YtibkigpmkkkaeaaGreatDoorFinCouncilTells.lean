/-
  THE CARD OF CouncilTells. Printed by wrap5.py.
-/
import Derived.Test.YtibkigpmkkkaeaaGreatDoorOpenG
import Derived.Test.YtibkigpmkkkaeaaGreatDoorMirT2
import Derived.Test.YtibkigpmkkkaeaaGreatDoorCnLTells
namespace Go.Proofs.YtibkigpmkkkaeaaGreatDoor.CouncilTells
open Go Go.ChangeShapes Go.WideShapes Go.ChangeAt Go.RowKit Rt Wrap
set_option maxRecDepth 100000 in
theorem contract (H : Type) (enc : TypeId × Value → H) (W : World) (base : Nat) (args : Array Value) (ds gs : List (DataW H)) (before : List MemPlace)
    (hval : ∀ (j : Nat) t v, Tryz.f3.params[j]? = some t → args[j]? = some v → Value.okWide Tryz.prog W .any base t v)
    (hW : DataW.Whole enc Tryz.prog Tryz.f3.params.toList Rows.councilTellsSpec.vars false W args.toList ds gs before) (hL : laidMetH Tryz.prog tabs W) :
    Calls Tryz.prog 3 args W fun e W' => ∃ v, e = .returned v ∧ Rows.councilTellsSpec.post enc Tryz.prog Tryz.f3 false true false false W args v W' := by
  have hW' := hW
  obtain ⟨p, q, hA0, hV, rfl, hfz, hnd⟩ := hW
  have hA : DataW.TrodAll enc Tryz.prog W 0 (fun _ => true) true Tryz.f3.params.toList args.toList ds p := hA0
  rw [Tryz.params3] at hA hval
  obtain ⟨v0, vs0, d0, ds0, p0, q0, hargs, rfl, rfl, h0, r0⟩ := trodAll_cons hA
  obtain ⟨v1, vs1, d1, ds1, p1, q1, rfl, rfl, rfl, h1, r1⟩ := trodAll_cons r0
  obtain ⟨v2, vs2, d2, ds2, p2, q2, rfl, rfl, rfl, h2, r2⟩ := trodAll_cons r1
  obtain ⟨v3, vs3, d3, ds3, p3, q3, rfl, rfl, rfl, h3, r3⟩ := trodAll_cons r2
  obtain ⟨v4, vs4, d4, ds4, p4, q4, rfl, rfl, rfl, h4, r4⟩ := trodAll_cons r3
  obtain ⟨v5, vs5, d5, ds5, p5, q5, rfl, rfl, rfl, h5, r5⟩ := trodAll_cons r4
  obtain ⟨v6, vs6, d6, ds6, p6, q6, rfl, rfl, rfl, h6, r6⟩ := trodAll_cons r5
  obtain ⟨v7, vs7, d7, ds7, p7, q7, rfl, rfl, rfl, h7, r7⟩ := trodAll_cons r6
  obtain ⟨rfl, rfl, rfl⟩ := trodAll_nil r7
  obtain rfl : args = #[v0, v1, v2, v3, v4, v5, v6, v7] := by cases args; simp_all
  obtain ⟨rfl, rfl⟩ := trodVars_none hV
  obtain ⟨a0, n0, c0, l0, rfl, hl0, ho0⟩ := open_sl Tryz.underlying22 (opens22 W) (hval 0 22 v0 rfl rfl) h0
  obtain ⟨a1, n1, c1, l1, rfl, hl1, ho1⟩ := open_sl Tryz.underlying23 (opens23 W) (hval 1 23 v1 rfl rfl) h1
  obtain ⟨a2, n2, c2, l2, rfl, hl2, ho2⟩ := open_sl Tryz.underlying24 (opens24 W) (hval 2 24 v2 rfl rfl) h2
  obtain ⟨a3, n3, c3, l3, rfl, hl3, ho3⟩ := open_sl Tryz.underlying25 (opens25 W) (hval 3 25 v3 rfl rfl) h3
  obtain ⟨i4, rfl, rfl, rfl, hi4⟩ := open_int Tryz.underlying3 (hval 4 3 v4 rfl rfl) h4
  obtain ⟨i5, rfl, rfl, rfl, hi5⟩ := open_int Tryz.underlying3 (hval 5 3 v5 rfl rfl) h5
  obtain ⟨a6, n6, c6, l6, rfl, hl6, ho6⟩ := open_sl Tryz.underlying26 (opens26 W) (hval 6 26 v6 rfl rfl) h6
  obtain ⟨i7, rfl, rfl, rfl, hi7⟩ := open_int Tryz.underlying3 (hval 7 3 v7 rfl rfl) h7
  obtain ⟨N, hN⟩ := Cn.tells_ev l0 l1 l2 l3 i4 i5 l6 i7
  refine (M.law40_CouncilTells_ok N l0 l1 l2 l3 i4 i5 l6 i7 true (hN N (Nat.le_refl N)) (all_sat W) hl0 hl1 hl2 hl3 hl6 (table0 hL)).mono ?_
  rintro e W' ⟨v, F', O', rfl, hh, rfl, rfl⟩
  refine ⟨_, rfl, post_true laidOut ?_ rfl (by kernel_rfl) Tryz.underlying4 rfl hW' hh.below⟩
  rw [Tryz.params3]
  intro t ht
  have ht : t ∈ [22, 23, 24, 25, 3, 3, 26, 3] := ht
  rcases List.mem_cons.1 ht with rfl | ht
  · exact ⟨by kernel_rfl, of_decide_eq_true (by kernel_rfl)⟩
  rcases List.mem_cons.1 ht with rfl | ht
  · exact ⟨by kernel_rfl, of_decide_eq_true (by kernel_rfl)⟩
  rcases List.mem_cons.1 ht with rfl | ht
  · exact ⟨by kernel_rfl, of_decide_eq_true (by kernel_rfl)⟩
  rcases List.mem_cons.1 ht with rfl | ht
  · exact ⟨by kernel_rfl, of_decide_eq_true (by kernel_rfl)⟩
  rcases List.mem_cons.1 ht with rfl | ht
  · exact ⟨by kernel_rfl, of_decide_eq_true (by kernel_rfl)⟩
  rcases List.mem_cons.1 ht with rfl | ht
  · exact ⟨by kernel_rfl, of_decide_eq_true (by kernel_rfl)⟩
  rcases List.mem_cons.1 ht with rfl | ht
  · exact ⟨by kernel_rfl, of_decide_eq_true (by kernel_rfl)⟩
  rcases List.mem_cons.1 ht with rfl | ht
  · exact ⟨by kernel_rfl, of_decide_eq_true (by kernel_rfl)⟩
  exact absurd ht (List.not_mem_nil)
theorem reads (os : Os) {H : Type} (enc : TypeId × Value → H) : ∃ places, DataW.whole enc Tryz.prog ((laidWorld os).forCall (fun _ _ => 0) ⟨#[], #[.slice none 0 0, .slice none 0 0, .slice none 0 0, .slice none 0 0, .int .i64 0, .int .i64 0, .slice none 0 0, .int .i64 0], []⟩).memory Tryz.f3.params.toList Rows.councilTellsSpec.vars false (#[.slice none 0 0, .slice none 0 0, .slice none 0 0, .slice none 0 0, .int .i64 0, .int .i64 0, .slice none 0 0, .int .i64 0] : Array Value).toList 8 = some ([.nil, .nil, .nil, .nil, .lit (.int .i64 0), .lit (.int .i64 0), .nil, .lit (.int .i64 0)], [], places) :=
  ⟨[], by kernel_rfl⟩
set_option maxRecDepth 100000 in
theorem lifted (os : Os) (started : os.Started) (H : Type) (enc : TypeId × Value → H) (F : Stop.Interp) :
    ReturnsInHanded {} Tryz.checked os 3 .any ((OpenSpec.ofChange Rows.councilTellsSpec).preRow enc Tryz.prog Tryz.f3 Rows.councilTellsRow.domain false Rows.councilTellsRow.laid) (((OpenSpec.ofChange Rows.councilTellsSpec).at F).post enc Tryz.prog Tryz.f3 false true false false) := by
  obtain ⟨places, hx⟩ := reads os enc
  refine returnsInHanded_of_row (C := Tryz.checked) (s := OpenSpec.ofChange Rows.councilTellsSpec) own started (by kernel_rfl) Tryz.func3
    (witness_row_at (enc := enc) (C := Tryz.checked) false (laidWorld os) #[.slice none 0 0, .slice none 0 0, .slice none 0 0, .slice none 0 0, .int .i64 0, .int .i64 0, .slice none 0 0, .int .i64 0] rfl (by kernel_rfl) (by kernel_rfl) (by kernel_rfl)
      (OpenSpec.preRow_of_cond 8 hx (by kernel_rfl) (fun k hk => by cases hk) (by kernel_rfl) (laid_met os _))) ?_
  intro W base args ds gs before hval hW _ _ _ hL _ _
  exact contract H enc W base args ds gs before hval hW hL
theorem said : Rows.CouncilTellsSaid :=
  OpenClaim.holds_of_cond 3 Tryz.f3 rfl rfl rfl rfl rfl rfl rfl ⟨rfl, rfl, rfl, rfl, rfl⟩ rfl rfl rfl rfl rfl (by kernel_rfl) Tryz.func3 (by kernel_rfl)
    (of_decide_eq_true (by kernel_rfl)) (by unfold Func.isWrapper; first | (rw [if_pos (by decide +kernel)]; kernel_rfl) | (rw [if_neg (by decide +kernel)]; exact ⟨rfl, rfl⟩))
    (fun os started H enc _ F => by rw [OpenClaim.pre_eq_preRow]; exact lifted os started H enc F)
theorem plain (f : FuncId) (fn : Func) (hf : Tryz.pinned.checked.prog.funcNamed "kerbside/kerbsidelaw40.CouncilTells" = some f) (hfn : Tryz.pinned.checked.prog.funcs[f]? = some fn) :
    false = Tryz.pinned.checked.prog.looks [] ∧ ∀ (j : Nat) t, fn.params[j]? = some t → Tryz.pinned.checked.prog.wantsStandIn t = false := by
  obtain rfl : f = 3 := Option.some.inj ((show Tryz.prog.funcNamed "kerbside/kerbsidelaw40.CouncilTells" = some 3 by kernel_rfl).symm.trans hf) |>.symm
  obtain rfl : fn = Tryz.f3 := (Option.some.inj (Tryz.func3.symm.trans hfn)).symm
  refine ⟨by kernel_rfl, fun j t ht => ?_⟩
  rw [Tryz.params3] at ht
  have ht : t ∈ [22, 23, 24, 25, 3, 3, 26, 3] := Array.mem_toList_iff.2 (Array.mem_of_getElem? ht)
  rcases List.mem_cons.1 ht with rfl | ht
  · exact (show Tryz.prog.wantsStandIn 22 = false by kernel_rfl)
  rcases List.mem_cons.1 ht with rfl | ht
  · exact (show Tryz.prog.wantsStandIn 23 = false by kernel_rfl)
  rcases List.mem_cons.1 ht with rfl | ht
  · exact (show Tryz.prog.wantsStandIn 24 = false by kernel_rfl)
  rcases List.mem_cons.1 ht with rfl | ht
  · exact (show Tryz.prog.wantsStandIn 25 = false by kernel_rfl)
  rcases List.mem_cons.1 ht with rfl | ht
  · exact (show Tryz.prog.wantsStandIn 3 = false by kernel_rfl)
  rcases List.mem_cons.1 ht with rfl | ht
  · exact (show Tryz.prog.wantsStandIn 3 = false by kernel_rfl)
  rcases List.mem_cons.1 ht with rfl | ht
  · exact (show Tryz.prog.wantsStandIn 26 = false by kernel_rfl)
  rcases List.mem_cons.1 ht with rfl | ht
  · exact (show Tryz.prog.wantsStandIn 3 = false by kernel_rfl)
  exact absurd ht (List.not_mem_nil)
/-- ████ THE CARD ████ -/
theorem card : Rows.CouncilTellsCardSaid :=
  Claim7.holds_tied_plain_at .later [] _ _ _ _ said (fun _ h => by cases h) (by kernel_rfl) (fun _ h => by cases h) councilTells_row_tie rfl ⟨rfl, rfl⟩ (by kernel_rfl) rfl plain (by kernel_rfl)
end Go.Proofs.YtibkigpmkkkaeaaGreatDoor.CouncilTells
