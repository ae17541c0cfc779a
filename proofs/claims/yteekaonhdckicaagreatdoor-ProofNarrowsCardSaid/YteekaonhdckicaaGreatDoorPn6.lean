/-
  THE CARD OF ProofNarrows.
-/
import Derived.Test.YteekaonhdckicaaGreatDoorTie
import Derived.Test.YteekaonhdckicaaGreatDoorCards
import Derived.Test.YteekaonhdckicaaGreatDoorPn5
namespace Go.Proofs.YteekaonhdckicaaGreatDoor.ProofNarrows
open Go Go.Proofs.YteekaonhdckicaaGreatDoor.Rt Go.Proofs
set_option maxRecDepth 100000
theorem and2 {a b : Bool} (ha : a = true) (hb : b = true) : (a && b) = true := by rw [ha, hb]; rfl
theorem k2 : laidOutB Tryz.prog = true := by kernel_rfl
theorem k3 : mapsRowed Tryz.prog = true := by kernel_rfl
theorem k10 : (Rows.proofNarrowsRow.inPlace == Tryz.prog.inPlace 4) = true := by kernel_rfl
theorem k11 : (Rows.proofNarrowsRow.unfollowed == Tryz.prog.unfollowed 4) = true := by kernel_rfl
theorem k12 : (Rows.proofNarrowsRow.recurses == Tryz.prog.recurses 4) = true := by kernel_rfl
theorem k13 : (Rows.proofNarrowsRow.named == Tryz.prog.varsNamed 4) = true := by kernel_rfl
theorem k23 : (Rows.proofNarrowsRow.plainKeys == Tryz.prog.plainKeys) = true := by kernel_rfl
theorem k25 : Tryz.prog.stopsHeard = true := by kernel_rfl
theorem k26 : Tryz.prog.mayEnter = true := by kernel_rfl
theorem k27 : (Rows.proofNarrowsRow.lifted == Tryz.prog.liftsFinal) = true := by kernel_rfl
theorem k28 : (Tryz.prog.make == some Rows.proofNarrowsRow.make) = true := by kernel_rfl
theorem closed : joinedFacts Tryz.pinned.checked.prog 4 Tryz.f4 (OpenSpec.ofChange Rows.proofNarrowsSpec).bare Rows.proofNarrowsRow = true := by
  unfold joinedFacts
  exact and2 (and2 (and2 (and2 (and2 (and2 (and2 (and2 (and2 (and2 (and2 (and2 (and2 (and2 (and2 (and2 (and2 (and2 (and2 (and2 (and2 (and2 (and2 (and2 (and2 (and2 (and2 (and2 (and2 (and2 (and2 (by kernel_rfl) k2) k3) (by kernel_rfl)) (by kernel_rfl)) (by kernel_rfl)) (by kernel_rfl)) (by kernel_rfl)) (by kernel_rfl)) k10) k11) k12) k13) (by kernel_rfl)) (by kernel_rfl)) (by kernel_rfl)) (by kernel_rfl)) (by kernel_rfl)) (by kernel_rfl)) (by kernel_rfl)) (by kernel_rfl)) (by kernel_rfl)) k23) (by kernel_rfl)) k25) k26) k27) k28) (by kernel_rfl)) (by kernel_rfl)) (by kernel_rfl)) (by kernel_rfl)
theorem nameOk : Tryz.prog.funcNamed "kerbside/kerbsidelaw50.ProofNarrows" = some 4 := by kernel_rfl
theorem instOk : Tryz.f4.isInstance Tryz.prog Rows.proofNarrowsRow.origin Rows.proofNarrowsRow.targs := of_decide_eq_true (by kernel_rfl)
theorem wrapOk : Tryz.f4.isWrapper Tryz.prog Rows.proofNarrowsRow.wrapper Rows.proofNarrowsRow.mainSum := by unfold Func.isWrapper; first | (rw [if_pos (by decide +kernel)]; kernel_rfl) | (rw [if_neg (by decide +kernel)]; exact ⟨rfl, rfl⟩)
end Go.Proofs.YteekaonhdckicaaGreatDoor.ProofNarrows

namespace Go.Proofs.YteekaonhdckicaaGreatDoor.ProofNarrows
open Go Go.ChangeShapes Go.WideShapes Go.ChangeAt Go.RowKit Go.Proofs.YteekaonhdckicaaGreatDoor.Rt Go.Proofs Go.Proofs.YteekaonhdckicaaGreatDoor.Wrap Go.Proofs.YteekaonhdckicaaGreatDoor.Dp
set_option linter.unusedVariables false
set_option maxRecDepth 100000 in
theorem contract (H : Type) (enc : TypeId × Value → H) (W : World) (base : Nat) (args : Array Value) (ds gs : List (DataW H)) (before : List MemPlace)
    (hval : ∀ (j : Nat) t v, Tryz.f4.params[j]? = some t → args[j]? = some v → Value.okWide Tryz.prog W .any base t v)
    (hW : DataW.Whole enc Tryz.prog Tryz.f4.params.toList Rows.proofNarrowsSpec.vars false W args.toList ds gs before) (hL : laidMetH Tryz.prog tabs W) :
    Calls Tryz.prog 4 args W fun e W' => ∃ v, e = .returned v ∧ Rows.proofNarrowsSpec.post enc Tryz.prog Tryz.f4 false true false false W args v W' := by
  have hW' := hW
  obtain ⟨p, q, hA0, hV, rfl, hfz, hnd⟩ := hW
  have hA : DataW.TrodAll enc Tryz.prog W 0 (fun _ => true) true Tryz.f4.params.toList args.toList ds p := hA0
  rw [Tryz.params4] at hA hval
  obtain ⟨v0, vs0, d0, ds0, p0, q0, hargs, rfl, rfl, h0, r0⟩ := trodAll_cons hA
  obtain ⟨v1, vs1, d1, ds1, p1, q1, rfl, rfl, rfl, h1, r1⟩ := trodAll_cons r0
  obtain ⟨v2, vs2, d2, ds2, p2, q2, rfl, rfl, rfl, h2, r2⟩ := trodAll_cons r1
  obtain ⟨v3, vs3, d3, ds3, p3, q3, rfl, rfl, rfl, h3, r3⟩ := trodAll_cons r2
  obtain ⟨v4, vs4, d4, ds4, p4, q4, rfl, rfl, rfl, h4, r4⟩ := trodAll_cons r3
  obtain ⟨rfl, rfl, rfl⟩ := trodAll_nil r4
  obtain rfl : args = #[v0, v1, v2, v3, v4] := by cases args; simp_all
  obtain ⟨rfl, rfl⟩ := trodVars_none hV
  obtain ⟨y0, u0, c0, k0, t0⟩ := open_sh sh_ev h0
  obtain rfl := sh_val sh_ev (hval 0 _ v0 rfl rfl) k0 t0 c0
  obtain ⟨y1, u1, c1, k1, t1⟩ := open_sh sh_pu h1
  obtain rfl := sh_val sh_pu (hval 1 _ v1 rfl rfl) k1 t1 c1
  obtain ⟨y2, u2, c2, k2, t2⟩ := open_sh sh_bt h2
  obtain rfl := sh_val sh_bt (hval 2 _ v2 rfl rfl) k2 t2 c2
  obtain ⟨y3, u3, c3, k3, t3⟩ := open_sh sh_int h3
  obtain rfl := sh_val sh_int (hval 3 _ v3 rfl rfl) k3 t3 c3
  obtain ⟨y4, u4, c4, k4, t4⟩ := open_sh sh_fs h4
  obtain rfl := sh_val sh_fs (hval 4 _ v4 rfl rfl) k4 t4 c4
  obtain ⟨l0, rfl⟩ := fit_ev t0
  obtain ⟨l1, rfl⟩ := fit_pu t1
  obtain ⟨l2, rfl⟩ := fit_bt t2
  obtain ⟨l3, rfl⟩ := fit_i t3
  obtain ⟨l4, rfl⟩ := fit_sl fit_frac t4
  refine (law_calls (ys := [eEv l0, ePu l1, eBt l2, N l3, .sl (fs l4)]) (narrows_e l0 l1 l2 l3 l4) (glr hL) (us := [_, _, _, _, _]) ⟨_, _, rfl, k0, _, _, rfl, k1, _, _, rfl, k2, _, _, rfl, k3, _, _, rfl, k4, rfl⟩).mono ?_
  rintro e W' ⟨rfl, hh⟩
  refine ⟨_, rfl, post_true laidOut ?_ rfl (by kernel_rfl) Tryz.underlying4 rfl hW' hh⟩
  rw [Tryz.params4]
  intro t ht
  have ht : t ∈ [29, 49, 32, 3, 22] := ht
  rcases List.mem_cons.1 ht with rfl | ht
  · exact ⟨by kernel_rfl, of_decide_eq_true (by kernel_rfl)⟩
  rcases List.mem_cons.1 ht with rfl | ht
  · exact ⟨by kernel_rfl, of_decide_eq_true (by kernel_rfl)⟩
  rcases List.mem_cons.1 ht with rfl | ht
  · exact ⟨by kernel_rfl, of_decide_eq_true (by kernel_rfl)⟩
  rcases List.mem_cons.1 ht with rfl | ht
  · exact ⟨by kernel_rfl, of_decide_eq_true (by kernel_rfl)⟩
  rcases List.mem_cons.1 ht with rfl | ht
  · exact ⟨by kernel_rfl, of_decide_eq_true (by kernel_rfl)⟩
  exact absurd ht (List.not_mem_nil)
abbrev zEv : Value := .agg #[.int .i64 0, .int .i64 0, .int .i64 0, .slice none 0 0, .slice none 0 0, .slice none 0 0, .slice none 0 0, .slice none 0 0]
abbrev zBt : Value := .agg #[.int .i64 0, .slice none 0 0]
theorem reads (os : Os) {H : Type} (enc : TypeId × Value → H) : ∃ places, DataW.whole enc Tryz.prog ((laidWorld os).forCall (fun _ _ => 0) ⟨#[], #[zEv, .agg #[.int .i64 0, .int .i64 0, .int .i64 0, .int .i64 0], zBt, .int .i64 0, .slice none 0 0], []⟩).memory Tryz.f4.params.toList Rows.proofNarrowsSpec.vars false (#[zEv, .agg #[.int .i64 0, .int .i64 0, .int .i64 0, .int .i64 0], zBt, .int .i64 0, .slice none 0 0] : Array Value).toList 8 = some ([.agg [.lit (.int .i64 0), .lit (.int .i64 0), .lit (.int .i64 0), .nil, .nil, .nil, .nil, .nil], .agg [.lit (.int .i64 0), .lit (.int .i64 0), .lit (.int .i64 0), .lit (.int .i64 0)], .agg [.lit (.int .i64 0), .nil], .lit (.int .i64 0), .nil], [], places) :=
  ⟨[], by kernel_rfl⟩
set_option maxRecDepth 100000 in
theorem lifted (os : Os) (started : os.Started) (H : Type) (enc : TypeId × Value → H) (F : Stop.Interp) :
    ReturnsInHanded {} Tryz.checked os 4 .any ((OpenSpec.ofChange Rows.proofNarrowsSpec).preRow enc Tryz.prog Tryz.f4 Rows.proofNarrowsRow.domain false Rows.proofNarrowsRow.laid) (((OpenSpec.ofChange Rows.proofNarrowsSpec).at F).post enc Tryz.prog Tryz.f4 false true false false) := by
  obtain ⟨places, hx⟩ := reads os enc
  refine returnsInHanded_of_row (C := Tryz.checked) (s := OpenSpec.ofChange Rows.proofNarrowsSpec) own started (by kernel_rfl) Tryz.func4
    (witness_row_at (enc := enc) (C := Tryz.checked) false (laidWorld os) #[zEv, .agg #[.int .i64 0, .int .i64 0, .int .i64 0, .int .i64 0], zBt, .int .i64 0, .slice none 0 0] rfl (by kernel_rfl) (by kernel_rfl) (by kernel_rfl)
      (OpenSpec.preRow_of_cond 8 hx (by kernel_rfl) (fun k hk => by cases hk) (by kernel_rfl) (laid_met os _))) ?_
  intro W base args ds gs before hval hW _ _ _ hL _ _
  exact contract H enc W base args ds gs before hval hW hL
theorem said : Rows.ProofNarrowsSaid :=
  OpenClaim.holds_of_cond 4 Tryz.f4 rfl rfl rfl rfl rfl rfl rfl ⟨rfl, rfl, rfl, rfl, rfl⟩ rfl rfl rfl rfl rfl nameOk Tryz.func4 closed
    instOk wrapOk
    (fun os started H enc _ F => by rw [OpenClaim.pre_eq_preRow]; exact lifted os started H enc F)
theorem plain (f : FuncId) (fn : Func) (hf : Tryz.pinned.checked.prog.funcNamed "kerbside/kerbsidelaw50.ProofNarrows" = some f) (hfn : Tryz.pinned.checked.prog.funcs[f]? = some fn) :
    true = Tryz.pinned.checked.prog.looks [] ∧ ∀ (j : Nat) t, fn.params[j]? = some t → Tryz.pinned.checked.prog.wantsStandIn t = false := by
  obtain rfl : f = 4 := Option.some.inj (nameOk.symm.trans hf) |>.symm
  obtain rfl : fn = Tryz.f4 := (Option.some.inj (Tryz.func4.symm.trans hfn)).symm
  refine ⟨by kernel_rfl, fun j t ht => ?_⟩
  rw [Tryz.params4] at ht
  have ht : t ∈ [29, 49, 32, 3, 22] := Array.mem_toList_iff.2 (Array.mem_of_getElem? ht)
  rcases List.mem_cons.1 ht with rfl | ht
  · exact (show Tryz.prog.wantsStandIn 29 = false by kernel_rfl)
  rcases List.mem_cons.1 ht with rfl | ht
  · exact (show Tryz.prog.wantsStandIn 49 = false by kernel_rfl)
  rcases List.mem_cons.1 ht with rfl | ht
  · exact (show Tryz.prog.wantsStandIn 32 = false by kernel_rfl)
  rcases List.mem_cons.1 ht with rfl | ht
  · exact (show Tryz.prog.wantsStandIn 3 = false by kernel_rfl)
  rcases List.mem_cons.1 ht with rfl | ht
  · exact (show Tryz.prog.wantsStandIn 22 = false by kernel_rfl)
  exact absurd ht (List.not_mem_nil)
theorem card : Rows.ProofNarrowsCardSaid :=
  Claim7.holds_tied_plain_at .later [] _ _ _ _ said (fun _ h => by cases h) (by kernel_rfl) (fun _ h => by cases h) proofNarrows_row_tie rfl ⟨rfl, rfl⟩ (by kernel_rfl) rfl plain (by kernel_rfl)
end Go.Proofs.YteekaonhdckicaaGreatDoor.ProofNarrows

