/-
  THE LAW FracFloor, in plain Lean: the mirrored law is true at all arguments.
-/
import Derived.Test.YtaanocaobllohaaGreatDoorFrC
import Derived.Test.YtaanocaobllohaaGreatDoorMirD4
namespace Go.Proofs.YtaanocaobllohaaGreatDoor.D
open Go Rt M

theorem floor_sm {r : Rat} {k : Nat} (h : SmF k r) : Sm k r.floor := by rw [Rat.floor_def]; exact ediv_sm h.1
theorem QSame_yes {x y : Int} {k : Nat} (h : Sm k x) (hk : k < 1099511627776) (e : x = y) : Ev (fun n => ref05_SameBig n (toB x) (toB y)) true := (QSame_toB h hk).eq (by simp [e])
theorem floor_ev (f : Frac) (z : Int) (hz1 : -9223372036854775808 ≤ z) (hz2 : z ≤ 9223372036854775807) : Ev (fun n => law05_FracFloor n f z) true := by
  unfold law05_FracFloor
  refine Ev.bind small05 ?_
  refine Ev.bind (few05 f 30) ?_
  refine or_any (d := rightf f) (fun h => ?_) ?_
  · simp only [Bool.not_eq_false'] at h
    have h1 := few05_len (k := 30) h
    exact FRight_ev (f := f) h1.1 h1.2 (by decide)
  refine guard fun hV => ?_
  simp only [Bool.or_eq_false_iff, Bool.not_eq_false'] at hV
  obtain ⟨x, rfl, hx⟩ := rat_of (few05_len (k := 30) hV.1) hV.2
  clear hV
  have hf : Sm 31 x.floor := (floor_sm hx).mono (by decide)
  have s1 : Sm 31 1 := sm01 (by decide) (by decide) (by decide)
  have hf1 : Sm 32 (x.floor + 1) := hf.add s1
  have r1 : SmF 31 (Rat.divInt x.floor 1) := SmF_divInt hf s1 (by decide)
  have r2 : SmF 32 (Rat.divInt (x.floor + 1) 1) := SmF_divInt hf1 (s1.mono (by decide)) (by decide)
  have hfl := FFloor_ev hx (by decide)
  rw [← Rat.floor_def] at hfl
  refine Ev.bind hfl ?_
  refine Ev.bind (Ev.bind Of1_ev (Ev.bind (Add_ev hf s1 (by decide)) (Ev.pure _))) ?_
  refine Ev.bind (Ev.bind Of1_ev (Ev.bind (FNew_ev hf s1 (by decide) (by decide)) (Ev.pure _))) ?_
  refine Ev.bind (Ev.bind Of1_ev (Ev.bind (FNew_ev hf1 (s1.mono (by decide : 31 ≤ 32)) (by decide) (by decide)) (Ev.pure _))) ?_
  refine or_pure rfl rfl (or_pure rfl rfl ?_)
  have f1 : (x.floor : Rat) ≤ x := Rat.floor_le x
  have f2 : x < (x.floor : Rat) + 1 := by
    have := (Rat.floor_lt_iff (a := x) (x := x.floor + 1)).1 (by omega)
    rwa [Rat.intCast_add, Rat.intCast_one] at this
  refine or_callE (d := cmpQ (Rat.divInt x.floor 1) x) rfl (FCompare_ev r1 hx (by decide)) (by
    show decide (0 < cmpQ (Rat.divInt x.floor 1) x) = false
    rw [divInt_one]
    have := (cmpQ_le _ _).2 f1
    exact decide_eq_false (by omega)) ?_
  refine or_callE (d := cmpQ (Rat.divInt (x.floor + 1) 1) x) rfl (FCompare_ev r2 hx (by decide)) (by
    show decide (cmpQ (Rat.divInt (x.floor + 1) 1) x ≤ 0) = false
    rw [divInt_one, Rat.intCast_add, Rat.intCast_one]
    rw [cmpQ_gt f2]; rfl) ?_
  refine Ev.else rfl ?_
  have hfn := FFloor_ev hx.neg (by decide)
  rw [← Rat.floor_def] at hfn
  refine Ev.bind (Ev.bind (Neg_ev hx.1 (by decide)) (Ev.bind hfn (Ev.pure _))) ?_
  refine Ev.bind (FQSame_toF (b := x) r1 (by decide)) ?_
  refine Ev.bind (Neg_ev hf1 (by decide)) ?_
  have hn : Sm 31 (-x).floor := (floor_sm hx.neg).mono (by decide)
  refine Ev.bind (a := ((toB (-x).floor).Sign, (toB (-x).floor).Digits)) ?_ ?_
  · by_cases hw : Rat.divInt x.floor 1 = x
    · refine Ev.then (decide_eq_true hw) (Ev.bind (Neg_ev hf (by decide)) ((Ev.pure _).eq ?_))
      have e : (-x).floor = -x.floor := by
        rw [divInt_one] at hw
        rw [show -x = ((-x.floor : Int) : Rat) by rw [Rat.intCast_neg, hw], Rat.floor_intCast]
      rw [e]
    · refine Ev.else (decide_eq_false hw) ((Ev.pure _).eq ?_)
      have e : (-x).floor = -(x.floor + 1) := by
        rw [divInt_one] at hw
        have f3 : (x.floor : Rat) < x := Rat.lt_of_le_of_ne f1 hw
        refine floor_unique ?_ ?_
        · rw [Rat.intCast_neg, Rat.intCast_add, Rat.intCast_one]; grind
        · rw [Rat.intCast_neg, Rat.intCast_add, Rat.intCast_one]; grind
      rw [e]
  · refine and_call rfl (QSame_yes hn (by decide) rfl) ?_
    have sz : Sm 4 z := sm_of_len (len64 (by omega))
    have rz : SmF 4 (Rat.divInt z 1) := SmF_divInt sz (sm01 (by decide) (by decide) (by decide)) (by decide)
    have hfz := FFloor_ev rz (by decide)
    rw [← Rat.floor_def, divInt_one, Rat.floor_intCast] at hfz
    have hof := Lof hz1 hz2 (y := 1) (by decide) (by decide) (by decide)
    rw [divInt_one] at hof
    exact Ev.bind (Ev.then rfl (Ev.bind hof (Ev.bind hfz (Ev.bind (Of_ev hz1 hz2) (Ev.bind (QSame_yes sz (by decide) rfl) (Ev.pure _)))))) (Ev.pure _)
theorem floor_ev' (f : Frac) (z : Int) (hz : (Lit.int .i64 z).wf = true) : Ev (fun n => law05_FracFloor n f z) true := floor_ev f z (wf64 hz).1 (wf64 hz).2
end Go.Proofs.YtaanocaobllohaaGreatDoor.D
