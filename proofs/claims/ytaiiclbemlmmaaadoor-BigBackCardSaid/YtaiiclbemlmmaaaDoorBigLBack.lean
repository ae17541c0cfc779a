/-
  THE LAW BigBack, as arithmetic.
-/
import Derived.Test.YtaiiclbemlmmaaaDoorBigV
import Derived.Test.YtaiiclbemlmmaaaDoorBigQ
import Derived.Test.YtaiiclbemlmmaaaDoorMirD6
namespace Go.Proofs.YtaiiclbemlmmaaaDoor.D
open Go Rt M

theorem txt_zero : txt 0 = [48] := by
  unfold txt; rw [if_neg (by omega), show (0 : Int).natAbs = 0 from rfl, dec_small (by decide)]; rfl
theorem Read_txt {x : Int} (h : Sm 60 x) : Ev (fun n => big_Read n (txt x)) (toB x, 0) := by
  by_cases hx : x = 0
  · subst hx; rw [txt_zero, toB_zero]; exact Read_zero
  · have h1 := Read_digits (x := x) (l := []) hx rfl (by rw [List.append_nil]; have := txt_len h; omega)
    rw [List.append_nil, dv_nil, sg_natAbs] at h1
    exact h1
theorem Read_seven {x : Int} (h : Sm 60 x) (hx : x ≠ 0) : Ev (fun n => big_Read n (txt x ++ [55])) (toB (x * 10 + 7 * sg x), 0) := by
  have h1 := Read_digits (x := x) (l := [55]) hx rfl (by rw [List.length_append]; have := txt_len h; simp; omega)
  rw [dv_cons, dv_nil] at h1
  have e : sg x * ((ten1 x.natAbs 55 : Nat) : Int) = x * 10 + 7 * sg x := by
    have h2 := sg_natAbs x
    have h3 : ((ten1 x.natAbs 55 : Nat) : Int) = 10 * (x.natAbs : Int) + 7 := by
      have h55 : (55 : UInt8).toNat = 55 := rfl
      unfold ten1; rw [h55]; omega
    rw [h3]
    generalize (x.natAbs : Int) = u at *
    rw [← h2]
    grind
  rw [e] at h1
  exact h1

theorem _root_.Go.Proofs.YtaiiclbemlmmaaaDoor.Rt.Ev.from' {x y : Int} {r : Big} (h : Ev (fun n => big_Of n x) r) (e : y = x) : Ev (fun n => big_Of n y) r := by subst e; exact h

set_option maxHeartbeats 2000000 in
theorem back_ev (a : Big) (s : Bs) : Ev (fun n => law04_BigBack n a s) true := by
  unfold law04_BigBack
  refine Ev.bind small_ev ?_
  refine or_any (fun _ => few_ev a 60) ?_
  refine guard fun hV => ?_
  simp only [Bool.or_eq_false_iff, Bool.not_eq_false', decide_eq_true_eq, decide_eq_false_iff_not] at hV
  obtain ⟨hS, hA⟩ := hV
  have hA : a.Digits.length ≤ 60 := by omega
  rcases Read_all s (by omega) with ⟨y, h1, h2, h3⟩ | h1
  · refine Ev.bind h1 ?_
    refine Ev.bind (a := false) (Ev.then rfl (Ev.bind (Right_toB h3 (by omega)) (Ev.bind (a := false) (Ev.else rfl (Ev.bind (Text_ev h3 (by omega)) ((Ev.pure _).eq ?_))) (Ev.pure _)))) ?_
    · rw [h2]; simp
    refine Ev.bind (a := false) (Ev.else rfl (Ev.bind (a := false) (Ev.else rfl (Ev.pure _)) (Ev.pure _))) ?_
    refine Ev.else rfl ?_
    refine Ev.bind (Right_ev (a := a) (by omega)) ?_
    by_cases hr : rightb a = true
    · rw [hr]
      refine Ev.else rfl ?_
      obtain ⟨x, rfl⟩ := toB_of_right hr
      have hx : Sm 60 x := sm_of_len hA
      have x9 : Sm 99 x := hx.mono (by omega)
      refine Ev.bind (Text_ev hx (by omega)) ?_
      refine Ev.bind (Read_txt hx) ?_
      refine or_call rfl (Same_yes hx (by omega) rfl) ?_
      refine Ev.else rfl ?_
      by_cases hx0 : x = 0
      · subst hx0
        refine Ev.then rfl ?_
        exact and_pure rfl (by rw [txt_zero]; rfl) (Ev.pure _)
      · refine Ev.else (by show (sg x == 0) = false; rw [sg_zero_iff]; simpa using hx0) ?_
        have t9 : Sm 99 10 := Sm.mono (k := 1) (by unfold Sm; decide) (by omega)
        have hs := sg_range x
        have p9 : Sm 99 (x * 10) := Sm.mono (hx.mul (l := 1) (by unfold Sm; decide)) (by omega)
        have s9 : Sm 99 (7 * sg x) := Sm.mono (k := 1) (by unfold Sm; rw [show pw 1 = 1048576 by decide]; omega) (by omega)
        refine Ev.bind (Ev.bind (Of_ev (x := 10) (by omega) (by omega)) (Ev.bind (Mul_ev x9 t9 (by omega)) (Ev.pure _))) ?_
        refine Ev.bind (Ev.bind ((Of_ev (x := 7 * sg x) (by omega) (by omega)).from' (by show imul .i64 7 (sg x) = _; rw [imul_i64 (by omega) (by omega)])) (Ev.bind (Add_ev p9 s9 (by omega)) (Ev.pure _))) ?_
        refine Ev.step (a := txt x ++ [55]) (by unfold scat; rw [if_pos (by have := txt_len hx; simp; omega)]) ?_
        refine Ev.bind (Read_seven hx hx0) ?_
        refine and_pure rfl rfl ?_; refine and_pure rfl rfl ?_; refine and_pure rfl rfl ?_
        exact and_call rfl (Same_yes (k := 100) (by have := p9.add s9; exact this.mono (by omega)) (by omega) rfl) (Ev.pure _)
    · have hr' : rightb a = false := by simpa using hr
      rw [hr']
      refine Ev.then rfl ?_
      exact Ev.bind (a := true) (Ev.then rfl (Ev.bind (Text_not (a := a) (by omega) hr') (Ev.pure _))) (Ev.pure _)
  · refine Ev.bind h1 ?_
    refine Ev.bind (a := false) (Ev.else rfl (Ev.pure _)) ?_
    refine Ev.bind (a := false) (Ev.else rfl (Ev.bind (a := false) (Ev.then rfl (Ev.bind (a := false) (Ev.else rfl (Ev.bind ((Same_ev (a := ⟨0, []⟩) (b := ⟨0, []⟩) (by decide)).eq rfl) (Ev.pure _))) (Ev.pure _))) (Ev.pure _))) ?_
    refine Ev.else rfl ?_
    refine Ev.bind (Right_ev (a := a) (by omega)) ?_
    by_cases hr : rightb a = true
    · rw [hr]
      refine Ev.else rfl ?_
      obtain ⟨x, rfl⟩ := toB_of_right hr
      have hx : Sm 60 x := sm_of_len hA
      have x9 : Sm 99 x := hx.mono (by omega)
      refine Ev.bind (Text_ev hx (by omega)) ?_
      refine Ev.bind (Read_txt hx) ?_
      refine or_call rfl (Same_yes hx (by omega) rfl) ?_
      refine Ev.else rfl ?_
      by_cases hx0 : x = 0
      · subst hx0
        refine Ev.then rfl ?_
        exact and_pure rfl (by rw [txt_zero]; rfl) (Ev.pure _)
      · refine Ev.else (by show (sg x == 0) = false; rw [sg_zero_iff]; simpa using hx0) ?_
        have t9 : Sm 99 10 := Sm.mono (k := 1) (by unfold Sm; decide) (by omega)
        have hs := sg_range x
        have p9 : Sm 99 (x * 10) := Sm.mono (hx.mul (l := 1) (by unfold Sm; decide)) (by omega)
        have s9 : Sm 99 (7 * sg x) := Sm.mono (k := 1) (by unfold Sm; rw [show pw 1 = 1048576 by decide]; omega) (by omega)
        refine Ev.bind (Ev.bind (Of_ev (x := 10) (by omega) (by omega)) (Ev.bind (Mul_ev x9 t9 (by omega)) (Ev.pure _))) ?_
        refine Ev.bind (Ev.bind ((Of_ev (x := 7 * sg x) (by omega) (by omega)).from' (by show imul .i64 7 (sg x) = _; rw [imul_i64 (by omega) (by omega)])) (Ev.bind (Add_ev p9 s9 (by omega)) (Ev.pure _))) ?_
        refine Ev.step (a := txt x ++ [55]) (by unfold scat; rw [if_pos (by have := txt_len hx; simp; omega)]) ?_
        refine Ev.bind (Read_seven hx hx0) ?_
        refine and_pure rfl rfl ?_; refine and_pure rfl rfl ?_; refine and_pure rfl rfl ?_
        exact and_call rfl (Same_yes (k := 100) (by have := p9.add s9; exact this.mono (by omega)) (by omega) rfl) (Ev.pure _)
    · have hr' : rightb a = false := by simpa using hr
      rw [hr']
      refine Ev.then rfl ?_
      exact Ev.bind (a := true) (Ev.then rfl (Ev.bind (Text_not (a := a) (by omega) hr') (Ev.pure _))) (Ev.pure _)
end Go.Proofs.YtaiiclbemlmmaaaDoor.D
