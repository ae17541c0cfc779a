/-
  THE LAW BigDivides, as arithmetic.
-/
import Derived.Test.YtaiiclbemlmmaaaDoorBigV
import Derived.Test.YtaiiclbemlmmaaaDoorMirD2
namespace Go.Proofs.YtaiiclbemlmmaaaDoor.D
open Go Rt M

theorem Div0_ev {x : Int} {k : Nat} (hx : Sm k x) (hk : k < 8388608) : Ev (fun n => big_Div n (toB x) (toB 0)) (⟨0, []⟩, ⟨0, []⟩, 14) := by
  unfold big_Div
  refine Ev.bind (Right_toB hx (by omega)) ?_
  refine Ev.bind (a := false) (Ev.else rfl (Ev.bind (Right_toB (x := 0) (k := 1) (by unfold Sm; decide) (by decide)) (Ev.pure _))) ?_
  refine Ev.else rfl ?_
  exact Ev.then rfl (Ev.pure _)
theorem dq_sm {x y : Int} {k : Nat} (hx : Sm k x) : Sm (k + 1) (dq x y) := by
  have h := Nat.div_le_self x.natAbs y.natAbs
  have hp := pw_pos k
  have h2 : (dq x y).natAbs ≤ x.natAbs / y.natAbs + 1 := by
    unfold dq
    generalize x.natAbs / y.natAbs = q
    split
    · omega
    · rw [Int.natAbs_mul]
      have h3 : (sg (x * y)).natAbs ≤ 1 := by have := sg_range (x * y); omega
      have h4 := Nat.mul_le_mul_right ((q : Int).natAbs) h3
      omega
  generalize x.natAbs / y.natAbs = q at *
  unfold Sm at *
  simp only [pw]
  omega

theorem divides_ev (a b : Big) : Ev (fun n => law04_BigDivides n a b) true := by
  unfold law04_BigDivides
  refine Ev.bind small_ev ?_
  refine Ev.bind (few_ev a 40) ?_
  refine or_any (fun _ => few_ev b 40) ?_
  refine or_any (fun h => Right_ev (a := a) ?_) ?_
  · have h1 : decide ((a.Digits.length : Int) ≤ 40) = true := by revert h; cases decide ((a.Digits.length : Int) ≤ 40) <;> simp
    have := few_len (k := 40) h1; omega
  refine or_any (fun h => Right_ev (a := b) ?_) ?_
  · have h1 : decide ((b.Digits.length : Int) ≤ 40) = true := by revert h; cases decide ((b.Digits.length : Int) ≤ 40) <;> simp
    have := few_len (k := 40) h1; omega
  refine guard fun hV => ?_
  simp only [Bool.or_eq_false_iff, Bool.not_eq_false'] at hV
  obtain ⟨⟨⟨g1, g2⟩, g3⟩, g4⟩ := hV
  obtain ⟨x, rfl, hx⟩ := num_of (k := 40) g1 g3
  obtain ⟨y, rfl, hy⟩ := num_of (k := 40) g2 g4
  clear g1 g2 g3 g4
  by_cases hy0 : y = 0
  · subst hy0
    refine Ev.bind (Div0_ev hx (by decide)) ?_
    refine Ev.then rfl ?_
    refine and_pure rfl rfl ?_
    refine and_call rfl ((Same_ev (a := ⟨0, []⟩) (b := ⟨0, []⟩) (by decide)).eq rfl) ?_
    refine and_call rfl ((Same_ev (a := ⟨0, []⟩) (b := ⟨0, []⟩) (by decide)).eq rfl) ?_
    exact Ev.pure _
  · obtain ⟨e1, e2, e3⟩ := dq_dr (x := x) (y := y) hy0
    have hq : Sm 41 (dq x y) := dq_sm hx
    have hr : Sm 40 (dr x y) := hy.le (by omega)
    refine Ev.bind (Div_ev hx hy (by decide) hy0) ?_
    refine Ev.else (by show (sg y == 0) = false; rcases sg_cases y with h | h | h <;> simp [h.2]; omega) ?_
    refine Ev.bind (Mul_ev hq (hy.mono (by omega : 40 ≤ 41)) (by omega)) ?_
    have hm : Sm 81 (dq x y * y) := (hq.mul hy).mono (by omega)
    have hr2 : Sm 81 (dr x y) := hr.mono (by omega)
    refine Ev.bind (Add_ev hm hr2 (by omega)) ?_
    refine or_pure rfl rfl ?_
    refine or_pure rfl rfl ?_
    refine or_call rfl (Right_toB hq (by decide)) ?_
    refine or_call rfl (Right_toB hr (by decide)) ?_
    refine or_call rfl ((Same_toB (k := 40) (by rw [e1]; exact hx) (by decide)).eq (by simp [e1])) ?_
    refine Ev.else rfl ?_
    have hc := Compare_ev (k := 40) hr hy (by decide)
    refine Ev.bind hc ?_
    refine Ev.bind (a := true) ?_ ?_
    · by_cases hn : y < 0
      · refine Ev.then (by show decide (sg y < 0) = true; rw [sg_neg hn]; rfl) ?_
        refine Ev.bind hc ((Ev.pure _).eq ?_)
        rw [sg_pos (by omega)]; rfl
      · refine Ev.else (by show decide (sg y < 0) = false; rw [sg_pos (by omega)]; rfl) ((Ev.pure _).eq ?_)
        rw [sg_neg (by omega)]; rfl
    · refine Ev.bind (a := true) (Ev.then rfl (Ev.bind (a := true) ?_ (Ev.pure _))) ?_
      · rcases e2 with e2 | e2
        · refine Ev.then ?_ (Ev.pure _)
          show (sg (dr x y) == 0) = true
          rw [e2]; rfl
        · show Ev (fun _ => bif sg (dr x y) == 0 then some true else some (sg (dr x y) == sg y)) true
          rw [e2]
          by_cases h0 : (sg y == 0) = true
          · exact Ev.then h0 (Ev.pure _)
          · exact Ev.else (by simpa using h0) ((Ev.pure _).eq (by simp))
      · exact and_pure rfl rfl (Ev.pure _)
end Go.Proofs.YtaiiclbemlmmaaaDoor.D
