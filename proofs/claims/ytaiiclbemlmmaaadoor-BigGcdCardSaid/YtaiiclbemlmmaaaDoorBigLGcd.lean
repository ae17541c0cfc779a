/-
  THE LAW BigGcd, as arithmetic.
-/
import Derived.Test.YtaiiclbemlmmaaaDoorBigV
import Derived.Test.YtaiiclbemlmmaaaDoorMirD1
namespace Go.Proofs.YtaiiclbemlmmaaaDoor.D
open Go Rt M

theorem gcd_sm {x y : Int} {k : Nat} (hx : Sm k x) (hy : Sm k y) : Sm k ((Nat.gcd x.natAbs y.natAbs : Nat) : Int) := by
  unfold Sm at *
  rw [Int.natAbs_natCast]
  rcases Nat.eq_zero_or_pos x.natAbs with h | h
  · rw [h, Nat.gcd_zero_left]; exact hy
  · have := Nat.gcd_le_left y.natAbs h; omega
theorem dr_zero {x y : Int} (h : y.natAbs ∣ x.natAbs) : dr x y = 0 := by
  have h1 := Nat.mod_eq_zero_of_dvd h
  unfold dr odd
  rw [h1]; simp
theorem dr_gcd {x y : Int} (hx : x ≠ 0) : Nat.gcd x.natAbs (dr y x).natAbs = Nat.gcd x.natAbs y.natAbs := by
  have hlt := Nat.mod_lt y.natAbs (show x.natAbs > 0 by omega)
  have e : Nat.gcd x.natAbs (y.natAbs % x.natAbs) = Nat.gcd x.natAbs y.natAbs := by rw [Nat.gcd_comm, ← Nat.gcd_rec]
  by_cases ho : odd y x = true
  · rw [(dr_odd hx ho).1, Nat.gcd_self_sub_right (Nat.le_of_lt hlt), e]
  · rw [(dr_even ho).1, e]
theorem sg_nat {g : Nat} (h : g ≠ 0) : sg (g : Int) = 1 := sg_pos (by omega)
theorem mul_sm {x y : Int} (h : Sm 40 x) (h2 : Sm 40 y) : Sm 99 (x * y) := (h.mul h2).mono (by omega)


set_option maxHeartbeats 2000000 in
theorem gcd_ev (a b c : Big) : Ev (fun n => law04_BigGcd n a b c) true := by
  unfold law04_BigGcd
  refine Ev.bind small_ev ?_
  refine Ev.bind (few_ev a 12) ?_
  refine or_any (fun _ => few_ev b 12) ?_
  refine or_any (fun _ => few_ev c 4) ?_
  refine or_any (fun h => Right_ev (a := a) (by simp only [Bool.or_eq_false_iff, Bool.not_eq_false', decide_eq_true_eq] at h; omega)) ?_
  refine or_any (fun h => Right_ev (a := b) (by simp only [Bool.or_eq_false_iff, Bool.not_eq_false', decide_eq_true_eq] at h; omega)) ?_
  refine or_any (fun h => Right_ev (a := c) (by simp only [Bool.or_eq_false_iff, Bool.not_eq_false', decide_eq_true_eq] at h; omega)) ?_
  refine guard fun hV => ?_
  simp only [Bool.or_eq_false_iff, Bool.not_eq_false'] at hV
  obtain ⟨⟨⟨⟨⟨g1, g2⟩, g3⟩, g4⟩, g5⟩, g6⟩ := hV
  obtain ⟨x, rfl, hx⟩ := num_of (k := 12) g1 g4
  obtain ⟨y, rfl, hy⟩ := num_of (k := 12) g2 g5
  obtain ⟨z, rfl, hz⟩ := num_of (k := 4) g3 g6
  clear g1 g2 g3 g4 g5 g6
  have x4 : Sm 40 x := hx.mono (by omega)
  have y4 : Sm 40 y := hy.mono (by omega)
  have z4 : Sm 40 z := hz.mono (by omega)
  have x9 : Sm 99 x := hx.mono (by omega)
  have y9 : Sm 99 y := hy.mono (by omega)
  have z9 : Sm 99 z := hz.mono (by omega)
  have g4 := gcd_sm x4 y4
  have g9 := gcd_sm x9 y9
  have pxz := mul_sm x4 z4
  have pyz := mul_sm y4 z4
  have pgz := mul_sm g4 z4
  have hcomm : Nat.gcd (-y).natAbs x.natAbs = Nat.gcd x.natAbs y.natAbs := by rw [Int.natAbs_neg, Nat.gcd_comm]
  refine Ev.bind (Gcd_ev x9 y9 (by omega)) ?_
  have hN := Gcd_ev y9.neg x9 (by omega)
  rw [hcomm] at hN
  refine Ev.bind (Ev.bind (Neg_ev y9 (by omega)) (Ev.bind hN (Ev.pure _))) ?_
  have hg0 : Nat.gcd x.natAbs y.natAbs = 0 ↔ x = 0 ∧ y = 0 := by rw [Nat.gcd_eq_zero_iff]; omega
  refine or_pure rfl rfl ?_
  refine or_pure rfl (by show decide (sg ((Nat.gcd x.natAbs y.natAbs : Nat) : Int) < 0) = false; rcases sg_cases ((Nat.gcd x.natAbs y.natAbs : Nat) : Int) with h | h | h <;> rw [h.2] <;> simp; omega) ?_
  refine or_call rfl (Same_yes g9 (by omega) rfl) ?_
  refine Ev.bind (a := false) (Ev.else rfl ?_) ?_
  · refine Ev.bind (a := decide (x = 0 ∧ y = 0)) ?_ ((Ev.pure _).eq ?_)
    · show Ev (fun _ => bif sg x == 0 then some (sg y == 0) else some false) _
      rw [sg_zero_iff, sg_zero_iff]
      by_cases h1 : x = 0 <;> by_cases h2 : y = 0 <;> simp [h1, h2] <;> exact Ev.pure _
    · show (!((sg ((Nat.gcd x.natAbs y.natAbs : Nat) : Int) == 0) == decide (x = 0 ∧ y = 0))) = false
      rw [sg_zero_iff]
      by_cases h : x = 0 ∧ y = 0
      · have := hg0.2 h; simp [h]
      · have h2 : ¬ Nat.gcd x.natAbs y.natAbs = 0 := fun e => h (hg0.1 e)
        have h3 : ¬ ((Nat.gcd x.natAbs y.natAbs : Nat) : Int) = 0 := by omega
        rw [decide_eq_false h3, decide_eq_false h]; rfl
  refine Ev.else rfl ?_
  by_cases hg : Nat.gcd x.natAbs y.natAbs = 0
  · refine Ev.else (by show (sg ((Nat.gcd x.natAbs y.natAbs : Nat) : Int) != 0) = false; rw [hg]; rfl) ?_
    obtain ⟨hx0, hy0⟩ := hg0.1 hg
    refine Ev.else (by show (sg x != 0) = false; rw [hx0]; rfl) ?_
    refine Ev.bind (Mul_ev x9 z9 (by omega)) ?_
    refine Ev.bind (Mul_ev y9 z9 (by omega)) ?_
    refine Ev.bind (Gcd_ev pxz pyz (by omega)) ?_
    refine Ev.bind (Mul_ev g9 z9 (by omega)) ?_
    refine Ev.bind (a := ((toB (((Nat.gcd x.natAbs y.natAbs * z.natAbs : Nat)) : Int)).Sign, (toB (((Nat.gcd x.natAbs y.natAbs * z.natAbs : Nat)) : Int)).Digits)) ?_ ?_
    · by_cases hz0 : z < 0
      · refine Ev.then (by show decide (sg z < 0) = true; rw [sg_neg hz0]; rfl) ?_
        refine Ev.bind (Neg_ev pgz (by omega)) ((Ev.pure _).eq ?_)
        rw [show -(((Nat.gcd x.natAbs y.natAbs : Nat) : Int) * z) = ((Nat.gcd x.natAbs y.natAbs * z.natAbs : Nat) : Int) by rw [Int.natCast_mul, show (z.natAbs : Int) = -z by omega, Int.mul_neg]]
      · refine Ev.else (by show decide (sg z < 0) = false; rcases sg_cases z with h | h | h <;> rw [h.2] <;> simp; omega) ((Ev.pure _).eq ?_)
        rw [show (((Nat.gcd x.natAbs y.natAbs : Nat) : Int) * z) = ((Nat.gcd x.natAbs y.natAbs * z.natAbs : Nat) : Int) by rw [Int.natCast_mul, show (z.natAbs : Int) = z by omega]]
    · refine and_pure rfl rfl ?_; refine and_pure rfl rfl ?_; refine and_pure rfl rfl ?_; refine and_pure rfl rfl ?_
      exact Ev.bind (Ev.then rfl (Ev.bind (Same_yes (gcd_sm pxz pyz) (by omega) (by rw [Int.natAbs_mul, Int.natAbs_mul, Nat.gcd_mul_right])) (Ev.pure _))) (Ev.pure _)
  · refine Ev.then (by show (sg ((Nat.gcd x.natAbs y.natAbs : Nat) : Int) != 0) = true; rw [sg_nat hg]; rfl) ?_
    have hgi : ((Nat.gcd x.natAbs y.natAbs : Nat) : Int) ≠ 0 := by omega
    have hdx := dr_zero (x := x) (y := ((Nat.gcd x.natAbs y.natAbs : Nat) : Int)) (by rw [Int.natAbs_natCast]; exact Nat.gcd_dvd_left _ _)
    have hdy := dr_zero (x := y) (y := ((Nat.gcd x.natAbs y.natAbs : Nat) : Int)) (by rw [Int.natAbs_natCast]; exact Nat.gcd_dvd_right _ _)
    refine Ev.bind (Div_ev x9 g9 (by omega) hgi) ?_
    refine Ev.bind (Div_ev y9 g9 (by omega) hgi) ?_
    refine or_pure rfl rfl ?_
    refine or_pure rfl (by show (sg (dr x ((Nat.gcd x.natAbs y.natAbs : Nat) : Int)) != 0) = false; rw [hdx]; rfl) ?_
    refine or_pure rfl (by show (sg (dr y ((Nat.gcd x.natAbs y.natAbs : Nat) : Int)) != 0) = false; rw [hdy]; rfl) ?_
    refine Ev.else rfl ?_
    by_cases hx0 : x = 0
    · refine Ev.else (by show (sg x != 0) = false; rw [hx0]; rfl) ?_
      refine Ev.bind (Mul_ev x9 z9 (by omega)) ?_
      refine Ev.bind (Mul_ev y9 z9 (by omega)) ?_
      refine Ev.bind (Gcd_ev pxz pyz (by omega)) ?_
      refine Ev.bind (Mul_ev g9 z9 (by omega)) ?_
      refine Ev.bind (a := ((toB (((Nat.gcd x.natAbs y.natAbs * z.natAbs : Nat)) : Int)).Sign, (toB (((Nat.gcd x.natAbs y.natAbs * z.natAbs : Nat)) : Int)).Digits)) ?_ ?_
      · by_cases hz0 : z < 0
        · refine Ev.then (by show decide (sg z < 0) = true; rw [sg_neg hz0]; rfl) ?_
          refine Ev.bind (Neg_ev pgz (by omega)) ((Ev.pure _).eq ?_)
          rw [show -(((Nat.gcd x.natAbs y.natAbs : Nat) : Int) * z) = ((Nat.gcd x.natAbs y.natAbs * z.natAbs : Nat) : Int) by rw [Int.natCast_mul, show (z.natAbs : Int) = -z by omega, Int.mul_neg]]
        · refine Ev.else (by show decide (sg z < 0) = false; rcases sg_cases z with h | h | h <;> rw [h.2] <;> simp; omega) ((Ev.pure _).eq ?_)
          rw [show (((Nat.gcd x.natAbs y.natAbs : Nat) : Int) * z) = ((Nat.gcd x.natAbs y.natAbs * z.natAbs : Nat) : Int) by rw [Int.natCast_mul, show (z.natAbs : Int) = z by omega]]
      · refine and_pure rfl rfl ?_; refine and_pure rfl rfl ?_; refine and_pure rfl rfl ?_; refine and_pure rfl rfl ?_
        exact Ev.bind (Ev.then rfl (Ev.bind (Same_yes (gcd_sm pxz pyz) (by omega) (by rw [Int.natAbs_mul, Int.natAbs_mul, Nat.gcd_mul_right])) (Ev.pure _))) (Ev.pure _)
    · refine Ev.then (by show (sg x != 0) = true; rcases sg_cases x with h | h | h <;> rw [h.2] <;> first | rfl | exact absurd h.1 hx0) ?_
      have hr9 : Sm 99 (dr y x) := x9.le (by have := (dq_dr (x := y) hx0).2.2; omega)
      have hG := Gcd_ev x9 hr9 (by omega)
      rw [dr_gcd hx0] at hG
      refine Ev.bind (Div_ev y9 x9 (by omega) hx0) ?_
      refine Ev.bind hG ?_
      refine or_pure rfl rfl ?_
      refine or_call rfl (Same_yes g9 (by omega) rfl) ?_
      refine Ev.else rfl ?_
      refine Ev.bind (Mul_ev x9 z9 (by omega)) ?_
      refine Ev.bind (Mul_ev y9 z9 (by omega)) ?_
      refine Ev.bind (Gcd_ev pxz pyz (by omega)) ?_
      refine Ev.bind (Mul_ev g9 z9 (by omega)) ?_
      refine Ev.bind (a := ((toB (((Nat.gcd x.natAbs y.natAbs * z.natAbs : Nat)) : Int)).Sign, (toB (((Nat.gcd x.natAbs y.natAbs * z.natAbs : Nat)) : Int)).Digits)) ?_ ?_
      · by_cases hz0 : z < 0
        · refine Ev.then (by show decide (sg z < 0) = true; rw [sg_neg hz0]; rfl) ?_
          refine Ev.bind (Neg_ev pgz (by omega)) ((Ev.pure _).eq ?_)
          rw [show -(((Nat.gcd x.natAbs y.natAbs : Nat) : Int) * z) = ((Nat.gcd x.natAbs y.natAbs * z.natAbs : Nat) : Int) by rw [Int.natCast_mul, show (z.natAbs : Int) = -z by omega, Int.mul_neg]]
        · refine Ev.else (by show decide (sg z < 0) = false; rcases sg_cases z with h | h | h <;> rw [h.2] <;> simp; omega) ((Ev.pure _).eq ?_)
          rw [show (((Nat.gcd x.natAbs y.natAbs : Nat) : Int) * z) = ((Nat.gcd x.natAbs y.natAbs * z.natAbs : Nat) : Int) by rw [Int.natCast_mul, show (z.natAbs : Int) = z by omega]]
      · refine and_pure rfl rfl ?_; refine and_pure rfl rfl ?_; refine and_pure rfl rfl ?_; refine and_pure rfl rfl ?_
        exact Ev.bind (Ev.then rfl (Ev.bind (Same_yes (gcd_sm pxz pyz) (by omega) (by rw [Int.natAbs_mul, Int.natAbs_mul, Nat.gcd_mul_right])) (Ev.pure _))) (Ev.pure _)
end Go.Proofs.YtaiiclbemlmmaaaDoor.D
