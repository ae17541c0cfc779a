/-
  FRACTIONS: the rational numbers of Lean, as the program keeps them; what each function returns of them, first part.
-/
import Derived.Test.YtaanocaobllohaaGreatDoorEvK
import Derived.Test.YtaanocaobllohaaGreatDoorFrSame
namespace Go.Proofs.YtaanocaobllohaaGreatDoor.D
open Go Rt M

def toF (r : Rat) : Frac := ⟨toB r.num, toB (r.den : Int)⟩
def SmF (k : Nat) (r : Rat) : Prop := Sm k r.num ∧ Sm k (r.den : Int)
def zeroF : Frac := ⟨⟨0, []⟩, ⟨0, []⟩⟩
theorem den_pos (r : Rat) : 0 < (r.den : Int) := by have := r.den_nz; omega
theorem SmF.mono {j k : Nat} {r : Rat} (h : SmF j r) (hk : j ≤ k) : SmF k r := ⟨h.1.mono hk, h.2.mono hk⟩

/- what is known of Lean's rational numbers -/
theorem divInt_pos {p q : Int} (hq : 0 < q) : (Rat.divInt p q).num = p / ((Nat.gcd p.natAbs q.natAbs : Nat) : Int) ∧ ((Rat.divInt p q).den : Int) = q / ((Nat.gcd p.natAbs q.natAbs : Nat) : Int) := by
  obtain ⟨d, rfl⟩ := Int.eq_ofNat_of_zero_le (Int.le_of_lt hq)
  have hd : d ≠ 0 := by omega
  rw [Rat.divInt_ofNat, Rat.mkRat_def, dif_neg hd, Rat.normalize_eq, Int.natAbs_natCast]
  exact ⟨rfl, Int.natCast_ediv _ _⟩
theorem rat_add (a b : Rat) : a + b = Rat.divInt (a.num * b.den + b.num * a.den) (a.den * b.den) := by
  conv => lhs; rw [← Rat.num_divInt_den a, ← Rat.num_divInt_den b]
  rw [Rat.divInt_add_divInt _ _ (by have := den_pos a; omega) (by have := den_pos b; omega)]
theorem rat_mul (a b : Rat) : a * b = Rat.divInt (a.num * b.num) (a.den * b.den) := by
  conv => lhs; rw [← Rat.num_divInt_den a, ← Rat.num_divInt_den b]
  rw [Rat.divInt_mul_divInt]
theorem rat_div (a b : Rat) : a / b = Rat.divInt (a.num * b.den) (a.den * b.num) := by
  rw [Rat.div_def]
  conv => lhs; rw [← Rat.num_divInt_den a, ← Rat.num_divInt_den b]
  rw [Rat.inv_divInt, Rat.divInt_mul_divInt]
theorem dq_pos {x y : Int} (hy : 0 < y) : dq x y = x / y := by
  obtain ⟨h1, h2, h3⟩ := dq_dr (x := x) (y := y) (by omega)
  have h4 : 0 ≤ dr x y ∧ dr x y < y := by
    rcases h2 with h | h
    · omega
    · rw [sg_pos hy] at h
      have := sg_cases (dr x y)
      omega
  generalize dq x y = q at *
  generalize dr x y = r at *
  rw [← h1, Int.add_comm, Int.add_mul_ediv_right _ _ (by omega), Int.ediv_eq_zero_of_lt h4.1 h4.2]; omega
theorem ediv_sm {x y : Int} {k : Nat} (h : Sm k x) : Sm k (x / y) := h.le (Int.natAbs_ediv_le_natAbs x y)
theorem divInt_neg2 (p q : Int) : Rat.divInt p q = Rat.divInt (-p) (-q) := (Rat.neg_divInt_neg p q).symm
theorem SmF_divInt {p q : Int} {k : Nat} (hp : Sm k p) (hq : Sm k q) (h0 : q ≠ 0) : SmF k (Rat.divInt p q) := by
  by_cases hn : q < 0
  · rw [divInt_neg2]
    obtain ⟨e1, e2⟩ := divInt_pos (p := -p) (q := -q) (by omega)
    exact ⟨by rw [e1]; exact ediv_sm hp.neg, by rw [e2]; exact ediv_sm hq.neg⟩
  · obtain ⟨e1, e2⟩ := divInt_pos (p := p) (q := q) (by omega)
    exact ⟨by rw [e1]; exact ediv_sm hp, by rw [e2]; exact ediv_sm hq⟩
theorem mul_ne {x y : Int} (hx : x ≠ 0) (hy : y ≠ 0) : x * y ≠ 0 := Int.mul_ne_zero hx hy
theorem den_ne (r : Rat) : (r.den : Int) ≠ 0 := by have := den_pos r; omega
theorem SmF.add {j k : Nat} {a b : Rat} (ha : SmF j a) (hb : SmF k b) : SmF (j + k + 1) (a + b) := by
  rw [rat_add]
  exact SmF_divInt ((ha.1.mul hb.2).add ((hb.1.mul ha.2).mono (by omega))) ((ha.2.mul hb.2).mono (by omega)) (mul_ne (den_ne a) (den_ne b))
theorem SmF.mul {j k : Nat} {a b : Rat} (ha : SmF j a) (hb : SmF k b) : SmF (j + k) (a * b) := by
  rw [rat_mul]
  exact SmF_divInt (ha.1.mul hb.1) (ha.2.mul hb.2) (mul_ne (den_ne a) (den_ne b))
theorem SmF.neg {k : Nat} {a : Rat} (ha : SmF k a) : SmF k (-a) := ⟨by rw [Rat.neg_num]; exact ha.1.neg, by rw [Rat.neg_den]; exact ha.2⟩
theorem SmF.sub {j k : Nat} {a b : Rat} (ha : SmF j a) (hb : SmF k b) : SmF (j + k + 1) (a - b) := by rw [Rat.sub_eq_add_neg]; exact ha.add hb.neg

/- which fractions are right -/
def ofB (a : Big) : Int := a.Sign * val a.Digits
theorem ofB_toB (x : Int) : ofB (toB x) = x := by unfold ofB toB; rw [val_dig, sg_natAbs]
def rightf (f : Frac) : Bool := rightb f.P && rightb f.Q && (f.Q.Sign == 1) && (Nat.gcd (ofB f.P).natAbs (ofB f.Q).natAbs == 1)
theorem rightf_toF (r : Rat) : rightf (toF r) = true := by
  unfold rightf toF
  simp only
  rw [rightb_toB, rightb_toB, ofB_toB, ofB_toB]
  have h1 : (toB (r.den : Int)).Sign = 1 := sg_pos (den_pos r)
  rw [h1, Int.natAbs_natCast]
  have h2 : Nat.gcd r.num.natAbs r.den = 1 := r.reduced
  rw [h2]; rfl
theorem toF_of_rightf {f : Frac} (h : rightf f = true) : ∃ r, f = toF r := by
  obtain ⟨P, Q⟩ := f
  unfold rightf at h
  simp only [Bool.and_eq_true, beq_iff_eq] at h
  obtain ⟨⟨⟨h1, h2⟩, h3⟩, h4⟩ := h
  obtain ⟨p, rfl⟩ := toB_of_right h1
  obtain ⟨q, rfl⟩ := toB_of_right h2
  rw [ofB_toB, ofB_toB] at h4
  have h5 : 0 < q := by have h6 : sg q = 1 := h3; have := sg_cases q; omega
  obtain ⟨d, rfl⟩ := Int.eq_ofNat_of_zero_le (Int.le_of_lt h5)
  refine ⟨⟨p, d, by omega, ?_⟩, rfl⟩
  rwa [Int.natAbs_natCast] at h4
theorem one_ev {x : Int} {k : Nat} (h : Sm k x) (hk : k < 1099511627776) : Ev (fun n => frac_one n (toB x)) (decide (x = 1)) := by
  unfold frac_one
  refine Ev.bind (Int_ev h hk) ?_
  by_cases hr : -9223372036854775808 ≤ x ∧ x ≤ 9223372036854775807
  · rw [if_pos hr]
    exact Ev.bind (a := decide (x = 1)) (Ev.then rfl ((Ev.pure _).eq (by by_cases hx : x = 1 <;> simp [hx]))) (Ev.pure _)
  · rw [if_neg hr]
    refine Ev.bind (a := decide (x = 1)) (Ev.else rfl ((Ev.pure _).eq ?_)) (Ev.pure _)
    rw [decide_eq_false (by omega)]
theorem gcd_sm2 {p q : Int} {k : Nat} (hp : Sm k p) (hq : Sm k q) : Sm k ((Nat.gcd p.natAbs q.natAbs : Nat) : Int) := by
  by_cases h0 : p.natAbs = 0
  · rw [h0, Nat.gcd_zero_left]; exact hq.le (by omega)
  · exact hp.le (by have := Nat.gcd_le_left q.natAbs (Nat.pos_of_ne_zero h0); omega)
theorem FRight_ev {f : Frac} {k : Nat} (hp : f.P.Digits.length ≤ k) (hq : f.Q.Digits.length ≤ k) (hk : k < 8388608) : Ev (fun n => frac_Right n f) (rightf f) := by
  unfold frac_Right
  refine Ev.bind (Right_ev (a := f.P) (by omega)) ?_
  cases hP : rightb f.P with
  | false => exact Ev.bind (a := true) (Ev.then rfl (Ev.pure _)) (Ev.bind (a := true) (Ev.then rfl (Ev.pure _)) (Ev.then rfl ((Ev.pure _).eq (by unfold rightf; rw [hP]; rfl))))
  | true =>
    refine Ev.bind (a := !rightb f.Q) (Ev.else rfl (Ev.bind (Right_ev (a := f.Q) (by omega)) (Ev.pure _))) ?_
    cases hQ : rightb f.Q with
    | false => exact Ev.bind (a := true) (Ev.then rfl (Ev.pure _)) (Ev.then rfl ((Ev.pure _).eq (by unfold rightf; rw [hP, hQ]; rfl)))
    | true =>
      refine Ev.bind (a := f.Q.Sign != 1) (Ev.else rfl (Ev.pure _)) ?_
      by_cases hs : f.Q.Sign = 1
      · refine Ev.else (by simp [hs]) ?_
        obtain ⟨P, Q⟩ := f
        obtain ⟨p, rfl⟩ := toB_of_right hP
        obtain ⟨q, rfl⟩ := toB_of_right hQ
        have hp' : Sm k p := sm_of_len hp
        have hq' : Sm k q := sm_of_len hq
        refine Ev.bind (Gcd_ev hp' hq' hk) ?_
        refine Ev.bind (a := decide (Nat.gcd p.natAbs q.natAbs = 1)) (Ev.then rfl (Ev.bind ((one_ev (gcd_sm2 hp' hq') (by omega)).eq (s := decide (Nat.gcd p.natAbs q.natAbs = 1)) ?_) (Ev.pure _))) ((Ev.pure _).eq ?_)
        · by_cases hg : Nat.gcd p.natAbs q.natAbs = 1
          · rw [decide_eq_true hg, decide_eq_true (by omega)]
          · rw [decide_eq_false hg, decide_eq_false (by omega)]
        · unfold rightf
          rw [hP, hQ, ofB_toB, ofB_toB, hs]
          by_cases hg : Nat.gcd p.natAbs q.natAbs = 1 <;> simp [hg]
      · refine Ev.then (by simpa using hs) ((Ev.pure _).eq ?_)
        unfold rightf
        rw [hP, hQ]
        simp [hs]
theorem toF_len {r : Rat} {k : Nat} (h : SmF k r) : (toF r).P.Digits.length ≤ k ∧ (toF r).Q.Digits.length ≤ k := ⟨len_of_sm h.1, len_of_sm h.2⟩
theorem FRight_toF {r : Rat} {k : Nat} (h : SmF k r) (hk : k < 8388608) : Ev (fun n => frac_Right n (toF r)) true := (FRight_ev (toF_len h).1 (toF_len h).2 hk).eq (rightf_toF r)

/- New -/
section
variable {p q : Int} {k : Nat} (hp : Sm k p) (hq : Sm k q) (hk : k < 8388608)
include hp hq hk
theorem New_core (h0 : 0 < q) : Ev (fun n =>
   (big_Gcd n (toB p) (toB q)).bind fun v8 =>
   (big_Div n (toB p) (⟨v8.1.Sign, v8.1.Digits⟩ : Big)).bind fun v9 =>
   (big_Div n (toB q) (⟨v8.1.Sign, v8.1.Digits⟩ : Big)).bind fun v10 =>
   some ((⟨(⟨v9.1.Sign, v9.1.Digits⟩ : Big), (⟨v10.1.Sign, v10.1.Digits⟩ : Big)⟩ : Frac), (0 : Int))) (toF (Rat.divInt p q), 0) := by
  have hg : 0 < Nat.gcd p.natAbs q.natAbs := Nat.gcd_pos_of_pos_right _ (by omega)
  have hgs := gcd_sm2 hp hq
  obtain ⟨e1, e2⟩ := divInt_pos (p := p) h0
  refine Ev.bind (Gcd_ev hp hq hk) ?_
  refine Ev.bind (Div_ev hp hgs hk (by omega)) ?_
  refine Ev.bind (Div_ev hq hgs hk (by omega)) ((Ev.pure _).eq ?_)
  unfold toF
  rw [e1, e2, ← dq_pos (by omega), ← dq_pos (by omega)]
theorem FNew_ev (h0 : q ≠ 0) : Ev (fun n => frac_New n (toB p) (toB q)) (toF (Rat.divInt p q), 0) := by
  unfold frac_New
  refine Ev.bind (Right_toB hp (by omega)) ?_
  refine Ev.bind (a := false) (Ev.else rfl (Ev.bind (Right_toB hq (by omega)) (Ev.pure _))) ?_
  refine Ev.else rfl ?_
  refine Ev.else (by show (sg q == 0) = false; rw [sg_zero_iff]; simpa using h0) ?_
  by_cases hn : q < 0
  · refine Ev.then (by show decide (sg q < 0) = true; rw [sg_neg hn]; rfl) ?_
    refine Ev.bind (Neg_ev hp (by omega)) (Ev.bind (Neg_ev hq (by omega)) ?_)
    rw [divInt_neg2]
    exact New_core hp.neg hq.neg hk (by omega)
  · refine Ev.else (by show decide (sg q < 0) = false; rw [sg_pos (by omega)]; rfl) ?_
    exact New_core hp hq hk (by omega)
omit hq in
theorem FNew_zero : Ev (fun n => frac_New n (toB p) (toB 0)) (zeroF, 14) := by
  unfold frac_New
  refine Ev.bind (Right_toB hp (by omega)) ?_
  refine Ev.bind (a := false) (Ev.else rfl (Ev.bind (Right_toB (x := 0) (k := 1) (by unfold Sm; decide) (by decide)) (Ev.pure _))) ?_
  refine Ev.else rfl ?_
  exact Ev.then rfl (Ev.pure _)
omit hk in
theorem times_ev (hk : k < 268435456) : Ev (fun n => frac_times n (toB p) (toB q)) (toB (p * q)) := by
  unfold frac_times
  exact Ev.bind (Mul_ev hp hq hk) (Ev.pure _)
end
theorem slim_ev {x : Int} {k : Nat} (h : Sm k x) (hk : k < 1073741824) : Ev (fun n => frac_slim n (toB x)) (toB x) := by
  unfold frac_slim
  exact Ev.bind (Neg_ev h hk) (Ev.bind (Neg_ev h.neg hk) ((Ev.pure _).eq (by rw [Int.neg_neg])))

section
variable {a b : Rat} {j k : Nat} (ha : SmF j a) (hb : SmF k b) (hk : j + k < 4000000)
include ha hb hk
theorem times_PQ : Ev (fun n => frac_times n (⟨(toF a).P.Sign, (toF a).P.Digits⟩ : Big) (⟨(toF b).Q.Sign, (toF b).Q.Digits⟩ : Big)) (toB (a.num * b.den)) :=
  times_ev (ha.1.mono (by omega : j ≤ j + k)) (hb.2.mono (by omega : k ≤ j + k)) (by omega)
theorem times_QP : Ev (fun n => frac_times n (⟨(toF a).Q.Sign, (toF a).Q.Digits⟩ : Big) (⟨(toF b).P.Sign, (toF b).P.Digits⟩ : Big)) (toB (a.den * b.num)) :=
  times_ev (ha.2.mono (by omega : j ≤ j + k)) (hb.1.mono (by omega : k ≤ j + k)) (by omega)
theorem times_PP : Ev (fun n => frac_times n (⟨(toF a).P.Sign, (toF a).P.Digits⟩ : Big) (⟨(toF b).P.Sign, (toF b).P.Digits⟩ : Big)) (toB (a.num * b.num)) :=
  times_ev (ha.1.mono (by omega : j ≤ j + k)) (hb.1.mono (by omega : k ≤ j + k)) (by omega)
theorem times_QQ : Ev (fun n => frac_times n (⟨(toF a).Q.Sign, (toF a).Q.Digits⟩ : Big) (⟨(toF b).Q.Sign, (toF b).Q.Digits⟩ : Big)) (toB ((a.den : Int) * b.den)) :=
  times_ev (ha.2.mono (by omega : j ≤ j + k)) (hb.2.mono (by omega : k ≤ j + k)) (by omega)
end
theorem toF_neg (b : Rat) : toF (-b) = ⟨toB (-b.num), toB (b.den : Int)⟩ := rfl

/- the operations -/
section
variable {a b : Rat} {j k : Nat} (ha : SmF j a) (hb : SmF k b) (hk : j + k < 4000000)
include ha hb hk
theorem FAdd_ev : Ev (fun n => frac_Add n (toF a) (toF b)) (toF (a + b), 0) := by
  have m1 : Sm (j + k + 1) (a.num * b.den) := (ha.1.mul hb.2).mono (by omega)
  have m2 : Sm (j + k + 1) (b.num * a.den) := (hb.1.mul ha.2).mono (by omega)
  have m3 : Sm (j + k + 1) ((a.den : Int) * b.den) := (ha.2.mul hb.2).mono (by omega)
  have m4 : Sm (j + k + 1) (a.num * b.den + b.num * a.den) := (ha.1.mul hb.2).add ((hb.1.mul ha.2).mono (by omega))
  unfold frac_Add
  refine Ev.bind (FRight_toF ha (by omega)) ?_
  refine Ev.bind (a := false) (Ev.else rfl (Ev.bind (FRight_toF hb (by omega)) (Ev.pure _))) ?_
  refine Ev.else rfl ?_
  refine Ev.bind (a := (sg (a.num * b.den + b.num * a.den), dig (a.num * b.den + b.num * a.den).natAbs)) ?_ ?_
  · refine Ev.bind (times_PQ ha hb hk) ?_
    refine Ev.bind (times_PQ hb ha (by omega)) ?_
    exact Ev.bind (Add_ev m1 m2 (by omega)) (Ev.pure _)
  · refine Ev.bind (times_QQ ha hb hk) ?_
    refine Ev.bind (FNew_ev m4 m3 (by omega) (mul_ne (den_ne a) (den_ne b))) ((Ev.pure _).eq ?_)
    rw [rat_add]
theorem FMul_ev : Ev (fun n => frac_Mul n (toF a) (toF b)) (toF (a * b), 0) := by
  unfold frac_Mul
  refine Ev.bind (FRight_toF ha (by omega)) ?_
  refine Ev.bind (a := false) (Ev.else rfl (Ev.bind (FRight_toF hb (by omega)) (Ev.pure _))) ?_
  refine Ev.else rfl ?_
  refine Ev.bind (times_PP ha hb hk) ?_
  refine Ev.bind (times_QQ ha hb hk) ?_
  refine Ev.bind (FNew_ev (ha.1.mul hb.1) (ha.2.mul hb.2) (by omega) (mul_ne (den_ne a) (den_ne b))) ((Ev.pure _).eq ?_)
  rw [rat_mul]
theorem FSub_ev : Ev (fun n => frac_Sub n (toF a) (toF b)) (toF (a - b), 0) := by
  unfold frac_Sub
  refine Ev.bind (FRight_toF ha (by omega)) ?_
  refine Ev.bind (a := false) (Ev.else rfl (Ev.bind (FRight_toF hb (by omega)) (Ev.pure _))) ?_
  refine Ev.else rfl ?_
  refine Ev.bind (Neg_ev hb.1 (by omega)) ?_
  have h := FAdd_ev ha hb.neg hk
  rw [toF_neg, ← Rat.sub_eq_add_neg] at h
  exact Ev.bind h (Ev.pure _)
theorem FDiv_ev (h0 : b.num ≠ 0) : Ev (fun n => frac_Div n (toF a) (toF b)) (toF (a / b), 0) := by
  unfold frac_Div
  refine Ev.bind (FRight_toF ha (by omega)) ?_
  refine Ev.bind (a := false) (Ev.else rfl (Ev.bind (FRight_toF hb (by omega)) (Ev.pure _))) ?_
  refine Ev.else rfl ?_
  refine Ev.else (by show (sg b.num == 0) = false; rw [sg_zero_iff]; simpa using h0) ?_
  refine Ev.bind (times_PQ ha hb hk) ?_
  refine Ev.bind (times_QP ha hb hk) ?_
  refine Ev.bind (FNew_ev (ha.1.mul hb.2) (ha.2.mul hb.1) (by omega) (mul_ne (den_ne a) h0)) ((Ev.pure _).eq ?_)
  rw [rat_div]
theorem FDiv_zero (h0 : b.num = 0) : Ev (fun n => frac_Div n (toF a) (toF b)) (zeroF, 14) := by
  unfold frac_Div
  refine Ev.bind (FRight_toF ha (by omega)) ?_
  refine Ev.bind (a := false) (Ev.else rfl (Ev.bind (FRight_toF hb (by omega)) (Ev.pure _))) ?_
  refine Ev.else rfl ?_
  exact Ev.then (by show (sg b.num == 0) = true; rw [h0]; rfl) (Ev.pure _)
end
/-- the order of two fractions -/
def cmpQ (a b : Rat) : Int := sg (a.num * b.den - b.num * a.den)
theorem cmpQ_lt {a b : Rat} (h : a < b) : cmpQ a b = -1 := by
  have := Rat.lt_iff a b
  exact sg_neg (by have := this.1 h; omega)
theorem cmpQ_gt {a b : Rat} (h : b < a) : cmpQ a b = 1 := by
  have := Rat.lt_iff b a
  exact sg_pos (by have := this.1 h; omega)
theorem cmpQ_self (a : Rat) : cmpQ a a = 0 := by unfold cmpQ; rw [Int.sub_self]; rfl
theorem cmpQ_cases (a b : Rat) : (a < b ∧ cmpQ a b = -1) ∨ (a = b ∧ cmpQ a b = 0) ∨ (b < a ∧ cmpQ a b = 1) := by
  by_cases h : a < b
  · exact .inl ⟨h, cmpQ_lt h⟩
  · by_cases h2 : b < a
    · exact .inr (.inr ⟨h2, cmpQ_gt h2⟩)
    · have e : a = b := Rat.le_antisymm (Rat.not_lt.1 h2) (Rat.not_lt.1 h)
      exact .inr (.inl ⟨e, by rw [e]; exact cmpQ_self b⟩)
section
variable {a b : Rat} {j k : Nat} (ha : SmF j a) (hb : SmF k b) (hk : j + k < 4000000)
include ha hb hk
theorem FCompare_ev : Ev (fun n => frac_Compare n (toF a) (toF b)) (cmpQ a b) := by
  unfold frac_Compare
  refine Ev.bind (FRight_toF ha (by omega)) ?_
  refine Ev.bind (a := false) (Ev.else rfl (Ev.bind (FRight_toF hb (by omega)) (Ev.pure _))) ?_
  refine Ev.else rfl ?_
  refine Ev.bind (times_PQ ha hb hk) ?_
  refine Ev.bind (times_PQ hb ha (by omega)) ?_
  exact Ev.bind (Compare_ev (ha.1.mul hb.2) ((hb.1.mul ha.2).mono (by omega)) (by omega)) (Ev.pure _)
theorem FEither_ev (s : Int) (hs : s = 1 ∨ s = -1) : Ev (fun n => frac_either n (toF a) (toF b) s) (toF (if cmpQ a b * s < 0 then b else a), 0) := by
  unfold frac_either
  refine Ev.bind (FRight_toF ha (by omega)) ?_
  refine Ev.bind (a := false) (Ev.else rfl (Ev.bind (FRight_toF hb (by omega)) (Ev.pure _))) ?_
  refine Ev.else rfl ?_
  refine Ev.bind (FCompare_ev ha hb hk) ?_
  have hr := sg_range (a.num * b.den - b.num * a.den)
  have e : imul .i64 (cmpQ a b) s = cmpQ a b * s := by
    have h1 : -1 ≤ cmpQ a b := hr.1
    have h2 : cmpQ a b ≤ 1 := hr.2
    exact imul_i64 (by rcases hs with rfl | rfl <;> omega) (by rcases hs with rfl | rfl <;> omega)
  rw [e]
  by_cases h : cmpQ a b * s < 0
  · rw [if_pos h]
    refine Ev.bind (Ev.then (decide_eq_true h) (Ev.pure _)) ?_
    exact Ev.bind (slim_ev hb.1 (by omega)) (Ev.bind (slim_ev hb.2 (by omega)) (Ev.pure _))
  · rw [if_neg h]
    refine Ev.bind (Ev.else (decide_eq_false h) (Ev.pure _)) ?_
    exact Ev.bind (slim_ev ha.1 (by omega)) (Ev.bind (slim_ev ha.2 (by omega)) (Ev.pure _))
theorem FMin_ev : Ev (fun n => frac_Min n (toF a) (toF b)) (toF (if b < a then b else a), 0) := by
  unfold frac_Min
  refine Ev.bind (FEither_ev ha hb hk (-1) (.inr rfl)) ((Ev.pure _).eq ?_)
  rcases cmpQ_cases a b with ⟨h, e⟩ | ⟨h, e⟩ | ⟨h, e⟩
  · rw [e, if_neg (by decide), if_neg (by grind)]
  · rw [e, if_neg (by decide), if_neg (by grind)]
  · rw [e, if_pos (by decide), if_pos h]
theorem FMax_ev : Ev (fun n => frac_Max n (toF a) (toF b)) (toF (if a < b then b else a), 0) := by
  unfold frac_Max
  refine Ev.bind (FEither_ev ha hb hk 1 (.inl rfl)) ((Ev.pure _).eq ?_)
  rcases cmpQ_cases a b with ⟨h, e⟩ | ⟨h, e⟩ | ⟨h, e⟩
  · rw [e, if_pos (by decide), if_pos h]
  · rw [e, if_neg (by decide), if_neg (by grind)]
  · rw [e, if_neg (by decide), if_neg (by grind)]
end
section
variable {a : Rat} {k : Nat} (ha : SmF k a) (hk : k < 4000000)
include ha hk
theorem FNeg_ev : Ev (fun n => frac_Neg n (toF a)) (toF (-a)) := by
  unfold frac_Neg
  refine Ev.bind (FRight_toF ha (by omega)) (Ev.else rfl ?_)
  exact Ev.bind (Neg_ev ha.1 (by omega)) (Ev.bind (slim_ev ha.2 (by omega)) (Ev.pure _))
theorem FSign_ev : Ev (fun n => frac_Sign n (toF a)) (sg a.num) := by
  unfold frac_Sign
  exact Ev.bind (FRight_toF ha (by omega)) (Ev.else rfl (Ev.pure _))
theorem FFloor_ev : Ev (fun n => frac_Floor n (toF a)) (toB (a.num / a.den)) := by
  unfold frac_Floor
  refine Ev.bind (FRight_toF ha (by omega)) (Ev.else rfl ?_)
  refine Ev.bind (Div_ev ha.1 ha.2 (by omega) (den_ne a)) ((Ev.pure _).eq ?_)
  rw [← dq_pos (den_pos a)]
end
theorem FInt_ev {x : Int} (h1 : -9223372036854775808 ≤ x) (h2 : x ≤ 9223372036854775807) : Ev (fun n => frac_Int n x) (toF (x : Rat)) := by
  unfold frac_Int
  refine Ev.bind (Of_ev h1 h2) (Ev.bind Of1_ev ((Ev.pure _).eq ?_))
  unfold toF
  rw [Rat.num_intCast, Rat.den_intCast]; rfl
theorem FOf_ev {x y : Int} (h1 : -9223372036854775808 ≤ x) (h2 : x ≤ 9223372036854775807) (h3 : -9223372036854775808 ≤ y) (h4 : y ≤ 9223372036854775807) (h0 : y ≠ 0) : Ev (fun n => frac_Of n x y) (toF (Rat.divInt x y), 0) := by
  have s1 : Sm 4 x := sm_of_len (len64 (by omega))
  have s2 : Sm 4 y := sm_of_len (len64 (by omega))
  unfold frac_Of
  exact Ev.bind (Of_ev h1 h2) (Ev.bind (Of_ev h3 h4) (Ev.bind (FNew_ev s1 s2 (by decide) h0) (Ev.pure _)))
theorem FOf_zero {x : Int} (h1 : -9223372036854775808 ≤ x) (h2 : x ≤ 9223372036854775807) : Ev (fun n => frac_Of n x 0) (zeroF, 14) := by
  have s1 : Sm 4 x := sm_of_len (len64 (by omega))
  unfold frac_Of
  exact Ev.bind (Of_ev h1 h2) (Ev.bind Of0_ev (Ev.bind (FNew_zero s1 (by decide)) (Ev.pure _)))
/- comparing -/
theorem FQSame_ev {f g : Frac} (hp : f.P.Digits.length < 1099511627776) (hq : f.Q.Digits.length < 1099511627776) : Ev (fun n => ref05_Same n f g) (decide (f = g)) := by
  unfold ref05_Same
  refine Ev.bind (QSame_ev (a := f.P) (b := g.P) hp) ?_
  obtain ⟨P, Q⟩ := f
  obtain ⟨P', Q'⟩ := g
  refine Ev.bind (a := decide ((⟨P, Q⟩ : Frac) = ⟨P', Q'⟩)) ?_ (Ev.pure _)
  by_cases h : P = P'
  · subst h
    refine Ev.then (by simp) (Ev.bind (QSame_ev (a := Q) (b := Q') hq) ((Ev.pure _).eq (by simp)))
  · exact Ev.else (by simpa using h) ((Ev.pure _).eq (by simp [h]))
theorem toF_inj {a b : Rat} (h : toF a = toF b) : a = b := by
  unfold toF at h
  injection h with h1 h2
  exact Rat.ext (toB_inj h1) (by have := toB_inj h2; omega)
theorem FQSame_toF {a b : Rat} {k : Nat} (h : SmF k a) (hk : k < 4000000) : Ev (fun n => ref05_Same n (toF a) (toF b)) (decide (a = b)) := by
  have := toF_len h
  refine (FQSame_ev (f := toF a) (g := toF b) (by omega) (by omega)).eq ?_
  by_cases e : a = b
  · simp [e]
  · have : toF a ≠ toF b := fun h => e (toF_inj h)
    simp [e, this]
theorem FQSame_yes {a b : Rat} {k : Nat} (h : SmF k a) (hk : k < 4000000) (e : a = b) : Ev (fun n => ref05_Same n (toF a) (toF b)) true := (FQSame_toF h hk).eq (by simp [e])
end Go.Proofs.YtaanocaobllohaaGreatDoor.D
