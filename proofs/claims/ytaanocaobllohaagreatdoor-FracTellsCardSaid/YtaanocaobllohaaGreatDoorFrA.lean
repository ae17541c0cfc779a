/-
  FRACTIONS: the rational numbers of Lean, as the program keeps them; what each function returns of them, first part.
-/
import Derived.Test.YtaanocaobllohaaGreatDoorEvK
import Derived.Test.YtaanocaobllohaaGreatDoorFrSame
namespace Go.Proofs.YtaanocaobllohaaGreatDoor.D
open Go Rt M
def toF (r : Rat) : Frac := ⟨toB r.num, toB (r.den : Int)⟩
def SmF (k : Nat) (r : Rat) : Prop := Sm k r.num ∧ Sm k (r.den : Int)
def zeroF : Frac := ⟨⟨0, []⟩, ⟨0, []⟩⟩
theorem b5q (r : Rat) : 0 < (r.den : Int) := by have := r.den_nz; omega
/- what is known of Lean's rational numbers -/
theorem b1s {p q : Int} (hq : 0 < q) : (Rat.divInt p q).num = p / ((Nat.gcd p.natAbs q.natAbs : Nat) : Int) ∧ ((Rat.divInt p q).den : Int) = q / ((Nat.gcd p.natAbs q.natAbs : Nat) : Int) := by
  obtain ⟨d, rfl⟩ := Int.eq_ofNat_of_zero_le (Int.le_of_lt hq)
  have hd : d ≠ 0 := by omega
  rw [Rat.divInt_ofNat, Rat.mkRat_def, dif_neg hd, Rat.normalize_eq, Int.natAbs_natCast]
  exact ⟨rfl, Int.natCast_ediv _ _⟩
theorem b9g (a b : Rat) : a + b = Rat.divInt (a.num * b.den + b.num * a.den) (a.den * b.den) := by
  conv => lhs; rw [← Rat.num_divInt_den a, ← Rat.num_divInt_den b]
  rw [Rat.divInt_add_divInt _ _ (by have := b5q a; omega) (by have := b5q b; omega)]
theorem c1c (a b : Rat) : a * b = Rat.divInt (a.num * b.num) (a.den * b.den) := by
  conv => lhs; rw [← Rat.num_divInt_den a, ← Rat.num_divInt_den b]
  rw [Rat.divInt_mul_divInt]
theorem c1p (a b : Rat) : a / b = Rat.divInt (a.num * b.den) (a.den * b.num) := by
  rw [Rat.div_def]
  conv => lhs; rw [← Rat.num_divInt_den a, ← Rat.num_divInt_den b]
  rw [Rat.inv_divInt, Rat.divInt_mul_divInt]
theorem b8r {x y : Int} (hy : 0 < y) : dq x y = x / y := by
  obtain ⟨h1, h2, h3⟩ := d0y (x := x) (y := y) (by omega)
  have h4 : 0 ≤ dr x y ∧ dr x y < y := by
    rcases h2 with h | h
    · omega
    · rw [a3n hy] at h
      have := a1r (dr x y)
      omega
  generalize dq x y = q at *
  generalize dr x y = r at *
  rw [← h1, Int.add_comm, Int.add_mul_ediv_right _ _ (by omega), Int.ediv_eq_zero_of_lt h4.1 h4.2]; omega
theorem b6x {x y : Int} {k : Nat} (h : Sm k x) : Sm k (x / y) := h.le (Int.natAbs_ediv_le_natAbs x y)
theorem b4l (p q : Int) : Rat.divInt p q = Rat.divInt (-p) (-q) := (Rat.neg_divInt_neg p q).symm
theorem b1q {p q : Int} {k : Nat} (hp : Sm k p) (hq : Sm k q) (h0 : q ≠ 0) : SmF k (Rat.divInt p q) := by
  by_cases hn : q < 0
  · rw [b4l]
    obtain ⟨e1, e2⟩ := b1s (p := -p) (q := -q) (by omega)
    exact ⟨by rw [e1]; exact b6x hp.neg, by rw [e2]; exact b6x hq.neg⟩
  · obtain ⟨e1, e2⟩ := b1s (p := p) (q := q) (by omega)
    exact ⟨by rw [e1]; exact b6x hp, by rw [e2]; exact b6x hq⟩
theorem b4b {x y : Int} (hx : x ≠ 0) (hy : y ≠ 0) : x * y ≠ 0 := Int.mul_ne_zero hx hy
theorem a7x (r : Rat) : (r.den : Int) ≠ 0 := by have := b5q r; omega
theorem SmF.add {j k : Nat} {a b : Rat} (ha : SmF j a) (hb : SmF k b) : SmF (j + k + 1) (a + b) := by
  rw [b9g]
  exact b1q ((ha.1.mul hb.2).add ((hb.1.mul ha.2).mono (by omega))) ((ha.2.mul hb.2).mono (by omega)) (b4b (a7x a) (a7x b))
theorem SmF.mul {j k : Nat} {a b : Rat} (ha : SmF j a) (hb : SmF k b) : SmF (j + k) (a * b) := by
  rw [c1c]
  exact b1q (ha.1.mul hb.1) (ha.2.mul hb.2) (b4b (a7x a) (a7x b))
theorem SmF.neg {k : Nat} {a : Rat} (ha : SmF k a) : SmF k (-a) := ⟨by rw [Rat.neg_num]; exact ha.1.neg, by rw [Rat.neg_den]; exact ha.2⟩
theorem SmF.sub {j k : Nat} {a b : Rat} (ha : SmF j a) (hb : SmF k b) : SmF (j + k + 1) (a - b) := by rw [Rat.sub_eq_add_neg]; exact ha.add hb.neg
/- which fractions are right -/
def ofB (a : Big) : Int := a.Sign * val a.Digits
theorem b1k (x : Int) : ofB (toB x) = x := by unfold ofB toB; rw [a2c, b7d]
def a4l (f : Frac) : Bool := a7j f.P && a7j f.Q && (f.Q.Sign == 1) && (Nat.gcd (ofB f.P).natAbs (ofB f.Q).natAbs == 1)
theorem b5s (r : Rat) : a4l (toF r) = true := by
  unfold a4l toF
  simp only
  rw [b3p, b3p, b1k, b1k]
  have h1 : (toB (r.den : Int)).Sign = 1 := a3n (b5q r)
  rw [h1, Int.natAbs_natCast]
  have h2 : Nat.gcd r.num.natAbs r.den = 1 := r.reduced
  rw [h2]; rfl
theorem b1y {f : Frac} (h : a4l f = true) : ∃ r, f = toF r := by
  obtain ⟨P, Q⟩ := f
  unfold a4l at h
  simp only [Bool.and_eq_true, beq_iff_eq] at h
  obtain ⟨⟨⟨h1, h2⟩, h3⟩, h4⟩ := h
  obtain ⟨p, rfl⟩ := a5t h1
  obtain ⟨q, rfl⟩ := a5t h2
  rw [b1k, b1k] at h4
  have h5 : 0 < q := by have h6 : sg q = 1 := h3; have := a1r q; omega
  obtain ⟨d, rfl⟩ := Int.eq_ofNat_of_zero_le (Int.le_of_lt h5)
  refine ⟨⟨p, d, by omega, ?_⟩, rfl⟩
  rwa [Int.natAbs_natCast] at h4
theorem d0n {x : Int} {k : Nat} (h : Sm k x) (hk : k < 1099511627776) : Ev (fun n => b4n n (toB x)) (decide (x = 1)) := by
  unfold b4n
  refine Ev.bind (c9z h hk) ?_
  by_cases hr : -9223372036854775808 ≤ x ∧ x ≤ 9223372036854775807
  · rw [if_pos hr]
    exact Ev.bind (a := decide (x = 1)) (Ev.then rfl ((Ev.pure _).eq (by by_cases hx : x = 1 <;> simp [hx]))) (Ev.pure _)
  · rw [if_neg hr]
    refine Ev.bind (a := decide (x = 1)) (Ev.else rfl ((Ev.pure _).eq ?_)) (Ev.pure _)
    rw [decide_eq_false (by omega)]
theorem b8y {p q : Int} {k : Nat} (hp : Sm k p) (hq : Sm k q) : Sm k ((Nat.gcd p.natAbs q.natAbs : Nat) : Int) := by
  by_cases h0 : p.natAbs = 0
  · rw [h0, Nat.gcd_zero_left]; exact hq.le (by omega)
  · exact hp.le (by have := Nat.gcd_le_left q.natAbs (Nat.pos_of_ne_zero h0); omega)
theorem b4x {f : Frac} {k : Nat} (hp : f.P.Digits.length ≤ k) (hq : f.Q.Digits.length ≤ k) (hk : k < 8388608) : Ev (fun n => a2n n f) (a4l f) := by
  unfold a2n
  refine Ev.bind (b4u (a := f.P) (by omega)) ?_
  cases hP : a7j f.P with
  | false => exact Ev.bind (a := true) (Ev.then rfl (Ev.pure _)) (Ev.bind (a := true) (Ev.then rfl (Ev.pure _)) (Ev.then rfl ((Ev.pure _).eq (by unfold a4l; rw [hP]; rfl))))
  | true =>
    refine Ev.bind (a := !rightb f.Q) (Ev.else rfl (Ev.bind (b4u (a := f.Q) (by omega)) (Ev.pure _))) ?_
    cases hQ : a7j f.Q with
    | false => exact Ev.bind (a := true) (Ev.then rfl (Ev.pure _)) (Ev.then rfl ((Ev.pure _).eq (by unfold a4l; rw [hP, hQ]; rfl)))
    | true =>
      refine Ev.bind (a := f.Q.Sign != 1) (Ev.else rfl (Ev.pure _)) ?_
      by_cases hs : f.Q.Sign = 1
      · refine Ev.else (by simp [hs]) ?_
        obtain ⟨P, Q⟩ := f
        obtain ⟨p, rfl⟩ := a5t hP
        obtain ⟨q, rfl⟩ := a5t hQ
        have hp' : Sm k p := a3d hp
        have hq' : Sm k q := a3d hq
        refine Ev.bind (c7c hp' hq' hk) ?_
        refine Ev.bind (a := decide (Nat.gcd p.natAbs q.natAbs = 1)) (Ev.then rfl (Ev.bind ((d0n (b8y hp' hq') (by omega)).eq (s := decide (Nat.gcd p.natAbs q.natAbs = 1)) ?_) (Ev.pure _))) ((Ev.pure _).eq ?_)
        · by_cases hg : Nat.gcd p.natAbs q.natAbs = 1
          · rw [decide_eq_true hg, decide_eq_true (by omega)]
          · rw [decide_eq_false hg, decide_eq_false (by omega)]
        · unfold a4l
          rw [hP, hQ, b1k, b1k, hs]
          by_cases hg : Nat.gcd p.natAbs q.natAbs = 1 <;> simp [hg]
      · refine Ev.then (by simpa using hs) ((Ev.pure _).eq ?_)
        unfold a4l
        rw [hP, hQ]
        simp [hs]
theorem b7m {r : Rat} {k : Nat} (h : SmF k r) : (toF r).P.Digits.length ≤ k ∧ (toF r).Q.Digits.length ≤ k := ⟨a1t h.1, a1t h.2⟩
theorem a3h {r : Rat} {k : Nat} (h : SmF k r) (hk : k < 8388608) : Ev (fun n => a2n n (toF r)) true := (b4x (b7m h).1 (b7m h).2 hk).eq (b5s r)
/- New -/
section
variable {p q : Int} {k : Nat} (hp : Sm k p) (hq : Sm k q) (hk : k < 8388608)
include hp hq hk
theorem c2u (h0 : 0 < q) : Ev (fun n =>
   (b2y n (toB p) (toB q)).bind fun v8 =>
   (b0n n (toB p) (⟨v8.1.Sign, v8.1.Digits⟩ : Big)).bind fun v9 =>
   (b0n n (toB q) (⟨v8.1.Sign, v8.1.Digits⟩ : Big)).bind fun v10 =>
   some ((⟨(⟨v9.1.Sign, v9.1.Digits⟩ : Big), (⟨v10.1.Sign, v10.1.Digits⟩ : Big)⟩ : Frac), (0 : Int))) (toF (Rat.divInt p q), 0) := by
  have hg : 0 < Nat.gcd p.natAbs q.natAbs := Nat.gcd_pos_of_pos_right _ (by omega)
  have hgs := b8y hp hq
  obtain ⟨e1, e2⟩ := b1s (p := p) h0
  refine Ev.bind (c7c hp hq hk) ?_
  refine Ev.bind (c5b hp hgs hk (by omega)) ?_
  refine Ev.bind (c5b hq hgs hk (by omega)) ((Ev.pure _).eq ?_)
  unfold toF
  rw [e1, e2, ← b8r (by omega), ← b8r (by omega)]
theorem b7e (h0 : q ≠ 0) : Ev (fun n => a7f n (toB p) (toB q)) (toF (Rat.divInt p q), 0) := by
  unfold a7f
  refine Ev.bind (a4d hp (by omega)) ?_
  refine Ev.bind (a := false) (Ev.else rfl (Ev.bind (a4d hq (by omega)) (Ev.pure _))) ?_
  refine Ev.else rfl ?_
  refine Ev.else (by show (sg q == 0) = false; rw [b0e]; simpa using h0) ?_
  by_cases hn : q < 0
  · refine Ev.then (by show decide (sg q < 0) = true; rw [a3x hn]; rfl) ?_
    refine Ev.bind (b8u hp (by omega)) (Ev.bind (b8u hq (by omega)) ?_)
    rw [b4l]
    exact c2u hp.neg hq.neg hk (by omega)
  · refine Ev.else (by show decide (sg q < 0) = false; rw [a3n (by omega)]; rfl) ?_
    exact c2u hp hq hk (by omega)
omit hq in
theorem FNew_zero : Ev (fun n => a7f n (toB p) (toB 0)) (zeroF, 14) := by
  unfold a7f
  refine Ev.bind (a4d hp (by omega)) ?_
  refine Ev.bind (a := false) (Ev.else rfl (Ev.bind (a4d (x := 0) (k := 1) (by unfold Sm; decide) (by decide)) (Ev.pure _))) ?_
  refine Ev.else rfl ?_
  exact Ev.then rfl (Ev.pure _)
omit hk in
theorem b6i (hk : k < 268435456) : Ev (fun n => a3r n (toB p) (toB q)) (toB (p * q)) := by
  unfold a3r
  exact Ev.bind (d0f hp hq hk) (Ev.pure _)
end
theorem b8g {x : Int} {k : Nat} (h : Sm k x) (hk : k < 1073741824) : Ev (fun n => b0g n (toB x)) (toB x) := by
  unfold b0g
  exact Ev.bind (b8u h hk) (Ev.bind (b8u h.neg hk) ((Ev.pure _).eq (by rw [Int.neg_neg])))
section
variable {a b : Rat} {j k : Nat} (ha : SmF j a) (hb : SmF k b) (hk : j + k < 4000000)
include ha hb hk
theorem times_PQ : Ev (fun n => a3r n (⟨(toF a).P.Sign, (toF a).P.Digits⟩ : Big) (⟨(toF b).Q.Sign, (toF b).Q.Digits⟩ : Big)) (toB (a.num * b.den)) :=
  b6i (ha.1.mono (by omega : j ≤ j + k)) (hb.2.mono (by omega : k ≤ j + k)) (by omega)
theorem times_QP : Ev (fun n => a3r n (⟨(toF a).Q.Sign, (toF a).Q.Digits⟩ : Big) (⟨(toF b).P.Sign, (toF b).P.Digits⟩ : Big)) (toB (a.den * b.num)) :=
  b6i (ha.2.mono (by omega : j ≤ j + k)) (hb.1.mono (by omega : k ≤ j + k)) (by omega)
theorem times_PP : Ev (fun n => a3r n (⟨(toF a).P.Sign, (toF a).P.Digits⟩ : Big) (⟨(toF b).P.Sign, (toF b).P.Digits⟩ : Big)) (toB (a.num * b.num)) :=
  b6i (ha.1.mono (by omega : j ≤ j + k)) (hb.1.mono (by omega : k ≤ j + k)) (by omega)
theorem times_QQ : Ev (fun n => a3r n (⟨(toF a).Q.Sign, (toF a).Q.Digits⟩ : Big) (⟨(toF b).Q.Sign, (toF b).Q.Digits⟩ : Big)) (toB ((a.den : Int) * b.den)) :=
  b6i (ha.2.mono (by omega : j ≤ j + k)) (hb.2.mono (by omega : k ≤ j + k)) (by omega)
end
theorem c7z (b : Rat) : toF (-b) = ⟨toB (-b.num), toB (b.den : Int)⟩ := rfl
/- the operations -/
section
variable {a b : Rat} {j k : Nat} (ha : SmF j a) (hb : SmF k b) (hk : j + k < 4000000)
include ha hb hk
theorem FAdd_ev : Ev (fun n => a9m n (toF a) (toF b)) (toF (a + b), 0) := by
  have m1 : Sm (j + k + 1) (a.num * b.den) := (ha.1.mul hb.2).mono (by omega)
  have m2 : Sm (j + k + 1) (b.num * a.den) := (hb.1.mul ha.2).mono (by omega)
  have m3 : Sm (j + k + 1) ((a.den : Int) * b.den) := (ha.2.mul hb.2).mono (by omega)
  have m4 : Sm (j + k + 1) (a.num * b.den + b.num * a.den) := (ha.1.mul hb.2).add ((hb.1.mul ha.2).mono (by omega))
  unfold a9m
  refine Ev.bind (a3h ha (by omega)) ?_
  refine Ev.bind (a := false) (Ev.else rfl (Ev.bind (a3h hb (by omega)) (Ev.pure _))) ?_
  refine Ev.else rfl ?_
  refine Ev.bind (a := (sg (a.num * b.den + b.num * a.den), dig (a.num * b.den + b.num * a.den).natAbs)) ?_ ?_
  · refine Ev.bind (times_PQ ha hb hk) ?_
    refine Ev.bind (times_PQ hb ha (by omega)) ?_
    exact Ev.bind (c9h m1 m2 (by omega)) (Ev.pure _)
  · refine Ev.bind (times_QQ ha hb hk) ?_
    refine Ev.bind (b7e m4 m3 (by omega) (b4b (a7x a) (a7x b))) ((Ev.pure _).eq ?_)
    rw [b9g]
theorem FMul_ev : Ev (fun n => b0t n (toF a) (toF b)) (toF (a * b), 0) := by
  unfold b0t
  refine Ev.bind (a3h ha (by omega)) ?_
  refine Ev.bind (a := false) (Ev.else rfl (Ev.bind (a3h hb (by omega)) (Ev.pure _))) ?_
  refine Ev.else rfl ?_
  refine Ev.bind (times_PP ha hb hk) ?_
  refine Ev.bind (times_QQ ha hb hk) ?_
  refine Ev.bind (b7e (ha.1.mul hb.1) (ha.2.mul hb.2) (by omega) (b4b (a7x a) (a7x b))) ((Ev.pure _).eq ?_)
  rw [c1c]
theorem FSub_ev : Ev (fun n => b0y n (toF a) (toF b)) (toF (a - b), 0) := by
  unfold b0y
  refine Ev.bind (a3h ha (by omega)) ?_
  refine Ev.bind (a := false) (Ev.else rfl (Ev.bind (a3h hb (by omega)) (Ev.pure _))) ?_
  refine Ev.else rfl ?_
  refine Ev.bind (b8u hb.1 (by omega)) ?_
  have h := FAdd_ev ha hb.neg hk
  rw [c7z, ← Rat.sub_eq_add_neg] at h
  exact Ev.bind h (Ev.pure _)
theorem c8y (h0 : b.num ≠ 0) : Ev (fun n => a8u n (toF a) (toF b)) (toF (a / b), 0) := by
  unfold a8u
  refine Ev.bind (a3h ha (by omega)) ?_
  refine Ev.bind (a := false) (Ev.else rfl (Ev.bind (a3h hb (by omega)) (Ev.pure _))) ?_
  refine Ev.else rfl ?_
  refine Ev.else (by show (sg b.num == 0) = false; rw [b0e]; simpa using h0) ?_
  refine Ev.bind (times_PQ ha hb hk) ?_
  refine Ev.bind (times_QP ha hb hk) ?_
  refine Ev.bind (b7e (ha.1.mul hb.2) (ha.2.mul hb.1) (by omega) (b4b (a7x a) h0)) ((Ev.pure _).eq ?_)
  rw [c1p]
theorem c4x (h0 : b.num = 0) : Ev (fun n => a8u n (toF a) (toF b)) (zeroF, 14) := by
  unfold a8u
  refine Ev.bind (a3h ha (by omega)) ?_
  refine Ev.bind (a := false) (Ev.else rfl (Ev.bind (a3h hb (by omega)) (Ev.pure _))) ?_
  refine Ev.else rfl ?_
  exact Ev.then (by show (sg b.num == 0) = true; rw [h0]; rfl) (Ev.pure _)
end
/-- the order of two fractions -/
def cmpQ (a b : Rat) : Int := sg (a.num * b.den - b.num * a.den)
theorem c9b {a b : Rat} (h : a < b) : cmpQ a b = -1 := by
  have := Rat.lt_iff a b
  exact a3x (by have := this.1 h; omega)
theorem c8v {a b : Rat} (h : b < a) : cmpQ a b = 1 := by
  have := Rat.lt_iff b a
  exact a3n (by have := this.1 h; omega)
theorem c3r (a : Rat) : cmpQ a a = 0 := by unfold cmpQ; rw [Int.sub_self]; rfl
theorem b3o (a b : Rat) : (a < b ∧ cmpQ a b = -1) ∨ (a = b ∧ cmpQ a b = 0) ∨ (b < a ∧ cmpQ a b = 1) := by
  by_cases h : a < b
  · exact .inl ⟨h, c9b h⟩
  · by_cases h2 : b < a
    · exact .inr (.inr ⟨h2, c8v h2⟩)
    · have e : a = b := Rat.le_antisymm (Rat.not_lt.1 h2) (Rat.not_lt.1 h)
      exact .inr (.inl ⟨e, by rw [e]; exact c3r b⟩)
section
variable {a b : Rat} {j k : Nat} (ha : SmF j a) (hb : SmF k b) (hk : j + k < 4000000)
include ha hb hk
theorem FCompare_ev : Ev (fun n => a5b n (toF a) (toF b)) (cmpQ a b) := by
  unfold a5b
  refine Ev.bind (a3h ha (by omega)) ?_
  refine Ev.bind (a := false) (Ev.else rfl (Ev.bind (a3h hb (by omega)) (Ev.pure _))) ?_
  refine Ev.else rfl ?_
  refine Ev.bind (times_PQ ha hb hk) ?_
  refine Ev.bind (times_PQ hb ha (by omega)) ?_
  exact Ev.bind (c3m (ha.1.mul hb.2) ((hb.1.mul ha.2).mono (by omega)) (by omega)) (Ev.pure _)
theorem b8o (s : Int) (hs : s = 1 ∨ s = -1) : Ev (fun n => a6p n (toF a) (toF b) s) (toF (if cmpQ a b * s < 0 then b else a), 0) := by
  unfold a6p
  refine Ev.bind (a3h ha (by omega)) ?_
  refine Ev.bind (a := false) (Ev.else rfl (Ev.bind (a3h hb (by omega)) (Ev.pure _))) ?_
  refine Ev.else rfl ?_
  refine Ev.bind (FCompare_ev ha hb hk) ?_
  have hr := b6j (a.num * b.den - b.num * a.den)
  have e : imul .i64 (cmpQ a b) s = cmpQ a b * s := by
    have h1 : -1 ≤ cmpQ a b := hr.1
    have h2 : cmpQ a b ≤ 1 := hr.2
    exact a6l (by rcases hs with rfl | rfl <;> omega) (by rcases hs with rfl | rfl <;> omega)
  rw [e]
  by_cases h : cmpQ a b * s < 0
  · rw [if_pos h]
    refine Ev.bind (Ev.then (decide_eq_true h) (Ev.pure _)) ?_
    exact Ev.bind (b8g hb.1 (by omega)) (Ev.bind (b8g hb.2 (by omega)) (Ev.pure _))
  · rw [if_neg h]
    refine Ev.bind (Ev.else (decide_eq_false h) (Ev.pure _)) ?_
    exact Ev.bind (b8g ha.1 (by omega)) (Ev.bind (b8g ha.2 (by omega)) (Ev.pure _))
theorem FMin_ev : Ev (fun n => b1a n (toF a) (toF b)) (toF (if b < a then b else a), 0) := by
  unfold b1a
  refine Ev.bind (b8o ha hb hk (-1) (.inr rfl)) ((Ev.pure _).eq ?_)
  rcases b3o a b with ⟨h, e⟩ | ⟨h, e⟩ | ⟨h, e⟩
  · rw [e, if_neg (by decide), if_neg (by grind)]
  · rw [e, if_neg (by decide), if_neg (by grind)]
  · rw [e, if_pos (by decide), if_pos h]
theorem FMax_ev : Ev (fun n => b0v n (toF a) (toF b)) (toF (if a < b then b else a), 0) := by
  unfold b0v
  refine Ev.bind (b8o ha hb hk 1 (.inl rfl)) ((Ev.pure _).eq ?_)
  rcases b3o a b with ⟨h, e⟩ | ⟨h, e⟩ | ⟨h, e⟩
  · rw [e, if_pos (by decide), if_pos h]
  · rw [e, if_neg (by decide), if_neg (by grind)]
  · rw [e, if_neg (by decide), if_neg (by grind)]
end
section
variable {a : Rat} {k : Nat} (ha : SmF k a) (hk : k < 4000000)
include ha hk
theorem FNeg_ev : Ev (fun n => a9h n (toF a)) (toF (-a)) := by
  unfold a9h
  refine Ev.bind (a3h ha (by omega)) (Ev.else rfl ?_)
  exact Ev.bind (b8u ha.1 (by omega)) (Ev.bind (b8g ha.2 (by omega)) (Ev.pure _))
theorem FSign_ev : Ev (fun n => a8j n (toF a)) (sg a.num) := by
  unfold a8j
  exact Ev.bind (a3h ha (by omega)) (Ev.else rfl (Ev.pure _))
theorem FFloor_ev : Ev (fun n => a7q n (toF a)) (toB (a.num / a.den)) := by
  unfold a7q
  refine Ev.bind (a3h ha (by omega)) (Ev.else rfl ?_)
  refine Ev.bind (c5b ha.1 ha.2 (by omega) (a7x a)) ((Ev.pure _).eq ?_)
  rw [← b8r (b5q a)]
end
theorem c9d {x : Int} (h1 : -9223372036854775808 ≤ x) (h2 : x ≤ 9223372036854775807) : Ev (fun n => b3l n x) (toF (x : Rat)) := by
  unfold b3l
  refine Ev.bind (c6v h1 h2) (Ev.bind Of1_ev ((Ev.pure _).eq ?_))
  unfold toF
  rw [Rat.num_intCast, Rat.den_intCast]; rfl
theorem d0k {x y : Int} (h1 : -9223372036854775808 ≤ x) (h2 : x ≤ 9223372036854775807) (h3 : -9223372036854775808 ≤ y) (h4 : y ≤ 9223372036854775807) (h0 : y ≠ 0) : Ev (fun n => b1l n x y) (toF (Rat.divInt x y), 0) := by
  have s1 : Sm 4 x := a3d (b6e (by omega))
  have s2 : Sm 4 y := a3d (b6e (by omega))
  unfold b1l
  exact Ev.bind (c6v h1 h2) (Ev.bind (c6v h3 h4) (Ev.bind (b7e s1 s2 (by decide) h0) (Ev.pure _)))
theorem c5z {x : Int} (h1 : -9223372036854775808 ≤ x) (h2 : x ≤ 9223372036854775807) : Ev (fun n => b1l n x 0) (zeroF, 14) := by
  have s1 : Sm 4 x := a3d (b6e (by omega))
  unfold b1l
  exact Ev.bind (c6v h1 h2) (Ev.bind Of0_ev (Ev.bind (FNew_zero s1 (by decide)) (Ev.pure _)))
/- comparing -/
theorem c0r {f g : Frac} (hp : f.P.Digits.length < 1099511627776) (hq : f.Q.Digits.length < 1099511627776) : Ev (fun n => a3i n f g) (decide (f = g)) := by
  unfold a3i
  refine Ev.bind (b9t (a := f.P) (b := g.P) hp) ?_
  obtain ⟨P, Q⟩ := f
  obtain ⟨P', Q'⟩ := g
  refine Ev.bind (a := decide ((⟨P, Q⟩ : Frac) = ⟨P', Q'⟩)) ?_ (Ev.pure _)
  by_cases h : P = P'
  · subst h
    refine Ev.then (by simp) (Ev.bind (b9t (a := Q) (b := Q') hq) ((Ev.pure _).eq (by simp)))
  · exact Ev.else (by simpa using h) ((Ev.pure _).eq (by simp [h]))
end Go.Proofs.YtaanocaobllohaaGreatDoor.D
