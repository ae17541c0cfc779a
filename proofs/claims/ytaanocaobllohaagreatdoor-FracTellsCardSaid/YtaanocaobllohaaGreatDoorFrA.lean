/-
  FRACTIONS: the rational numbers of Lean, as the program keeps them; what each function returns of them, first part.
-/
import Derived.Test.YtaanocaobllohaaGreatDoorEvK
import Derived.Test.YtaanocaobllohaaGreatDoorFrSame
namespace Go.Proofs.YtaanocaobllohaaGreatDoor.D
open Go Rt M
def toF (r : Rat) : Frac := ⟨toB r.num, toB (r.den : Int)⟩
def SmF (k : Nat) (r : Rat) : Prop := Sm k r.num ∧ Sm k (r.den : Int)
def zeroF : Frac := ⟨⟨0, []⟩, ⟨0, []⟩⟩
theorem b5d (r : Rat) : 0 < (r.den : Int) := by have := r.den_nz; omega
theorem SmF.mono {j k : Nat} {r : Rat} (h : SmF j r) (hk : j ≤ k) : SmF k r := ⟨h.1.mono hk, h.2.mono hk⟩
/- what is known of Lean's rational numbers -/
theorem b1r {p q : Int} (hq : 0 < q) : (Rat.divInt p q).num = p / ((Nat.gcd p.natAbs q.natAbs : Nat) : Int) ∧ ((Rat.divInt p q).den : Int) = q / ((Nat.gcd p.natAbs q.natAbs : Nat) : Int) := by
  obtain ⟨d, rfl⟩ := Int.eq_ofNat_of_zero_le (Int.le_of_lt hq)
  have hd : d ≠ 0 := by omega
  rw [Rat.divInt_ofNat, Rat.mkRat_def, dif_neg hd, Rat.normalize_eq, Int.natAbs_natCast]
  exact ⟨rfl, Int.natCast_ediv _ _⟩
theorem b9x (a b : Rat) : a + b = Rat.divInt (a.num * b.den + b.num * a.den) (a.den * b.den) := by
  conv => lhs; rw [← Rat.num_divInt_den a, ← Rat.num_divInt_den b]
  rw [Rat.divInt_add_divInt _ _ (by have := b5d a; omega) (by have := b5d b; omega)]
theorem c2a (a b : Rat) : a * b = Rat.divInt (a.num * b.num) (a.den * b.den) := by
  conv => lhs; rw [← Rat.num_divInt_den a, ← Rat.num_divInt_den b]
  rw [Rat.divInt_mul_divInt]
theorem c1t (a b : Rat) : a / b = Rat.divInt (a.num * b.den) (a.den * b.num) := by
  rw [Rat.div_def]
  conv => lhs; rw [← Rat.num_divInt_den a, ← Rat.num_divInt_den b]
  rw [Rat.inv_divInt, Rat.divInt_mul_divInt]
theorem b9b {x y : Int} (hy : 0 < y) : dq x y = x / y := by
  obtain ⟨h1, h2, h3⟩ := d1g (x := x) (y := y) (by omega)
  have h4 : 0 ≤ dr x y ∧ dr x y < y := by
    rcases h2 with h | h
    · omega
    · rw [a3p hy] at h
      have := a1s (dr x y)
      omega
  generalize dq x y = q at *
  generalize dr x y = r at *
  rw [← h1, Int.add_comm, Int.add_mul_ediv_right _ _ (by omega), Int.ediv_eq_zero_of_lt h4.1 h4.2]; omega
theorem b6t {x y : Int} {k : Nat} (h : Sm k x) : Sm k (x / y) := h.le (Int.natAbs_ediv_le_natAbs x y)
theorem b4f (p q : Int) : Rat.divInt p q = Rat.divInt (-p) (-q) := (Rat.neg_divInt_neg p q).symm
theorem b1q {p q : Int} {k : Nat} (hp : Sm k p) (hq : Sm k q) (h0 : q ≠ 0) : SmF k (Rat.divInt p q) := by
  by_cases hn : q < 0
  · rw [b4f]
    obtain ⟨e1, e2⟩ := b1r (p := -p) (q := -q) (by omega)
    exact ⟨by rw [e1]; exact b6t hp.neg, by rw [e2]; exact b6t hq.neg⟩
  · obtain ⟨e1, e2⟩ := b1r (p := p) (q := q) (by omega)
    exact ⟨by rw [e1]; exact b6t hp, by rw [e2]; exact b6t hq⟩
theorem b3z {x y : Int} (hx : x ≠ 0) (hy : y ≠ 0) : x * y ≠ 0 := Int.mul_ne_zero hx hy
theorem a7x (r : Rat) : (r.den : Int) ≠ 0 := by have := b5d r; omega
theorem SmF.add {j k : Nat} {a b : Rat} (ha : SmF j a) (hb : SmF k b) : SmF (j + k + 1) (a + b) := by
  rw [b9x]
  exact b1q ((ha.1.mul hb.2).add ((hb.1.mul ha.2).mono (by omega))) ((ha.2.mul hb.2).mono (by omega)) (b3z (a7x a) (a7x b))
theorem SmF.mul {j k : Nat} {a b : Rat} (ha : SmF j a) (hb : SmF k b) : SmF (j + k) (a * b) := by
  rw [c2a]
  exact b1q (ha.1.mul hb.1) (ha.2.mul hb.2) (b3z (a7x a) (a7x b))
theorem SmF.neg {k : Nat} {a : Rat} (ha : SmF k a) : SmF k (-a) := ⟨by rw [Rat.neg_num]; exact ha.1.neg, by rw [Rat.neg_den]; exact ha.2⟩
theorem SmF.sub {j k : Nat} {a b : Rat} (ha : SmF j a) (hb : SmF k b) : SmF (j + k + 1) (a - b) := by rw [Rat.sub_eq_add_neg]; exact ha.add hb.neg
/- which fractions are right -/
def ofB (a : Big) : Int := a.Sign * val a.Digits
theorem b1e (x : Int) : ofB (toB x) = x := by unfold ofB toB; rw [a2c, b7l]
def a4q (f : Frac) : Bool := a7i f.P && a7i f.Q && (f.Q.Sign == 1) && (Nat.gcd (ofB f.P).natAbs (ofB f.Q).natAbs == 1)
theorem b5r (r : Rat) : a4q (toF r) = true := by
  unfold a4q toF
  simp only
  rw [b3o, b3o, b1e, b1e]
  have h1 : (toB (r.den : Int)).Sign = 1 := a3p (b5d r)
  rw [h1, Int.natAbs_natCast]
  have h2 : Nat.gcd r.num.natAbs r.den = 1 := r.reduced
  rw [h2]; rfl
theorem b1u {f : Frac} (h : a4q f = true) : ∃ r, f = toF r := by
  obtain ⟨P, Q⟩ := f
  unfold a4q at h
  simp only [Bool.and_eq_true, beq_iff_eq] at h
  obtain ⟨⟨⟨h1, h2⟩, h3⟩, h4⟩ := h
  obtain ⟨p, rfl⟩ := a5z h1
  obtain ⟨q, rfl⟩ := a5z h2
  rw [b1e, b1e] at h4
  have h5 : 0 < q := by have h6 : sg q = 1 := h3; have := a1s q; omega
  obtain ⟨d, rfl⟩ := Int.eq_ofNat_of_zero_le (Int.le_of_lt h5)
  refine ⟨⟨p, d, by omega, ?_⟩, rfl⟩
  rwa [Int.natAbs_natCast] at h4
theorem d0p {x : Int} {k : Nat} (h : Sm k x) (hk : k < 1099511627776) : Ev (fun n => b4v n (toB x)) (decide (x = 1)) := by
  unfold b4v
  refine Ev.bind (d0t h hk) ?_
  by_cases hr : -9223372036854775808 ≤ x ∧ x ≤ 9223372036854775807
  · rw [if_pos hr]
    exact Ev.bind (a := decide (x = 1)) (Ev.then rfl ((Ev.pure _).eq (by by_cases hx : x = 1 <;> simp [hx]))) (Ev.pure _)
  · rw [if_neg hr]
    refine Ev.bind (a := decide (x = 1)) (Ev.else rfl ((Ev.pure _).eq ?_)) (Ev.pure _)
    rw [decide_eq_false (by omega)]
theorem c0a {p q : Int} {k : Nat} (hp : Sm k p) (hq : Sm k q) : Sm k ((Nat.gcd p.natAbs q.natAbs : Nat) : Int) := by
  by_cases h0 : p.natAbs = 0
  · rw [h0, Nat.gcd_zero_left]; exact hq.le (by omega)
  · exact hp.le (by have := Nat.gcd_le_left q.natAbs (Nat.pos_of_ne_zero h0); omega)
theorem b4u {f : Frac} {k : Nat} (hp : f.P.Digits.length ≤ k) (hq : f.Q.Digits.length ≤ k) (hk : k < 8388608) : Ev (fun n => a2n n f) (a4q f) := by
  unfold a2n
  refine Ev.bind (b4n (a := f.P) (by omega)) ?_
  cases hP : a7i f.P with
  | false => exact Ev.bind (a := true) (Ev.then rfl (Ev.pure _)) (Ev.bind (a := true) (Ev.then rfl (Ev.pure _)) (Ev.then rfl ((Ev.pure _).eq (by unfold a4q; rw [hP]; rfl))))
  | true =>
    refine Ev.bind (a := !a7i f.Q) (Ev.else rfl (Ev.bind (b4n (a := f.Q) (by omega)) (Ev.pure _))) ?_
    cases hQ : a7i f.Q with
    | false => exact Ev.bind (a := true) (Ev.then rfl (Ev.pure _)) (Ev.then rfl ((Ev.pure _).eq (by unfold a4q; rw [hP, hQ]; rfl)))
    | true =>
      refine Ev.bind (a := f.Q.Sign != 1) (Ev.else rfl (Ev.pure _)) ?_
      by_cases hs : f.Q.Sign = 1
      · refine Ev.else (by simp [hs]) ?_
        obtain ⟨P, Q⟩ := f
        obtain ⟨p, rfl⟩ := a5z hP
        obtain ⟨q, rfl⟩ := a5z hQ
        have hp' : Sm k p := a3g hp
        have hq' : Sm k q := a3g hq
        refine Ev.bind (c8a hp' hq' hk) ?_
        refine Ev.bind (a := decide (Nat.gcd p.natAbs q.natAbs = 1)) (Ev.then rfl (Ev.bind ((d0p (c0a hp' hq') (by omega)).eq (s := decide (Nat.gcd p.natAbs q.natAbs = 1)) ?_) (Ev.pure _))) ((Ev.pure _).eq ?_)
        · by_cases hg : Nat.gcd p.natAbs q.natAbs = 1
          · rw [decide_eq_true hg, decide_eq_true (by omega)]
          · rw [decide_eq_false hg, decide_eq_false (by omega)]
        · unfold a4q
          rw [hP, hQ, b1e, b1e, hs]
          by_cases hg : Nat.gcd p.natAbs q.natAbs = 1 <;> simp [hg]
      · refine Ev.then (by simpa using hs) ((Ev.pure _).eq ?_)
        unfold a4q
        rw [hP, hQ]
        simp [hs]
theorem b7f {r : Rat} {k : Nat} (h : SmF k r) : (toF r).P.Digits.length ≤ k ∧ (toF r).Q.Digits.length ≤ k := ⟨a1u h.1, a1u h.2⟩
theorem a3k {r : Rat} {k : Nat} (h : SmF k r) (hk : k < 8388608) : Ev (fun n => a2n n (toF r)) true := (b4u (b7f h).1 (b7f h).2 hk).eq (b5r r)
/- New -/
section
variable {p q : Int} {k : Nat} (hp : Sm k p) (hq : Sm k q) (hk : k < 8388608)
include hp hq hk
theorem c2u (h0 : 0 < q) : Ev (fun n =>
   (b3h n (toB p) (toB q)).bind fun v8 =>
   (b0g n (toB p) (⟨v8.1.Sign, v8.1.Digits⟩ : Big)).bind fun v9 =>
   (b0g n (toB q) (⟨v8.1.Sign, v8.1.Digits⟩ : Big)).bind fun v10 =>
   some ((⟨(⟨v9.1.Sign, v9.1.Digits⟩ : Big), (⟨v10.1.Sign, v10.1.Digits⟩ : Big)⟩ : Frac), (0 : Int))) (toF (Rat.divInt p q), 0) := by
  have hg : 0 < Nat.gcd p.natAbs q.natAbs := Nat.gcd_pos_of_pos_right _ (by omega)
  have hgs := c0a hp hq
  obtain ⟨e1, e2⟩ := b1r (p := p) h0
  refine Ev.bind (c8a hp hq hk) ?_
  refine Ev.bind (c4k hp hgs hk (by omega)) ?_
  refine Ev.bind (c4k hq hgs hk (by omega)) ((Ev.pure _).eq ?_)
  unfold toF
  rw [e1, e2, ← b9b (by omega), ← b9b (by omega)]
theorem b8b (h0 : q ≠ 0) : Ev (fun n => a7b n (toB p) (toB q)) (toF (Rat.divInt p q), 0) := by
  unfold a7b
  refine Ev.bind (a4l hp (by omega)) ?_
  refine Ev.bind (a := false) (Ev.else rfl (Ev.bind (a4l hq (by omega)) (Ev.pure _))) ?_
  refine Ev.else rfl ?_
  refine Ev.else (by show (sg q == 0) = false; rw [b0e]; simpa using h0) ?_
  by_cases hn : q < 0
  · refine Ev.then (by show decide (sg q < 0) = true; rw [a3z hn]; rfl) ?_
    refine Ev.bind (b9g hp (by omega)) (Ev.bind (b9g hq (by omega)) ?_)
    rw [b4f]
    exact c2u hp.neg hq.neg hk (by omega)
  · refine Ev.else (by show decide (sg q < 0) = false; rw [a3p (by omega)]; rfl) ?_
    exact c2u hp hq hk (by omega)
omit hq in
theorem FNew_zero : Ev (fun n => a7b n (toB p) (toB 0)) (zeroF, 14) := by
  unfold a7b
  refine Ev.bind (a4l hp (by omega)) ?_
  refine Ev.bind (a := false) (Ev.else rfl (Ev.bind (a4l (x := 0) (k := 1) (by unfold Sm; decide) (by decide)) (Ev.pure _))) ?_
  refine Ev.else rfl ?_
  exact Ev.then rfl (Ev.pure _)
omit hk in
theorem b6n (hk : k < 268435456) : Ev (fun n => a3q n (toB p) (toB q)) (toB (p * q)) := by
  unfold a3q
  exact Ev.bind (c9y hp hq hk) (Ev.pure _)
end
theorem b8n {x : Int} {k : Nat} (h : Sm k x) (hk : k < 1073741824) : Ev (fun n => b0m n (toB x)) (toB x) := by
  unfold b0m
  exact Ev.bind (b9g h hk) (Ev.bind (b9g h.neg hk) ((Ev.pure _).eq (by rw [Int.neg_neg])))
section
variable {a b : Rat} {j k : Nat} (ha : SmF j a) (hb : SmF k b) (hk : j + k < 4000000)
include ha hb hk
theorem times_PQ : Ev (fun n => a3q n (⟨(toF a).P.Sign, (toF a).P.Digits⟩ : Big) (⟨(toF b).Q.Sign, (toF b).Q.Digits⟩ : Big)) (toB (a.num * b.den)) :=
  b6n (ha.1.mono (by omega : j ≤ j + k)) (hb.2.mono (by omega : k ≤ j + k)) (by omega)
theorem times_QP : Ev (fun n => a3q n (⟨(toF a).Q.Sign, (toF a).Q.Digits⟩ : Big) (⟨(toF b).P.Sign, (toF b).P.Digits⟩ : Big)) (toB (a.den * b.num)) :=
  b6n (ha.2.mono (by omega : j ≤ j + k)) (hb.1.mono (by omega : k ≤ j + k)) (by omega)
theorem times_PP : Ev (fun n => a3q n (⟨(toF a).P.Sign, (toF a).P.Digits⟩ : Big) (⟨(toF b).P.Sign, (toF b).P.Digits⟩ : Big)) (toB (a.num * b.num)) :=
  b6n (ha.1.mono (by omega : j ≤ j + k)) (hb.1.mono (by omega : k ≤ j + k)) (by omega)
theorem times_QQ : Ev (fun n => a3q n (⟨(toF a).Q.Sign, (toF a).Q.Digits⟩ : Big) (⟨(toF b).Q.Sign, (toF b).Q.Digits⟩ : Big)) (toB ((a.den : Int) * b.den)) :=
  b6n (ha.2.mono (by omega : j ≤ j + k)) (hb.2.mono (by omega : k ≤ j + k)) (by omega)
end
theorem c8i (b : Rat) : toF (-b) = ⟨toB (-b.num), toB (b.den : Int)⟩ := rfl
/- the operations -/
section
variable {a b : Rat} {j k : Nat} (ha : SmF j a) (hb : SmF k b) (hk : j + k < 4000000)
include ha hb hk
theorem FAdd_ev : Ev (fun n => a9i n (toF a) (toF b)) (toF (a + b), 0) := by
  have m1 : Sm (j + k + 1) (a.num * b.den) := (ha.1.mul hb.2).mono (by omega)
  have m2 : Sm (j + k + 1) (b.num * a.den) := (hb.1.mul ha.2).mono (by omega)
  have m3 : Sm (j + k + 1) ((a.den : Int) * b.den) := (ha.2.mul hb.2).mono (by omega)
  have m4 : Sm (j + k + 1) (a.num * b.den + b.num * a.den) := (ha.1.mul hb.2).add ((hb.1.mul ha.2).mono (by omega))
  unfold a9i
  refine Ev.bind (a3k ha (by omega)) ?_
  refine Ev.bind (a := false) (Ev.else rfl (Ev.bind (a3k hb (by omega)) (Ev.pure _))) ?_
  refine Ev.else rfl ?_
  refine Ev.bind (a := (sg (a.num * b.den + b.num * a.den), dig (a.num * b.den + b.num * a.den).natAbs)) ?_ ?_
  · refine Ev.bind (times_PQ ha hb hk) ?_
    refine Ev.bind (times_PQ hb ha (by omega)) ?_
    exact Ev.bind (d0w m1 m2 (by omega)) (Ev.pure _)
  · refine Ev.bind (times_QQ ha hb hk) ?_
    refine Ev.bind (b8b m4 m3 (by omega) (b3z (a7x a) (a7x b))) ((Ev.pure _).eq ?_)
    rw [b9x]
theorem FMul_ev : Ev (fun n => b0v n (toF a) (toF b)) (toF (a * b), 0) := by
  unfold b0v
  refine Ev.bind (a3k ha (by omega)) ?_
  refine Ev.bind (a := false) (Ev.else rfl (Ev.bind (a3k hb (by omega)) (Ev.pure _))) ?_
  refine Ev.else rfl ?_
  refine Ev.bind (times_PP ha hb hk) ?_
  refine Ev.bind (times_QQ ha hb hk) ?_
  refine Ev.bind (b8b (ha.1.mul hb.1) (ha.2.mul hb.2) (by omega) (b3z (a7x a) (a7x b))) ((Ev.pure _).eq ?_)
  rw [c2a]
theorem FSub_ev : Ev (fun n => b0u n (toF a) (toF b)) (toF (a - b), 0) := by
  unfold b0u
  refine Ev.bind (a3k ha (by omega)) ?_
  refine Ev.bind (a := false) (Ev.else rfl (Ev.bind (a3k hb (by omega)) (Ev.pure _))) ?_
  refine Ev.else rfl ?_
  refine Ev.bind (b9g hb.1 (by omega)) ?_
  have h := FAdd_ev ha hb.neg hk
  rw [c8i, ← Rat.sub_eq_add_neg] at h
  exact Ev.bind h (Ev.pure _)
theorem c9a (h0 : b.num ≠ 0) : Ev (fun n => a8u n (toF a) (toF b)) (toF (a / b), 0) := by
  unfold a8u
  refine Ev.bind (a3k ha (by omega)) ?_
  refine Ev.bind (a := false) (Ev.else rfl (Ev.bind (a3k hb (by omega)) (Ev.pure _))) ?_
  refine Ev.else rfl ?_
  refine Ev.else (by show (sg b.num == 0) = false; rw [b0e]; simpa using h0) ?_
  refine Ev.bind (times_PQ ha hb hk) ?_
  refine Ev.bind (times_QP ha hb hk) ?_
  refine Ev.bind (b8b (ha.1.mul hb.2) (ha.2.mul hb.1) (by omega) (b3z (a7x a) h0)) ((Ev.pure _).eq ?_)
  rw [c1t]
theorem c3y (h0 : b.num = 0) : Ev (fun n => a8u n (toF a) (toF b)) (zeroF, 14) := by
  unfold a8u
  refine Ev.bind (a3k ha (by omega)) ?_
  refine Ev.bind (a := false) (Ev.else rfl (Ev.bind (a3k hb (by omega)) (Ev.pure _))) ?_
  refine Ev.else rfl ?_
  exact Ev.then (by show (sg b.num == 0) = true; rw [h0]; rfl) (Ev.pure _)
end
/-- the order of two fractions -/
def cmpQ (a b : Rat) : Int := sg (a.num * b.den - b.num * a.den)
theorem c8q {a b : Rat} (h : a < b) : cmpQ a b = -1 := by
  have := Rat.lt_iff a b
  exact a3z (by have := this.1 h; omega)
theorem c8k {a b : Rat} (h : b < a) : cmpQ a b = 1 := by
  have := Rat.lt_iff b a
  exact a3p (by have := this.1 h; omega)
theorem c5p (a : Rat) : cmpQ a a = 0 := by unfold cmpQ; rw [Int.sub_self]; rfl
theorem b3q (a b : Rat) : (a < b ∧ cmpQ a b = -1) ∨ (a = b ∧ cmpQ a b = 0) ∨ (b < a ∧ cmpQ a b = 1) := by
  by_cases h : a < b
  · exact .inl ⟨h, c8q h⟩
  · by_cases h2 : b < a
    · exact .inr (.inr ⟨h2, c8k h2⟩)
    · have e : a = b := Rat.le_antisymm (Rat.not_lt.1 h2) (Rat.not_lt.1 h)
      exact .inr (.inl ⟨e, by rw [e]; exact c5p b⟩)
section
variable {a b : Rat} {j k : Nat} (ha : SmF j a) (hb : SmF k b) (hk : j + k < 4000000)
include ha hb hk
theorem FCompare_ev : Ev (fun n => a5f n (toF a) (toF b)) (cmpQ a b) := by
  unfold a5f
  refine Ev.bind (a3k ha (by omega)) ?_
  refine Ev.bind (a := false) (Ev.else rfl (Ev.bind (a3k hb (by omega)) (Ev.pure _))) ?_
  refine Ev.else rfl ?_
  refine Ev.bind (times_PQ ha hb hk) ?_
  refine Ev.bind (times_PQ hb ha (by omega)) ?_
  exact Ev.bind (c3s (ha.1.mul hb.2) ((hb.1.mul ha.2).mono (by omega)) (by omega)) (Ev.pure _)
theorem b9a (s : Int) (hs : s = 1 ∨ s = -1) : Ev (fun n => a6v n (toF a) (toF b) s) (toF (if cmpQ a b * s < 0 then b else a), 0) := by
  unfold a6v
  refine Ev.bind (a3k ha (by omega)) ?_
  refine Ev.bind (a := false) (Ev.else rfl (Ev.bind (a3k hb (by omega)) (Ev.pure _))) ?_
  refine Ev.else rfl ?_
  refine Ev.bind (FCompare_ev ha hb hk) ?_
  have hr := b6j (a.num * b.den - b.num * a.den)
  have e : imul .i64 (cmpQ a b) s = cmpQ a b * s := by
    have h1 : -1 ≤ cmpQ a b := hr.1
    have h2 : cmpQ a b ≤ 1 := hr.2
    exact a6k (by rcases hs with rfl | rfl <;> omega) (by rcases hs with rfl | rfl <;> omega)
  rw [e]
  by_cases h : cmpQ a b * s < 0
  · rw [if_pos h]
    refine Ev.bind (Ev.then (decide_eq_true h) (Ev.pure _)) ?_
    exact Ev.bind (b8n hb.1 (by omega)) (Ev.bind (b8n hb.2 (by omega)) (Ev.pure _))
  · rw [if_neg h]
    refine Ev.bind (Ev.else (decide_eq_false h) (Ev.pure _)) ?_
    exact Ev.bind (b8n ha.1 (by omega)) (Ev.bind (b8n ha.2 (by omega)) (Ev.pure _))
theorem FMin_ev : Ev (fun n => b1a n (toF a) (toF b)) (toF (if b < a then b else a), 0) := by
  unfold b1a
  refine Ev.bind (b9a ha hb hk (-1) (.inr rfl)) ((Ev.pure _).eq ?_)
  rcases b3q a b with ⟨h, e⟩ | ⟨h, e⟩ | ⟨h, e⟩
  · rw [e, if_neg (by decide), if_neg (by grind)]
  · rw [e, if_neg (by decide), if_neg (by grind)]
  · rw [e, if_pos (by decide), if_pos h]
theorem FMax_ev : Ev (fun n => b0t n (toF a) (toF b)) (toF (if a < b then b else a), 0) := by
  unfold b0t
  refine Ev.bind (b9a ha hb hk 1 (.inl rfl)) ((Ev.pure _).eq ?_)
  rcases b3q a b with ⟨h, e⟩ | ⟨h, e⟩ | ⟨h, e⟩
  · rw [e, if_pos (by decide), if_pos h]
  · rw [e, if_neg (by decide), if_neg (by grind)]
  · rw [e, if_neg (by decide), if_neg (by grind)]
end
section
variable {a : Rat} {k : Nat} (ha : SmF k a) (hk : k < 4000000)
include ha hk
theorem FNeg_ev : Ev (fun n => a9l n (toF a)) (toF (-a)) := by
  unfold a9l
  refine Ev.bind (a3k ha (by omega)) (Ev.else rfl ?_)
  exact Ev.bind (b9g ha.1 (by omega)) (Ev.bind (b8n ha.2 (by omega)) (Ev.pure _))
theorem FSign_ev : Ev (fun n => a8f n (toF a)) (sg a.num) := by
  unfold a8f
  exact Ev.bind (a3k ha (by omega)) (Ev.else rfl (Ev.pure _))
theorem FFloor_ev : Ev (fun n => a7r n (toF a)) (toB (a.num / a.den)) := by
  unfold a7r
  refine Ev.bind (a3k ha (by omega)) (Ev.else rfl ?_)
  refine Ev.bind (c4k ha.1 ha.2 (by omega) (a7x a)) ((Ev.pure _).eq ?_)
  rw [← b9b (b5d a)]
end
theorem c9h {x : Int} (h1 : -9223372036854775808 ≤ x) (h2 : x ≤ 9223372036854775807) : Ev (fun n => b3j n x) (toF (x : Rat)) := by
  unfold b3j
  refine Ev.bind (c7g h1 h2) (Ev.bind Of1_ev ((Ev.pure _).eq ?_))
  unfold toF
  rw [Rat.num_intCast, Rat.den_intCast]; rfl
theorem d0g {x y : Int} (h1 : -9223372036854775808 ≤ x) (h2 : x ≤ 9223372036854775807) (h3 : -9223372036854775808 ≤ y) (h4 : y ≤ 9223372036854775807) (h0 : y ≠ 0) : Ev (fun n => b1c n x y) (toF (Rat.divInt x y), 0) := by
  have s1 : Sm 4 x := a3g (b6c (by omega))
  have s2 : Sm 4 y := a3g (b6c (by omega))
  unfold b1c
  exact Ev.bind (c7g h1 h2) (Ev.bind (c7g h3 h4) (Ev.bind (b8b s1 s2 (by decide) h0) (Ev.pure _)))
theorem c6e {x : Int} (h1 : -9223372036854775808 ≤ x) (h2 : x ≤ 9223372036854775807) : Ev (fun n => b1c n x 0) (zeroF, 14) := by
  have s1 : Sm 4 x := a3g (b6c (by omega))
  unfold b1c
  exact Ev.bind (c7g h1 h2) (Ev.bind Of0_ev (Ev.bind (FNew_zero s1 (by decide)) (Ev.pure _)))
/- comparing -/
theorem c1f {f g : Frac} (hp : f.P.Digits.length < 1099511627776) (hq : f.Q.Digits.length < 1099511627776) : Ev (fun n => a3j n f g) (decide (f = g)) := by
  unfold a3j
  refine Ev.bind (b9i (a := f.P) (b := g.P) hp) ?_
  obtain ⟨P, Q⟩ := f
  obtain ⟨P', Q'⟩ := g
  refine Ev.bind (a := decide ((⟨P, Q⟩ : Frac) = ⟨P', Q'⟩)) ?_ (Ev.pure _)
  by_cases h : P = P'
  · subst h
    refine Ev.then (by simp) (Ev.bind (b9i (a := Q) (b := Q') hq) ((Ev.pure _).eq (by simp)))
  · exact Ev.else (by simpa using h) ((Ev.pure _).eq (by simp [h]))
end Go.Proofs.YtaanocaobllohaaGreatDoor.D
