/-
  THE REFERENCE's FUNCTIONS of fractions: they return what the program's do.
-/
import Derived.Test.YtaanocaobllohaaGreatDoorFrC
import Derived.Test.YtaanocaobllohaaGreatDoorRefAll
import Derived.Test.YtaanocaobllohaaGreatDoorMirQ
namespace Go.Proofs.YtaanocaobllohaaGreatDoor.D
open Go Rt M
theorem c2l {f : Big} {k : Nat} (h : f.Digits.length ≤ k) (hk : k < 8388608) : Ev (fun n => a2i n f) (a7i f) := b4q (by omega)
theorem b6z {f : Frac} {k : Nat} (hp : f.P.Digits.length ≤ k) (hq : f.Q.Digits.length ≤ k) (hk : k < 8388608) : Ev (fun n => a2f n f) (a4q f) := by
  unfold a2f
  refine Ev.bind (c2l (f := f.P) hp hk) ?_
  cases hP : a7i f.P with
  | false => exact Ev.bind (a := true) (Ev.then rfl (Ev.pure _)) (Ev.bind (a := true) (Ev.then rfl (Ev.pure _)) (Ev.then rfl ((Ev.pure _).eq (by unfold a4q; rw [hP]; rfl))))
  | true =>
    refine Ev.bind (a := !a7i f.Q) (Ev.else rfl (Ev.bind (c2l (f := f.Q) hq hk) (Ev.pure _))) ?_
    cases hQ : a7i f.Q with
    | false => exact Ev.bind (a := true) (Ev.then rfl (Ev.pure _)) (Ev.then rfl ((Ev.pure _).eq (by unfold a4q; rw [hP, hQ]; rfl)))
    | true =>
      obtain ⟨P, Q⟩ := f
      obtain ⟨p, rfl⟩ := a5z hP
      obtain ⟨q, rfl⟩ := a5z hQ
      have hp' : Sm k p := a3g hp
      have hq' : Sm k q := a3g hq
      refine Ev.bind (a := decide (sg q < 1)) (Ev.else rfl (Ev.pure _)) ?_
      by_cases hs : 0 < q
      · refine Ev.else (by rw [a3p hs]; rfl) ?_
        have hg := c0a hp' hq'
        refine Ev.bind (c5l hp' hq' hk) ?_
        refine Ev.bind (c1g (x := 1) (by decide) (by decide)) ?_
        refine Ev.bind (b7j (k := k + 1) (hg.mono (by omega)) (sm01 (by decide) (by decide) (by omega)) (by omega)) ((Ev.pure _).eq ?_)
        unfold a4q
        have hs1 : (toB q).Sign = 1 := a3p hs
        rw [hP, hQ, b1e, b1e, hs1]
        have e : (sg ((Nat.gcd p.natAbs q.natAbs : Nat) - 1 : Int) == 0) = decide (((Nat.gcd p.natAbs q.natAbs : Nat) : Int) - 1 = 0) := b0e _
        rw [e]
        by_cases hg : Nat.gcd p.natAbs q.natAbs = 1
        · rw [hg]; rfl
        · rw [decide_eq_false (by omega)]; simp [hg]
      · refine Ev.then (by
          have := a1s q
          exact decide_eq_true (by omega)) ((Ev.pure _).eq ?_)
        unfold a4q
        have hs1 : ((toB q).Sign == 1) = false := by
          have h1 : (toB q).Sign = sg q := rfl
          have := a1s q
          rw [h1, beq_eq_false_iff_ne]; omega
        rw [hP, hQ, hs1]; rfl
theorem a2y {r : Rat} {k : Nat} (h : SmF k r) (hk : k < 8388608) : Ev (fun n => a2f n (toF r)) true := (b6z (b7f h).1 (b7f h).2 hk).eq (b5r r)
section
variable {p q : Int} {k : Nat} (hp : Sm k p) (hq : Sm k q) (hk : k < 8388608)
include hp hq hk
theorem c0u (h0 : 0 < q) : Ev (fun n =>
   (b0i n (⟨(toB p).Sign, (toB p).Digits⟩ : Big) (⟨(toB q).Sign, (toB q).Digits⟩ : Big)).bind fun v3 =>
   (a8a n (⟨(toB p).Sign, (toB p).Digits⟩ : Big) (⟨v3.1.Sign, v3.1.Digits⟩ : Big)).bind fun v4 =>
   (a8a n (⟨(toB q).Sign, (toB q).Digits⟩ : Big) (⟨v3.1.Sign, v3.1.Digits⟩ : Big)).bind fun v5 =>
   some ((⟨(⟨v4.1.Sign, v4.1.Digits⟩ : Big), (⟨v5.1.Sign, v5.1.Digits⟩ : Big)⟩ : Frac), (0 : Int))) (toF (Rat.divInt p q), 0) := by
  have hg : 0 < Nat.gcd p.natAbs q.natAbs := Nat.gcd_pos_of_pos_right _ (by omega)
  have hgs := c0a hp hq
  obtain ⟨e1, e2⟩ := b1r (p := p) h0
  refine Ev.bind (c5l hp hq hk) ?_
  refine Ev.bind (c1v hp hgs hk (by omega)) ?_
  refine Ev.bind (c1v hq hgs hk (by omega)) ((Ev.pure _).eq ?_)
  unfold toF
  rw [e1, e2, ← b9b (by omega), ← b9b (by omega)]
theorem b5q (h0 : q ≠ 0) : Ev (fun n => a5g n (toB p) (toB q)) (toF (Rat.divInt p q), 0) := by
  unfold a5g
  refine Ev.bind (a3s hp (by omega)) ?_
  refine Ev.bind (a := false) (Ev.else rfl (Ev.bind (a3s hq (by omega)) (Ev.pure _))) ?_
  refine Ev.else rfl ?_
  refine Ev.else (by show (sg q == 0) = false; rw [b0e]; simpa using h0) ?_
  by_cases hn : q < 0
  · refine Ev.bind (Ev.then (by show decide (sg q < 0) = true; rw [a3z hn]; rfl) (Ev.bind (b9p hp (by omega)) (Ev.bind (b9p hq (by omega)) (Ev.pure _)))) ?_
    rw [b4f]
    exact c0u hp.neg hq.neg hk (by omega)
  · refine Ev.bind (Ev.else (by show decide (sg q < 0) = false; rw [a3p (by omega)]; rfl) (Ev.pure _)) ?_
    exact c0u hp hq hk (by omega)
omit hq in
theorem QNew_zero : Ev (fun n => a5g n (toB p) (toB 0)) (zeroF, 14) := by
  unfold a5g
  refine Ev.bind (a3s hp (by omega)) ?_
  refine Ev.bind (a := false) (Ev.else rfl (Ev.bind (a3s (x := 0) (k := 1) (by unfold Sm; decide) (by decide)) (Ev.pure _))) ?_
  refine Ev.else rfl ?_
  exact Ev.then rfl (Ev.pure _)
end
section
variable {a b : Rat} {j k : Nat} (ha : SmF j a) (hb : SmF k b) (hk : j + k < 4000000)
include ha hb hk
theorem rmul_PQ : Ev (fun n => a3u n (⟨(toF a).P.Sign, (toF a).P.Digits⟩ : Big) (⟨(toF b).Q.Sign, (toF b).Q.Digits⟩ : Big)) (toB (a.num * b.den), 0) :=
  c0e (ha.1.mono (by omega : j ≤ j + k)) (hb.2.mono (by omega : k ≤ j + k)) (by omega)
theorem rmul_QP : Ev (fun n => a3u n (⟨(toF a).Q.Sign, (toF a).Q.Digits⟩ : Big) (⟨(toF b).P.Sign, (toF b).P.Digits⟩ : Big)) (toB (a.den * b.num), 0) :=
  c0e (ha.2.mono (by omega : j ≤ j + k)) (hb.1.mono (by omega : k ≤ j + k)) (by omega)
theorem rmul_PP : Ev (fun n => a3u n (⟨(toF a).P.Sign, (toF a).P.Digits⟩ : Big) (⟨(toF b).P.Sign, (toF b).P.Digits⟩ : Big)) (toB (a.num * b.num), 0) :=
  c0e (ha.1.mono (by omega : j ≤ j + k)) (hb.1.mono (by omega : k ≤ j + k)) (by omega)
theorem rmul_QQ : Ev (fun n => a3u n (⟨(toF a).Q.Sign, (toF a).Q.Digits⟩ : Big) (⟨(toF b).Q.Sign, (toF b).Q.Digits⟩ : Big)) (toB ((a.den : Int) * b.den), 0) :=
  c0e (ha.2.mono (by omega : j ≤ j + k)) (hb.2.mono (by omega : k ≤ j + k)) (by omega)
theorem QAdd_ev : Ev (fun n => a9r n (toF a) (toF b)) (toF (a + b), 0) := by
  have m1 : Sm (j + k + 1) (a.num * b.den) := (ha.1.mul hb.2).mono (by omega)
  have m2 : Sm (j + k + 1) (b.num * a.den) := (hb.1.mul ha.2).mono (by omega)
  have m3 : Sm (j + k + 1) ((a.den : Int) * b.den) := (ha.2.mul hb.2).mono (by omega)
  have m4 : Sm (j + k + 1) (a.num * b.den + b.num * a.den) := (ha.1.mul hb.2).add ((hb.1.mul ha.2).mono (by omega))
  unfold a9r
  refine Ev.bind (a2y ha (by omega)) ?_
  refine Ev.bind (a := false) (Ev.else rfl (Ev.bind (a2y hb (by omega)) (Ev.pure _))) ?_
  refine Ev.else rfl ?_
  refine Ev.bind (rmul_PQ ha hb hk) (Ev.bind (rmul_PQ hb ha (by omega)) (Ev.bind (rmul_QQ ha hb hk) ?_))
  refine Ev.bind (c4f m1 m2 (by omega)) ?_
  refine Ev.bind (b5q m4 m3 (by omega) (b3z (a7x a) (a7x b))) ((Ev.pure _).eq ?_)
  rw [b9x]
theorem QSub_ev : Ev (fun n => b0b n (toF a) (toF b)) (toF (a - b), 0) := by
  have m1 : Sm (j + k + 1) (a.num * b.den) := (ha.1.mul hb.2).mono (by omega)
  have m2 : Sm (j + k + 1) (b.num * a.den) := (hb.1.mul ha.2).mono (by omega)
  have m3 : Sm (j + k + 1) ((a.den : Int) * b.den) := (ha.2.mul hb.2).mono (by omega)
  have m4 : Sm (j + k + 1) (a.num * b.den - b.num * a.den) := (ha.1.mul hb.2).sub ((hb.1.mul ha.2).mono (by omega))
  unfold b0b
  refine Ev.bind (a2y ha (by omega)) ?_
  refine Ev.bind (a := false) (Ev.else rfl (Ev.bind (a2y hb (by omega)) (Ev.pure _))) ?_
  refine Ev.else rfl ?_
  refine Ev.bind (rmul_PQ ha hb hk) (Ev.bind (rmul_PQ hb ha (by omega)) (Ev.bind (rmul_QQ ha hb hk) ?_))
  refine Ev.bind (c8v m1 m2 (by omega)) ?_
  refine Ev.bind (b5q m4 m3 (by omega) (b3z (a7x a) (a7x b))) ((Ev.pure _).eq ?_)
  have e : a - b = Rat.divInt (a.num * b.den - b.num * a.den) (a.den * b.den) := by
    rw [Rat.sub_eq_add_neg, b9x, Rat.neg_num, Rat.neg_den, Int.neg_mul, ← Int.sub_eq_add_neg]
  rw [e]
theorem QMul_ev : Ev (fun n => a9w n (toF a) (toF b)) (toF (a * b), 0) := by
  unfold a9w
  refine Ev.bind (a2y ha (by omega)) ?_
  refine Ev.bind (a := false) (Ev.else rfl (Ev.bind (a2y hb (by omega)) (Ev.pure _))) ?_
  refine Ev.else rfl ?_
  refine Ev.bind (rmul_PP ha hb hk) (Ev.bind (rmul_QQ ha hb hk) ?_)
  refine Ev.bind (b5q (ha.1.mul hb.1) (ha.2.mul hb.2) (by omega) (b3z (a7x a) (a7x b))) ((Ev.pure _).eq ?_)
  rw [c2a]
theorem c9c (h0 : b.num ≠ 0) : Ev (fun n => a8j n (toF a) (toF b)) (toF (a / b), 0) := by
  unfold a8j
  refine Ev.bind (a2y ha (by omega)) ?_
  refine Ev.bind (a := false) (Ev.else rfl (Ev.bind (a2y hb (by omega)) (Ev.pure _))) ?_
  refine Ev.else rfl ?_
  refine Ev.else (by show (sg b.num == 0) = false; rw [b0e]; simpa using h0) ?_
  refine Ev.bind (rmul_PQ ha hb hk) (Ev.bind (rmul_QP ha hb hk) ?_)
  refine Ev.bind (b5q (ha.1.mul hb.2) (ha.2.mul hb.1) (by omega) (b3z (a7x a) h0)) ((Ev.pure _).eq ?_)
  rw [c1t]
theorem c5g (h0 : b.num = 0) : Ev (fun n => a8j n (toF a) (toF b)) (zeroF, 14) := by
  unfold a8j
  refine Ev.bind (a2y ha (by omega)) ?_
  refine Ev.bind (a := false) (Ev.else rfl (Ev.bind (a2y hb (by omega)) (Ev.pure _))) ?_
  refine Ev.else rfl ?_
  exact Ev.then (by show (sg b.num == 0) = true; rw [h0]; rfl) (Ev.pure _)
theorem QCompare_ev : Ev (fun n => a4w n (toF a) (toF b)) (cmpQ a b) := by
  unfold a4w
  refine Ev.bind (a2y ha (by omega)) ?_
  refine Ev.bind (a := false) (Ev.else rfl (Ev.bind (a2y hb (by omega)) (Ev.pure _))) ?_
  refine Ev.else rfl ?_
  refine Ev.bind (rmul_PQ ha hb hk) (Ev.bind (rmul_PQ hb ha (by omega)) ?_)
  exact Ev.bind (b7j (ha.1.mul hb.2) ((hb.1.mul ha.2).mono (by omega)) (by omega)) (Ev.pure _)
theorem QMin_ev : Ev (fun n => b0f n (toF a) (toF b)) (toF (if b < a then b else a), 0) := by
  unfold b0f
  refine Ev.bind (a2y ha (by omega)) ?_
  refine Ev.bind (a := false) (Ev.else rfl (Ev.bind (a2y hb (by omega)) (Ev.pure _))) ?_
  refine Ev.else rfl ?_
  refine Ev.bind (QCompare_ev ha hb hk) ?_
  rcases b3q a b with ⟨h, e⟩ | ⟨h, e⟩ | ⟨h, e⟩
  · rw [e, if_neg (by grind)]; exact Ev.then rfl (Ev.pure _)
  · rw [e, if_neg (by grind)]; exact Ev.then rfl (Ev.pure _)
  · rw [e, if_pos h]; exact Ev.else rfl (Ev.pure _)
theorem QMax_ev : Ev (fun n => a9s n (toF a) (toF b)) (toF (if a < b then b else a), 0) := by
  unfold a9s
  refine Ev.bind (a2y ha (by omega)) ?_
  refine Ev.bind (a := false) (Ev.else rfl (Ev.bind (a2y hb (by omega)) (Ev.pure _))) ?_
  refine Ev.else rfl ?_
  refine Ev.bind (QCompare_ev ha hb hk) ?_
  rcases b3q a b with ⟨h, e⟩ | ⟨h, e⟩ | ⟨h, e⟩
  · rw [e, if_pos h]; exact Ev.else rfl (Ev.pure _)
  · rw [e, if_neg (by grind)]; exact Ev.then rfl (Ev.pure _)
  · rw [e, if_neg (by grind)]; exact Ev.then rfl (Ev.pure _)
end
section
variable {a : Rat} {k : Nat} (ha : SmF k a) (hk : k < 1000000)
include ha hk
theorem QNeg_ev : Ev (fun n => b0d n (toF a)) (toF (-a)) := by
  unfold b0d
  exact Ev.bind (a2y ha (by omega)) (Ev.else rfl (Ev.bind (b9p ha.1 (by omega)) (Ev.pure _)))
theorem QSign_ev : Ev (fun n => a8l n (toF a)) (sg a.num) := by
  unfold a8l
  exact Ev.bind (a2y ha (by omega)) (Ev.else rfl (Ev.pure _))
theorem QFloor_ev : Ev (fun n => a7n n (toF a)) (toB (a.num / a.den)) := by
  unfold a7n
  refine Ev.bind (a2y ha (by omega)) (Ev.else rfl ?_)
  refine Ev.bind (c1v ha.1 ha.2 (by omega) (a7x a)) ((Ev.pure _).eq ?_)
  rw [← b9b (b5d a)]
theorem QText_toF : Ev (fun n => a6h n (toF a)) (txt a.num ++ 47 :: txt (a.den : Int)) := by
  have t1 := b5l ha.1
  have t2 := b5l ha.2
  unfold a6h
  refine Ev.bind (a2y ha (by omega)) (Ev.else rfl ?_)
  refine Ev.bind (c2o ha.1 hk) ?_
  refine Ev.step (a := txt a.num ++ [47]) (by unfold scat; rw [if_pos (by simp; omega)]) ?_
  refine Ev.bind (c2o ha.2 hk) ?_
  refine Ev.step (a := (txt a.num ++ [47]) ++ txt (a.den : Int)) (by unfold scat; rw [if_pos (by simp; omega)]) ((Ev.pure _).eq (by simp))
end
theorem c3b {f : Frac} {k : Nat} (hp : f.P.Digits.length ≤ k) (hq : f.Q.Digits.length ≤ k) (hk : k < 1000000) : Ev (fun n => a6h n f) (b6h f) := by
  cases hr : a4q f with
  | false =>
    unfold a6h
    refine Ev.bind ((b6z hp hq (by omega)).eq hr) (Ev.then rfl ((Ev.pure _).eq ?_))
    unfold b6h
    rw [hr]; rfl
  | true =>
    obtain ⟨r, rfl⟩ := b1u hr
    rw [c1d]
    exact QText_toF (k := k) ⟨a3g hp, a3g hq⟩ hk
theorem c7t {x y : Int} (h1 : -9223372036854775808 ≤ x) (h2 : x ≤ 9223372036854775807) (h3 : -9223372036854775808 ≤ y) (h4 : y ≤ 9223372036854775807) (h0 : y ≠ 0) : Ev (fun n => a9k n x y) (toF (Rat.divInt x y), 0) := by
  have s1 : Sm 4 x := a3g (b6c (by omega))
  have s2 : Sm 4 y := a3g (b6c (by omega))
  unfold a9k
  exact Ev.bind (c1g h1 h2) (Ev.bind (c1g h3 h4) (Ev.bind (b5q s1 s2 (by decide) h0) (Ev.pure _)))
theorem c7d {x : Int} (h1 : -9223372036854775808 ≤ x) (h2 : x ≤ 9223372036854775807) : Ev (fun n => a9k n x 0) (zeroF, 14) := by
  have s1 : Sm 4 x := a3g (b6c (by omega))
  unfold a9k
  exact Ev.bind (c1g h1 h2) (Ev.bind (c1g (x := 0) (by decide) (by decide)) (Ev.bind (QNew_zero s1 (by decide)) (Ev.pure _)))
theorem c9i {x : Int} (h1 : -9223372036854775808 ≤ x) (h2 : x ≤ 9223372036854775807) : Ev (fun n => b2o n x) (toF (x : Rat)) := by
  unfold b2o
  refine Ev.bind (c7t h1 h2 (y := 1) (by decide) (by decide) (by decide)) ((Ev.pure _).eq ?_)
  rw [c3n]
/- reading -/
theorem c4d (n : Nat) (s : Bs) (kont : Int → Option (Frac × Int)) (hs : s.length < 1099511627776) : ∀ (us : Bs) (i m : Nat), s.drop i = us → us.length < m → a6b n s kont m (i : Int) = kont ((i + (cutS us).1.length : Nat) : Int)
  | [], i, m + 1, hd, _ => by
    have hi := a5j hd
    rw [a9v, show decide ((i : Int) < (s.length : Int)) = false by simp; omega]; rfl
  | b :: us, i, m + 1, hd, hm => by
    obtain ⟨h1, h2, h3⟩ := b6v hd
    rw [a9v, show decide ((i : Int) < (s.length : Int)) = true by simp; omega, cond_true, h1, Option.bind_some, Option.bind_some]
    by_cases hb : b = 47
    · subst hb; rfl
    · have e : ((b.toNat : Int) != 47) = true := by
        rw [bne_iff_ne]; intro h
        exact hb (UInt8.toNat_inj.1 (by show b.toNat = 47; omega))
      have ih := c4d n s kont hs us (i + 1) m h2 (by simp only [List.length_cons] at hm; omega)
      rw [e, cond_true, show iadd .i64 (i : Int) 1 = ((i + 1 : Nat) : Int) by rw [a2q (by omega) (by omega)]; omega, ih]
      have e2 : cutS (b :: us) = (b :: (cutS us).1, (cutS us).2.1, (cutS us).2.2) := by
        show (if b = 47 then _ else _) = _
        rw [if_neg hb]
      rw [e2]
      congr 2
      simp only [List.length_cons]; omega
theorem c6k {s : Bs} (hl : s.length < 1099511627776) (h1 : (cutS s).1.length ≤ 500) (h2 : (cutS s).2.1.length ≤ 500) : Ev (fun n => a9m n s) (c1h s) := by
  have l1 := b1s (cutS s).1 h1
  have l2 := b1s (cutS s).2.1 h2
  let K : Nat → Int → Option (Frac × Int) := fun n (atx2 : Int) =>
  bif atx2 == (s.length : Int) then
   some ((⟨(⟨0, []⟩ : Big), (⟨0, []⟩ : Big)⟩ : Frac), 2)
  else
   (ssl s 0 atx2).bind fun t1 =>
   (a3r n t1).bind fun v1 =>
   (ssl s (iadd .i64 atx2 1) s.length).bind fun t2 =>
   (a3r n t2).bind fun v2 =>
   (bif v1.2 != 0 then
    some true
   else
    some (v2.2 != 0)).bind fun v3 =>
   (bif v3 then
    some true
   else
    (a6h n (⟨(⟨v1.1.Sign, v1.1.Digits⟩ : Big), (⟨v2.1.Sign, v2.1.Digits⟩ : Big)⟩ : Frac)).bind fun v5 =>
    some (!(v5 == s))).bind fun v4 =>
   bif v4 then
    some ((⟨(⟨0, []⟩ : Big), (⟨0, []⟩ : Big)⟩ : Frac), 2)
   else
    some ((⟨(⟨v1.1.Sign, v1.1.Digits⟩ : Big), (⟨v2.1.Sign, v2.1.Digits⟩ : Big)⟩ : Frac), 0)
  have hK : Ev (fun n => K n ((cutS s).1.length : Int)) (c1h s) := by
    rcases cutS_spec s with ⟨g1, g2, g3⟩ | ⟨g1, g2, g3, g4⟩
    · have hlen := congrArg List.length g3
      simp only [List.length_append, List.length_cons] at hlen
      have e1 := c2v (cutS s).1 (cutS s).2.1
      have e2 := c2w (cutS s).1 (cutS s).2.1 (by omega)
      rw [← g3] at e1 e2
      refine Ev.else (by rw [beq_eq_false_iff_ne]; omega) ?_
      refine Ev.step e1 (Ev.bind (c2j h1) (Ev.step e2 (Ev.bind (c2j h2) ?_)))
      have hne : s ≠ [] := by intro h; rw [h] at hlen; simp at hlen
      unfold c1h
      generalize b2i (cutS s).1 = p at *
      generalize b2i (cutS s).2.1 = q at *
      by_cases e3 : p.2 = 0
      · refine Ev.bind (a := !decide (q.2 = 0)) (Ev.else (by simp [e3]) ((Ev.pure _).eq (by by_cases e : q.2 = 0 <;> simp [e]))) ?_
        by_cases e4 : q.2 = 0
        · rw [decide_eq_true e4]
          refine Ev.bind (a := !(b6h ⟨p.1, q.1⟩ == s)) (Ev.else rfl (Ev.bind (c3b (f := ⟨p.1, q.1⟩) l1 l2 (by decide)) (Ev.pure _))) ?_
          by_cases ht : b6h ⟨p.1, q.1⟩ = s
          · have hr : a4q ⟨p.1, q.1⟩ = true := by
              cases hr : a4q ⟨p.1, q.1⟩ with
              | true => rfl
              | false =>
                unfold b6h at ht
                rw [hr] at ht
                exact absurd ht.symm hne
            rw [if_pos ⟨e3, e4, hr, ht⟩]
            exact Ev.else (by simp [ht]) (Ev.pure _)
          · rw [if_neg (fun h => ht h.2.2.2)]
            exact Ev.then (by simp [ht]) (Ev.pure _)
        · rw [decide_eq_false e4, if_neg (fun h => e4 h.2.1)]
          exact Ev.bind (a := true) (Ev.then rfl (Ev.pure _)) (Ev.then rfl (Ev.pure _))
      · rw [if_neg (fun h => e3 h.1)]
        refine Ev.bind (a := true) (Ev.then (by simpa using e3) (Ev.pure _)) ?_
        exact Ev.bind (a := true) (Ev.then rfl (Ev.pure _)) (Ev.then rfl (Ev.pure _))
    · rw [g3]
      refine Ev.then (by simp) ((Ev.pure _).eq ?_)
      unfold c1h
      rw [if_neg]
      · rfl
      · rw [g4]
        intro h
        exact absurd h.2.1 (by decide)
  refine Ev.from (g := fun n => K n ((cutS s).1.length : Int)) (s.length + 1) (fun n hn => ?_) hK
  show a9m n s = _
  unfold a9m
  have := c4d n s (K n) hl s 0 n rfl (by omega)
  rw [Nat.zero_add] at this
  exact this
end Go.Proofs.YtaanocaobllohaaGreatDoor.D
