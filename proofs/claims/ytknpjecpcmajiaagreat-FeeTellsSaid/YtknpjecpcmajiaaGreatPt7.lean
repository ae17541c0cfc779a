/- Several texts in one, for FeeTells.said: what the theorem leans on. -/
import Derived.Test.YtknpjecpcmajiaaGreatPt6
set_option maxHeartbeats 1000000
set_option maxRecDepth 1000000
namespace Go.Proofs.YtknpjecpcmajiaaGreat.D
open Go Rt M
def odd (x y : Int) : Bool := decide (x * y < 0) && decide (x.natAbs % y.natAbs ≠ 0)
def dq (x y : Int) : Int := if odd x y then -((x.natAbs / y.natAbs : Nat) + 1 : Int) else sg (x * y) * (x.natAbs / y.natAbs : Nat)
def dr (x y : Int) : Int := if odd x y then sg y * ((y.natAbs - x.natAbs % y.natAbs : Nat) : Int) else sg x * ((x.natAbs % y.natAbs : Nat) : Int)
theorem b3u {x y : Int} : x * y < 0 ↔ (x < 0 ∧ 0 < y) ∨ (0 < x ∧ y < 0) := by
 rcases a2h x with ⟨h1, h2⟩ | ⟨h1, h2⟩ | ⟨h1, h2⟩ <;> rcases a2h y with ⟨h3, h4⟩ | ⟨h3, h4⟩ | ⟨h3, h4⟩
 ·have := Int.mul_pos_of_neg_of_neg h1 h3; omega
 ·subst h3; simp
 ·have := Int.mul_neg_of_neg_of_pos h1 h3; omega
 ·subst h1; simp
 ·subst h1; simp
 ·subst h1; simp
 ·have := Int.mul_neg_of_pos_of_neg h1 h3; omega
 ·subst h3; simp
 ·have := Int.mul_pos h1 h3; omega
theorem d7s {x y : Int} (hy : y ≠ 0) : dq x y * y + dr x y = x ∧ (dr x y = 0 ∨ sg (dr x y) = sg y) ∧ (dr x y).natAbs < y.natAbs := by
 have hyn : 0 < y.natAbs := by omega
 have h1 := Nat.div_add_mod x.natAbs y.natAbs
 have h2 := Nat.mod_lt x.natAbs hyn
 have h1' : (y.natAbs : Int) * ((x.natAbs / y.natAbs : Nat) : Int) + ((x.natAbs % y.natAbs : Nat) : Int) = x.natAbs := by rw [← Int.natCast_mul]; omega
 generalize hq : x.natAbs / y.natAbs = q at *
 generalize hr : x.natAbs % y.natAbs = r at *
 unfold dq dr odd
 rw [hq, hr]
 by_cases ho : x * y < 0
 ·by_cases hr0 : r = 0
  ·rw [show (decide (x * y < 0) && decide (r ≠ 0)) = false by simp [hr0]]
   simp only [if_neg Bool.false_ne_true]
   rw [hr0] at h1' ⊢
   rw [a5b ho]
   simp only [Int.natCast_zero, Int.mul_zero, Int.add_zero] at h1' ⊢
   refine ⟨?_, .inl trivial, by omega⟩
   rcases b3u.1 ho with ⟨a, b⟩ | ⟨a, b⟩
   ·have e : (y.natAbs : Int) = y := by omega
    rw [e] at h1'
    have : -1 * (q : Int) * y = -(y * q) := by grind
    omega
   ·have e : (y.natAbs : Int) = -y := by omega
    rw [e] at h1'
    have : -1 * (q : Int) * y = -y * q := by grind
    omega
  ·rw [show (decide (x * y < 0) && decide (r ≠ 0)) = true by simp [hr0, ho]]
   simp only [if_true]
   rcases b3u.1 ho with ⟨a, b⟩ | ⟨a, b⟩
   ·have e : (y.natAbs : Int) = y := by omega
    rw [e] at h1'
    rw [a4v b]
    have : -((q : Int) + 1) * y = -(y * q) - y := by grind
    exact ⟨by omega, .inr (by rw [a4v (by omega)]), by omega⟩
   ·have e : (y.natAbs : Int) = -y := by omega
    rw [e] at h1'
    rw [a5b b]
    have : -((q : Int) + 1) * y = -y * q - y := by grind
    exact ⟨by omega, .inr (by rw [a5b (by omega)]), by omega⟩
 ·rw [show (decide (x * y < 0) && decide (r ≠ 0)) = false by simp [ho]]
  simp only [if_neg Bool.false_ne_true]
  rcases a2h x with ⟨a, b⟩ | ⟨a, b⟩ | ⟨a, b⟩ <;> rcases a2h y with ⟨c, d⟩ | ⟨c, d⟩ | ⟨c, d⟩
  ·rw [b6b, b, d]
   have e : (y.natAbs : Int) = -y := by omega
   rw [e] at h1'
   have : -1 * -1 * (q : Int) * y = -(-y * q) := by grind
   refine ⟨by omega, ?_, by omega⟩
   by_cases hr0 : r = 0
   ·left; omega
   ·right; rw [a5b (by omega)]
  ·exact absurd c hy
  ·exact absurd (b3u.2 (.inl ⟨a, c⟩)) ho
  ·rw [b6b, b]; subst a
   have : r = 0 := by rw [← hr]; simp
   refine ⟨?_, .inl (by omega), by omega⟩
   simp
  ·exact absurd c hy
  ·rw [b6b, b]; subst a
   refine ⟨?_, .inl (by omega), by omega⟩
   simp
  ·exact absurd (b3u.2 (.inr ⟨a, c⟩)) ho
  ·exact absurd c hy
  ·rw [b6b, b, d]
   have e : (y.natAbs : Int) = y := by omega
   rw [e] at h1'
   have : 1 * 1 * (q : Int) * y = y * q := by grind
   refine ⟨by omega, ?_, by omega⟩
   by_cases hr0 : r = 0
   ·left; omega
   ·right; rw [a4v (by omega)]
theorem c7j {x y : Int} (ho : odd x y = true) : (dq x y).natAbs = x.natAbs / y.natAbs + 1 ∧ sg (dq x y) = -1 := by
 unfold dq; rw [if_pos ho]
 generalize x.natAbs / y.natAbs = q
 exact ⟨by omega, a5b (by omega)⟩
theorem c7i {x y : Int} (hy : y ≠ 0) (ho : odd x y = true) : (dr x y).natAbs = y.natAbs - x.natAbs % y.natAbs ∧ sg (dr x y) = sg y := by
 unfold dr; rw [if_pos ho]
 have h := Nat.mod_lt x.natAbs (show y.natAbs > 0 by omega)
 generalize x.natAbs % y.natAbs = r at *
 rcases a2h y with ⟨h1, h2⟩ | ⟨h1, h2⟩ | ⟨h1, h2⟩ <;> rw [h2]
 ·exact ⟨by omega, a5b (by omega)⟩
 ·exact absurd h1 hy
 ·exact ⟨by omega, a4v (by omega)⟩
theorem c2y {x y : Int} (hy : y ≠ 0) (ho : ¬odd x y = true) : (dq x y).natAbs = x.natAbs / y.natAbs ∧ (x.natAbs / y.natAbs ≠ 0 → sg (x * y) = sg (dq x y)) := by
 unfold dq; rw [if_neg ho]
 rcases a2h (x * y) with ⟨h1, h2⟩ | ⟨h1, h2⟩ | ⟨h1, h2⟩ <;> rw [h2]
 ·generalize x.natAbs / y.natAbs = q
  exact ⟨by omega, fun _ => by rw [a5b (by omega)]⟩
 ·have h3 : x = 0 := by
   rcases Int.mul_eq_zero.1 h1 with h4 | h4
   ·exact h4
   ·exact absurd h4 hy
  subst h3
  rw [show (0 : Int).natAbs = 0 from rfl, Nat.zero_div]
  exact ⟨rfl, fun h => absurd rfl h⟩
 ·generalize x.natAbs / y.natAbs = q
  exact ⟨by omega, fun _ => by rw [a4v (by omega)]⟩
theorem c4b {x y : Int} (ho : ¬odd x y = true) : (dr x y).natAbs = x.natAbs % y.natAbs ∧ (x.natAbs % y.natAbs ≠ 0 → sg x = sg (dr x y)) := by
 unfold dr; rw [if_neg ho]
 rcases a2h x with ⟨h1, h2⟩ | ⟨h1, h2⟩ | ⟨h1, h2⟩ <;> rw [h2]
 ·generalize x.natAbs % y.natAbs = r
  exact ⟨by omega, fun _ => by rw [a5b (by omega)]⟩
 ·subst h1
  rw [show (0 : Int).natAbs = 0 from rfl, Nat.zero_mod]
  exact ⟨rfl, fun h => absurd rfl h⟩
 ·generalize x.natAbs % y.natAbs = r
  exact ⟨by omega, fun _ => by rw [a4v (by omega)]⟩
theorem dig_one : dig 1 = [1] := by rw [b3q (by decide), show 1 / 1048576 = 0 from rfl, dig_zero]; rfl
theorem d3e {x y : Int} {k : Nat} (hx : Sm k x) (hy : Sm k y) (hk : k < 8388608) (hy0 : y ≠ 0) : Ev (fun n => b3e n (toB x) (toB y)) (toB (dq x y), toB (dr x y), 0) := by
 have lx := a2s hx
 have ly := a2s hy
 have hyn : y.natAbs ≠ 0 := by omega
 have hmod := Nat.mod_lt x.natAbs (show y.natAbs > 0 by omega)
 have hdivle : x.natAbs / y.natAbs ≤ x.natAbs := Nat.div_le_self _ _
 have lq := a5r hdivle
 have lr := a5r (Nat.le_of_lt hmod)
 have lq1 : (dig (x.natAbs / y.natAbs + 1)).length ≤ k + 1 := by
  have h : Sm (k + 1) ((x.natAbs / y.natAbs + 1 : Nat) : Int) := by
   generalize x.natAbs / y.natAbs = q at *
   unfold Sm at *
   rw [Int.natAbs_natCast]
   simp only [pw]; have := pw_pos k; omega
  have := a2s h
  rwa [Int.natAbs_natCast] at this
 have ls := a5r (show y.natAbs - x.natAbs % y.natAbs ≤ y.natAbs by omega)
 unfold b3e
 refine Ev.bind (a6j hx (by omega)) ?_
 refine Ev.bind (a := false) (Ev.else rfl (Ev.bind (a6j hy (by omega)) (Ev.pure _))) ?_
 refine Ev.else rfl ?_
 refine Ev.else (by show (sg y == 0) = false; rcases a2h y with h | h | h <;> first | (rw [h.2]; rfl) | omega) ?_
 refine Ev.bind (d3c (x := x.natAbs) (y := y.natAbs) hyn (by omega) (by omega)) ?_
 refine Ev.step (a := odd x y) (by
  show (bif decide (imul .i64 (sg x) (sg y) < 0) then some (decide (0 < ((dig (x.natAbs % y.natAbs)).length : Int))) else some false) = _
  rw [b4w]
  unfold odd
  have e1 : decide (sg (x * y) < 0) = decide (x * y < 0) := by
   rcases a2h (x * y) with ⟨h1, h2⟩ | ⟨h1, h2⟩ | ⟨h1, h2⟩ <;> rw [h2] <;> simp <;> omega
  have e2 : decide (0 < ((dig (x.natAbs % y.natAbs)).length : Int)) = decide (x.natAbs % y.natAbs ≠ 0) := by
   by_cases h : x.natAbs % y.natAbs = 0
   ·rw [h, dig_zero]; rfl
   ·have := b6c h
    have h3 : 0 < (dig (x.natAbs % y.natAbs)).length := List.length_pos_iff.2 this
    simp [h]; omega
  rw [e1, e2]
  cases decide (x * y < 0) <;> rfl) ?_
 by_cases ho : odd x y = true
 ·refine Ev.then ho ?_
  refine Ev.bind (a := dig (x.natAbs / y.natAbs + 1)) (by
   have := c9k (x.natAbs / y.natAbs) 1 (by omega) (by rw [dig_one]; simp)
   rwa [dig_one] at this) ?_
  refine Ev.bind (a7w (-1) (by omega)) ?_
  refine Ev.bind (c5w y.natAbs (x.natAbs % y.natAbs) (by omega) (by omega)) ?_
  refine Ev.bind (a7w (sg y) (by omega)) ?_
  refine (Ev.pure _).eq ?_
  rw [a6b (dq x y) (c7j ho).1 (fun _ => (c7j ho).2.symm), a6b (dr x y) (c7i hy0 ho).1 (fun _ => (c7i hy0 ho).2.symm)]
 ·refine Ev.else (by simpa using ho) ?_
  refine Ev.bind (a7w (imul .i64 (sg x) (sg y)) (by omega)) ?_
  refine Ev.bind (a7w (sg x) (by omega)) ?_
  refine (Ev.pure _).eq ?_
  rw [b4w, a6b (dq x y) (c2y hy0 ho).1 (c2y hy0 ho).2, a6b (dr x y) (c4b ho).1 (c4b ho).2]
theorem d7j (v : Nat) : ∀ (u : Nat), (dig u).length < 16777216 → (dig v).length < 16777216 → ∃ N, ∀ n, N ≤ n → ∀ (kont : List Int → Option (Big × Int)) m, v < m → a9s n kont m (dig u) (dig v) = kont (dig (Nat.gcd u v)) := by
 induction v using Nat.strongRecOn with
 | ind v ih =>
  intro u hu hv
  by_cases h : v = 0
  ·subst h
   refine ⟨0, fun n _ kont m hm => ?_⟩
   obtain ⟨m, rfl⟩ : ∃ m', m = m' + 1 := ⟨m - 1, by omega⟩
   rw [b4r, dig_zero, Nat.gcd_zero_right]; rfl
  ·have hlt := Nat.mod_lt u (show v > 0 by omega)
   obtain ⟨N1, h1⟩ := d3c (x := u) (y := v) h hu hv
   obtain ⟨N2, h2⟩ := ih (u % v) hlt v hv (by have := a5r (Nat.le_of_lt hlt); omega)
   refine ⟨max N1 N2, fun n hn kont m hm => ?_⟩
   obtain ⟨m, rfl⟩ : ∃ m', m = m' + 1 := ⟨m - 1, by omega⟩
   have h3 : 0 < (dig v).length := List.length_pos_iff.2 (b6c h)
   rw [b4r, show decide (0 < ((dig v).length : Int)) = true by simp; omega, cond_true, (show b4s n (dig u) (dig v) = _ from h1 n (by omega)), Option.bind_some]
   show a9s n kont m (dig v) (dig (u % v)) = _
   rw [h2 n (by omega) kont m (by omega), Nat.gcd_comm v, ← Nat.gcd_rec, Nat.gcd_comm]
theorem d3a {x y : Int} {k : Nat} (hx : Sm k x) (hy : Sm k y) (hk : k < 8388608) : Ev (fun n => b5d n (toB x) (toB y)) (toB (Nat.gcd x.natAbs y.natAbs : Nat), 0) := by
 have lx := a2s hx
 have ly := a2s hy
 have lg : (dig (Nat.gcd x.natAbs y.natAbs)).length < 16777216 := by
  by_cases h : x.natAbs = 0
  ·rw [h, Nat.gcd_zero_left]; omega
  ·have := a5r (Nat.gcd_le_left y.natAbs (show 0 < x.natAbs by omega)); omega
 unfold b5d
 refine Ev.bind (a6j hx (by omega)) ?_
 refine Ev.bind (a := false) (Ev.else rfl (Ev.bind (a6j hy (by omega)) (Ev.pure _))) ?_
 refine Ev.else rfl ?_
 refine Ev.bind (b3p (a := (toB x).Digits) (by simp only [toB]; omega)) ?_
 obtain ⟨N, hN⟩ := d7j y.natAbs x.natAbs (by omega) (by omega)
 refine Ev.from (max N (y.natAbs + 1)) (fun n hn => hN n (by omega) _ n (by omega)) ?_
 refine Ev.bind (b3p (by omega)) ?_
 refine Ev.bind (a7w 1 (by omega)) ?_
 rw [a6b ((Nat.gcd x.natAbs y.natAbs : Nat) : Int) (Int.natAbs_natCast _) (fun hv => by rw [a4v (by omega)])]
 exact Ev.step (b1l 0 _) (Ev.pure _)
theorem c7x {x y : Int} {k : Nat} (hx : Sm k x) (hy : Sm k y) (hk : k < 536870912) : Ev (fun n => b2f n (toB x) (toB y)) (sg (x - y)) := by
 have lx := a2s hx
 unfold b2f
 refine Ev.bind (a6j hx (by omega)) ?_
 refine Ev.bind (a := false) (Ev.else rfl (Ev.bind (a6j hy (by omega)) (Ev.pure _))) ?_
 refine Ev.else rfl ?_
 by_cases h : sg x = sg y
 ·refine Ev.else (by show (sg x != sg y) = false; rw [h]; simp) ?_
  refine Ev.bind (c0i x.natAbs y.natAbs (by omega)) ?_
  refine (Ev.pure _).eq ?_
  show imul .i64 (sg x) _ = _
  rw [b4w]
  rcases a2h x with ⟨a, b⟩ | ⟨a, b⟩ | ⟨a, b⟩ <;> rcases a2h y with ⟨c, d⟩ | ⟨c, d⟩ | ⟨c, d⟩ <;> rw [b, d] at h <;> (try omega)
  ·rw [b6b, b]
   rcases a2h (x - y) with ⟨e, f⟩ | ⟨e, f⟩ | ⟨e, f⟩
   ·rw [f, a4v (by omega)]; rfl
   ·rw [f, show (x.natAbs : Int) - y.natAbs = 0 by omega]; rfl
   ·rw [f, a5b (by omega)]; rfl
  ·subst a c; rfl
  ·rw [b6b, b, Int.one_mul, show (x.natAbs : Int) - y.natAbs = x - y by omega]
 ·refine Ev.then (by show (sg x != sg y) = true; simpa using h) ?_
  refine Ev.step (a := sg (sg x - sg y)) (b6p 0 _ _) ?_
  refine (Ev.pure _).eq ?_
  rcases a2h x with ⟨a, b⟩ | ⟨a, b⟩ | ⟨a, b⟩ <;> rcases a2h y with ⟨c, d⟩ | ⟨c, d⟩ | ⟨c, d⟩ <;> rw [b, d] at h ⊢ <;> first
   | (exfalso; omega)
   | (rw [a5b (x := x - y) (by omega)]; decide)
   | (rw [a4v (x := x - y) (by omega)]; decide)
theorem d2g (x y : Int) (xs ys : List Int) : decide (x :: xs = y :: ys) = (decide (x = y) && decide (xs = ys)) := by
 by_cases h : x = y <;> by_cases h2 : xs = ys <;> simp [h, h2]
end Go.Proofs.YtknpjecpcmajiaaGreat.D

namespace Go.Proofs.YtknpjecpcmajiaaGreat.D
open Go Rt M
theorem Of_L (n : Nat) (kont : List Int → Option Big) : ∀ (u m : Nat) (acc : List Int), u < 18446744073709551616 → (dig u).length < m → acc.length + (dig u).length < 1099511627776 → b0b n kont m (u : Int) acc = kont (acc ++ dig u) := by
 intro u
 induction u using Nat.strongRecOn with
 | ind u ih =>
  intro m acc hu hm ha
  obtain ⟨m, rfl⟩ : ∃ m', m = m' + 1 := ⟨m - 1, by omega⟩
  rw [c0s]
  by_cases h : u = 0
  ·subst h
   rw [dig_zero, List.append_nil]; rfl
  ·have hd := b3q h
   rw [hd] at hm ha
   simp only [List.length_cons] at hm ha
   rw [show decide (0 < (u : Int)) = true by simp; omega, cond_true, c8c (by omega) (by omega), a6n (by omega) (by omega), b6z (by simp; omega), Option.bind_some, d4i, Option.bind_some]
   have e1 : (u : Int) / 1048576 = ((u / 1048576 : Nat) : Int) := by omega
   have e2 : (u : Int) % 1048576 = ((u % 1048576 : Nat) : Int) := by omega
   rw [e1, e2, ih (u / 1048576) (by omega) m _ (by omega) (by omega) (by simp; omega), hd]
   simp
theorem c8h {u : Nat} (h : u < 18446744073709551616) : (dig u).length ≤ 4 := by
 have h1 : Sm 4 (u : Int) := by unfold Sm; rw [Int.natAbs_natCast, show pw 4 = 1208925819614629174706176 by decide]; omega
 have h2 := a2s h1
 rwa [Int.natAbs_natCast] at h2
theorem d7n {x : Int} (h1 : -9223372036854775808 ≤ x) (h2 : x ≤ 9223372036854775807) : Ev (fun n => b7a n x) (toB x) := by
 have hl := c8h (u := x.natAbs) (by omega)
 have hs : ∀ s : Int, Ev (fun n => (a3u n s (dig x.natAbs)).bind fun v1 => some (⟨v1.Sign, v1.Digits⟩ : Big)) (if x.natAbs = 0 then ⟨0, []⟩ else ⟨s, dig x.natAbs⟩) := fun s =>
  Ev.bind (a7w s (by omega)) (Ev.pure _)
 by_cases hx : x < 0
 ·refine Ev.from (g := fun n => (a3u n (-1) (dig x.natAbs)).bind fun v1 => some (⟨v1.Sign, v1.Digits⟩ : Big)) 5 (fun n hn => ?_) ((hs (-1)).eq (a6b x rfl (fun _ => (a5b hx).symm)))
  unfold b7a
  rw [show decide (x < 0) = true by simpa using hx, cond_true, Option.bind_some]
  have e : IntKind.u64.wrap (0 - IntKind.u64.wrap x) = (x.natAbs : Int) := by rw [b5h, b5h]; omega
  show b0b n _ n (IntKind.u64.wrap (0 - IntKind.u64.wrap x)) [] = _
  rw [e, Of_L n _ x.natAbs n [] (by omega) (by omega) (by simp; omega), List.nil_append]
 ·refine Ev.from (g := fun n => (a3u n 1 (dig x.natAbs)).bind fun v1 => some (⟨v1.Sign, v1.Digits⟩ : Big)) 5 (fun n hn => ?_) ((hs 1).eq (a6b x rfl (fun h => (a4v (by omega)).symm)))
  unfold b7a
  rw [show decide (x < 0) = false by simpa using hx, cond_false, Option.bind_some]
  have e : IntKind.u64.wrap x = (x.natAbs : Int) := by rw [b5h]; omega
  show b0b n _ n (IntKind.u64.wrap x) [] = _
  rw [e, Of_L n _ x.natAbs n [] (by omega) (by omega) (by simp; omega), List.nil_append]
theorem d4y {x : Int} {i : Nat} (hi : i ≤ 60) (h0 : 0 ≤ x) (h1 : x * 2 ^ i < 18446744073709551616) : shl .u64 x (i : Int) = some (x * 2 ^ i) := by
 unfold shl
 have h3 : 0 ≤ x * 2 ^ i := Int.mul_nonneg h0 (Int.le_of_lt (Int.pow_pos (by decide)))
 rw [if_neg (by omega), show min (i : Int).toNat IntKind.u64.bits = i by simp [IntKind.bits]; omega, b5h]
 congr 1
 omega
theorem d5e {x y : Int} {i : Nat} (h0 : 0 ≤ x) (h1 : x < 2 ^ i) (h2 : 0 ≤ y) (h3 : x + y * 2 ^ i < 18446744073709551616) : ior .u64 x (y * 2 ^ i) = x + y * 2 ^ i := by
  obtain ⟨p, rfl⟩ := Int.eq_ofNat_of_zero_le h0
  obtain ⟨q, rfl⟩ := Int.eq_ofNat_of_zero_le h2
  have h1' : p < 2 ^ i := by have : ((p : Nat) : Int) < ((2 ^ i : Nat) : Int) := by simpa using h1
                             exact Int.ofNat_lt.1 this
  have e : (q : Int) * 2 ^ i = ((2 ^ i * q : Nat) : Int) := by rw [Int.natCast_mul, Int.mul_comm]; simp
  rw [e] at h3 ⊢
  unfold ior
  rw [BitVec.toNat_or, BitVec.toNat_ofInt, BitVec.toNat_ofInt, show IntKind.u64.bits = 64 from rfl]
  have e1 : ((p : Int) % ((2 ^ 64 : Nat) : Int)).toNat = p := by omega
  have e2 : (((2 ^ i * q : Nat) : Int) % ((2 ^ 64 : Nat) : Int)).toNat = 2 ^ i * q := by omega
  rw [e1, e2, Nat.or_comm, ← Nat.two_pow_add_eq_or_of_lt h1', b5h]
  omega
theorem pw_two : ∀ i, pw i = 2 ^ (20 * i)
 | 0 => rfl
 | i + 1 => by rw [pw, pw_two i, Nat.mul_add, Int.pow_add, Int.mul_comm]; rfl
theorem d5w (n : Nat) (a : Big) (kont : Int → Option (Int × Bool)) (hr : InR a.Digits) (h4 : a.Digits.length ≤ 4) : ∀ (us : List Int) (i m : Nat) (u : Int), a.Digits.drop i = us → us.length < m → 0 ≤ u → u < pw i → u < 10376293541461622784 →
  b0p n a kont m u (i : Int) = if u + pw i * val us < 10376293541461622784 then kont (u + pw i * val us) else some (0, false)
 | [], i, m + 1, u, hd, _, h0, h1, h2 => by
  have hi : a.Digits.length ≤ i := by simpa using hd
  rw [b5e, show decide ((i : Int) < (a.Digits.length : Int)) = false by simp; omega, cond_false]
  simp only [val, Int.mul_zero, Int.add_zero]
  rw [if_pos h2]
 | d :: us, i, m + 1, u, hd, hm, h0, h1, h2 => by
  obtain ⟨hix, hdt, hi⟩ := drop_cons hd
  have hdr := hr d (List.mem_of_mem_drop (by rw [hd]; simp : d ∈ a.Digits.drop i))
  have hir : InR us := fun e he => hr e (by rw [← List.take_append_drop (i + 1) a.Digits, hdt]; exact List.mem_append_right _ he)
  rw [b5e, show decide ((i : Int) < (a.Digits.length : Int)) = true by simp; omega, cond_true, hix, Option.bind_some]
  have hp := pw_pos i
  have hval : u + pw i * val (d :: us) = (u + d * pw i) + pw (i + 1) * val us := by simp only [val, pw]; grind
  have hvus : 0 ≤ pw (i + 1) * val us := Int.mul_nonneg (Int.le_of_lt (pw_pos _)) (val_nonneg hir)
  have hpi : pw i ≤ pw 3 := pw_mono (by omega)
  rw [show pw 3 = 1152921504606846976 by decide] at hpi
  by_cases h8 : i = 3 ∧ 8 < d
  ·obtain ⟨rfl, h8⟩ := h8
   rw [show ((((3 : Nat) : Int)) == 3) = true from rfl, cond_true, Option.bind_some, show decide (8 < d) = true by simpa using h8, cond_true, hval, if_neg]
   rw [show pw 3 = 1152921504606846976 by decide]
   omega
  ·have e1 : (bif ((i : Int) == 3) then some (decide (8 < d)) else some false) = some false := by
    by_cases h3 : i = 3
    ·subst h3
     rw [show ((((3 : Nat) : Int)) == 3) = true from rfl, cond_true, show decide (8 < d) = false by simp; omega]
    ·rw [show ((i : Int) == 3) = false by simp; omega, cond_false]
   rw [e1, Option.bind_some, cond_false]
   have hq : u + d * pw i < 10376293541461622784 := by
    rcases Nat.lt_or_ge i 3 with h3 | h3
    ·have h5 : pw (i + 1) ≤ pw 3 := pw_mono (by omega)
     rw [show pw 3 = 1152921504606846976 by decide] at h5
     have h6 : (d + 1) * pw i ≤ 1048576 * pw i := Int.mul_le_mul_of_nonneg_right (by omega) (Int.le_of_lt hp)
     simp only [pw] at h5
     rw [Int.add_mul, Int.one_mul] at h6
     omega
    ·have : i = 3 := by omega
     subst this
     rw [show pw 3 = 1152921504606846976 by decide] at h1 ⊢
     omega
   have hq1 : u + d * pw i < pw (i + 1) := by
    have h6 : (d + 1) * pw i ≤ 1048576 * pw i := Int.mul_le_mul_of_nonneg_right (by omega) (Int.le_of_lt hp)
    simp only [pw]
    rw [Int.add_mul, Int.one_mul] at h6
    omega
   have hq0 : 0 ≤ d * pw i := Int.mul_nonneg hdr.1 (Int.le_of_lt hp)
   have e2 : imul .i64 20 (i : Int) = ((20 * i : Nat) : Int) := by rw [a8t (by omega) (by omega)]; omega
   have e3 : IntKind.u64.wrap d = d := by rw [b5h]; omega
   rw [e2, e3, d4y (by omega) hdr.1 (by rw [← pw_two]; omega), Option.bind_some, d5e h0 (by rw [← pw_two]; exact h1) hdr.1 (by rw [← pw_two]; omega), ← pw_two]
   have e4 : iadd .i64 (i : Int) 1 = ((i + 1 : Nat) : Int) := by rw [a4e (by omega) (by omega)]; omega
   rw [e4, d5w n a kont hr h4 us (i + 1) m (u + d * pw i) hdt (by simp only [List.length_cons] at hm; omega) (by omega) hq1 hq, hval]
theorem d6s {x : Int} {k : Nat} (h : Sm k x) (hk : k < 1099511627776) : Ev (fun n => c0n n (toB x)) (if -9223372036854775808 ≤ x ∧ x ≤ 9223372036854775807 then (x, true) else (0, false)) := by
 unfold c0n
 refine Ev.bind (a6j h hk) ?_
 by_cases hl : (dig x.natAbs).length ≤ 4
 ·refine Ev.bind (a := false) (Ev.else rfl ((Ev.pure _).eq (by show decide (4 < ((dig x.natAbs).length : Int)) = false; simp; omega))) ?_
  refine Ev.else rfl ?_
  refine Ev.from (g := fun _ => some (if -9223372036854775808 ≤ x ∧ x ≤ 9223372036854775807 then (x, true) else (0, false))) 5 (fun n hn => ?_) (Ev.pure _)
  have h1 := d5w n (toB x) (fun (u2 : Int) =>
   (bif decide ((toB x).Sign < 0) then
    some (decide (u2 ≤ 9223372036854775808))
   else
    some false).bind fun v3 =>
   bif v3 then
    some (IntKind.i64.wrap (IntKind.u64.wrap (0 - u2)), true)
   else
    (bif decide (0 ≤ (toB x).Sign) then
     some (decide (u2 < 9223372036854775808))
    else
     some false).bind fun v4 =>
    bif v4 then
     some (IntKind.i64.wrap u2, true)
    else
     some (0, false)) (a3l x.natAbs) hl (dig x.natAbs) 0 n 0 rfl (by omega) (by decide) (by decide) (by decide)
  refine h1.trans ?_
  rw [a2u, show pw 0 = 1 from rfl, Int.one_mul, Int.zero_add]
  by_cases hb : (x.natAbs : Int) < 10376293541461622784
  ·rw [if_pos hb]
   have hsx : (toB x).Sign = sg x := rfl
   rw [hsx]
   rcases a2h x with ⟨a, b⟩ | ⟨a, b⟩ | ⟨a, b⟩ <;> rw [b]
   ·rw [show decide ((-1 : Int) < 0) = true from rfl, cond_true, Option.bind_some]
    by_cases hc : (x.natAbs : Int) ≤ 9223372036854775808
    ·rw [show decide ((x.natAbs : Int) ≤ 9223372036854775808) = true by simpa using hc, cond_true, if_pos (by omega)]
     congr 2
     rw [d3d, b5h]; split <;> omega
    ·rw [show decide ((x.natAbs : Int) ≤ 9223372036854775808) = false by simpa using hc, cond_false, if_neg (by omega)]; rfl
   ·subst a; rfl
   ·rw [show decide ((1 : Int) < 0) = false from rfl, cond_false, Option.bind_some, cond_false, show decide ((0 : Int) ≤ 1) = true from rfl, cond_true, Option.bind_some]
    by_cases hc : (x.natAbs : Int) < 9223372036854775808
    ·rw [show decide ((x.natAbs : Int) < 9223372036854775808) = true by simpa using hc, cond_true, if_pos (by omega)]
     congr 2
     rw [a6n (by omega) (by omega)]; omega
    ·rw [show decide ((x.natAbs : Int) < 9223372036854775808) = false by simpa using hc, cond_false, if_neg (by omega)]
  ·rw [if_neg hb, if_neg (by omega)]
 ·refine Ev.bind (a := true) (Ev.else rfl ((Ev.pure _).eq (by show decide (4 < ((dig x.natAbs).length : Int)) = true; simp; omega))) ?_
  refine Ev.then rfl ((Ev.pure _).eq ?_)
  rw [if_neg]
  intro hx
  exact hl (c8h (by omega))
end Go.Proofs.YtknpjecpcmajiaaGreat.D

namespace Go.Proofs.YtknpjecpcmajiaaGreat.D
open Go Rt M
section
variable {β : Type} {r : β} {c d : Bool} {y : Nat → Option Bool} {f : Nat → Bool → Option β}
theorem guard {V : Bool} {rest : Nat → Option Bool} (h : V = false → Ev rest true) : Ev (fun n => bif V then some true else rest n) true := by
 cases V with
 | true => exact Ev.then rfl (Ev.pure _)
 | false => exact Ev.else rfl (h rfl)
end
theorem toB_one : toB 1 = ⟨1, [1]⟩ := by unfold toB; rw [show (1 : Int).natAbs = 1 from rfl, dig_one]; rfl
theorem Of1_ev : Ev (fun n => b7a n 1) (toB 1) := ⟨200, fun n hn => by
 obtain ⟨m, rfl⟩ := Nat.le.dest hn
 rw [Nat.add_comm, toB_one]
 exact (show b7a (m + 200) 1 = some ⟨1, [1]⟩ by kernel_rfl)⟩
theorem b2c (x : Int) : (sg x == 0) = decide (x = 0) := by rcases a2h x with h | h | h <;> rw [h.2] <;> simp <;> omega
end Go.Proofs.YtknpjecpcmajiaaGreat.D

namespace Go.Proofs.YtknpjecpcmajiaaGreat.D
open Go Rt M
theorem c9n (n : Nat) (a b : Big) (kont : Option Bool) (hl : a.Digits.length = b.Digits.length) (hla : a.Digits.length < 1099511627776) : ∀ (us : List Int) (i m : Nat), a.Digits.drop i = us → us.length < m → a5n n a b kont m (i : Int) = bif decide (us = b.Digits.drop i) then kont else some false
 | [], i, m + 1, hd, _ => by
  rw [b0e]
  have := drop_nil hd
  have hb : b.Digits.drop i = [] := List.drop_eq_nil_of_le (by omega)
  rw [show decide ((i : Int) < (a.Digits.length : Int)) = false by simp; omega, hb]; rfl
 | x :: xs, i, m + 1, hd, hm => by
  rw [b0e]
  obtain ⟨f1, f2, f3⟩ := drop_cons hd
  have hdb : b.Digits.drop i = b.Digits[i] :: b.Digits.drop (i + 1) := List.drop_eq_getElem_cons (by omega)
  rw [show decide ((i : Int) < (a.Digits.length : Int)) = true by simp; omega, cond_true, f1, Option.bind_some, (drop_cons hdb).1, Option.bind_some, hdb]
  by_cases h : x = b.Digits[i]
  ·rw [show (x != b.Digits[i]) = false by simp [h], cond_false, inc64 (by omega), c9n n a b kont hl hla xs (i + 1) m f2 (by simpa using hm), d2g, show decide (x = b.Digits[i]) = true by simpa using h, Bool.true_and]
  ·rw [show (x != b.Digits[i]) = true by simpa using h, cond_true, d2g, show decide (x = b.Digits[i]) = false by simpa using h]; rfl
 | _, _, 0, _, h => by omega
theorem c7q {a b : Big} (hl : a.Digits.length < 1099511627776) : Ev (fun n => a8q n a b) (decide (a = b)) := by
 unfold a8q
 obtain ⟨s, l⟩ := a
 obtain ⟨t, k⟩ := b
 by_cases h : s = t
 ·subst h
  by_cases hlen : l.length = k.length
  ·refine Ev.step (a := false) (by simp [hlen]) ?_
   refine Ev.else rfl ⟨l.length + 1, fun n hn => ?_⟩
   have h1 := c9n n ⟨s, l⟩ ⟨s, k⟩ (some true) hlen hl l 0 n rfl (by omega)
   rw [show ((0 : Nat) : Int) = 0 from rfl, List.drop_zero] at h1
   dsimp only at h1 ⊢
   rw [h1]
   by_cases h2 : l = k
   ·simp [h2]
   ·simp [h2]
  ·refine Ev.step (a := true) (by simp; omega) ?_
   have : l ≠ k := fun e => hlen (by rw [e])
   exact Ev.then rfl ((Ev.pure _).eq (by simp [this]))
 ·refine Ev.step (a := true) (by rw [show (s != t) = true by simpa using h, cond_true]) ?_
  exact Ev.then rfl ((Ev.pure _).eq (by simp [h]))
end Go.Proofs.YtknpjecpcmajiaaGreat.D

namespace Go.Proofs.YtknpjecpcmajiaaGreat.D
open Go Rt M
def toF (r : Rat) : Frac := ⟨toB r.num, toB (r.den : Int)⟩
def SmF (k : Nat) (r : Rat) : Prop := Sm k r.num ∧ Sm k (r.den : Int)
def zeroF : Frac := ⟨⟨0, []⟩, ⟨0, []⟩⟩
theorem c3o (r : Rat) : 0 < (r.den : Int) := by have := r.den_nz; omega
theorem SmF.mono {j k : Nat} {r : Rat} (h : SmF j r) (hk : j ≤ k) : SmF k r := ⟨h.1.mono hk, h.2.mono hk⟩
theorem b3l {p q : Int} (hq : 0 < q) : (Rat.divInt p q).num = p / ((Nat.gcd p.natAbs q.natAbs : Nat) : Int) ∧ ((Rat.divInt p q).den : Int) = q / ((Nat.gcd p.natAbs q.natAbs : Nat) : Int) := by
 obtain ⟨d, rfl⟩ := Int.eq_ofNat_of_zero_le (Int.le_of_lt hq)
 have hd : d ≠ 0 := by omega
 rw [Rat.divInt_ofNat, Rat.mkRat_def, dif_neg hd, Rat.normalize_eq, Int.natAbs_natCast]
 exact ⟨rfl, Int.natCast_ediv _ _⟩
theorem c3u (a b : Rat) : a + b = Rat.divInt (a.num * b.den + b.num * a.den) (a.den * b.den) := by
  conv => lhs; rw [← Rat.num_divInt_den a, ← Rat.num_divInt_den b]
  rw [Rat.divInt_add_divInt _ _ (by have := c3o a; omega) (by have := c3o b; omega)]
theorem c6o (a b : Rat) : a * b = Rat.divInt (a.num * b.num) (a.den * b.den) := by
  conv => lhs; rw [← Rat.num_divInt_den a, ← Rat.num_divInt_den b]
  rw [Rat.divInt_mul_divInt]
theorem c6e (a b : Rat) : a / b = Rat.divInt (a.num * b.den) (a.den * b.num) := by
  rw [Rat.div_def]
  conv => lhs; rw [← Rat.num_divInt_den a, ← Rat.num_divInt_den b]
  rw [Rat.inv_divInt, Rat.divInt_mul_divInt]
theorem c7d {x y : Int} (hy : 0 < y) : dq x y = x / y := by
 obtain ⟨h1, h2, h3⟩ := d7s (x := x) (y := y) (by omega)
 have h4 : 0 ≤ dr x y ∧ dr x y < y := by
  rcases h2 with h | h
  ·omega
  ·rw [a4v hy] at h
   have := a2h (dr x y)
   omega
 generalize dq x y = q at *
 generalize dr x y = r at *
 rw [← h1, Int.add_comm, Int.add_mul_ediv_right _ _ (by omega), Int.ediv_eq_zero_of_lt h4.1 h4.2]; omega
theorem c4a {x y : Int} {k : Nat} (h : Sm k x) : Sm k (x / y) := h.le (Int.natAbs_ediv_le_natAbs x y)
theorem b6o (p q : Int) : Rat.divInt p q = Rat.divInt (-p) (-q) := (Rat.neg_divInt_neg p q).symm
theorem b7v {p q : Int} {k : Nat} (hp : Sm k p) (hq : Sm k q) (h0 : q ≠ 0) : SmF k (Rat.divInt p q) := by
 by_cases hn : q < 0
 ·rw [b6o]
  obtain ⟨e1, e2⟩ := b3l (p := -p) (q := -q) (by omega)
  exact ⟨by rw [e1]; exact c4a hp.neg, by rw [e2]; exact c4a hq.neg⟩
 ·obtain ⟨e1, e2⟩ := b3l (p := p) (q := q) (by omega)
  exact ⟨by rw [e1]; exact c4a hp, by rw [e2]; exact c4a hq⟩
theorem b6d {x y : Int} (hx : x ≠ 0) (hy : y ≠ 0) : x * y ≠ 0 := Int.mul_ne_zero hx hy
theorem b1j (r : Rat) : (r.den : Int) ≠ 0 := by have := c3o r; omega
theorem SmF.add {j k : Nat} {a b : Rat} (ha : SmF j a) (hb : SmF k b) : SmF (j + k + 1) (a + b) := by
 rw [c3u]
 exact b7v ((ha.1.mul hb.2).add ((hb.1.mul ha.2).mono (by omega))) ((ha.2.mul hb.2).mono (by omega)) (b6d (b1j a) (b1j b))
theorem SmF.mul {j k : Nat} {a b : Rat} (ha : SmF j a) (hb : SmF k b) : SmF (j + k) (a * b) := by
 rw [c6o]
 exact b7v (ha.1.mul hb.1) (ha.2.mul hb.2) (b6d (b1j a) (b1j b))
theorem SmF.neg {k : Nat} {a : Rat} (ha : SmF k a) : SmF k (-a) := ⟨by rw [Rat.neg_num]; exact ha.1.neg, by rw [Rat.neg_den]; exact ha.2⟩
theorem SmF.sub {j k : Nat} {a b : Rat} (ha : SmF j a) (hb : SmF k b) : SmF (j + k + 1) (a - b) := by rw [Rat.sub_eq_add_neg]; exact ha.add hb.neg
def ofB (a : Big) : Int := a.Sign * val a.Digits
theorem b5n (x : Int) : ofB (toB x) = x := by unfold ofB toB; rw [a2u, b9y]
def a9n (f : Frac) : Bool := a9z f.P && a9z f.Q && (f.Q.Sign == 1) && (Nat.gcd (ofB f.P).natAbs (ofB f.Q).natAbs == 1)
theorem b7z (r : Rat) : a9n (toF r) = true := by
 unfold a9n toF
 simp only
 rw [b5w, b5w, b5n, b5n]
 have h1 : (toB (r.den : Int)).Sign = 1 := a4v (c3o r)
 rw [h1, Int.natAbs_natCast]
 have h2 : Nat.gcd r.num.natAbs r.den = 1 := r.reduced
 rw [h2]; rfl
theorem c2w {f : Frac} (h : a9n f = true) : ∃ r, f = toF r := by
 obtain ⟨P, Q⟩ := f
 unfold a9n at h
 simp only [Bool.and_eq_true, beq_iff_eq] at h
 obtain ⟨⟨⟨h1, h2⟩, h3⟩, h4⟩ := h
 obtain ⟨p, rfl⟩ := a9v h1
 obtain ⟨q, rfl⟩ := a9v h2
 rw [b5n, b5n] at h4
 have h5 : 0 < q := by have h6 : sg q = 1 := h3; have := a2h q; omega
 obtain ⟨d, rfl⟩ := Int.eq_ofNat_of_zero_le (Int.le_of_lt h5)
 refine ⟨⟨p, d, by omega, ?_⟩, rfl⟩
 rwa [Int.natAbs_natCast] at h4
theorem d6y {x : Int} {k : Nat} (h : Sm k x) (hk : k < 1099511627776) : Ev (fun n => b7e n (toB x)) (decide (x = 1)) := by
 unfold b7e
 refine Ev.bind (d6s h hk) ?_
 by_cases hr : -9223372036854775808 ≤ x ∧ x ≤ 9223372036854775807
 ·rw [if_pos hr]
  exact Ev.bind (a := decide (x = 1)) (Ev.then rfl ((Ev.pure _).eq (by by_cases hx : x = 1 <;> simp [hx]))) (Ev.pure _)
 ·rw [if_neg hr]
  refine Ev.bind (a := decide (x = 1)) (Ev.else rfl ((Ev.pure _).eq ?_)) (Ev.pure _)
  rw [decide_eq_false (by omega)]
theorem c3g {p q : Int} {k : Nat} (hp : Sm k p) (hq : Sm k q) : Sm k ((Nat.gcd p.natAbs q.natAbs : Nat) : Int) := by
 by_cases h0 : p.natAbs = 0
 ·rw [h0, Nat.gcd_zero_left]; exact hq.le (by omega)
 ·exact hp.le (by have := Nat.gcd_le_left q.natAbs (Nat.pos_of_ne_zero h0); omega)
theorem c5j {f : Frac} {k : Nat} (hp : f.P.Digits.length ≤ k) (hq : f.Q.Digits.length ≤ k) (hk : k < 8388608) : Ev (fun n => a3w n f) (a9n f) := by
 unfold a3w
 refine Ev.bind (c3h (a := f.P) (by omega)) ?_
 cases hP : a9z f.P with
 | false => exact Ev.bind (a := true) (Ev.then rfl (Ev.pure _)) (Ev.bind (a := true) (Ev.then rfl (Ev.pure _)) (Ev.then rfl ((Ev.pure _).eq (by unfold a9n; rw [hP]; rfl))))
 | true =>
  refine Ev.bind (a := !a9z f.Q) (Ev.else rfl (Ev.bind (c3h (a := f.Q) (by omega)) (Ev.pure _))) ?_
  cases hQ : a9z f.Q with
  | false => exact Ev.bind (a := true) (Ev.then rfl (Ev.pure _)) (Ev.then rfl ((Ev.pure _).eq (by unfold a9n; rw [hP, hQ]; rfl)))
  | true =>
   refine Ev.bind (a := f.Q.Sign != 1) (Ev.else rfl (Ev.pure _)) ?_
   by_cases hs : f.Q.Sign = 1
   ·refine Ev.else (by simp [hs]) ?_
    obtain ⟨P, Q⟩ := f
    obtain ⟨p, rfl⟩ := a9v hP
    obtain ⟨q, rfl⟩ := a9v hQ
    have hp' : Sm k p := a9b hp
    have hq' : Sm k q := a9b hq
    refine Ev.bind (d3a hp' hq' hk) ?_
    refine Ev.bind (a := decide (Nat.gcd p.natAbs q.natAbs = 1)) (Ev.then rfl (Ev.bind ((d6y (c3g hp' hq') (by omega)).eq (s := decide (Nat.gcd p.natAbs q.natAbs = 1)) ?_) (Ev.pure _))) ((Ev.pure _).eq ?_)
    ·by_cases hg : Nat.gcd p.natAbs q.natAbs = 1
     ·rw [decide_eq_true hg, decide_eq_true (by omega)]
     ·rw [decide_eq_false hg, decide_eq_false (by omega)]
    ·unfold a9n
     rw [hP, hQ, b5n, b5n, hs]
     by_cases hg : Nat.gcd p.natAbs q.natAbs = 1 <;> simp [hg]
   ·refine Ev.then (by simpa using hs) ((Ev.pure _).eq ?_)
    unfold a9n
    rw [hP, hQ]
    simp [hs]
theorem b6n {r : Rat} {k : Nat} (h : SmF k r) : (toF r).P.Digits.length ≤ k ∧ (toF r).Q.Digits.length ≤ k := ⟨a2s h.1, a2s h.2⟩
theorem a5k {r : Rat} {k : Nat} (h : SmF k r) (hk : k < 8388608) : Ev (fun n => a3w n (toF r)) true := (c5j (b6n h).1 (b6n h).2 hk).eq (b7z r)
section
variable {p q : Int} {k : Nat} (hp : Sm k p) (hq : Sm k q) (hk : k < 8388608)
include hp hq hk
theorem c7t (h0 : 0 < q) : Ev (fun n =>
   (b5d n (toB p) (toB q)).bind fun v8 =>
   (b3e n (toB p) (⟨v8.1.Sign, v8.1.Digits⟩ : Big)).bind fun v9 =>
   (b3e n (toB q) (⟨v8.1.Sign, v8.1.Digits⟩ : Big)).bind fun v10 =>
   some ((⟨(⟨v9.1.Sign, v9.1.Digits⟩ : Big), (⟨v10.1.Sign, v10.1.Digits⟩ : Big)⟩ : Frac), (0 : Int))) (toF (Rat.divInt p q), 0) := by
  have hg : 0 < Nat.gcd p.natAbs q.natAbs := Nat.gcd_pos_of_pos_right _ (by omega)
  have hgs := c3g hp hq
  obtain ⟨e1, e2⟩ := b3l (p := p) h0
  refine Ev.bind (d3a hp hq hk) ?_
  refine Ev.bind (d3e hp hgs hk (by omega)) ?_
  refine Ev.bind (d3e hq hgs hk (by omega)) ((Ev.pure _).eq ?_)
  unfold toF
  rw [e1, e2, ← c7d (by omega), ← c7d (by omega)]
theorem c5t (h0 : q ≠ 0) : Ev (fun n => b3t n (toB p) (toB q)) (toF (Rat.divInt p q), 0) := by
 unfold b3t
 refine Ev.bind (a6j hp (by omega)) ?_
 refine Ev.bind (a := false) (Ev.else rfl (Ev.bind (a6j hq (by omega)) (Ev.pure _))) ?_
 refine Ev.else rfl ?_
 refine Ev.else (by show (sg q == 0) = false; rw [b2c]; simpa using h0) ?_
 by_cases hn : q < 0
 ·refine Ev.then (by show decide (sg q < 0) = true; rw [a5b hn]; rfl) ?_
  refine Ev.bind (c2s hp (by omega)) (Ev.bind (c2s hq (by omega)) ?_)
  rw [b6o]
  exact c7t hp.neg hq.neg hk (by omega)
 ·refine Ev.else (by show decide (sg q < 0) = false; rw [a4v (by omega)]; rfl) ?_
  exact c7t hp hq hk (by omega)
omit hk in
theorem b9o (hk : k < 268435456) : Ev (fun n => a4l n (toB p) (toB q)) (toB (p * q)) := by
 unfold a4l
 exact Ev.bind (d6t hp hq hk) (Ev.pure _)
end
theorem b9q {x : Int} {k : Nat} (h : Sm k x) (hk : k < 1073741824) : Ev (fun n => b2a n (toB x)) (toB x) := by
 unfold b2a
 exact Ev.bind (c2s h hk) (Ev.bind (c2s h.neg hk) ((Ev.pure _).eq (by rw [Int.neg_neg])))
section
variable {a b : Rat} {j k : Nat} (ha : SmF j a) (hb : SmF k b) (hk : j + k < 4000000)
include ha hb hk
theorem times_PQ : Ev (fun n => a4l n (⟨(toF a).P.Sign, (toF a).P.Digits⟩ : Big) (⟨(toF b).Q.Sign, (toF b).Q.Digits⟩ : Big)) (toB (a.num * b.den)) :=
 b9o (ha.1.mono (by omega : j ≤ j + k)) (hb.2.mono (by omega : k ≤ j + k)) (by omega)
theorem times_QP : Ev (fun n => a4l n (⟨(toF a).Q.Sign, (toF a).Q.Digits⟩ : Big) (⟨(toF b).P.Sign, (toF b).P.Digits⟩ : Big)) (toB (a.den * b.num)) :=
 b9o (ha.2.mono (by omega : j ≤ j + k)) (hb.1.mono (by omega : k ≤ j + k)) (by omega)
theorem times_PP : Ev (fun n => a4l n (⟨(toF a).P.Sign, (toF a).P.Digits⟩ : Big) (⟨(toF b).P.Sign, (toF b).P.Digits⟩ : Big)) (toB (a.num * b.num)) :=
 b9o (ha.1.mono (by omega : j ≤ j + k)) (hb.1.mono (by omega : k ≤ j + k)) (by omega)
theorem times_QQ : Ev (fun n => a4l n (⟨(toF a).Q.Sign, (toF a).Q.Digits⟩ : Big) (⟨(toF b).Q.Sign, (toF b).Q.Digits⟩ : Big)) (toB ((a.den : Int) * b.den)) :=
 b9o (ha.2.mono (by omega : j ≤ j + k)) (hb.2.mono (by omega : k ≤ j + k)) (by omega)
end
theorem d3z (b : Rat) : toF (-b) = ⟨toB (-b.num), toB (b.den : Int)⟩ := rfl
section
variable {a b : Rat} {j k : Nat} (ha : SmF j a) (hb : SmF k b) (hk : j + k < 4000000)
include ha hb hk
theorem FAdd_ev : Ev (fun n => b5s n (toF a) (toF b)) (toF (a + b), 0) := by
 have m1 : Sm (j + k + 1) (a.num * b.den) := (ha.1.mul hb.2).mono (by omega)
 have m2 : Sm (j + k + 1) (b.num * a.den) := (hb.1.mul ha.2).mono (by omega)
 have m3 : Sm (j + k + 1) ((a.den : Int) * b.den) := (ha.2.mul hb.2).mono (by omega)
 have m4 : Sm (j + k + 1) (a.num * b.den + b.num * a.den) := (ha.1.mul hb.2).add ((hb.1.mul ha.2).mono (by omega))
 unfold b5s
 refine Ev.bind (a5k ha (by omega)) ?_
 refine Ev.bind (a := false) (Ev.else rfl (Ev.bind (a5k hb (by omega)) (Ev.pure _))) ?_
 refine Ev.else rfl ?_
 refine Ev.bind (a := (sg (a.num * b.den + b.num * a.den), dig (a.num * b.den + b.num * a.den).natAbs)) ?_ ?_
 ·refine Ev.bind (times_PQ ha hb hk) ?_
  refine Ev.bind (times_PQ hb ha (by omega)) ?_
  exact Ev.bind (d6g m1 m2 (by omega)) (Ev.pure _)
 ·refine Ev.bind (times_QQ ha hb hk) ?_
  refine Ev.bind (c5t m4 m3 (by omega) (b6d (b1j a) (b1j b))) ((Ev.pure _).eq ?_)
  rw [c3u]
theorem FMul_ev : Ev (fun n => b7j n (toF a) (toF b)) (toF (a * b), 0) := by
 unfold b7j
 refine Ev.bind (a5k ha (by omega)) ?_
 refine Ev.bind (a := false) (Ev.else rfl (Ev.bind (a5k hb (by omega)) (Ev.pure _))) ?_
 refine Ev.else rfl ?_
 refine Ev.bind (times_PP ha hb hk) ?_
 refine Ev.bind (times_QQ ha hb hk) ?_
 refine Ev.bind (c5t (ha.1.mul hb.1) (ha.2.mul hb.2) (by omega) (b6d (b1j a) (b1j b))) ((Ev.pure _).eq ?_)
 rw [c6o]
theorem FSub_ev : Ev (fun n => b7o n (toF a) (toF b)) (toF (a - b), 0) := by
 unfold b7o
 refine Ev.bind (a5k ha (by omega)) ?_
 refine Ev.bind (a := false) (Ev.else rfl (Ev.bind (a5k hb (by omega)) (Ev.pure _))) ?_
 refine Ev.else rfl ?_
 refine Ev.bind (c2s hb.1 (by omega)) ?_
 have h := FAdd_ev ha hb.neg hk
 rw [d3z, ← Rat.sub_eq_add_neg] at h
 exact Ev.bind h (Ev.pure _)
theorem d4p (h0 : b.num ≠ 0) : Ev (fun n => b7s n (toF a) (toF b)) (toF (a / b), 0) := by
 unfold b7s
 refine Ev.bind (a5k ha (by omega)) ?_
 refine Ev.bind (a := false) (Ev.else rfl (Ev.bind (a5k hb (by omega)) (Ev.pure _))) ?_
 refine Ev.else rfl ?_
 refine Ev.else (by show (sg b.num == 0) = false; rw [b2c]; simpa using h0) ?_
 refine Ev.bind (times_PQ ha hb hk) ?_
 refine Ev.bind (times_QP ha hb hk) ?_
 refine Ev.bind (c5t (ha.1.mul hb.2) (ha.2.mul hb.1) (by omega) (b6d (b1j a) h0)) ((Ev.pure _).eq ?_)
 rw [c6e]
end
def cmpQ (a b : Rat) : Int := sg (a.num * b.den - b.num * a.den)
theorem d5f {a b : Rat} (h : a < b) : cmpQ a b = -1 := by
 have := Rat.lt_iff a b
 exact a5b (by have := this.1 h; omega)
theorem d5h {a b : Rat} (h : b < a) : cmpQ a b = 1 := by
 have := Rat.lt_iff b a
 exact a4v (by have := this.1 h; omega)
theorem d0d (a : Rat) : cmpQ a a = 0 := by unfold cmpQ; rw [Int.sub_self]; rfl
theorem a7l (a b : Rat) : (a < b ∧ cmpQ a b = -1) ∨ (a = b ∧ cmpQ a b = 0) ∨ (b < a ∧ cmpQ a b = 1) := by
 by_cases h : a < b
 ·exact .inl ⟨h, d5f h⟩
 ·by_cases h2 : b < a
  ·exact .inr (.inr ⟨h2, d5h h2⟩)
  ·have e : a = b := Rat.le_antisymm (Rat.not_lt.1 h2) (Rat.not_lt.1 h)
   exact .inr (.inl ⟨e, by rw [e]; exact d0d b⟩)
section
variable {a b : Rat} {j k : Nat} (ha : SmF j a) (hb : SmF k b) (hk : j + k < 4000000)
include ha hb hk
theorem FCompare_ev : Ev (fun n => a6z n (toF a) (toF b)) (cmpQ a b) := by
 unfold a6z
 refine Ev.bind (a5k ha (by omega)) ?_
 refine Ev.bind (a := false) (Ev.else rfl (Ev.bind (a5k hb (by omega)) (Ev.pure _))) ?_
 refine Ev.else rfl ?_
 refine Ev.bind (times_PQ ha hb hk) ?_
 refine Ev.bind (times_PQ hb ha (by omega)) ?_
 exact Ev.bind (c7x (ha.1.mul hb.2) ((hb.1.mul ha.2).mono (by omega)) (by omega)) (Ev.pure _)
theorem c2n (s : Int) (hs : s = 1 ∨ s = -1) : Ev (fun n => b0s n (toF a) (toF b) s) (toF (if cmpQ a b * s < 0 then b else a), 0) := by
 unfold b0s
 refine Ev.bind (a5k ha (by omega)) ?_
 refine Ev.bind (a := false) (Ev.else rfl (Ev.bind (a5k hb (by omega)) (Ev.pure _))) ?_
 refine Ev.else rfl ?_
 refine Ev.bind (FCompare_ev ha hb hk) ?_
 have hr := b9m (a.num * b.den - b.num * a.den)
 have e : imul .i64 (cmpQ a b) s = cmpQ a b * s := by
  have h1 : -1 ≤ cmpQ a b := hr.1
  have h2 : cmpQ a b ≤ 1 := hr.2
  exact a8t (by rcases hs with rfl | rfl <;> omega) (by rcases hs with rfl | rfl <;> omega)
 rw [e]
 by_cases h : cmpQ a b * s < 0
 ·rw [if_pos h]
  refine Ev.bind (Ev.then (decide_eq_true h) (Ev.pure _)) ?_
  exact Ev.bind (b9q hb.1 (by omega)) (Ev.bind (b9q hb.2 (by omega)) (Ev.pure _))
 ·rw [if_neg h]
  refine Ev.bind (Ev.else (decide_eq_false h) (Ev.pure _)) ?_
  exact Ev.bind (b9q ha.1 (by omega)) (Ev.bind (b9q ha.2 (by omega)) (Ev.pure _))
theorem FMin_ev : Ev (fun n => b7p n (toF a) (toF b)) (toF (if b < a then b else a), 0) := by
 unfold b7p
 refine Ev.bind (c2n ha hb hk (-1) (.inr rfl)) ((Ev.pure _).eq ?_)
 rcases a7l a b with ⟨h, e⟩ | ⟨h, e⟩ | ⟨h, e⟩
 ·rw [e, if_neg (by decide), if_neg (by grind)]
 ·rw [e, if_neg (by decide), if_neg (by grind)]
 ·rw [e, if_pos (by decide), if_pos h]
theorem FMax_ev : Ev (fun n => b6y n (toF a) (toF b)) (toF (if a < b then b else a), 0) := by
 unfold b6y
 refine Ev.bind (c2n ha hb hk 1 (.inl rfl)) ((Ev.pure _).eq ?_)
 rcases a7l a b with ⟨h, e⟩ | ⟨h, e⟩ | ⟨h, e⟩
 ·rw [e, if_pos (by decide), if_pos h]
 ·rw [e, if_neg (by decide), if_neg (by grind)]
 ·rw [e, if_neg (by decide), if_neg (by grind)]
end
section
variable {a : Rat} {k : Nat} (ha : SmF k a) (hk : k < 4000000)
include ha hk
theorem FNeg_ev : Ev (fun n => c7m n (toF a)) (toF (-a)) := by
 unfold c7m
 refine Ev.bind (a5k ha (by omega)) (Ev.else rfl ?_)
 exact Ev.bind (c2s ha.1 (by omega)) (Ev.bind (b9q ha.2 (by omega)) (Ev.pure _))
theorem FSign_ev : Ev (fun n => b3i n (toF a)) (sg a.num) := by
 unfold b3i
 exact Ev.bind (a5k ha (by omega)) (Ev.else rfl (Ev.pure _))
end
theorem b6l {x : Int} (h1 : -9223372036854775808 ≤ x) (h2 : x ≤ 9223372036854775807) : Ev (fun n => a7f n x) (toF (x : Rat)) := by
 unfold a7f
 refine Ev.bind (d7n h1 h2) (Ev.bind Of1_ev ((Ev.pure _).eq ?_))
 unfold toF
 rw [Rat.num_intCast, Rat.den_intCast]; rfl
theorem c4w {f g : Frac} (hp : f.P.Digits.length < 1099511627776) (hq : f.Q.Digits.length < 1099511627776) : Ev (fun n => a6a n f g) (decide (f = g)) := by
 unfold a6a
 refine Ev.bind (c7q (a := f.P) (b := g.P) hp) ?_
 obtain ⟨P, Q⟩ := f
 obtain ⟨P', Q'⟩ := g
 refine Ev.bind (a := decide ((⟨P, Q⟩ : Frac) = ⟨P', Q'⟩)) ?_ (Ev.pure _)
 by_cases h : P = P'
 ·subst h
  refine Ev.then (by simp) (Ev.bind (c7q (a := Q) (b := Q') hq) ((Ev.pure _).eq (by simp)))
 ·exact Ev.else (by simpa using h) ((Ev.pure _).eq (by simp [h]))
theorem d5a {a b : Rat} (h : toF a = toF b) : a = b := by
 unfold toF at h
 injection h with h1 h2
 exact Rat.ext (c5z h1) (by have := c5z h2; omega)
theorem c8e {a b : Rat} {k : Nat} (h : SmF k a) (hk : k < 4000000) : Ev (fun n => a6a n (toF a) (toF b)) (decide (a = b)) := by
 have := b6n h
 refine (c4w (f := toF a) (g := toF b) (by omega) (by omega)).eq ?_
 by_cases e : a = b
 ·simp [e]
 ·have : toF a ≠ toF b := fun h => e (d5a h)
  simp [e, this]
theorem c2j {a b : Rat} {k : Nat} (h : SmF k a) (hk : k < 4000000) (e : a = b) : Ev (fun n => a6a n (toF a) (toF b)) true := (c8e h hk).eq (by simp [e])
end Go.Proofs.YtknpjecpcmajiaaGreat.D

namespace Go.Proofs.YtknpjecpcmajiaaGreat.D
open Go Rt M
theorem d7l (f : Frac) (k : Int) : Ev (fun n => b1f n f k) (decide ((f.P.Digits.length : Int) ≤ k) && decide ((f.Q.Digits.length : Int) ≤ k)) := by
 refine Ev.all fun n => ?_
 unfold b1f
 cases decide ((f.P.Digits.length : Int) ≤ k) <;> rfl
theorem d0j {f : Frac} {k : Nat} (h : (decide ((f.P.Digits.length : Int) ≤ k) && decide ((f.Q.Digits.length : Int) ≤ k)) = true) : f.P.Digits.length ≤ k ∧ f.Q.Digits.length ≤ k := by
 simpa using h
theorem c9m {f : Frac} {k : Nat} (h : f.P.Digits.length ≤ k ∧ f.Q.Digits.length ≤ k) (hr : a9n f = true) : ∃ r, f = toF r ∧ SmF k r := by
 obtain ⟨r, rfl⟩ := c2w hr
 exact ⟨r, rfl, a9b h.1, a9b h.2⟩
end Go.Proofs.YtknpjecpcmajiaaGreat.D

namespace Go.Proofs.YtknpjecpcmajiaaGreat.D
open Go Rt M
theorem sm01 {k : Nat} {x : Int} (h : -1048576 < x) (h2 : x < 1048576) (hk : 1 ≤ k) : Sm k x := Sm.mono (k := 1) (by unfold Sm; rw [show pw 1 = 1048576 by decide]; omega) hk
theorem d4c {k : Nat} {x : Int} (h : Sm k x) (hk : 1 ≤ k) : SmF k (x : Rat) := ⟨by rw [Rat.num_intCast]; exact h, by rw [Rat.den_intCast]; exact sm01 (by decide) (by decide) hk⟩
end Go.Proofs.YtknpjecpcmajiaaGreat.D

namespace Go.Proofs.YtknpjecpcmajiaaGreat.D
open Go Rt M
theorem d0k (a b : Rat) : (cmpQ a b == 0) = decide (a = b) := by
 rcases a7l a b with ⟨h, e⟩ | ⟨h, e⟩ | ⟨h, e⟩ <;> rw [e]
 ·rw [decide_eq_false (by grind)]; rfl
 ·rw [decide_eq_true h]; rfl
 ·rw [decide_eq_false (by grind)]; rfl
theorem d6p (r : Rat) : sg r.num = cmpQ r 0 := by
 unfold cmpQ
 congr 1
 show r.num = r.num * 1 - 0 * r.den
 omega
theorem c8p (z : Int) : Rat.divInt z 1 = (z : Rat) := by
 obtain ⟨e1, e2⟩ := b3l (p := z) (q := 1) (by decide)
 rw [show (1 : Int).natAbs = 1 from rfl, Nat.gcd_one_right] at e1 e2
 refine Rat.ext ?_ ?_
 ·rw [e1, Rat.num_intCast]; exact Int.ediv_one z
 ·rw [Rat.den_intCast]
  have : ((Rat.divInt z 1).den : Int) = 1 := by rw [e2]; rfl
  omega
end Go.Proofs.YtknpjecpcmajiaaGreat.D

namespace Go.Proofs.YtknpjecpcmajiaaGreat.Fe
open Go Rt M Ta Tp D
structure Env where
  lf : Rt.Bs → Int
  wf : Rt.Bs → Rat
  pers : Int
  flats : Int
def two (o : Int) (a b : Rat) : Rat :=
  if o = 5 then a + b else if o = 6 then a - b else if o = 7 then a * b else if o = 8 then a / b else if o = 9 then (if b < a then b else a) else if o = 10 then (if a < b then b else a) else 0
def rel (o : Int) (a b : Rat × Bool) : Bool :=
  if o = 12 then decide (a.1 < b.1) else if o = 13 then decide (a.1 = b.1) else if o = 15 then a.2 && b.2 else a.2 || b.2
def d7e (E : Env) (o n : Int) (s : Rt.Bs) : List (Rat × Bool) → Rat × Bool
  | [] => (if o = 0 then (n : Rat) else if o = 1 then (E.lf s : Rat) else if o = 2 then (E.pers : Rat) else if o = 3 then (E.flats : Rat) else E.wf s, false)
  | [c] => (0, !c.2)
  | [a, b] => (two o a.1 b.1, rel o a b)
  | c :: a :: b :: _ => (if c.2 = true then a.1 else b.1, false)
mutual
def vl (E : Env) : M.Expr → Rat × Bool
  | ⟨o, n, s, l⟩ => d7e E o n s (vls E l)
def vls (E : Env) : List M.Expr → List (Rat × Bool)
  | [] => []
  | x :: l => vl E x :: vls E l
 end
def num (E : Env) (x : M.Expr) : Rat := (vl E x).1
def tru (E : Env) (x : M.Expr) : Bool := (vl E x).2
section
variable (E : Env) (n : Int) (s : Rt.Bs) (o : Int) (a b c : M.Expr)
theorem num_num : num E ⟨0, n, s, []⟩ = (n : Rat) := rfl
theorem num_lifts : num E ⟨1, n, s, []⟩ = (E.lf s : Rat) := rfl
theorem num_pers : num E ⟨2, n, s, []⟩ = (E.pers : Rat) := rfl
theorem num_flats : num E ⟨3, n, s, []⟩ = (E.flats : Rat) := rfl
theorem num_wgt : num E ⟨4, n, s, []⟩ = E.wf s := rfl
theorem num_two : num E ⟨o, n, s, [a, b]⟩ = two o (num E a) (num E b) := rfl
theorem tru_not : tru E ⟨o, n, s, [a]⟩ = !tru E a := rfl
theorem tru_two : tru E ⟨o, n, s, [a, b]⟩ = rel o (vl E a) (vl E b) := rfl
theorem num_ite : num E ⟨o, n, s, [c, a, b]⟩ = if tru E c = true then num E a else num E b := rfl
end
theorem d4s (a b : Rat) : two 9 a b = if b < a then b else a := rfl
theorem d4q (a b : Rat) : two 10 a b = if a < b then b else a := rfl
theorem b9p (a b : Rat × Bool) : rel 12 a b = decide (a.1 < b.1) := rfl
theorem c6s (a b : Rat × Bool) : rel 13 a b = decide (a.1 = b.1) := rfl
def look {α : Type} (names : List Rt.Bs) (l : List α) (d : α) (s : Rt.Bs) : α := (l[names.idxOf s]?).getD d
theorem c3k {α : Type} {names : List Rt.Bs} {l : List α} (d : α) {s : Rt.Bs} (hs : s ∈ names) (hl : names.length = l.length) : ix l ((names.idxOf s : Nat) : Int) = some (look names l d s) := by
 have h : names.idxOf s < l.length := by rw [← hl]; exact List.idxOf_lt_length_of_mem hs
 unfold look
 rw [b4j, List.getElem?_eq_getElem h]; rfl
theorem c4c {α : Type} {names : List Rt.Bs} {l : List α} (d : α) {s : Rt.Bs} (hs : s ∈ names) (hl : names.length = l.length) : look names l d s ∈ l := by
 have h : names.idxOf s < l.length := by rw [← hl]; exact List.idxOf_lt_length_of_mem hs
 unfold look
 rw [List.getElem?_eq_getElem h]; exact List.getElem_mem h
theorem c7g {α β : Type} {names : List Rt.Bs} {l : List α} (f : α → β) (d : α) (e : β) {s : Rt.Bs} (hs : s ∈ names) (hl : names.length = l.length) : look names (l.map f) e s = f (look names l d s) := by
 have h : names.idxOf s < l.length := by rw [← hl]; exact List.idxOf_lt_length_of_mem hs
 unfold look
 rw [List.getElem?_map, List.getElem?_eq_getElem h]; rfl
def mkE (names : List Rt.Bs) (f : Facts) (ws : List Rat) : Env := ⟨look names f.Lifts 0, look names ws 0, f.Persons, f.Flats⟩
theorem d1z {l : List Rt.Bs} (s : Rt.Bs) (hl : l.length < 4611686018427387904) : Ev (fun n => a2n n l s) (if s ∈ l then ((l.idxOf s : Nat) : Int) else -1) := by
 refine ⟨l.length + 1, fun n hn => ?_⟩
 unfold a2n
 dsimp only
 have h : a2f n l s (some (-1)) n 0 = _ := c6h n l s hl l 0 n rfl (by omega)
 rw [h]; simp only [Nat.zero_add]
theorem d7k {j k : Nat} {a b : Rat} (ha : SmF j a) (hb : SmF k b) (h0 : b.num ≠ 0) : SmF (j + k) (a / b) := by
 rw [c6e]
 refine b7v ?_ ?_ (b6d (b1j a) h0)
 ·exact ha.1.mul hb.2
 ·exact ha.2.mul hb.1
theorem d7p {j k : Nat} {a b : Rat} (ha : SmF j a) (hb : SmF k b) {o : Int} (ho : o = 8 → b.num ≠ 0) (h0 : o = 5 ∨ o = 6 ∨ o = 7 ∨ o = 8 ∨ o = 9 ∨ o = 10) : SmF (j + k + 1) (two o a b) := by
 rcases h0 with rfl | rfl | rfl | rfl | rfl | rfl
 ·exact ha.add hb
 ·exact ha.sub hb
 ·exact (ha.mul hb).mono (by omega)
 ·exact (d7k ha hb (ho rfl)).mono (by omega)
 ·rw [d4s]; split
  ·exact hb.mono (by omega)
  ·exact ha.mono (by omega)
 ·rw [d4q]; split
  ·exact hb.mono (by omega)
  ·exact ha.mono (by omega)
theorem d4u {j k : Nat} {a b : Rat} (ha : SmF j a) (hb : SmF k b) (hk : j + k < 4000000) {o : Int} (ho : o = 8 → b.num ≠ 0) (h0 : o = 5 ∨ o = 6 ∨ o = 7 ∨ o = 8 ∨ o = 9 ∨ o = 10) : Ev (fun n => a8n n o (toF a) (toF b)) (toF (two o a b)) := by
  unfold a8n
  rcases h0 with rfl | rfl | rfl | rfl | rfl | rfl
  · exact Ev.then rfl (Ev.bind (FAdd_ev ha hb hk) (Ev.pure _))
  · exact Ev.else rfl (Ev.then rfl (Ev.bind (FSub_ev ha hb hk) (Ev.pure _)))
  · exact Ev.else rfl (Ev.else rfl (Ev.then rfl (Ev.bind (FMul_ev ha hb hk) (Ev.pure _))))
  · exact Ev.else rfl (Ev.else rfl (Ev.else rfl (Ev.then rfl (Ev.bind (d4p ha hb hk (ho rfl)) (Ev.pure _)))))
  · exact Ev.else rfl (Ev.else rfl (Ev.else rfl (Ev.else rfl (Ev.then rfl (Ev.bind (FMin_ev ha hb hk) (Ev.pure _))))))
  · exact Ev.else rfl (Ev.else rfl (Ev.else rfl (Ev.else rfl (Ev.else rfl (Ev.then rfl (Ev.bind (FMax_ev ha hb hk) (Ev.pure _)))))))
theorem smI {x : Int} (h1 : -9223372036854775808 ≤ x) (h2 : x ≤ 9223372036854775807) {k : Nat} (hk : 4 ≤ k) : SmF k (x : Rat) := by
 refine d4c (Sm.mono (k := 4) ?_ hk) (by omega)
 exact a9b (c8h (by omega))
structure RF (names : List Rt.Bs) (f : Facts) (ws : List Rat) : Prop where
  hl : f.Lifts.length = names.length
  hw : ws.length = names.length
  p1 : 0 ≤ f.Persons
  p2 : f.Persons ≤ 1000
  f1 : 0 ≤ f.Flats
  f2 : f.Flats ≤ 1000
  l1 : ∀ n, n ∈ f.Lifts → 0 ≤ n ∧ n ≤ 200
  w1 : ∀ w, w ∈ ws → 0 ≤ w
def K (names : List Rt.Bs) (f : Facts) (ws : List Rat) : known := ⟨names, f, ws.map toF⟩
theorem wadd (W a b : Nat) : W * (a + b + 1) = W * a + W * b + W := by rw [Nat.mul_add, Nat.mul_add, Nat.mul_one]
theorem wle {W a : Nat} (hW : W ≤ 30) (ha : a ≤ 1000) : W * a ≤ 30000 := by
 have := Nat.mul_le_mul hW ha
 omega
section
variable {names : List Rt.Bs} {f : Facts} {ws : List Rat} {W : Nat}
variable (hf : RF names f ws) (hW : 4 ≤ W) (hW2 : W ≤ 30) (hw : ∀ w, w ∈ ws → SmF W w) (hn : names.length < 4611686018427387904)
include hf hW hW2 hw hn
theorem c9q {x : M.Expr} {k : Int} (ht : Typ names x k) : cnt x ≤ 1000 →
    (k ≠ 0 → SmF (W * cnt x) (num (mkE names f ws) x) ∧ Ev (fun n => fee_known_number n (K names f ws) x) (toF (num (mkE names f ws) x))) ∧
    (k = 0 → Ev (fun n => fee_known_truth n (K names f ws) x) (tru (mkE names f ws) x)) := by
  have hix : ∀ s, Ev (fun n => a2n n (K names f ws).names s) (if s ∈ names then ((names.idxOf s : Nat) : Int) else -1) := fun s => d1z s hn
  have leafW : ∀ (o n : Int) (s : Rt.Bs), W * cnt ⟨o, n, s, []⟩ = W := fun o n s => by show W * 1 = W; omega
  have c2 : ∀ (o n : Int) (s : Rt.Bs) (a b : M.Expr), cnt ⟨o, n, s, [a, b]⟩ = cnt a + cnt b + 1 := fun o n s a b => by show cnt a + (cnt b + 0) + 1 = _; omega
  have ari : ∀ {o p q r : Int} {a b : M.Expr}, (o = 5 ∨ o = 6 ∨ o = 7 ∨ o = 8 ∨ o = 9 ∨ o = 10) → p ≠ 0 → q ≠ 0 → r ≠ 0 → (o = 8 → (num (mkE names f ws) b).num ≠ 0) →
      (cnt a ≤ 1000 → (p ≠ 0 → SmF (W * cnt a) (num (mkE names f ws) a) ∧ Ev (fun n => fee_known_number n (K names f ws) a) (toF (num (mkE names f ws) a))) ∧ (p = 0 → Ev (fun n => fee_known_truth n (K names f ws) a) (tru (mkE names f ws) a))) →
      (cnt b ≤ 1000 → (q ≠ 0 → SmF (W * cnt b) (num (mkE names f ws) b) ∧ Ev (fun n => fee_known_number n (K names f ws) b) (toF (num (mkE names f ws) b))) ∧ (q = 0 → Ev (fun n => fee_known_truth n (K names f ws) b) (tru (mkE names f ws) b))) →
      cnt ⟨o, 0, [], [a, b]⟩ ≤ 1000 →
      (r ≠ 0 → SmF (W * cnt ⟨o, 0, [], [a, b]⟩) (num (mkE names f ws) ⟨o, 0, [], [a, b]⟩) ∧ Ev (fun n => fee_known_number n (K names f ws) ⟨o, 0, [], [a, b]⟩) (toF (num (mkE names f ws) ⟨o, 0, [], [a, b]⟩))) ∧
      (r = 0 → Ev (fun n => fee_known_truth n (K names f ws) ⟨o, 0, [], [a, b]⟩) (tru (mkE names f ws) ⟨o, 0, [], [a, b]⟩)) := by
    intro o p q r a b ho hp hq hr h8 iha ihb hc
    rw [c2] at hc
    obtain ⟨sa, ea⟩ := (iha (by omega)).1 hp
    obtain ⟨sb, eb⟩ := (ihb (by omega)).1 hq
    have wa := wle hW2 (show cnt a ≤ 1000 by omega)
    have wb := wle hW2 (show cnt b ≤ 1000 by omega)
    refine ⟨fun _ => ⟨?_, ?_⟩, fun h => absurd h hr⟩
    · rw [c2, wadd, num_two]
      exact (d7p sa sb h8 ho).mono (by omega)
    · rw [num_two]
      refine Ev.suc (fun n => a3r n _ _) ?_
      refine Ev.bind (hix _) ?_
      have e : ∀ k : Int, (k = 0 ∨ k = 1 ∨ k = 2 ∨ k = 3 ∨ k = 4 ∨ k = 11) → (o == k) = false := fun k hk => by rw [beq_eq_false_iff_ne]; omega
      refine Ev.else (e 0 (by decide)) (Ev.else (e 1 (by decide)) (Ev.else (e 2 (by decide)) (Ev.else (e 3 (by decide)) (Ev.else (e 4 (by decide)) (Ev.else (e 11 (by decide)) ?_)))))
      refine Ev.step (a := a) rfl (Ev.step (a := b) rfl ?_)
      exact Ev.bind ea (Ev.bind eb (Ev.bind (d4u sa sb (by omega) h8 ho) (Ev.pure _)))
  induction ht with
  | @num m h0 h1 =>
    intro _
    refine ⟨fun _ => ⟨?_, ?_⟩, fun h => by cases h⟩
    · rw [leafW, num_num]; exact smI (by omega) (by omega) hW
    · refine Ev.suc (fun n => a3r n _ _) (Ev.bind (hix _) (Ev.then rfl ?_))
      exact Ev.bind (b6l (x := m) (by omega) (by omega)) (Ev.pure _)
  | @lifts s _ hs =>
    intro _
    have h5 := hf.l1 _ (c4c (0 : Int) hs hf.hl.symm)
    refine ⟨fun _ => ⟨?_, ?_⟩, fun h => by cases h⟩
    · rw [leafW, num_lifts]
      exact smI (show _ ≤ look names f.Lifts 0 s by omega) (show look names f.Lifts 0 s ≤ _ by omega) hW
    · refine Ev.suc (fun n => a3r n _ _) (Ev.bind (hix _) (Ev.else rfl (Ev.then rfl ?_)))
      refine Ev.step (a := look names f.Lifts 0 s) (by rw [if_pos hs]; exact c3k 0 hs hf.hl.symm) ?_
      exact Ev.bind (b6l (x := look names f.Lifts 0 s) (by omega) (by omega)) (Ev.pure _)
  | pers =>
    intro _
    have h1 := hf.p1
    have h2 := hf.p2
    refine ⟨fun _ => ⟨?_, ?_⟩, fun h => by cases h⟩
    · rw [leafW, num_pers]
      exact smI (show _ ≤ f.Persons by omega) (show f.Persons ≤ _ by omega) hW
    · refine Ev.suc (fun n => a3r n _ _) (Ev.bind (hix _) (Ev.else rfl (Ev.else rfl (Ev.then rfl ?_))))
      exact Ev.bind (b6l (x := f.Persons) (by omega) (by omega)) (Ev.pure _)
  | flats =>
    intro _
    have h1 := hf.f1
    have h2 := hf.f2
    refine ⟨fun _ => ⟨?_, ?_⟩, fun h => by cases h⟩
    · rw [leafW, num_flats]
      exact smI (show _ ≤ f.Flats by omega) (show f.Flats ≤ _ by omega) hW
    · refine Ev.suc (fun n => a3r n _ _) (Ev.bind (hix _) (Ev.else rfl (Ev.else rfl (Ev.else rfl (Ev.then rfl ?_)))))
      exact Ev.bind (b6l (x := f.Flats) (by omega) (by omega)) (Ev.pure _)
  | @wgt s _ hs =>
    intro _
    refine ⟨fun _ => ⟨?_, ?_⟩, fun h => by cases h⟩
    · rw [leafW, num_wgt]
      exact hw _ (c4c 0 hs hf.hw.symm)
    · refine Ev.suc (fun n => a3r n _ _) (Ev.bind (hix _) (Ev.else rfl (Ev.else rfl (Ev.else rfl (Ev.else rfl (Ev.then rfl ?_))))))
      refine Ev.step (a := toF (look names ws 0 s)) ?_ (Ev.pure _)
      rw [if_pos hs, ← c7g toF 0 (toF 0) hs hf.hw.symm]
      exact c3k (toF 0) hs (by show _ = (ws.map toF).length; rw [List.length_map]; exact hf.hw.symm)
  | @ari o a b p q ho _ _ hp hq iha ihb =>
    exact ari (by omega) hp hq (c8r p q) (fun h => by omega) iha ihb
  | @mul a b p q _ _ hp hq _ iha ihb =>
    exact ari (by omega) hp hq (c8r p q) (fun h => by omega) iha ihb
  | @div a m p _ hp h1 h2 iha =>
    refine ari (q := 1) (by omega) hp (by decide) hp (fun _ => ?_) iha ?_
    · rw [num_num, Rat.num_intCast]; omega
    · intro _
      refine ⟨fun _ => ⟨?_, ?_⟩, fun h => by cases h⟩
      · rw [leafW, num_num]; exact smI (by omega) (by omega) hW
      · refine Ev.suc (fun n => a3r n _ _) (Ev.bind (hix _) (Ev.then rfl ?_))
        exact Ev.bind (b6l (x := m) (by omega) (by omega)) (Ev.pure _)
  | @ite c a b p q _ _ _ hp hq ihc iha ihb =>
    intro hc
    have hc3 : cnt ⟨11, 0, [], [c, a, b]⟩ = cnt c + cnt a + cnt b + 1 := by show cnt c + (cnt a + (cnt b + 0)) + 1 = _; omega
    rw [hc3] at hc
    have ec := (ihc (by omega)).2 rfl
    obtain ⟨sa, ea⟩ := (iha (by omega)).1 hp
    obtain ⟨sb, eb⟩ := (ihb (by omega)).1 hq
    refine ⟨fun _ => ⟨?_, ?_⟩, fun h => absurd h (c8r p q)⟩
    · rw [num_ite, hc3]
      have h5 : W * cnt a ≤ W * (cnt c + cnt a + cnt b + 1) := Nat.mul_le_mul_left _ (by omega)
      have h6 : W * cnt b ≤ W * (cnt c + cnt a + cnt b + 1) := Nat.mul_le_mul_left _ (by omega)
      split
      · exact sa.mono h5
      · exact sb.mono h6
    · rw [num_ite]
      refine Ev.suc (fun n => a3r n _ _) (Ev.bind (hix _) (Ev.else rfl (Ev.else rfl (Ev.else rfl (Ev.else rfl (Ev.else rfl (Ev.then rfl ?_)))))))
      refine Ev.step (a := c) rfl (Ev.bind ec ?_)
      cases tru (mkE names f ws) c with
      | true => exact Ev.then rfl (Ev.step (a := a) rfl (Ev.bind ea (Ev.pure _)))
      | false => exact Ev.else rfl (Ev.step (a := b) rfl (Ev.bind eb (Ev.pure _)))
  | @rel o a b ho _ _ iha ihb =>
    intro hc
    rw [c2] at hc
    obtain ⟨sa, ea⟩ := (iha (by omega)).1 (by decide)
    obtain ⟨sb, eb⟩ := (ihb (by omega)).1 (by decide)
    have wa := wle hW2 (show cnt a ≤ 1000 by omega)
    have wb := wle hW2 (show cnt b ≤ 1000 by omega)
    refine ⟨fun h => absurd rfl h, fun _ => ?_⟩
    rw [tru_two]
    have e : ∀ k : Int, (k = 14 ∨ k = 15 ∨ k = 16) → (o == k) = false := fun k hk => by rw [beq_eq_false_iff_ne]; omega
    refine Ev.suc (fun n => a6v n _ _) (Ev.else (e 14 (by decide)) (Ev.else (e 15 (by decide)) (Ev.else (e 16 (by decide)) ?_)))
    refine Ev.step (a := a) rfl (Ev.step (a := b) rfl (Ev.bind ea (Ev.bind eb (Ev.bind (FCompare_ev sa sb (by omega)) ?_))))
    rcases a7l (num (mkE names f ws) a) (num (mkE names f ws) b) with ⟨h1, h2⟩ | ⟨h1, h2⟩ | ⟨h1, h2⟩
    · rw [h2]
      rcases ho with rfl | rfl
      · exact Ev.then rfl ((Ev.pure _).eq (by rw [b9p]; exact (decide_eq_true h1).symm))
      · exact Ev.else rfl ((Ev.pure _).eq (by rw [c6s]; exact (decide_eq_false (Rat.ne_of_lt h1)).symm))
    · rw [h2]
      rcases ho with rfl | rfl
      · exact Ev.then rfl ((Ev.pure _).eq (by rw [b9p]; exact (decide_eq_false (by show ¬(num (mkE names f ws) a < _); rw [h1]; exact Rat.lt_irrefl)).symm))
      · exact Ev.else rfl ((Ev.pure _).eq (by rw [c6s]; exact (decide_eq_true h1).symm))
    · rw [h2]
      rcases ho with rfl | rfl
      · exact Ev.then rfl ((Ev.pure _).eq (by rw [b9p]; exact (decide_eq_false (Rat.not_lt.2 (Rat.le_of_lt h1))).symm))
      · exact Ev.else rfl ((Ev.pure _).eq (by rw [c6s]; exact (decide_eq_false (fun h => Rat.ne_of_lt h1 h.symm)).symm))
  | @not a _ iha =>
    intro hc
    have h1 : cnt ⟨14, 0, [], [a]⟩ = cnt a + 0 + 1 := rfl
    refine ⟨fun h => absurd rfl h, fun _ => ?_⟩
    rw [tru_not]
    refine Ev.suc (fun n => a6v n _ _) (Ev.then rfl ?_)
    exact Ev.step (a := a) rfl (Ev.bind ((iha (by omega)).2 rfl) (Ev.pure _))
  | @bin o a b ho _ _ iha ihb =>
    intro hc
    rw [c2] at hc
    have ea := (iha (by omega)).2 rfl
    have eb := (ihb (by omega)).2 rfl
    refine ⟨fun h => absurd rfl h, fun _ => ?_⟩
    rw [tru_two]
    rcases ho with rfl | rfl
    · refine Ev.suc (fun n => a6v n _ _) (Ev.else rfl (Ev.then rfl ?_))
      refine Ev.step (a := a) rfl (Ev.bind ea ?_)
      show Ev _ (tru (mkE names f ws) a && tru (mkE names f ws) b)
      cases tru (mkE names f ws) a with
      | true => exact Ev.bind (Ev.then rfl (Ev.step (a := b) rfl (Ev.bind eb (Ev.pure _)))) (Ev.pure _)
      | false => exact Ev.bind (Ev.else rfl (Ev.pure _)) (Ev.pure _)
    · refine Ev.suc (fun n => a6v n _ _) (Ev.else rfl (Ev.else rfl (Ev.then rfl ?_)))
      refine Ev.step (a := a) rfl (Ev.bind ea ?_)
      show Ev _ (tru (mkE names f ws) a || tru (mkE names f ws) b)
      cases tru (mkE names f ws) a with
      | true => exact Ev.bind (Ev.then rfl (Ev.pure _)) (Ev.pure _)
      | false => exact Ev.bind (Ev.else rfl (Ev.step (a := b) rfl (Ev.bind eb (Ev.pure _)))) (Ev.pure _)
theorem c9f {x : M.Expr} {k : Int} (ht : Typ names x k) (hk : k ≠ 0) (hc : cnt x ≤ 1000) : Ev (fun n => fee_known_number n (K names f ws) x) (toF (num (mkE names f ws) x)) := ((c9q hf hW hW2 hw hn ht hc).1 hk).2
theorem b5g {x : M.Expr} {k : Int} (ht : Typ names x k) (hk : k ≠ 0) (hc : cnt x ≤ 1000) : SmF (W * cnt x) (num (mkE names f ws) x) := ((c9q hf hW hW2 hw hn ht hc).1 hk).1
end
end Go.Proofs.YtknpjecpcmajiaaGreat.Fe

namespace Go.Proofs.YtknpjecpcmajiaaGreat.Lx
open Rt M Go
theorem c2m (n : Nat) (c : UInt8) : a8a n (c.toNat : Int) = some (isLetter c) :=
 of_decide_eq_true (b6x (p := fun c => decide (a8a 0 (c.toNat : Int) = some (isLetter c))) (by decide +kernel) c)
theorem c9w (n : Nat) (c : UInt8) : b0v n (c.toNat : Int) = some (b6h c) :=
 of_decide_eq_true (b6x (p := fun c => decide (b0v 0 (c.toNat : Int) = some (b6h c))) (by decide +kernel) c)
theorem c2u {s : Rt.Bs} (hs : s.length ≤ 1000000) {n : Nat} :
  ∀ {r : Rt.Bs} {i m : Nat}, s.drop i = r → i ≤ s.length → r.length < m → a7d n s (some true) m (i : Int) = some (decide (b7g b2b r = r.length))
 | [], i, m + 1, h, hi, _ => by
  have := drop_nil h hi
  rw [b2g]
  simp [this, b7g]
 | c :: r, i, m + 1, h, hi, hm => by
  have h1 := c7s h
  simp only [List.length_cons] at hm
  have e : (bif (bif !isLetter c then !b6h c else false) then (c.toNat : Int) != 95 else false) = !b2b c :=
   of_decide_eq_true (b6x (p := fun c => decide ((bif (bif !isLetter c then !b6h c else false) then (c.toNat : Int) != 95 else false) = !b2b c)) (by decide +kernel) c)
  have e2 : ((bif !isLetter c then some (!b6h c) else some false).bind fun v4 => (bif v4 then some ((c.toNat : Int) != 95) else some false)) = some (!b2b c) := by
   rw [← e]
   cases isLetter c <;> cases b6h c <;> rfl
  rw [b2g, b7t h, decide_eq_true (by omega)]
  simp only [cond_true, Option.bind_some, c2m, c9w]
  rw [← Option.bind_assoc, e2, Option.bind_some]
  cases hp : b2b c
  ·simp [b7g, hp]
  ·rw [Bool.not_true, cond_false, c5b _ (by omega), c2u hs (c0z h) (by omega) (by omega)]
   simp [b7g, hp]
theorem rname_eq {s : Rt.Bs} (hs : s.length ≤ 1000000) {n : Nat} (hn : s.length < n) : a6i n s = some (name s) := by
 cases hs0 : s with
 | nil => rfl
 | cons c r =>
  have h2 : 1 ≤ s.length := by rw [hs0]; simp
  have h3 : s.drop 0 = c :: r := hs0
  have h4 : s.drop 1 = r := c0z h3
  have h5 : s.length = r.length + 1 := by rw [hs0]; simp
  have h6 := b7t h3
  simp only [Int.natCast_zero] at h6
  have h7 := c2u hs (n := n) (r := r) (i := 1) (m := n) h4 h2 (by omega)
  rw [← hs0, a6i, decide_eq_false (show ¬ (s.length : Int) < 1 by omega), h6]
  simp only [cond_false, Option.bind_some, c2m]
  have h8 : name s = (isLetter c && (decide (s.length ≤ 20) && decide (b7g b2b r = r.length))) := by
   rw [name, hs0]
   cases hl : isLetter c
   ·simp [hl]
   ·simp only [List.isEmpty_cons, Bool.not_false, List.headD_cons, hl, Bool.true_and, b7g, c4x hl, cond_true, List.length_cons]
    congr 1
    rw [Bool.eq_iff_iff]; simp
  rw [h8]
  by_cases h9 : s.length ≤ 20
  ·rw [decide_eq_false (show ¬ (20 : Int) < s.length by omega), decide_eq_true h9]
   simp only [cond_false, Option.bind_some]
   cases isLetter c
   ·rfl
   ·simp only [Bool.not_true, cond_false, Bool.true_and]; exact h7
  ·rw [decide_eq_true (show (20 : Int) < s.length by omega), decide_eq_false h9]
   simp
end Go.Proofs.YtknpjecpcmajiaaGreat.Lx

namespace Go.Proofs.YtknpjecpcmajiaaGreat.Ta
open Go Rt M
def T2 {α β : Type} (Q : α → β → Prop) (f : Nat → Option α) (g : Nat → Option β) : Prop := ∃ a b, Ev f a ∧ Ev g b ∧ Q a b
section
variable {α β γ δ : Type} {P : α → β → Prop} {Q : γ → δ → Prop}
theorem T2.pure {a : γ} {b : δ} (h : Q a b) : T2 Q (fun _ => some a) (fun _ => some b) := ⟨a, b, Ev.pure a, Ev.pure b, h⟩
theorem T2.bind {x : Nat → Option α} {y : Nat → Option β} {f : Nat → α → Option γ} {g : Nat → β → Option δ} (h : T2 P x y) (k : ∀ a b, P a b → T2 Q (fun n => f n a) (fun n => g n b)) : T2 Q (fun n => (x n).bind (f n)) (fun n => (y n).bind (g n)) := by
 obtain ⟨a, b, h1, h2, h3⟩ := h
 obtain ⟨c, d, h4, h5, h6⟩ := k a b h3
 exact ⟨c, d, Ev.bind h1 h4, Ev.bind h2 h5, h6⟩
theorem T2.l {x : Nat → Option α} {a : α} {f : Nat → α → Option γ} {g : Nat → Option δ} (h : Ev x a) (k : T2 Q (fun n => f n a) g) : T2 Q (fun n => (x n).bind (f n)) g := by
 obtain ⟨c, d, h4, h5, h6⟩ := k
 exact ⟨c, d, Ev.bind h h4, h5, h6⟩
theorem T2.r {y : Nat → Option β} {b : β} {f : Nat → Option γ} {g : Nat → β → Option δ} (h : Ev y b) (k : T2 Q f (fun n => g n b)) : T2 Q f (fun n => (y n).bind (g n)) := by
 obtain ⟨c, d, h4, h5, h6⟩ := k
 exact ⟨c, d, h4, Ev.bind h h5, h6⟩
theorem T2.bif {c : Bool} {x x' : Nat → Option γ} {y y' : Nat → Option δ} (h1 : c = true → T2 Q x y) (h2 : c = false → T2 Q x' y') : T2 Q (fun n => bif c then x n else x' n) (fun n => bif c then y n else y' n) := by
 cases c
 ·exact h2 rfl
 ·exact h1 rfl
theorem T2.lt {c : Bool} {x x' : Nat → Option γ} {g : Nat → Option δ} (hc : c = true) (h : T2 Q x g) : T2 Q (fun n => bif c then x n else x' n) g := by subst hc; exact h
theorem T2.lf {c : Bool} {x x' : Nat → Option γ} {g : Nat → Option δ} (hc : c = false) (h : T2 Q x' g) : T2 Q (fun n => bif c then x n else x' n) g := by subst hc; exact h
theorem T2.suc {f f' : Nat → Option γ} {g g' : Nat → Option δ} (e : ∀ n, f (n + 1) = f' n) (e' : ∀ n, g (n + 1) = g' n) (h : T2 Q f' g') : T2 Q f g := by
 obtain ⟨c, d, h4, h5, h6⟩ := h
 exact ⟨c, d, Ev.suc e h4, Ev.suc e' h5, h6⟩
end
end Go.Proofs.YtknpjecpcmajiaaGreat.Ta

namespace Go.Proofs.YtknpjecpcmajiaaGreat.Ta
open Go Rt M
theorem c3e (s : Rt.Bs) : Ev (fun n => a6i n s) (Lx.name s) := by
 refine ⟨21, fun n hn => ?_⟩
 by_cases h : s.length ≤ 20
 ·exact Lx.rname_eq (by omega) (by omega)
 ·have h2 : Lx.name s = false := by unfold Lx.name; rw [decide_eq_false h]; simp
  rw [h2]
  unfold a6i
  dsimp only
  rw [decide_eq_false (show ¬ (s.length : Int) < 1 by omega), decide_eq_true (show (20 : Int) < (s.length : Int) by omega)]; rfl
theorem c6z (n : Nat) (l : List Rt.Bs) (i : Nat) (x : Rt.Bs) (hx : ix l (i : Int) = some x) (kont : Option Bool) (hi : i ≤ 1000000) : ∀ (us : List Rt.Bs) (k m : Nat), (l.take i).drop k = us → us.length < m →
  a5c n l (i : Int) kont m (k : Int) = bif decide (x ∈ us) then some false else kont
 | [], k, m + 1, hd, _ => by
  have h1 : (l.take i).length ≤ k := Rt.drop_nil hd
  have h2 : i < l.length := by
   rcases Nat.lt_or_ge i l.length with h2 | h2
   ·exact h2
   ·rw [b4j, List.getElem?_eq_none h2] at hx; cases hx
  rw [List.length_take] at h1
  rw [b1m, decide_eq_false (by omega)]; rfl
 | y :: us, k, m + 1, hd, hm => by
  obtain ⟨h1, h2, h3⟩ := drop_cons hd
  rw [List.length_take] at h3
  have h4 : ix l (k : Int) = some y := by
   rw [b4j] at h1 ⊢
   rw [List.getElem?_take, if_pos (by omega)] at h1
   exact h1
  rw [b1m, decide_eq_true (by omega), cond_true, h4, Option.bind_some, hx, Option.bind_some]
  by_cases h : y = x
  ·subst h
   rw [beq_self_eq_true, cond_true, decide_eq_true (by simp)]; rfl
  ·rw [show (y == x) = false by simpa using h, cond_false, inc64 (by omega), c6z n l i x hx kont hi us (k + 1) m h2 (by simpa using hm)]
   have e : decide (x ∈ y :: us) = decide (x ∈ us) := by
    by_cases h5 : x ∈ us
    ·rw [decide_eq_true h5, decide_eq_true (by simp [h5])]
    ·rw [decide_eq_false h5, decide_eq_false (by simp only [List.mem_cons, not_or]; exact ⟨fun h6 => h h6.symm, h5⟩)]
   rw [e]
theorem c1a {l : List Rt.Bs} (h : ¬ (l.length : Int) ≤ 6) : ∀ (us : List Rt.Bs) (i : Nat), b7u l i us = false
 | [], i => decide_eq_false h
 | s :: us, i => by unfold b7u; rw [c1a h us]; simp
theorem c9v (l : List Rt.Bs) (hl : l.length ≤ 6) : ∀ (us : List Rt.Bs) (i : Nat), l.drop i = us → ∃ N, ∀ n m, N ≤ n → us.length < m →
  a5e n l (some true) m (i : Int) = some (b7u l i us)
 | [], i, hd => by
  refine ⟨0, fun n m _ hm => ?_⟩
  obtain ⟨m, rfl⟩ := left hm
  rw [b1p, a6f hd]
  unfold b7u
  rw [decide_eq_true (by omega)]; rfl
 | s :: us, i, hd => by
  obtain ⟨h1, h2, h3⟩ := drop_cons hd
  obtain ⟨N, ih⟩ := c9v l hl us (i + 1) h2
  obtain ⟨N1, e1⟩ := c3e s
  refine ⟨max N (max N1 10), fun n m hn hm => ?_⟩
  obtain ⟨m, rfl, hm2⟩ := pred (by simpa using hm)
  have e1 : a6i n s = some (Lx.name s) := e1 n (by omega)
  rw [b1p, a3e hd, cond_true, h1, Option.bind_some, e1, Option.bind_some]
  unfold b7u
  cases Lx.name s with
  | false => rfl
  | true =>
   have h5 : a5c n l (i : Int) (a5e n l (some true) m (iadd .i64 (i : Int) 1)) n 0 = _ := c6z n l i s h1 _ (by omega) (l.take i) 0 n rfl (by rw [List.length_take]; omega)
   rw [Bool.not_true, cond_false, h5, inc64 (by omega), ih n m (by omega) hm2, Bool.true_and]
   cases decide (s ∈ l.take i) <;> rfl
theorem c3i (l : List Rt.Bs) : Ev (fun n => b2o n l) (d0i l) := by
 unfold b2o
 by_cases h : l.length ≤ 6
 ·refine Ev.else (decide_eq_false (by omega)) ?_
  obtain ⟨N, hN⟩ := c9v l h l 0 rfl
  exact ⟨N + l.length + 1, fun n hn => hN n n (by omega) (by omega)⟩
 ·exact Ev.then (decide_eq_true (by omega)) ((Ev.pure _).eq (c1a (by omega) l 0).symm)
theorem d1l {P : M.Expr → Prop} (h : ∀ (o k : Int) (s : Rt.Bs) (l : List M.Expr), (∀ y, y ∈ l → P y) → P ⟨o, k, s, l⟩) : ∀ x, P x := by
 intro x
 refine M.Expr.rec (motive_1 := P) (motive_2 := fun l => ∀ y, y ∈ l → P y) ?_ ?_ ?_ x
 ·exact fun o k s l hl => h o k s l hl
 ·exact fun y hy => by cases hy
 ·intro y ys h1 h2 z hz
  rcases List.mem_cons.1 hz with rfl | hz
  ·exact h1
  ·exact h2 z hz
theorem d2v (x : M.Expr) (lv lf : Int) (hlf : lf ≤ 1000000) (hlv : 1 ≤ lv) (hlv2 : lv ≤ 1000) : ∀ (us : List M.Expr) (i : Nat) (nx : Int), x.Args.drop i = us → i ≤ x.Args.length → -1 ≤ nx → nx ≤ lf - 1 - i →
  (∀ y, y ∈ us → ∀ lv lf : Int, 0 ≤ lf → lf ≤ 1000000 → -1 ≤ lv → lv ≤ 1000 → Tt (fun s => -1 ≤ s ∧ s ≤ lf - 1 ∧ (0 ≤ s → Fit y)) (fun n => ref35_size n y lf lv)) →
  ∃ N r, (-1 ≤ r ∧ r ≤ lf - 1 ∧ (0 ≤ r → x.Args.length ≤ 1000000 ∧ ∀ y, y ∈ us → Fit y)) ∧ ∀ n m, N ≤ n → us.length < m → a4r n (ref35_size n) x lv (fun nx3 => some nx3) m nx (i : Int) = some r
 | [], i, nx, hd, hi, h1, h2, _ => by
  have hlen : x.Args.length ≤ i := Rt.drop_nil hd
  refine ⟨0, nx, ⟨h1, by omega, fun h => ⟨by omega, by simp⟩⟩, fun n m _ hm => ?_⟩
  obtain ⟨m, rfl⟩ := left hm
  rw [a4i, a6f hd]; rfl
 | y :: us, i, nx, hd, hi, h1, h2, H => by
  obtain ⟨g1, g2, g3⟩ := drop_cons hd
  by_cases h0 : 0 ≤ nx
  ·obtain ⟨s, ⟨N1, e1⟩, s1, s2, s3⟩ := H y (by simp) (lv - 1) nx h0 (by omega) (by omega) (by omega)
   obtain ⟨N, r, ⟨r1, r2, r3⟩, ih⟩ := d2v x lv lf hlf hlv hlv2 us (i + 1) s g2 (by omega) s1 (by omega) (fun z hz => H z (by simp [hz]))
   refine ⟨max N N1, r, ⟨r1, r2, fun hr => ⟨(r3 hr).1, fun z hz => ?_⟩⟩, fun n m hn hm => ?_⟩
   ·rcases List.mem_cons.1 hz with rfl | hz
    ·refine s3 ?_
     rcases Int.lt_or_le s 0 with hs | hs
     ·exfalso
      have e : s = -1 := by omega
      have := ih (max N N1 + us.length + 2) (us.length + 1) (by omega) (by omega)
      rw [e] at this
      have hstop : a4r (max N N1 + us.length + 2) (ref35_size (max N N1 + us.length + 2)) x lv (fun nx3 => some nx3) (us.length + 1) (-1) ((i + 1 : Nat) : Int) = some (-1) := by
       rw [a4i]
       cases decide (((i + 1 : Nat) : Int) < (x.Args.length : Int)) <;> rfl
      rw [hstop] at this
      cases this
      omega
     ·exact hs
    ·exact (r3 hr).2 z hz
   ·obtain ⟨m, rfl, hm2⟩ := pred (by simpa using hm)
    have e1 : ref35_size n y nx (lv - 1) = some s := e1 n (by omega)
    rw [a4i, a3e hd, cond_true, Option.bind_some, decide_eq_true h0, cond_true, g1, Option.bind_some, a2k (by omega) (by omega), e1, Option.bind_some, inc64 (by omega)]
    exact ih n m (by omega) hm2
  ·refine ⟨0, nx, ⟨h1, by omega, fun h => absurd h h0⟩, fun n m _ hm => ?_⟩
   obtain ⟨m, rfl⟩ := left hm
   rw [a4i, a3e hd, cond_true, Option.bind_some, decide_eq_false h0]; rfl
theorem size_t : ∀ (x : M.Expr) (lv lf : Int), 0 ≤ lf → lf ≤ 1000000 → -1 ≤ lv → lv ≤ 1000 → Tt (fun s => -1 ≤ s ∧ s ≤ lf - 1 ∧ (0 ≤ s → Fit x)) (fun n => ref35_size n x lf lv) := by
 refine d1l ?_
 intro o k s l ih lv lf h1 h2 h3 h4
 refine Tt.suc (fun n => b1d n _ _ _) ?_
 refine Tt.bif (fun _ => Tt.pure ⟨by omega, by omega, fun h => by omega⟩) (fun h => ?_)
 have h5 := of_decide_eq_false h
 rw [a2k (by omega) (by omega)]
 obtain ⟨N, r, ⟨r1, r2, r3⟩, hN⟩ := d2v ⟨o, k, s, l⟩ lv lf h2 (by omega) h4 l 0 (lf - 1) rfl (by simp) (by omega) (by omega) ih
 exact ⟨r, ⟨N + l.length + 1, fun n hn => hN n n (by omega) (by omega)⟩, r1, r2, fun h => Fit.mk (r3 h).1 (r3 h).2⟩
theorem d6i (x : M.Expr) (a b : Int) (ha : 0 ≤ a) (ha2 : a ≤ 1000000) (hb : 0 ≤ b) (hb2 : b ≤ 1000) : Tt (fun c => c = true → Fit x) (fun n => a7i n x a b) := by
 unfold a7i
 refine Tt.bind (size_t x b a ha ha2 (by omega) hb2) fun s hs => ?_
 exact Tt.pure fun h => hs.2.2 (of_decide_eq_true h)
def d4e (s : Int) (r : Int × Bool) : Prop := (0 ≤ s → r = (s, true)) ∧ (s < 0 → r.2 = false)
theorem d3f (x : M.Expr) (lv lf : Int) (hx : x.Args.length ≤ 1000000) (hlf : lf ≤ 1000000) (hlv : 1 ≤ lv) (hlv2 : lv ≤ 1000) : ∀ (us : List M.Expr) (i : Nat) (nx : Int), x.Args.drop i = us → 0 ≤ nx → nx ≤ lf →
  (∀ y, y ∈ us → ∀ lv lf : Int, 0 ≤ lf → lf ≤ 1000000 → -1 ≤ lv → lv ≤ 1000 → ∃ s r, Ev (fun n => ref35_size n y lf lv) s ∧ Ev (fun n => tariff_sized n y lv lf) r ∧ d4e s r ∧ s ≤ lf - 1) →
  ∃ N s r, d4e s r ∧ s ≤ nx ∧ ∀ n m, N ≤ n → us.length < m → a4r n (ref35_size n) x lv (fun nx3 => some nx3) m nx (i : Int) = some s ∧ a4h n (tariff_sized n) x lv (fun f2 => some (f2, true)) m (i : Int) nx = some r
 | [], i, nx, hd, h1, h2, _ => by
  refine ⟨0, nx, (nx, true), ⟨fun _ => rfl, fun h => by omega⟩, by omega, fun n m _ hm => ?_⟩
  obtain ⟨m, rfl⟩ := left hm
  rw [a4i, a6f hd, a4c, a6f hd]; exact ⟨rfl, rfl⟩
 | y :: us, i, nx, hd, h1, h2, H => by
  obtain ⟨g1, g2, g3⟩ := drop_cons hd
  obtain ⟨s, ⟨lf', b⟩, ⟨N1, e1⟩, ⟨N2, e2⟩, ⟨A1, A2⟩, hs⟩ := H y (by simp) (lv - 1) nx h1 (by omega) (by omega) (by omega)
  rcases Int.lt_or_le s 0 with h0 | h0
  ·have hb : b = false := A2 h0
   subst hb
   refine ⟨max N1 N2, s, (lf', false), ⟨fun h => by omega, fun _ => rfl⟩, by omega, fun n m hn hm => ?_⟩
   obtain ⟨m, rfl, hm2⟩ := pred (by simpa using hm)
   have e1 : ref35_size n y nx (lv - 1) = some s := e1 n (by omega)
   have e2 : tariff_sized n y (lv - 1) nx = some (lf', false) := e2 n (by omega)
   obtain ⟨m', rfl⟩ := left hm2
   constructor
   ·rw [a4i, a3e hd, cond_true, Option.bind_some, decide_eq_true h1, cond_true, g1, Option.bind_some, a2k (by omega) (by omega), e1, Option.bind_some, inc64 (by omega), a4i, decide_eq_false (show ¬ 0 ≤ s by omega)]
    cases decide (((i + 1 : Nat) : Int) < (x.Args.length : Int)) <;> rfl
   ·rw [a4c, a3e hd, cond_true, g1, Option.bind_some, a2k (by omega) (by omega), e2]; rfl
  ·have hb := A1 h0
   simp only [Prod.mk.injEq] at hb
   obtain ⟨rfl, rfl⟩ := hb
   obtain ⟨N, s2, r2, A, hs2, ih⟩ := d3f x lv lf hx hlf hlv hlv2 us (i + 1) lf' g2 h0 (by omega) (fun z hz => H z (by simp [hz]))
   refine ⟨max N (max N1 N2), s2, r2, A, by omega, fun n m hn hm => ?_⟩
   obtain ⟨m, rfl, hm2⟩ := pred (by simpa using hm)
   have e1 : ref35_size n y nx (lv - 1) = some lf' := e1 n (by omega)
   have e2 : tariff_sized n y (lv - 1) nx = some (lf', true) := e2 n (by omega)
   have ih := ih n m (by omega) hm2
   constructor
   ·rw [a4i, a3e hd, cond_true, Option.bind_some, decide_eq_true h1, cond_true, g1, Option.bind_some, a2k (by omega) (by omega), e1, Option.bind_some, inc64 (by omega)]
    exact ih.1
   ·rw [a4c, a3e hd, cond_true, g1, Option.bind_some, a2k (by omega) (by omega), e2, Option.bind_some]
    dsimp only
    rw [Bool.not_true, cond_false, inc64 (by omega)]
    exact ih.2
theorem d6z {x : M.Expr} (hx : Fit x) : ∀ lv lf : Int, 0 ≤ lf → lf ≤ 1000000 → -1 ≤ lv → lv ≤ 1000 → ∃ s r, Ev (fun n => ref35_size n x lf lv) s ∧ Ev (fun n => tariff_sized n x lv lf) r ∧ d4e s r ∧ s ≤ lf - 1 := by
 induction hx with
 | @mk o k s l hl _ ih =>
  intro lv lf h1 h2 h3 h4
  by_cases hlv : lv < 1
  ·refine ⟨-1, (lf - 1, false), Ev.suc (fun n => b1d n _ _ _) (Ev.then (decide_eq_true hlv) (Ev.pure _)), ?_, ⟨fun h => by omega, fun _ => rfl⟩, by omega⟩
   refine Ev.suc (fun n => a7m n _ _ _) ?_
   rw [a2k (by omega) (by omega)]
   exact Ev.bind (Ev.then (decide_eq_true hlv) (Ev.pure _)) (Ev.then rfl (Ev.pure _))
  ·by_cases hlf : lf - 1 < 0
   ·refine ⟨-1, (lf - 1, false), ?_, ?_, ⟨fun h => by omega, fun _ => rfl⟩, by omega⟩
    ·refine Ev.suc (fun n => b1d n _ _ _) (Ev.else (decide_eq_false hlv) ?_)
     rw [a2k (by omega) (by omega)]
     refine ⟨1, fun n hn => ?_⟩
     obtain ⟨m, rfl⟩ := left hn
     show a4r (m + 1) _ _ _ _ (m + 1) _ _ = _
     rw [a4i, decide_eq_false (show ¬ 0 ≤ lf - 1 by omega), show lf - 1 = -1 by omega]
     cases decide ((0 : Int) < ((⟨o, k, s, l⟩ : M.Expr).Args.length : Int)) <;> rfl
    ·refine Ev.suc (fun n => a7m n _ _ _) ?_
     rw [a2k (by omega) (by omega)]
     exact Ev.bind (a := true) (Ev.else (decide_eq_false hlv) ((Ev.pure _).eq (decide_eq_true hlf))) (Ev.then rfl (Ev.pure _))
   ·obtain ⟨N, s2, r2, A, hs, h⟩ := d3f ⟨o, k, s, l⟩ lv lf hl h2 (by omega) h4 l 0 (lf - 1) rfl (by omega) (by omega) ih
    refine ⟨s2, r2, ?_, ?_, A, by omega⟩
    ·refine Ev.suc (fun n => b1d n _ _ _) (Ev.else (decide_eq_false hlv) ?_)
     rw [a2k (by omega) (by omega)]
     exact ⟨N + l.length + 1, fun n hn => (h n n (by omega) (by omega)).1⟩
    ·refine Ev.suc (fun n => a7m n _ _ _) ?_
     rw [a2k (x := lf) (by omega) (by omega)]
     refine Ev.bind (a := false) (Ev.else (decide_eq_false hlv) ((Ev.pure _).eq (decide_eq_false hlf))) (Ev.else rfl ?_)
     exact ⟨N + l.length + 1, fun n hn => (h n n (by omega) (by omega)).2⟩
theorem d7f {x : M.Expr} (hx : Fit x) : ∃ (b : Bool) (z : Int), Ev (fun n => tariff_sized n x 10 100) (z, b) ∧ Ev (fun n => a7i n x 100 10) b := by
 obtain ⟨s, ⟨z, b⟩, h1, h2, ⟨A1, A2⟩, _⟩ := d6z hx 10 100 (by decide) (by decide) (by decide) (by decide)
 refine ⟨b, z, h2, ?_⟩
 unfold a7i
 refine Ev.bind h1 ((Ev.pure _).eq ?_)
 rcases Int.lt_or_le s 0 with h0 | h0
 ·rw [decide_eq_false (by omega)]; exact (A2 h0).symm
 ·have := A1 h0
  simp only [Prod.mk.injEq] at this
  rw [decide_eq_true h0]; exact this.2.symm
end Go.Proofs.YtknpjecpcmajiaaGreat.Ta

namespace Go.Proofs.YtknpjecpcmajiaaGreat.Fe
open Go Rt M Ta Tp D
theorem b8h (n : Nat) (l : List Int) (hl : l.length ≤ 1000000) (f : Int → Option Bool) (p : Int → Bool) (hf : ∀ x, f x = some (p x)) : ∀ (us : List Int) (i m : Nat), l.drop i = us → us.length < m →
  ∃ r, a2t n l f (some (-1)) m (i : Int) = some r ∧ decide (0 ≤ r) = us.any p
 | [], i, m, hd, hm => by
  obtain ⟨m, rfl⟩ := left hm
  exact ⟨-1, by rw [a5o, a6f hd]; rfl, rfl⟩
 | y :: us, i, m, hd, hm => by
  obtain ⟨h1, h2, h3⟩ := Rt.drop_cons hd
  obtain ⟨m, rfl, hm2⟩ := pred (by simpa using hm)
  obtain ⟨r, ih, hr⟩ := b8h n l hl f p hf us (i + 1) m h2 hm2
  rw [a5o, a3e hd, cond_true, h1, Option.bind_some, hf, Option.bind_some, List.any_cons]
  cases p y with
  | true => exact ⟨(i : Int), rfl, decide_eq_true (by omega)⟩
  | false => rw [cond_false, Rt.inc64 (by omega)]; exact ⟨r, ih, by rw [hr]; rfl⟩
theorem c5e {l : List Int} (hl : l.length ≤ 1000000) (f : Nat → Int → Option Bool) (p : Int → Bool) (hf : ∀ n x, f n x = some (p x)) : Ev (fun n => a3k n l (f n)) (l.any p) := by
 refine ⟨l.length + 1, fun n hn => ?_⟩
 unfold a3k a5j
 dsimp only
 obtain ⟨r, h, hr⟩ := b8h n l hl (f n) p (hf n) l 0 n rfl (by omega)
 have e : a2t n l (f n) (some (-1)) n 0 = some r := h
 rw [e, Option.bind_some, hr]
theorem b8p (l : List Frac) (hl : l.length ≤ 1000000) (f : Nat → Frac → Option Bool) (p : Frac → Bool) : ∀ (us : List Frac) (i : Nat), l.drop i = us → (∀ y, y ∈ us → Ev (fun n => f n y) (p y)) →
  ∃ N r, decide (0 ≤ r) = us.any p ∧ ∀ n m, N ≤ n → us.length < m → a1w n l (f n) (some (-1)) m (i : Int) = some r
 | [], i, hd, _ => by
  refine ⟨0, -1, rfl, fun n m _ hm => ?_⟩
  obtain ⟨m, rfl⟩ := left hm
  rw [a3f, a6f hd]; rfl
 | y :: us, i, hd, H => by
  obtain ⟨h1, h2, h3⟩ := Rt.drop_cons hd
  obtain ⟨N1, e1⟩ := H y (by simp)
  obtain ⟨N, r, hr, ih⟩ := b8p l hl f p us (i + 1) h2 (fun z hz => H z (by simp [hz]))
  rw [List.any_cons]
  cases hp : p y with
  | true =>
   refine ⟨N1, (i : Int), decide_eq_true (by omega), fun n m hn hm => ?_⟩
   obtain ⟨m, rfl⟩ := left hm
   have e1 : f n y = some (p y) := e1 n (by omega)
   rw [a3f, a3e hd, cond_true, h1, Option.bind_some, e1, hp]; rfl
  | false =>
   refine ⟨max N N1, r, by rw [hr]; rfl, fun n m hn hm => ?_⟩
   obtain ⟨m, rfl, hm2⟩ := pred (by simpa using hm)
   have e1 : f n y = some (p y) := e1 n (by omega)
   rw [a3f, a3e hd, cond_true, h1, Option.bind_some, e1, hp, Option.bind_some, cond_false, Rt.inc64 (by omega)]
   exact ih n m (by omega) hm2
theorem c4r {l : List Frac} (hl : l.length ≤ 1000000) (f : Nat → Frac → Option Bool) (p : Frac → Bool) (hf : ∀ y, y ∈ l → Ev (fun n => f n y) (p y)) : Ev (fun n => a2v n l (f n)) (l.any p) := by
 obtain ⟨N, r, hr, h⟩ := b8p l hl f p l 0 rfl hf
 refine ⟨N + l.length + 1, fun n hn => ?_⟩
 unfold a2v a3n
 dsimp only
 have e : a1w n l (f n) (some (-1)) n 0 = some r := h n n (by omega) (by omega)
 rw [e, Option.bind_some, hr]
def badF (w : Frac) : Bool := !a9n w || decide (w.P.Sign < 0)
def Lim (k : Nat) (l : List Frac) : Prop := ∀ w, w ∈ l → w.P.Digits.length ≤ k ∧ w.Q.Digits.length ≤ k
theorem d6r {w : Frac} {k : Nat} (h : w.P.Digits.length ≤ k ∧ w.Q.Digits.length ≤ k) (hk : k ≤ 30) : Ev (fun n => a9g n w) (badF w) := by
 unfold a9g badF
 refine Ev.bind (c5j h.1 h.2 (by omega)) ?_
 cases hr : a9n w with
 | false => exact Ev.bind (Ev.then rfl (Ev.pure _)) (Ev.pure _)
 | true =>
  obtain ⟨r, rfl, hs⟩ := c9m h hr
  exact Ev.bind (Ev.else rfl (Ev.bind (FSign_ev hs (by omega)) (Ev.pure _))) (Ev.pure _)
theorem b7y (r : Rat) : decide (sg r.num < 0) = decide (r < 0) := by
 rw [d6p]
 rcases a7l r 0 with ⟨h1, h2⟩ | ⟨h1, h2⟩ | ⟨h1, h2⟩
 ·rw [h2, decide_eq_true h1]; rfl
 ·rw [h2, h1]; rfl
 ·rw [h2, decide_eq_false (Rat.not_lt.2 (Rat.le_of_lt h1))]; rfl
theorem d2c (r : Rat) : badF (toF r) = decide (r < 0) := by
 unfold badF
 rw [b7z]
 show decide (sg r.num < 0) = _
 exact b7y r
theorem c2o {k : Nat} : ∀ {l : List Frac}, Lim k l → l.any badF = false → ∃ ws : List Rat, l = ws.map toF ∧ (∀ w, w ∈ ws → 0 ≤ w) ∧ ∀ w, w ∈ ws → SmF k w
 | [], _, _ => ⟨[], rfl, by simp, by simp⟩
 | x :: l, hl, h => by
  rw [List.any_cons, Bool.or_eq_false_iff] at h
  obtain ⟨ws, rfl, h1, h2⟩ := c2o (fun w hw => hl w (by simp [hw])) h.2
  have hr : a9n x = true := by
   cases hx : a9n x
   ·have := h.1; unfold badF at this; rw [hx] at this; cases this
   ·rfl
  obtain ⟨r, rfl, hs⟩ := c9m (hl x (by simp)) hr
  have h0 := h.1
  rw [d2c] at h0
  refine ⟨r :: ws, rfl, ?_, ?_⟩
  ·intro w hw
   rcases List.mem_cons.1 hw with rfl | hw
   ·exact Rat.not_lt.1 (of_decide_eq_false h0)
   ·exact h1 w hw
  ·intro w hw
   rcases List.mem_cons.1 hw with rfl | hw
   ·exact hs
   ·exact h2 w hw
theorem d6j (a b : Int) : Ev (fun n => b8k n a b) (decide (0 ≤ a) && decide (a ≤ b)) := by
 unfold b8k
 refine Ev.all fun n => ?_
 cases decide (0 ≤ a) <;> rfl
theorem d6e (n : Nat) (x : Int) : a9i n x = some (!(decide (0 ≤ x) && decide (x ≤ 200))) := by
 unfold a9i b8k
 cases decide (0 ≤ x) <;> rfl
def c0o (names : List Rt.Bs) (f : Facts) (weights : List Frac) : Bool :=
  (((((f.Lifts.length : Int) == (names.length : Int)) && ((weights.length : Int) == (names.length : Int))) && (decide (0 ≤ f.Persons) && decide (f.Persons ≤ 1000))) && (decide (0 ≤ f.Flats) && decide (f.Flats ≤ 1000))) &&
    !(f.Lifts.any fun x => !(decide (0 ≤ x) && decide (x ≤ 200))) && !(weights.any badF)
theorem andE {c d : Bool} {x : Nat → Option Bool} (h : c = true → Ev x d) : Ev (fun n => bif c then x n else some false) (c && d) := by
 cases c
 ·exact Ev.else rfl (Ev.pure _)
 ·exact Ev.then rfl (h rfl)
theorem d2i {names : List Rt.Bs} {f : Facts} {weights : List Frac} {k : Nat} (hw : Lim k weights) (hk : k ≤ 30) (hl : f.Lifts.length ≤ 1000000) (hwl : weights.length ≤ 1000000) : Ev (fun n => b5a n f weights (names.length : Int)) (c0o names f weights) := by
 unfold b5a c0o
 refine Ev.bind (andE fun _ => Ev.pure _) ?_
 refine Ev.bind (andE fun _ => Ev.bind (d6j _ _) (Ev.pure _)) ?_
 refine Ev.bind (andE fun _ => Ev.bind (d6j _ _) (Ev.pure _)) ?_
 refine Ev.bind (andE fun _ => Ev.bind (c5e hl a9i _ d6e) (Ev.pure _)) ?_
 exact Ev.bind (andE fun _ => Ev.bind (c4r hwl a9g badF (fun y hy => d6r (hw y hy) hk)) (Ev.pure _)) (Ev.pure _)
theorem c8f {names : List Rt.Bs} {f : Facts} {weights : List Frac} {k : Nat} (hw : Lim k weights) (h : c0o names f weights = true) : ∃ ws : List Rat, weights = ws.map toF ∧ RF names f ws ∧ ∀ w, w ∈ ws → SmF k w := by
 unfold c0o at h
 simp only [Bool.and_eq_true, Bool.not_eq_true', decide_eq_true_eq, beq_iff_eq] at h
 obtain ⟨⟨⟨⟨⟨h1, h2⟩, h3⟩, h4⟩, h5⟩, h6⟩ := h
 obtain ⟨ws, rfl, g1, g2⟩ := c2o hw h6
 rw [List.length_map] at h2
 refine ⟨ws, rfl, ⟨by omega, by omega, h3.1, h3.2, h4.1, h4.2, fun n hn => ?_, g1⟩, g2⟩
 rw [List.any_eq_false] at h5
 have := h5 n hn
 simpa using this
theorem d1s {r : Rat} {k : Nat} (h : SmF k r) (hk : k < 1000000) : Ev (fun n => b4m n (toF r)) (toF r) := by
 unfold b4m
 have h1 := (b6n h).1
 have h2 := (b6n h).2
 exact Ev.bind (Ev.bind (b3p (by omega)) (Ev.bind (b3p (by omega)) (Ev.pure _))) (Ev.pure _)
def fv (names : List Rt.Bs) (f : Facts) (ws : List Rat) (t : Tariff) : Rat := num (mkE names f ws) t.Fee
section
variable {names : List Rt.Bs} {f : Facts} {t : Tariff} (hx : Fit t.Fee) (hn : names.length < 4611686018427387904)
include hx hn
end
def capV (c : Int) (v : Rat) : Rat := if v < 0 then 0 else if c ≠ -1 ∧ (c : Rat) < v then (c : Rat) else v
theorem c9o {t : Tariff} {names : List Rt.Bs} {f : Facts} {weights : List Frac} {v : Rat} (hc : -1 ≤ t.Cap ∧ t.Cap ≤ 1099511627776) (hv : SmF 3000 v) (h : Ev (fun n => a7h n t names f weights) (toF v, 0)) :
  Ev (fun n => a9r n t names f weights) (toF (capV t.Cap v), 0) := by
 unfold a9r
 refine Ev.bind h (Ev.else rfl ?_)
 refine Ev.bind (FSign_ev hv (by decide)) ?_
 rw [b7y]
 unfold capV
 by_cases h0 : v < 0
 ·rw [if_pos h0]
  exact Ev.then (decide_eq_true h0) (Ev.bind (b6l (x := 0) (by decide) (by decide)) (Ev.pure _))
 rw [if_neg h0]
 refine Ev.else (decide_eq_false h0) ?_
 have hi := b6l (x := t.Cap) (by omega) (by omega)
 have hs : SmF 4 (t.Cap : Rat) := smI (by omega) (by omega) (by decide)
 by_cases hn : t.Cap = -1
 ·refine Ev.bind (a := false) (Ev.else (by rw [hn]; rfl) (Ev.pure _)) ?_
  rw [if_neg (fun h => h.1 hn)]
  exact Ev.else rfl (Ev.pure _)
 ·refine Ev.bind (a := decide ((t.Cap : Rat) < v)) (Ev.then (by simpa using hn) (Ev.bind hi (Ev.bind (FCompare_ev hv hs (by decide)) ((Ev.pure _).eq ?_)))) ?_
  ·rcases a7l v (t.Cap : Rat) with ⟨h1, h2⟩ | ⟨h1, h2⟩ | ⟨h1, h2⟩
   ·rw [h2, decide_eq_false (p := (t.Cap : Rat) < v) (Rat.not_lt.2 (Rat.le_of_lt h1))]; rfl
   ·rw [h2, ← h1, decide_eq_false (p := v < v) Rat.lt_irrefl]; rfl
   ·rw [h2, decide_eq_true h1]; rfl
  ·by_cases h1 : (t.Cap : Rat) < v
   ·rw [if_pos ⟨hn, h1⟩]
    exact Ev.then (decide_eq_true h1) (Ev.bind hi (Ev.pure _))
   ·rw [if_neg (fun h => h1 h.2)]
    exact Ev.else (decide_eq_false h1) (Ev.pure _)
theorem c8g {t : Tariff} {names : List Rt.Bs} {f : Facts} {weights : List Frac} {e : Int} (he : e ≠ 0) (h : Ev (fun n => a7h n t names f weights) (zeroF, e)) :
  Ev (fun n => a9r n t names f weights) (zeroF, e) := by
 unfold a9r
 exact Ev.bind h (Ev.then (by simpa using he) (Ev.pure _))
structure FewS (t : Tariff) (names : List Rt.Bs) (f : Facts) (weights : List Frac) : Prop where
  fit : Fit t.Fee
  nl : names.length ≤ 8
  ll : f.Lifts.length ≤ 8
  wl : weights.length ≤ 8
  lim : Lim 4 weights
theorem d3i (weights : List Frac) (kont : Nat → Option Bool) (P : Prop) (hk : Tt (fun b => b = true → P ∧ weights.length ≤ 8) kont) : ∀ (us : List Frac) (i : Nat), weights.drop i = us → i ≤ 10 →
  ∃ N r, (r = true → (P ∧ weights.length ≤ 8) ∧ Lim 4 us) ∧ ∀ n m, N ≤ n → 12 - i < m → a6l n weights (kont n) m (i : Int) = some r
 | [], i, hd, hi => by
  obtain ⟨r, ⟨N, h⟩, hr⟩ := hk
  refine ⟨N, r, fun h => ⟨hr h, fun w hw => by cases hw⟩, fun n m hn hm => ?_⟩
  obtain ⟨m, rfl⟩ := left hm
  rw [b1a, a6f hd]; exact h n hn
 | x :: us, i, hd, hi => by
  obtain ⟨h1, h2, h3⟩ := Rt.drop_cons hd
  by_cases h10 : i < 10
  ·obtain ⟨b, ⟨N1, e1⟩⟩ : ∃ b, Ev (fun n => b1f n x 4) b ∧ (b = true → x.P.Digits.length ≤ 4 ∧ x.Q.Digits.length ≤ 4) := ⟨_, d7l x 4, d0j⟩
   obtain ⟨⟨N1, e1⟩, hb⟩ := And.intro N1 e1
   obtain ⟨N, r, hr, ih⟩ := d3i weights kont P hk us (i + 1) h2 (by omega)
   refine ⟨max N N1, bif b then r else false, ?_, fun n m hn hm => ?_⟩
   ·cases b with
    | false => intro h; cases h
    | true =>
     intro h
     obtain ⟨g1, g2⟩ := hr h
     refine ⟨g1, fun w hw => ?_⟩
     rcases List.mem_cons.1 hw with rfl | hw
     ·exact hb rfl
     ·exact g2 w hw
   ·obtain ⟨m, rfl⟩ : ∃ j, m = j + 1 := ⟨m - 1, by omega⟩
    have e1 : b1f n x 4 = some b := e1 n (by omega)
    rw [b1a, a3e hd, cond_true, Option.bind_some, decide_eq_true (show (i : Int) < 10 by omega), cond_true, h1, Option.bind_some, e1, Option.bind_some]
    cases b with
    | false => rfl
    | true => rw [Bool.not_true, cond_false, Rt.inc64 (by omega), ih n m (by omega) (by omega)]; rfl
  ·obtain ⟨r, ⟨N, h⟩, hr⟩ := hk
   refine ⟨N, r, fun h => ⟨hr h, ?_⟩, fun n m hn hm => ?_⟩
   ·have := (hr h).2; omega
   ·obtain ⟨m, rfl⟩ := left hm
    rw [b1a, a3e hd, cond_true, Option.bind_some, decide_eq_false (show ¬(i : Int) < 10 by omega)]; exact h n hn
theorem d2z (names : List Rt.Bs) (kont : Nat → Option Bool) (P : Prop) (hk : Tt (fun b => b = true → P) kont) : ∀ (us : List Rt.Bs) (i : Nat), names.drop i = us → i ≤ 10 →
  ∃ N r, (r = true → P) ∧ ∀ n m, N ≤ n → 12 - i < m → a8c n names (kont n) m (i : Int) = some r
 | [], i, hd, hi => by
  obtain ⟨r, ⟨N, h⟩, hr⟩ := hk
  refine ⟨N, r, hr, fun n m hn hm => ?_⟩
  obtain ⟨m, rfl⟩ := left hm
  rw [b1b, a6f hd]; exact h n hn
 | x :: us, i, hd, hi => by
  obtain ⟨h1, h2, h3⟩ := Rt.drop_cons hd
  by_cases h10 : i < 10
  ·obtain ⟨N, r, hr, ih⟩ := d2z names kont P hk us (i + 1) h2 (by omega)
   refine ⟨N, bif decide (30 < (x.length : Int)) then false else r, ?_, fun n m hn hm => ?_⟩
   ·cases decide (30 < (x.length : Int)) with
    | true => intro h; cases h
    | false => exact hr
   ·obtain ⟨m, rfl⟩ : ∃ j, m = j + 1 := ⟨m - 1, by omega⟩
    rw [b1b, a3e hd, cond_true, Option.bind_some, decide_eq_true (show (i : Int) < 10 by omega), cond_true, h1, Option.bind_some]
    cases decide (30 < (x.length : Int)) with
    | true => rfl
    | false => rw [cond_false, Rt.inc64 (by omega), ih n m (by omega) (by omega)]; rfl
  ·obtain ⟨r, ⟨N, h⟩, hr⟩ := hk
   refine ⟨N, r, hr, fun n m hn hm => ?_⟩
   obtain ⟨m, rfl⟩ := left hm
   rw [b1b, a3e hd, cond_true, Option.bind_some, decide_eq_false (show ¬(i : Int) < 10 by omega)]; exact h n hn
theorem d2s {P : Prop} {c d : Bool} (h : c = true → d = true → P) : Tt (fun b => b = true → P) (fun _ : Nat => bif c then some d else some false) := by
 cases c
 ·exact Tt.pure fun h => (by cases h)
 ·exact Tt.pure fun h2 => h rfl h2
theorem d7g (t : Tariff) (names : List Rt.Bs) (f : Facts) (weights : List Frac) : Tt (fun b => b = true → FewS t names f weights) (fun n => b5q n t names f weights) := by
 unfold b5q
 have hk : Tt (fun b => b = true → (Fit t.Fee ∧ names.length ≤ 8 ∧ f.Lifts.length ≤ 8) ∧ weights.length ≤ 8) (fun n =>
   (a7i n t.Fee 60 12).bind fun v1 =>
   (bif v1 then some (decide ((t.Name.length : Int) ≤ 30)) else some false).bind fun v2 =>
   (bif v2 then some (decide ((names.length : Int) ≤ 8)) else some false).bind fun v3 =>
   (bif v3 then some (decide ((f.Lifts.length : Int) ≤ 8)) else some false).bind fun v4 =>
   (bif v4 then some (decide ((weights.length : Int) ≤ 8)) else some false).bind fun v5 => some v5) := by
  refine Tt.bind (d6i t.Fee 60 12 (by decide) (by decide) (by decide) (by decide)) fun v1 h1 => ?_
  refine Tt.bind (P := fun b => b = true → Fit t.Fee) (d2s fun h _ => h1 h) fun v2 h2 => ?_
  refine Tt.bind (P := fun b => b = true → Fit t.Fee ∧ names.length ≤ 8) (d2s fun h h5 => ⟨h2 h, by have := of_decide_eq_true h5; omega⟩) fun v3 h3 => ?_
  refine Tt.bind (P := fun b => b = true → Fit t.Fee ∧ names.length ≤ 8 ∧ f.Lifts.length ≤ 8) (d2s fun h h5 => ⟨(h3 h).1, (h3 h).2, by have := of_decide_eq_true h5; omega⟩) fun v4 h4 => ?_
  refine Tt.bind (P := fun b => b = true → (Fit t.Fee ∧ names.length ≤ 8 ∧ f.Lifts.length ≤ 8) ∧ weights.length ≤ 8) (d2s fun h h5 => ⟨h4 h, by have := of_decide_eq_true h5; omega⟩) fun v5 h5 => ?_
  exact Tt.pure h5
 obtain ⟨N2, r2, hr2, e2⟩ := d3i weights _ _ hk weights 0 rfl (by omega)
 obtain ⟨N, r, hr, e⟩ := d2z names (fun n => a6l n weights ((fun n =>
   (a7i n t.Fee 60 12).bind fun v1 =>
   (bif v1 then some (decide ((t.Name.length : Int) ≤ 30)) else some false).bind fun v2 =>
   (bif v2 then some (decide ((names.length : Int) ≤ 8)) else some false).bind fun v3 =>
   (bif v3 then some (decide ((f.Lifts.length : Int) ≤ 8)) else some false).bind fun v4 =>
   (bif v4 then some (decide ((weights.length : Int) ≤ 8)) else some false).bind fun v5 => some v5) n) n 0) _ ⟨r2, ⟨max N2 13, fun n hn => e2 n n (by omega) (by omega)⟩, hr2⟩ names 0 rfl (by omega)
 exact ⟨r, ⟨max N 13, fun n hn => e n n (by omega) (by omega)⟩, fun h => ⟨(hr h).1.1.1, (hr h).1.1.2.1, (hr h).1.1.2.2, (hr h).1.2, (hr h).2⟩⟩
theorem small36 : Ev b2k true := ⟨400, fun n hn => by
 obtain ⟨m, rfl⟩ := Nat.le.dest hn
 rw [Nat.add_comm]
 exact (show b2k (m + 400) = some true by kernel_rfl)⟩
end Go.Proofs.YtknpjecpcmajiaaGreat.Fe

namespace Go.Proofs.YtknpjecpcmajiaaGreat.D
open Go Rt M
theorem d3t (n : Nat) (l : List Int) (kont : Int → Option (List Int)) (hl : l.length < 1099511627776) : ∀ (r : Nat) (c : List Int) (m : Nat), c.getLast? ≠ some 0 → l = c ++ List.replicate r 0 → ∀ k, k ≤ r → k < m →
  a5v n l kont m ((c.length + k : Nat) : Int) = kont (c.length : Int) := by
 intro r c m hc hlc k
 induction k generalizing m with
 | zero =>
  intro _ hm
  obtain ⟨m, rfl⟩ : ∃ m', m = m' + 1 := ⟨m - 1, by omega⟩
  unfold a5v
  rcases List.eq_nil_or_concat c with rfl | ⟨p, d, rfl⟩
  ·rfl
  ·rw [List.concat_eq_append] at *
   have hd : (d == 0) = false := by simpa using hc
   have e0 : isub .i64 (((p ++ [d]).length + 0 : Nat) : Int) 1 = (p.length : Int) := by rw [a2k (by simp <;> omega) (by rw [hlc] at hl; simp at hl ⊢; try omega)]; simp
   have e1 : decide ((0 : Int) < (((p ++ [d]).length + 0 : Nat) : Int)) = true := by simp <;> omega
   have e2 : ix l (p.length : Int) = some d := by rw [hlc, List.append_assoc]; exact a8w p d _ rfl
   rw [e1, e0, e2, cond_true, Option.bind_some, Option.bind_some, hd, cond_false]; rfl
 | succ k ih =>
  intro hk hm
  obtain ⟨m, rfl⟩ : ∃ m', m = m' + 1 := ⟨m - 1, by omega⟩
  have hlen : l.length = c.length + r := by rw [hlc]; simp
  unfold a5v
  have e0 : isub .i64 ((c.length + (k + 1) : Nat) : Int) 1 = ((c.length + k : Nat) : Int) := by rw [a2k (by omega) (by omega)]; omega
  have e1 : decide ((0 : Int) < ((c.length + (k + 1) : Nat) : Int)) = true := by simp; omega
  have e2 : ix l ((c.length + k : Nat) : Int) = some 0 := by
   rw [b4j, hlc, List.getElem?_append_right (by omega), show c.length + k - c.length = k by omega, List.getElem?_replicate, if_pos (by omega)]
  rw [e1, e0, e2, cond_true, Option.bind_some, Option.bind_some, show ((0 : Int) == 0) = true from rfl, cond_true]
  exact ih m (by omega) (by omega)
theorem b4v {l : List Int} (hl : InR l) (hlen : l.length < 1099511627776) {n : Nat} (hn : l.length < n) : a2p n l = some (dig (val l).toNat) := by
  obtain ⟨r, hr⟩ := split_dig hl
  have h1 : l.length = (dig (val l).toNat).length + r := by conv => lhs; rw [hr]
                                                            simp
  unfold a2p
  have h2 := d3t n l (fun (nx2 : Int) => (lsl l 0 nx2).bind fun l2 => (app 8 [] l2).bind fun l3 => some l3) hlen r (dig (val l).toNat) n (b7m _) hr r (Nat.le_refl _) (by omega)
  rw [← h1] at h2
  rw [h2]
  have h3 := c7h (l := l) (p := 0) (q := (dig (val l).toNat).length) (by omega) (by omega)
  rw [show ((0 : Nat) : Int) = 0 from rfl] at h3
  rw [h3, Option.bind_some, List.drop_zero]
  have h4 : ∀ c : List Int, l = c ++ List.replicate r 0 → l.take c.length = c := fun c hc => by rw [hc]; exact List.take_left
  rw [h4 _ hr, b6z (by simp; omega)]; rfl
theorem d6q {l : List Int} (s : Int) (hl : InR l) (hlen : l.length < 1099511627776) {n : Nat} (hn : l.length < n) : a2w n s l = some (if (val l).toNat = 0 then ⟨0, []⟩ else ⟨s, dig (val l).toNat⟩) := by
 unfold a2w
 rw [b4v hl hlen hn, Option.bind_some]
 by_cases h : (val l).toNat = 0
 ·rw [h, dig_zero, if_pos rfl]; rfl
 ·have := List.length_pos_iff.2 (b6c h)
  rw [if_neg h, show (((dig (val l).toNat).length : Int) == 0) = false from beq_false_of_ne (by omega), cond_false]
theorem b8e (n : Nat) (l : List Int) (i : Nat) : a3i n l (i : Int) = some ((l.drop i).headD 0) := by
 unfold a3i
 by_cases h : i < l.length
 ·rw [show decide ((i : Int) < (l.length : Int)) = true by simpa using h, cond_true, b4j, List.getElem?_eq_getElem h, Option.bind_some, List.drop_eq_getElem_cons h]; rfl
 ·rw [show decide ((i : Int) < (l.length : Int)) = false by simpa using h, cond_false, List.drop_of_length_le (by omega)]; rfl
theorem c7c (n : Nat) (a : Big) (kont : Option Bool) (hl : a.Digits.length < 1099511627776) : ∀ (us : List Int) (i m : Nat), a.Digits.drop i = us → us.length < m → a5d n a kont m (i : Int) = bif us.all okd then kont else some false
 | [], i, m + 1, hd, _ => by
  unfold a5d
  have := drop_nil hd
  rw [show decide ((i : Int) < (a.Digits.length : Int)) = false by simp; omega]; rfl
 | x :: xs, i, m + 1, hd, hm => by
  unfold a5d
  obtain ⟨f1, f2, f3⟩ := drop_cons hd
  rw [show decide ((i : Int) < (a.Digits.length : Int)) = true by simp; omega, cond_true, f1, Option.bind_some]
  have e1 : ((bif decide (x < 0) then some true else (some x).bind fun ex3 => some (decide (1048576 ≤ ex3))) : Option Bool) = some (!okd x) := by
   unfold okd
   by_cases h : x < 0
   ·rw [show decide (x < 0) = true by simpa using h, show decide (0 ≤ x) = false by simp; omega]; rfl
   ·rw [show decide (x < 0) = false by simpa using h, show decide (0 ≤ x) = true by simp; omega, cond_false, Option.bind_some]
    by_cases h2 : x < 1048576
    ·rw [show decide (1048576 ≤ x) = false by simp; omega, show decide (x < 1048576) = true by simpa using h2]; rfl
    ·rw [show decide (1048576 ≤ x) = true by simp; omega, show decide (x < 1048576) = false by simpa using h2]; rfl
  rw [e1, Option.bind_some, List.all_cons]
  cases h : okd x with
  | false => rfl
  | true =>
   rw [inc64 (by omega)]
   have := c7c n a kont hl xs (i + 1) m f2 (by simpa using hm)
   simpa using this
 | _, _, 0, _, h => by omega
theorem d2l {a : Big} (hl : a.Digits.length < 1099511627776) {n : Nat} (hn : a.Digits.length < n) : a2y n a = some (a9z a) := by
 unfold a2y
 have h := fun kont => c7c n a kont hl a.Digits 0 n rfl hn
 rw [show ((0 : Nat) : Int) = 0 from rfl] at h
 rw [h]
 unfold a9z
 cases ha : a.Digits.all okd with
 | false => rfl
 | true =>
  rw [cond_true, Bool.true_and]
  rcases List.eq_nil_or_concat a.Digits with h0 | ⟨p, d, h0⟩
  ·rw [h0]
   by_cases hs : a.Sign = 0
   ·rw [hs]; rfl
   ·have : (a.Sign == 0) = false := by simpa using hs
    rw [if_pos rfl, this]
    cases decide (a.Sign < -1) <;> cases decide (1 < a.Sign) <;> rfl
  ·rw [List.concat_eq_append] at h0
   have hne : a.Digits ≠ [] := by rw [h0]; simp
   have e1 : ((a.Digits.length : Int) == 0) = false := by rw [h0]; simp; omega
   have e2 : isub .i64 (a.Digits.length : Int) 1 = (p.length : Int) := by rw [a2k (by omega) (by omega), h0]; simp
   have e3 : ix a.Digits (p.length : Int) = some d := by rw [h0]; exact a8w p d [] rfl
   rw [e1, cond_false, if_neg hne, e2, e3]
   have e4 : a.Digits.getLast?.getD 0 = d := by rw [h0]; simp
   rw [e4]
   by_cases h1 : a.Sign < -1
   ·rw [show decide (a.Sign < -1) = true by simpa using h1, show (a.Sign == 1) = false by simp; omega, show (a.Sign == -1) = false by simp; omega]; rfl
   ·rw [show decide (a.Sign < -1) = false by simpa using h1]
    by_cases h2 : 1 < a.Sign
    ·rw [show decide (1 < a.Sign) = true by simpa using h2, show (a.Sign == 1) = false by simp; omega, show (a.Sign == -1) = false by simp; omega]; rfl
    ·rw [show decide (1 < a.Sign) = false by simpa using h2]
     have : a.Sign = -1 ∨ a.Sign = 0 ∨ a.Sign = 1 := by omega
     rcases this with h | h | h <;> rw [h] <;> rfl
end Go.Proofs.YtknpjecpcmajiaaGreat.D

namespace Go.Proofs.YtknpjecpcmajiaaGreat.D
open Go Rt M
theorem b1u (l : List Int) (i : Nat) : val (l.drop i) = (l.drop i).headD 0 + 1048576 * val (l.drop (i + 1)) := by
 rw [← List.drop_drop]
 cases l.drop i with
 | nil => rfl
 | cons d l => rfl
theorem b2u {l : List Int} {i : Nat} (h : l.length ≤ i) : val (l.drop i) = 0 := by rw [List.drop_of_length_le h]; rfl
theorem d0s {a b : List Int} (ha : InR a) (hb : InR b) (i : Nat) (h : val (a.drop i) < val (b.drop i)) : val a < val b := by
 induction i with
 | zero => simpa using h
 | succ i ih =>
  apply ih
  rw [b1u a i, b1u b i]
  have h1 := (InR.drop ha i).headD
  have h2 := (InR.drop hb i).headD
  omega
theorem d3b (n : Nat) (a b : List Int) (ha : InR a) (hb : InR b) (hla : a.length < 1099511627776) (hlb : b.length < 1099511627776) : ∀ (i m : Nat), i < 1099511627776 → i < m → val (a.drop i) = val (b.drop i) →
  a5s n a b (some false) m ((i : Int) - 1) = some (decide (val a < val b))
 | 0, m + 1, _, _, h => by
  unfold a5s
  rw [show decide ((0 : Int) ≤ ((0 : Nat) : Int) - 1) = false by decide, cond_false]
  simp only [List.drop_zero] at h
  rw [h]; simp
 | i + 1, m + 1, hi, hm, h => by
  unfold a5s
  rw [show ((i + 1 : Nat) : Int) - 1 = (i : Int) by omega, show decide (0 ≤ (i : Int)) = true by simp, cond_true, b8e, b8e, Option.bind_some, Option.bind_some]
  have e1 := b1u a i
  have e2 := b1u b i
  by_cases hd : (a.drop i).headD 0 = (b.drop i).headD 0
  ·rw [show ((a.drop i).headD 0 != (b.drop i).headD 0) = false by simpa using hd, cond_false, a2k (by omega) (by omega)]
   exact d3b n a b ha hb hla hlb i m (by omega) (by omega) (by rw [e1, e2, hd, h])
  ·rw [show ((a.drop i).headD 0 != (b.drop i).headD 0) = true by simpa using hd, cond_true, Option.bind_some, Option.bind_some]
   congr 1
   by_cases hlt : (a.drop i).headD 0 < (b.drop i).headD 0
   ·have := d0s ha hb i (by omega)
    rw [decide_eq_true hlt, decide_eq_true this]
   ·have := d0s hb ha i (by omega)
    have h3 : ¬ val a < val b := by omega
    rw [decide_eq_false hlt, decide_eq_false h3]
 | _, 0, _, hm, _ => by omega
theorem d2y {a b : List Int} (ha : InR a) (hb : InR b) (hla : a.length < 1099511627776) (hlb : b.length < 1099511627776) {n : Nat} (hn : max a.length b.length < n) : a6g n a b = some (decide (val a < val b)) := by
 unfold a6g
 have e : isub .i64 (imax (a.length : Int) (b.length : Int)) 1 = ((max a.length b.length : Nat) : Int) - 1 := by
  have : imax (a.length : Int) (b.length : Int) = ((max a.length b.length : Nat) : Int) := by unfold imax; split <;> omega
  rw [this, a2k (by omega) (by omega)]
 rw [e]
 exact d3b n a b ha hb hla hlb _ n (by omega) hn (by rw [b2u (by omega), b2u (by omega)])
theorem d2u (n : Nat) (a b : List Int) (kont : List Int → Option (List Int)) (ha : InR a) (hb : InR b) (hla : a.length < 1073741824) (hlb : b.length < 1073741824) (V : Int) : ∀ (m i : Nat) (c : Int) (pre : List Int),
  pre.length = i → InR pre → 0 ≤ c → c ≤ 1 → val pre + pw i * (c + val (a.drop i) + val (b.drop i)) = V → (i ≤ max a.length b.length ∨ (i = max a.length b.length + 1 ∧ c = 0)) → max a.length b.length + 2 ≤ i + m →
  ∃ out, a6o n a b kont m c (i : Int) pre = kont out ∧ InR out ∧ val out = V ∧ out.length ≤ max a.length b.length + 1
 | 0, i, _, _, _, _, _, _, _, h, h2 => by omega
 | m + 1, i, c, pre, hp, hpr, h0, h1, hv, hi, hm => by
  unfold a6o
  have xr := (InR.drop ha i).headD
  have yr := (InR.drop hb i).headD
  have ea := b1u a i
  have eb := b1u b i
  by_cases hgo : i < a.length ∨ i < b.length ∨ 0 < c
  ·have e1 : (((bif decide ((i : Int) < (a.length : Int)) then some true else some (decide ((i : Int) < (b.length : Int)))) : Option Bool).bind fun v2 => (bif v2 then some true else some (decide (0 < c)) : Option Bool)) = some true := by
    by_cases g1 : i < a.length
    ·rw [show decide ((i : Int) < (a.length : Int)) = true by simpa using g1]; rfl
    ·rw [show decide ((i : Int) < (a.length : Int)) = false by simpa using g1]
     by_cases g2 : i < b.length
     ·rw [show decide ((i : Int) < (b.length : Int)) = true by simpa using g2]; rfl
     ·rw [show decide ((i : Int) < (b.length : Int)) = false by simpa using g2, show decide (0 < c) = true by simp; omega]; rfl
   have es : iadd .i64 (iadd .i64 ((a.drop i).headD 0) ((b.drop i).headD 0)) c = (a.drop i).headD 0 + (b.drop i).headD 0 + c := by rw [a4e (x := (a.drop i).headD 0) (y := (b.drop i).headD 0) (by omega) (by omega), a4e (by omega) (by omega)]
   generalize hx : (a.drop i).headD 0 = x at *
   generalize hy : (b.drop i).headD 0 = y at *
   have hnext := d2u n a b kont ha hb hla hlb V m (i + 1) ((x + y + c) / 1048576) (pre ++ [(x + y + c) % 1048576]) (by simp [hp]) (hpr.append (InR.cons (by omega) (by omega) InR.nil)) (by omega) (by omega)
    (by
     rw [val_append, hp]
     have e3 : val [(x + y + c) % 1048576] = (x + y + c) % 1048576 := by simp [val]
     rw [e3, show pw (i + 1) = 1048576 * pw i from rfl, ← hv, ea, eb]
     have hdm : x + y + c = (x + y + c) % 1048576 + 1048576 * ((x + y + c) / 1048576) := by omega
     generalize (x + y + c) % 1048576 = r at *
     generalize (x + y + c) / 1048576 = q at *
     generalize val (a.drop (i + 1)) = A at *
     generalize val (b.drop (i + 1)) = B at *
     generalize pw i = p at *
     have hc : c = r + 1048576 * q - x - y := by omega
     subst hc
     grind) (by
     by_cases g : i < max a.length b.length
     ·left; omega
     ·right
      rw [List.drop_of_length_le (by omega)] at hx hy
      simp at hx hy
      omega) (by omega)
   obtain ⟨out, h3, h4, h5, h6⟩ := hnext
   refine ⟨out, ?_, h4, h5, h6⟩
   rw [← h3]
   rw [← Option.bind_assoc, e1, Option.bind_some, cond_true, b8e, b8e, Option.bind_some, Option.bind_some, hx, hy, es, b9t (by omega) (by decide), Option.bind_some, b6z (by simp; omega), Option.bind_some, b9x (by omega) (by omega) (by decide), Option.bind_some, inc64 (by omega)]
  ·refine ⟨pre, ?_, hpr, ?_, by omega⟩
   ·rw [show decide ((i : Int) < (a.length : Int)) = false by simp; omega, show decide ((i : Int) < (b.length : Int)) = false by simp; omega, show decide (0 < c) = false by simp; omega]; rfl
   ·rw [b2u (by omega), b2u (by omega)] at hv
    rw [← hv, show c = 0 by omega]; simp
theorem d4x {a b : List Int} (ha : InR a) (hb : InR b) (hla : a.length < 1073741824) (hlb : b.length < 1073741824) : Ev (fun n => a8k n a b) (dig (val a + val b).toNat) := by
 refine ⟨max a.length b.length + 3, fun n hn => ?_⟩
 show a8k n a b = _
 unfold a8k
 obtain ⟨out, h1, h2, h3, h4⟩ := d2u n a b (fun (l2 : List Int) => (a2p n l2).bind fun v1 => some v1) ha hb hla hlb (val a + val b) n 0 0 [] rfl InR.nil (by decide) (by decide) (by simp [val, pw]) (.inl (by omega)) (by omega)
 refine Eq.trans h1 ?_
 show (a2p n out).bind _ = _
 rw [b4v h2 (by omega) (by omega), h3]; rfl
end Go.Proofs.YtknpjecpcmajiaaGreat.D

namespace Go.Proofs.YtknpjecpcmajiaaGreat.D
open Go Rt M
theorem c6b (n : Nat) (a b : List Int) (kont : List Int → Option (List Int)) (ha : InR a) (hb : InR b) (hla : a.length < 1073741824) (hlb : b.length ≤ a.length) (V : Int) (hV : 0 ≤ V) : ∀ (us : List Int) (m i : Nat) (c : Int) (pre : List Int),
  a.drop i = us → us.length < m → pre.length = i → InR pre → 0 ≤ c → c ≤ 1 → val pre + pw i * (val us - val (b.drop i) - c) = V →
  ∃ out, a4n n a b kont m c (i : Int) pre = kont out ∧ InR out ∧ val out = V ∧ out.length ≤ max a.length i
 | [], m + 1, i, c, pre, hd, _, hp, hpr, h0, h1, hv => by
  have hi := drop_nil hd
  refine ⟨pre, ?_, hpr, ?_, by omega⟩
  ·unfold a4n
   rw [show decide ((i : Int) < (a.length : Int)) = false by simp; omega]; rfl
  ·rw [b2u (by omega)] at hv
   have h2 := val_lt hpr
   rw [hp] at h2
   have hc : c = 0 := by
    rcases (show c = 0 ∨ c = 1 by omega) with h | h
    ·exact h
    ·subst h; simp only [val] at hv; exfalso
     have : pw i * (0 - 0 - 1) = -pw i := by grind
     omega
   rw [← hv, hc]; simp [val]
 | x :: us, m + 1, i, c, pre, hd, hm, hp, hpr, h0, h1, hv => by
  obtain ⟨f1, f2, f3⟩ := drop_cons hd
  have xr := (show InR (x :: us) by rw [← hd]; exact InR.drop ha i).head
  have yr := (InR.drop hb i).headD
  have eb := b1u b i
  unfold a4n
  rw [show decide ((i : Int) < (a.length : Int)) = true by simpa using f3, cond_true, f1, Option.bind_some, b8e, Option.bind_some]
  generalize hy : (b.drop i).headD 0 = y at *
  have es : isub .i64 (isub .i64 x y) c = x - y - c := by rw [a2k (x := x) (y := y) (by omega) (by omega), a2k (by omega) (by omega)]
  rw [es]
  have key : ∀ (q r : Int), x - y - c = r - 1048576 * q → 0 ≤ q → q ≤ 1 → 0 ≤ r → r < 1048576 → ∃ out, ((app 8 pre [r]).bind fun l3 => a4n n a b kont m q (iadd .i64 (i : Int) 1) l3) = kont out ∧ InR out ∧ val out = V ∧ out.length ≤ max a.length i := by
   intro q r hqr hq0 hq1 hr0 hr1
   obtain ⟨out, h3, h4, h5, h6⟩ := c6b n a b kont ha hb hla hlb V hV us m (i + 1) q (pre ++ [r]) f2 (by simpa using hm) (by simp [hp]) (hpr.append (InR.cons hr0 hr1 InR.nil)) hq0 hq1 (by
    rw [val_append, hp]
    have e3 : val [r] = r := by simp [val]
    rw [e3, show pw (i + 1) = 1048576 * pw i from rfl, ← hv, eb]
    simp only [val]
    generalize val us = A at *
    generalize val (b.drop (i + 1)) = B at *
    generalize pw i = p at *
    have hc : c = x - y - r + 1048576 * q := by omega
    subst hc
    grind)
   exact ⟨out, by rw [b6z (by simp; omega), Option.bind_some, inc64 (by omega), h3], h4, h5, by omega⟩
  by_cases hn : x - y - c < 0
  ·rw [show decide (x - y - c < 0) = true by simpa using hn, cond_true, Option.bind_some, a4e (by omega) (by omega)]
   exact key 1 (x - y - c + 1048576) (by omega) (by omega) (by omega) (by omega) (by omega)
  ·rw [show decide (x - y - c < 0) = false by simpa using hn, cond_false, Option.bind_some]
   exact key 0 (x - y - c) (by omega) (by omega) (by omega) (by omega) (by omega)
 | _, 0, _, _, _, _, h, _, _, _, _, _ => by omega
theorem d1n {a b : List Int} (ha : InR a) (hb : InR b) (hla : a.length < 1073741824) (hlb : b.length ≤ a.length) (h : val b ≤ val a) : Ev (fun n => a3q n a b) (dig (val a - val b).toNat) := by
 refine ⟨a.length + 2, fun n hn => ?_⟩
 show a3q n a b = _
 unfold a3q
 obtain ⟨out, h1, h2, h3, h4⟩ := c6b n a b (fun (l2 : List Int) => (a2p n l2).bind fun v1 => some v1) ha hb hla hlb (val a - val b) (by omega) a n 0 0 [] rfl (by omega) rfl InR.nil (by decide) (by decide) (by simp [val, pw])
 refine Eq.trans h1 ?_
 show (a2p n out).bind _ = _
 rw [b4v h2 (by omega) (by omega), h3]; rfl
theorem d0p (P : List Int) (z : Int) (S : List Int) : val (P ++ z :: S) = val P + pw P.length * (z + 1048576 * val S) := by rw [val_append]; rfl
theorem c7b (n : Nat) (a b : List Int) (i : Nat) (x : Int) (kont : List Int → Option (List Int)) (hx : ix a (i : Int) = some x) (hxr : 0 ≤ x ∧ x < 1048576) (hb : InR b) (hla : a.length < 1073741824) (hlb : b.length < 1073741824) (W : Int) (hi : i < a.length)
  (hW : W < pw (i + b.length + 1)) : ∀ (m k : Nat) (c : Int) (l : List Int), InR l → l.length = a.length + b.length → 0 ≤ c → c < 1048576 → val l + pw (i + k) * (c + x * val (b.drop k)) = W → (k ≤ b.length ∨ (k = b.length + 1 ∧ c = 0)) → b.length + 2 ≤ k + m →
  ∃ l', a5f n a b (i : Int) kont m c (k : Int) l = kont l' ∧ InR l' ∧ l'.length = a.length + b.length ∧ val l' = W
 | 0, k, _, _, _, _, _, _, _, h, h2 => by omega
 | m + 1, k, c, l, hl, hlen, h0, h1, hv, hk, hm => by
  unfold a5f
  have yr := (InR.drop hb k).headD
  have eb := b1u b k
  by_cases hgo : k < b.length ∨ 0 < c
  ·have e1 : ((bif decide ((k : Int) < (b.length : Int)) then some true else some (decide (0 < c))) : Option Bool) = some true := by
    by_cases g1 : k < b.length
    ·rw [show decide ((k : Int) < (b.length : Int)) = true by simpa using g1]; rfl
    ·rw [show decide ((k : Int) < (b.length : Int)) = false by simpa using g1, show decide (0 < c) = true by simp; omega]; rfl
   have hj : i + k < l.length := by omega
   have ej : iadd .i64 (i : Int) (k : Int) = ((i + k : Nat) : Int) := by rw [a4e (by omega) (by omega)]; omega
   have hsp : l = l.take (i + k) ++ l[i + k] :: l.drop (i + k + 1) := by rw [← List.drop_eq_getElem_cons hj, List.take_append_drop]
   have hPl : (l.take (i + k)).length = i + k := by simp; omega
   have hzr := hl l[i + k] (List.getElem_mem hj)
   have hPr := InR.take hl (i + k)
   have hSr := InR.drop hl (i + k + 1)
   have hlen2 := congrArg List.length hsp
   simp only [List.length_append, List.length_cons] at hlen2
   generalize l[i + k] = z at *
   generalize l.take (i + k) = P at *
   generalize l.drop (i + k + 1) = S at *
   generalize hy : (b.drop k).headD 0 = y at *
   have hmul := b6i (g := x) hxr.1 yr.1 yr.2
   have em : imul .i64 x y = x * y := a8t (by omega) (by omega)
   have es : iadd .i64 (iadd .i64 z (imul .i64 x y)) c = z + x * y + c := by rw [em, a4e (x := z) (y := x * y) (by omega) (by omega), a4e (by omega) (by omega)]
   have hc' : (z + x * y + c) / 1048576 < 1048576 := by omega
   have hnv : val (P ++ (z + x * y + c) % 1048576 :: S) + pw (i + (k + 1)) * ((z + x * y + c) / 1048576 + x * val (b.drop (k + 1))) = W := by
    rw [hsp, d0p, hPl] at hv
    rw [d0p, hPl, show i + (k + 1) = (i + k) + 1 by omega, show pw (i + k + 1) = 1048576 * pw (i + k) from rfl, ← hv, eb]
    have hdm : z + x * y + c = (z + x * y + c) % 1048576 + 1048576 * ((z + x * y + c) / 1048576) := by omega
    generalize (z + x * y + c) % 1048576 = r at *
    generalize (z + x * y + c) / 1048576 = q at *
    generalize val (b.drop (k + 1)) = B at *
    generalize pw (i + k) = p at *
    generalize val P = vP at *
    generalize val S = vS at *
    have hc : c = r + 1048576 * q - z - x * y := by omega
    subst hc
    grind
   have hir : InR (P ++ (z + x * y + c) % 1048576 :: S) := hPr.append (InR.cons (by omega) (by omega) hSr)
   obtain ⟨l', h3, h4, h5, h6⟩ := c7b n a b i x kont hx hxr hb hla hlb W hi hW m (k + 1) ((z + x * y + c) / 1048576) (P ++ (z + x * y + c) % 1048576 :: S) hir (by simp only [List.length_append, List.length_cons]; omega) (by omega) hc' hnv (by
    by_cases g : k < b.length
    ·left; omega
    ·right
     refine ⟨by omega, ?_⟩
     have hk2 : k = b.length := by omega
     rw [b2u (l := b) (by omega), Int.mul_zero, Int.add_zero] at hnv
     have hnn := val_nonneg hir
     have hp2 := pw_pos (i + (k + 1))
     rw [show i + b.length + 1 = i + (k + 1) by omega] at hW
     generalize val (P ++ (z + x * y + c) % 1048576 :: S) = vv at *
     have hq0 : 0 ≤ (z + x * y + c) / 1048576 := by omega
     generalize (z + x * y + c) / 1048576 = q at *
     rcases (show q = 0 ∨ 1 ≤ q by omega) with h | h
     ·exact h
     ·exfalso
      have := Int.mul_le_mul_of_nonneg_left h (Int.le_of_lt hp2)
      rw [Int.mul_one] at this
      omega) (by omega)
   refine ⟨l', ?_, h4, h5, h6⟩
   rw [e1, Option.bind_some, cond_true, ej]
   have g1 : ix l ((i + k : Nat) : Int) = some z := by rw [hsp]; exact a8w _ _ _ (by omega)
   have g2 : lset l ((i + k : Nat) : Int) ((z + x * y + c) % 1048576) = some (P ++ (z + x * y + c) % 1048576 :: S) := by rw [hsp]; exact b0d _ _ _ _ (by omega)
   rw [g1, Option.bind_some, hx, Option.bind_some, b8e, Option.bind_some, hy, es, b9t (by omega) (by decide), Option.bind_some, Option.bind_some, g2, Option.bind_some, b9x (by omega) (by omega) (by decide), Option.bind_some, inc64 (by omega)]
   exact h3
  ·refine ⟨l, ?_, hl, hlen, ?_⟩
   ·rw [show decide ((k : Int) < (b.length : Int)) = false by simp; omega, show decide (0 < c) = false by simp; omega]; rfl
   ·rw [b2u (by omega)] at hv
    rw [← hv, show c = 0 by omega]; simp
end Go.Proofs.YtknpjecpcmajiaaGreat.D

namespace Go.Proofs.YtknpjecpcmajiaaGreat.D
open Go Rt M
theorem c7k (n : Nat) (a b : List Int) (kont : List Int → Option (List Int)) (ha : InR a) (hb : InR b) (hla : a.length < 1073741824) (hlb : b.length < 1073741824) (hn : b.length + 2 ≤ n) (T : Int) : ∀ (us : List Int) (i m : Nat) (l : List Int),
  a.drop i = us → us.length < m → InR l → l.length = a.length + b.length → val l < pw (i + b.length) → val l + pw i * (val us * val b) = T →
  ∃ l', a4a n a b kont m (i : Int) l = kont l' ∧ InR l' ∧ l'.length = a.length + b.length ∧ val l' = T
 | [], i, m + 1, l, hd, _, hl, hlen, _, hv => by
  refine ⟨l, ?_, hl, hlen, ?_⟩
  ·unfold a4a
   have := drop_nil hd
   rw [show decide ((i : Int) < (a.length : Int)) = false by simp; omega]; rfl
  ·rw [← hv]; simp [val]
 | x :: us, i, m + 1, l, hd, hm, hl, hlen, hlt, hv => by
  obtain ⟨f1, f2, f3⟩ := drop_cons hd
  have xr := (show InR (x :: us) by rw [← hd]; exact InR.drop ha i).head
  unfold a4a
  rw [show decide ((i : Int) < (a.length : Int)) = true by simpa using f3, cond_true]
  have hbv := val_lt hb
  have hb0 := val_nonneg hb
  have hpi := pw_pos i
  have hW : val l + pw i * (x * val b) < pw (i + b.length + 1) := by
   have h1 : x * val b ≤ 1048575 * pw b.length := Int.le_trans (Int.mul_le_mul_of_nonneg_right (show x ≤ 1048575 by omega) hb0) (Int.mul_le_mul_of_nonneg_left (Int.le_of_lt hbv) (by decide))
   have h2 := Int.mul_le_mul_of_nonneg_left h1 (Int.le_of_lt hpi)
   rw [c7e] at hlt
   rw [show pw (i + b.length + 1) = 1048576 * pw (i + b.length) from rfl, c7e]
   have h3 : pw i * (1048575 * pw b.length) = 1048575 * (pw i * pw b.length) := by grind
   omega
  obtain ⟨l', h1, h2, h3, h4⟩ := c7b n a b i x (fun (l5 : List Int) => a4a n a b kont m (iadd .i64 (i : Int) 1) l5) f1 xr hb hla hlb (val l + pw i * (x * val b)) f3 hW n 0 0 l hl hlen (by decide) (by decide) (by simp) (.inl (by omega)) (by omega)
  obtain ⟨l2, h5, h6, h7, h8⟩ := c7k n a b kont ha hb hla hlb hn T us (i + 1) m l' f2 (by simpa using hm) h2 h3 (by rw [h4, show i + 1 + b.length = i + b.length + 1 by omega]; exact hW) (by
   rw [h4, ← hv, show pw (i + 1) = 1048576 * pw i from rfl]
   simp only [val]
   grind)
  refine ⟨l2, ?_, h6, h7, h8⟩
  refine Eq.trans h1 ?_
  show a4a n a b kont m (iadd .i64 (i : Int) 1) l' = _
  rw [inc64 (by omega)]; exact h5
 | _, _, 0, _, _, h, _, _, _, _ => by omega
theorem val_zeros : ∀ k, val (List.replicate k (0 : Int)) = 0
 | 0 => rfl
 | k + 1 => by rw [List.replicate_succ]; simp only [val, val_zeros k]; rfl
theorem c8u (k : Nat) : InR (List.replicate k (0 : Int)) := fun e he => by rw [(List.mem_replicate.1 he).2]; decide
theorem c9l {a b : List Int} (ha : InR a) (hb : InR b) (hla : a.length < 536870912) (hlb : b.length < 536870912) {n : Nat} (hn : a.length + b.length + 2 < n) : a4k n a b = some (dig (val a * val b).toNat) := by
 unfold a4k
 obtain ⟨l', h1, h2, h3, h4⟩ := c7k n a b (fun (l3 : List Int) => (a2p n l3).bind fun v1 => some v1) ha hb (by omega) (by omega) (by omega) (val a * val b) a 0 n (List.replicate (a.length + b.length) 0) rfl (by omega) (c8u _) (by simp) (by rw [val_zeros]; exact pw_pos _) (by rw [val_zeros]; simp [pw])
 rw [show iadd .i64 (a.length : Int) (b.length : Int) = ((a.length + b.length : Nat) : Int) by rw [a4e (by omega) (by omega)]; omega, c2q (by omega), Option.bind_some]
 refine Eq.trans h1 ?_
 show (a2p n l').bind _ = _
 rw [b4v h2 (by omega) (by omega), h4]; rfl
theorem c4m {u v n : Nat} (hu : (dig u).length < 536870912) (hv : (dig v).length < 536870912) (hn : (dig u).length + (dig v).length + 2 < n) : a4k n (dig u) (dig v) = some (dig (u * v)) := by
 rw [c9l (a3l u) (a3l v) hu hv hn, a2u, a2u, ← Int.natCast_mul, Int.toNat_natCast]
theorem c5s (n : Nat) (b r : Nat) (kont : Int → Option (List Int × List Int)) (hb : 0 < b) (hlb : (dig b).length < 536870900) (hlr : (dig r).length < 536870900) (hn : (dig b).length + (dig r).length + 8 < n) : ∀ (m : Nat) (lo hi : Nat),
  hi - lo < m → lo < hi → hi ≤ 1048576 → lo * b ≤ r → r < hi * b → a4s n (dig b) (dig r) kont m (lo : Int) (hi : Int) = kont ((r / b : Nat) : Int)
 | 0, _, _, h, _, _, _, _ => by omega
 | m + 1, lo, hi, hm, hlt, hh, h1, h2 => by
  unfold a4s
  rw [a2k (by omega) (by omega)]
  by_cases hg : 1 < hi - lo
  ·rw [show decide (1 < (hi : Int) - (lo : Int)) = true by simp; omega, cond_true, a4e (by omega) (by omega), b9x (by omega) (by omega) (by decide), Option.bind_some]
   have e1 : ((lo : Int) + (hi : Int)) / 2 = (((lo + hi) / 2 : Nat) : Int) := by omega
   rw [e1]
   generalize hmid : (lo + hi) / 2 = mid at *
   have e2 : a4k n (dig b) [(mid : Int)] = some (dig (b * mid)) := by
    rw [c9l (a3l b) (InR.cons (by omega) (by omega) InR.nil) (by omega) (by simp) (by simp; omega), a2u]
    have : val [(mid : Int)] = mid := by simp [val]
    rw [this, ← Int.natCast_mul, Int.toNat_natCast]
   have hbm : (dig (b * mid)).length ≤ (dig b).length + 1 := by
    have hs1 : Sm (dig b).length (b : Int) := a9b (by rw [Int.natAbs_natCast]; exact Nat.le_refl _)
    have hs2 : Sm 1 (mid : Int) := by unfold Sm; rw [Int.natAbs_natCast, show pw 1 = 1048576 by decide]; omega
    have := a2s (hs1.mul hs2)
    rwa [← Int.natCast_mul, Int.natAbs_natCast] at this
   rw [e2, Option.bind_some, d2y (a3l r) (a3l (b * mid)) (by omega) (by omega) (by omega), Option.bind_some, a2u, a2u]
   by_cases hl : r < b * mid
   ·rw [show decide ((r : Int) < ((b * mid : Nat) : Int)) = true by rw [decide_eq_true_eq]; omega, cond_true]
    exact c5s n b r kont hb hlb hlr hn m lo mid (by omega) (by omega) (by omega) h1 (by rw [Nat.mul_comm]; exact hl)
   ·rw [show decide ((r : Int) < ((b * mid : Nat) : Int)) = false by rw [decide_eq_false_iff_not]; omega, cond_false]
    exact c5s n b r kont hb hlb hlr hn m mid hi (by omega) (by omega) hh (by rw [Nat.mul_comm]; omega) h2
  ·rw [show decide (1 < (hi : Int) - (lo : Int)) = false by simp; omega, cond_false]
   have : hi = lo + 1 := by omega
   subst this
   have : r / b = lo := by
    apply Nat.div_eq_of_lt_le
    ·exact h1
    ·exact h2
   rw [this]
end Go.Proofs.YtknpjecpcmajiaaGreat.D

namespace Go.Proofs.YtknpjecpcmajiaaGreat.D
open Go Rt M
theorem d5o {a b : List Int} (ha : InR a) (hb : InR b) (hla : a.length < 1073741824) (hlb : b.length ≤ a.length) (h : val b ≤ val a) {n : Nat} (hn : a.length + 2 ≤ n) : a3q n a b = some (dig (val a - val b).toNat) := by
 unfold a3q
 obtain ⟨out, h1, h2, h3, h4⟩ := c6b n a b (fun (l2 : List Int) => (a2p n l2).bind fun v1 => some v1) ha hb hla hlb (val a - val b) (by omega) a n 0 0 [] rfl (by omega) rfl InR.nil (by decide) (by decide) (by simp [val, pw])
 refine Eq.trans h1 ?_
 show (a2p n out).bind _ = _
 rw [b4v h2 (by omega) (by omega), h3]; rfl
theorem c9b {x H b : Nat} (hb : 0 < b) : (x + 1048576 * H) / b = 1048576 * (H / b) + (x + 1048576 * (H % b)) / b ∧ (x + 1048576 * H) % b = (x + 1048576 * (H % b)) % b := by
 have h1 := Nat.div_add_mod H b
 have e : x + 1048576 * H = (x + 1048576 * (H % b)) + b * (1048576 * (H / b)) := by
  generalize H / b = q at *
  generalize H % b = r at *
  rw [← h1]
  grind
 rw [e, Nat.add_mul_div_left _ _ hb, Nat.add_mul_mod_self_left]
 omega
theorem c8d {v : Nat} (h : v < 1048576) : (dig v).length ≤ 1 := by
 have h1 : Sm 1 (v : Int) := by unfold Sm; rw [Int.natAbs_natCast, show pw 1 = 1048576 by decide]; omega
 have := a2s h1
 rwa [Int.natAbs_natCast] at this
theorem d1g (n : Nat) (a : List Int) (b : Nat) (kont : List Int → List Int → Option (List Int × List Int)) (ha : InR a) (hb : 0 < b) (hla : a.length < 536870800) (hlb : (dig b).length < 536870800) (hn : a.length + 2 * (dig b).length + 1048600 < n) : ∀ (i m : Nat) (H : Nat) (qs : List Int),
  i ≤ a.length → i < m → val (a.drop i) = H → InR qs → qs.length = a.length - i → val qs = ((H / b : Nat) : Int) →
  ∃ out, a4u n a (dig b) kont m (dig (H % b)) ((i : Int) - 1) (List.replicate i 0 ++ qs) = kont (dig ((val a).toNat % b)) out ∧ InR out ∧ out.length = a.length ∧ val out = (((val a).toNat / b : Nat) : Int)
 | 0, m + 1, H, qs, _, _, hH, hq, hql, hqv => by
  refine ⟨qs, ?_, hq, by omega, ?_⟩
  ·unfold a4u
   rw [show decide ((0 : Int) ≤ ((0 : Nat) : Int) - 1) = false by decide, cond_false]
   rw [List.drop_zero] at hH
   rw [hH]; rfl
  ·rw [List.drop_zero] at hH
   rw [hqv, hH]; rfl
 | i + 1, m + 1, H, qs, hi, hm, hH, hq, hql, hqv => by
  unfold a4u
  have hia : i < a.length := by omega
  have hxr := ha a[i] (List.getElem_mem hia)
  have hvd := b1u a i
  rw [List.drop_eq_getElem_cons hia] at hvd
  simp only [List.headD_cons] at hvd
  rw [← List.drop_eq_getElem_cons hia] at hvd
  rw [show ((i + 1 : Nat) : Int) - 1 = (i : Int) by omega, show decide (0 ≤ (i : Int)) = true by simp, cond_true, b4j, List.getElem?_eq_getElem hia, Option.bind_some]
  generalize a[i] = x at *
  obtain ⟨X, rfl⟩ := Int.eq_ofNat_of_zero_le hxr.1
  have hmod := Nat.mod_lt H hb
  have hlr := a5r (Nat.le_of_lt hmod)
  obtain ⟨s1, s2⟩ := c9b (x := X) (H := H) hb
  have hr' : X + 1048576 * (H % b) < 1048576 * b := by omega
  have hvl : val ((X : Int) :: dig (H % b)) = ((X + 1048576 * (H % b) : Nat) : Int) := by simp only [val, a2u]; omega
  rw [b6z (by simp; omega), Option.bind_some, List.singleton_append, b4v (InR.cons hxr.1 hxr.2 (a3l _)) (by simp; omega) (by simp; omega), Option.bind_some, hvl, Int.toNat_natCast]
  have hlr' : (dig (X + 1048576 * (H % b))).length ≤ (dig b).length + 1 := by
   have h1 := b7x (l := (X : Int) :: dig (H % b)) (InR.cons hxr.1 hxr.2 (a3l _))
   rw [hvl, Int.toNat_natCast] at h1
   simp only [List.length_cons] at h1
   omega
  generalize hR : X + 1048576 * (H % b) = R at *
  have hlo : R / b < 1048576 := by rw [Nat.div_lt_iff_lt_mul hb]; omega
  have hlob : b * (R / b) ≤ R := Nat.mul_div_le R b
  have h2 := c5s n b R (fun (lo2 : Int) =>
    (ix (List.replicate (i + 1) 0 ++ qs) (i : Int)).bind fun _ =>
    (lset (List.replicate (i + 1) 0 ++ qs) (i : Int) lo2).bind fun l5 =>
    (a2p n [lo2]).bind fun v3 =>
    (a4k n (dig b) v3).bind fun v4 =>
    (a3q n (dig R) v4).bind fun v5 =>
    a4u n a (dig b) kont m v5 (isub .i64 (i : Int) 1) l5) hb (by omega) (by omega) (by omega) n 0 1048576 (by omega) (by omega) (by omega) (by omega) (by omega)
  generalize hL : R / b = L at *
  have e1 : List.replicate (i + 1) (0 : Int) ++ qs = List.replicate i 0 ++ 0 :: qs := by rw [List.replicate_succ', List.append_assoc]; rfl
  have e2 : ix (List.replicate (i + 1) (0 : Int) ++ qs) (i : Int) = some 0 := by rw [e1]; exact a8w _ _ _ (by simp)
  have e3 : lset (List.replicate (i + 1) (0 : Int) ++ qs) (i : Int) ((L : Nat) : Int) = some (List.replicate i 0 ++ ((L : Nat) : Int) :: qs) := by rw [e1]; exact b0d _ _ _ _ (by simp)
  have e4 : a2p n [((L : Nat) : Int)] = some (dig (L)) := by
   rw [b4v (InR.cons (by omega) (by omega) InR.nil) (by simp) (by simp; omega)]
   simp [val]
  have hl1 := c8d hlo
  have e5 : a4k n (dig b) (dig (L)) = some (dig (b * (L))) := c4m (by omega) (by omega) (by omega)
  have e6 : a3q n (dig R) (dig (b * (L))) = some (dig (R % b)) := by
   have h3 := a5r hlob
   rw [d5o (a3l _) (a3l _) (by omega) h3 (by rw [a2u, a2u]; omega) (by omega), a2u, a2u]
   congr 2
   have := Nat.div_add_mod R b
   rw [hL] at this
   omega
  have hnext := d1g n a b kont ha hb hla hlb hn i m (X + 1048576 * H) (((L : Nat) : Int) :: qs) (by omega) (by omega) (by rw [hvd, hH]; omega) (InR.cons (by omega) (by omega) hq) (by simp; omega) (by
   rw [s1]; simp only [val]; rw [hqv]; omega)
  obtain ⟨out, h4, h5, h6, h7⟩ := hnext
  refine ⟨out, ?_, h5, h6, h7⟩
  refine Eq.trans h2 ?_
  show (ix (List.replicate (i + 1) 0 ++ qs) (i : Int)).bind _ = _
  rw [e2, Option.bind_some, e3, Option.bind_some, e4, Option.bind_some, e5, Option.bind_some, e6, Option.bind_some, a2k (by omega) (by omega), ← h4, s2]
 | _, 0, _, _, _, h, _, _, _, _ => by omega
theorem d6d {A b : Nat} (hb : 0 < b) (hla : (dig A).length < 536870800) (hlb : (dig b).length < 536870800) {n : Nat} (hn : (dig A).length + 2 * (dig b).length + 1048600 < n) : a8p n (dig A) (dig b) = some (dig (A / b), dig (A % b)) := by
 unfold a8p
 obtain ⟨out, h1, h2, h3, h4⟩ := d1g n (dig A) b (fun (rx2 : List Int) (l3 : List Int) => (a2p n l3).bind fun v1 => some (v1, rx2)) (a3l A) hb hla hlb hn (dig A).length n 0 [] (Nat.le_refl _) (by omega) (by rw [b2u (Nat.le_refl _)]; rfl) InR.nil (by simp) (by rw [Nat.zero_div]; rfl)
 rw [Nat.zero_mod, dig_zero, List.append_nil] at h1
 rw [c2q (by omega), Option.bind_some, a2k (by omega) (by omega)]
 refine Eq.trans h1 ?_
 show (a2p n out).bind _ = _
 rw [b4v h2 (by omega) (by omega), h4, a2u, Int.toNat_natCast, Int.toNat_natCast]; rfl
end Go.Proofs.YtknpjecpcmajiaaGreat.D

namespace Go.Proofs.YtknpjecpcmajiaaGreat.D
open Go Rt M
theorem c5f {a : Big} (hl : a.Digits.length < 1099511627776) : Ev (fun n => a2y n a) (a9z a) := ⟨a.Digits.length + 1, fun _ hn => d2l hl hn⟩
theorem a5i {x : Int} {k : Nat} (h : Sm k x) (hk : k < 1099511627776) : Ev (fun n => a2y n (toB x)) true := by
 have := a2s h
 exact (c5f (a := toB x) (by simp only [toB]; omega)).eq (b5w x)
theorem d3w (s : Int) {v : Nat} (h : (dig v).length < 1099511627776) : Ev (fun n => a2w n s (dig v)) (if v = 0 then ⟨0, []⟩ else ⟨s, dig v⟩) := by
 refine ⟨(dig v).length + 1, fun n hn => ?_⟩
 have h1 := d6q s (a3l v) h (n := n) (by omega)
 rw [a2u, Int.toNat_natCast] at h1
 exact h1
theorem b0i {s : Int} {v : Nat} (h : (dig v).length < 1099511627776) (z : Int) (hz : z.natAbs = v) (hs : v ≠ 0 → s = sg z) : Ev (fun n => a2w n s (dig v)) (toB z) := (d3w s h).eq (a6b z hz hs)
theorem c6t (u v : Nat) (hu : (dig u).length < 1073741824) (hv : (dig v).length < 1073741824) : Ev (fun n => a8k n (dig u) (dig v)) (dig (u + v)) :=
 (d4x (a3l u) (a3l v) hu hv).eq (by rw [a2u, a2u, ← Int.natCast_add, Int.toNat_natCast])
theorem c0v (u v : Nat) (hu : (dig u).length < 1073741824) (h : v ≤ u) : Ev (fun n => a3q n (dig u) (dig v)) (dig (u - v)) :=
 (d1n (a3l u) (a3l v) hu (a5r h) (by rw [a2u, a2u]; omega)).eq (by rw [a2u, a2u]; congr 1; omega)
theorem c6x (u v : Nat) (hu : (dig u).length < 1099511627776) (hv : (dig v).length < 1099511627776) : Ev (fun n => a6g n (dig u) (dig v)) (decide (u < v)) :=
 ⟨max (dig u).length (dig v).length + 1, fun n hn => by
  show a6g n (dig u) (dig v) = _
  rw [d2y (a3l u) (a3l v) hu hv (by omega), a2u, a2u]
  congr 1
  by_cases h : u < v <;> simp [h]⟩
theorem d0v (u v : Nat) (hu : (dig u).length < 536870912) (hv : (dig v).length < 536870912) : Ev (fun n => a4k n (dig u) (dig v)) (dig (u * v)) :=
 ⟨(dig u).length + (dig v).length + 3, fun n hn => c4m hu hv (by omega)⟩
theorem c6w (u v : Nat) (h : v ≠ 0) (hu : (dig u).length < 536870800) (hv : (dig v).length < 536870800) : Ev (fun n => a8p n (dig u) (dig v)) (dig (u / v), dig (u % v)) :=
 ⟨(dig u).length + 2 * (dig v).length + 1048601, fun n hn => d6d (by omega) hu hv (by omega)⟩
theorem c6q {x : Int} {k : Nat} (h : Sm k x) (hk : k < 1073741824) : Ev (fun n => b2h n (toB x)) (toB (-x)) := by
 have hl := a2s h
 unfold b2h
 refine Ev.bind (a5i h (by omega)) ?_
 refine Ev.else rfl ?_
 refine Ev.bind (b0i (v := x.natAbs) (by omega) (-x) (by omega) (fun hne => ?_)) (Ev.pure _)
 show IntKind.i64.wrap (0 - sg x) = sg (-x)
 rcases a2h x with ⟨a, b⟩ | ⟨a, b⟩ | ⟨a, b⟩ <;> rw [b]
 ·rw [a4v (by omega)]; decide
 ·omega
 ·rw [a5b (by omega)]; decide
theorem c3v {x y : Int} {k : Nat} (hx : Sm k x) (hy : Sm k y) (hk : k < 268435456) : Ev (fun n => a4m n (toB x) (toB y)) (toB (x * y), 0) := by
 have lx := a2s hx
 have ly := a2s hy
 unfold a4m
 refine Ev.bind (a5i hx (by omega)) ?_
 refine Ev.bind (a := false) (Ev.else rfl (Ev.bind (a5i hy (by omega)) (Ev.pure _))) ?_
 refine Ev.else rfl ?_
 refine Ev.bind (d0v x.natAbs y.natAbs (by omega) (by omega)) ?_
 have lm : (dig (x.natAbs * y.natAbs)).length ≤ k + k := by
  have := a2s (hx.mul hy)
  rwa [Int.natAbs_mul] at this
 refine Ev.bind (b0i (by omega) (x * y) (Int.natAbs_mul x y) (fun _ => ?_)) (Ev.pure _)
 exact b4w x y
theorem c9j {x y : Int} {k : Nat} (hx : Sm k x) (hy : Sm k y) (hk : k < 536870912) : Ev (fun n => b3g n (toB x) (toB y)) (toB (x + y), 0) := by
 have lx := a2s hx
 have ly := a2s hy
 unfold b3g
 refine Ev.bind (a5i hx (by omega)) ?_
 refine Ev.bind (a := false) (Ev.else rfl (Ev.bind (a5i hy (by omega)) (Ev.pure _))) ?_
 refine Ev.else rfl ?_
 have hplus : ∀ s, (x.natAbs + y.natAbs ≠ 0 → s = sg (x + y)) → (x + y).natAbs = x.natAbs + y.natAbs → Ev (fun n => (a8k n (dig x.natAbs) (dig y.natAbs)).bind fun v5 => (a2w n s v5).bind fun v6 => some ((⟨v6.Sign, v6.Digits⟩ : Big), (0 : Int))) (toB (x + y), 0) := by
  intro s hs hz
  have lp : (dig (x.natAbs + y.natAbs)).length ≤ k + 1 := by
   have := a2s (hx.add hy)
   rwa [hz] at this
  refine Ev.bind (c6t x.natAbs y.natAbs (by omega) (by omega)) ?_
  exact Ev.bind (b0i (by omega) (x + y) hz hs) (Ev.pure _)
 have hless : (0 < x ∧ y < 0) ∨ (x < 0 ∧ 0 < y) → Ev (fun n => (a6g n (dig x.natAbs) (dig y.natAbs)).bind fun v7 =>
   bif v7 then
    (a3q n (dig y.natAbs) (dig x.natAbs)).bind fun v8 =>
    (a2w n (sg y) v8).bind fun v9 =>
    some ((⟨v9.Sign, v9.Digits⟩ : Big), (0 : Int))
   else
    (a3q n (dig x.natAbs) (dig y.natAbs)).bind fun v10 =>
    (a2w n (sg x) v10).bind fun v11 =>
    some ((⟨v11.Sign, v11.Digits⟩ : Big), 0)) (toB (x + y), 0) := by
  intro hs
  refine Ev.bind (c6x x.natAbs y.natAbs (by omega) (by omega)) ?_
  by_cases hl : x.natAbs < y.natAbs
  ·have l1 := a5r (Nat.sub_le y.natAbs x.natAbs)
   refine Ev.then (by simpa using hl) ?_
   refine Ev.bind (c0v y.natAbs x.natAbs (by omega) (by omega)) ?_
   refine Ev.bind (b0i (by omega) (x + y) (by omega) (fun _ => ?_)) (Ev.pure _)
   rcases hs with ⟨h1, h2⟩ | ⟨h1, h2⟩
   ·rw [a5b h2, a5b (by omega)]
   ·rw [a4v h2, a4v (by omega)]
  ·have l1 := a5r (Nat.sub_le x.natAbs y.natAbs)
   refine Ev.else (by simpa using hl) ?_
   refine Ev.bind (c0v x.natAbs y.natAbs (by omega) (by omega)) ?_
   refine Ev.bind (b0i (by omega) (x + y) (by omega) (fun hne => ?_)) (Ev.pure _)
   rcases hs with ⟨h1, h2⟩ | ⟨h1, h2⟩
   ·rw [a4v h1, a4v (by omega)]
   ·rw [a5b h1, a5b (by omega)]
 rcases a2h x with ⟨a, b⟩ | ⟨a, b⟩ | ⟨a, b⟩ <;> rcases a2h y with ⟨c, d⟩ | ⟨c, d⟩ | ⟨c, d⟩
 ·refine Ev.bind (a := false) (Ev.else (by show (sg x == 0) = false; rw [b]; rfl) ((Ev.pure _).eq (by show (sg y == 0) = false; rw [d]; rfl))) ?_
  refine Ev.bind (a := true) (Ev.else rfl ((Ev.pure _).eq (by show (sg x == sg y) = true; rw [b, d]; rfl))) ?_
  exact Ev.then rfl (hplus _ (fun _ => by show ior .i64 (sg x) (sg y) = _; rw [b, d, a5b (by omega)]; decide) (by omega))
 ·refine Ev.bind (a := true) (Ev.else (by show (sg x == 0) = false; rw [b]; rfl) ((Ev.pure _).eq (by show (sg y == 0) = true; rw [d]; rfl))) ?_
  refine Ev.bind (a := true) (Ev.then rfl (Ev.pure _)) ?_
  exact Ev.then rfl (hplus _ (fun _ => by show ior .i64 (sg x) (sg y) = _; rw [b, d, a5b (by omega)]; decide) (by omega))
 ·refine Ev.bind (a := false) (Ev.else (by show (sg x == 0) = false; rw [b]; rfl) ((Ev.pure _).eq (by show (sg y == 0) = false; rw [d]; rfl))) ?_
  refine Ev.bind (a := false) (Ev.else rfl ((Ev.pure _).eq (by show (sg x == sg y) = false; rw [b, d]; rfl))) ?_
  exact Ev.else rfl (hless (.inr ⟨a, c⟩))
 ·refine Ev.bind (a := true) (Ev.then (by show (sg x == 0) = true; rw [b]; rfl) (Ev.pure _)) ?_
  refine Ev.bind (a := true) (Ev.then rfl (Ev.pure _)) ?_
  exact Ev.then rfl (hplus _ (fun _ => by show ior .i64 (sg x) (sg y) = _; rw [b, d, a5b (by omega)]; decide) (by omega))
 ·refine Ev.bind (a := true) (Ev.then (by show (sg x == 0) = true; rw [b]; rfl) (Ev.pure _)) ?_
  refine Ev.bind (a := true) (Ev.then rfl (Ev.pure _)) ?_
  exact Ev.then rfl (hplus _ (fun h => by omega) (by omega))
 ·refine Ev.bind (a := true) (Ev.then (by show (sg x == 0) = true; rw [b]; rfl) (Ev.pure _)) ?_
  refine Ev.bind (a := true) (Ev.then rfl (Ev.pure _)) ?_
  exact Ev.then rfl (hplus _ (fun _ => by show ior .i64 (sg x) (sg y) = _; rw [b, d, a4v (by omega)]; decide) (by omega))
 ·refine Ev.bind (a := false) (Ev.else (by show (sg x == 0) = false; rw [b]; rfl) ((Ev.pure _).eq (by show (sg y == 0) = false; rw [d]; rfl))) ?_
  refine Ev.bind (a := false) (Ev.else rfl ((Ev.pure _).eq (by show (sg x == sg y) = false; rw [b, d]; rfl))) ?_
  exact Ev.else rfl (hless (.inl ⟨a, c⟩))
 ·refine Ev.bind (a := true) (Ev.else (by show (sg x == 0) = false; rw [b]; rfl) ((Ev.pure _).eq (by show (sg y == 0) = true; rw [d]; rfl))) ?_
  refine Ev.bind (a := true) (Ev.then rfl (Ev.pure _)) ?_
  exact Ev.then rfl (hplus _ (fun _ => by show ior .i64 (sg x) (sg y) = _; rw [b, d, a4v (by omega)]; decide) (by omega))
 ·refine Ev.bind (a := false) (Ev.else (by show (sg x == 0) = false; rw [b]; rfl) ((Ev.pure _).eq (by show (sg y == 0) = false; rw [d]; rfl))) ?_
  refine Ev.bind (a := true) (Ev.else rfl ((Ev.pure _).eq (by show (sg x == sg y) = true; rw [b, d]; rfl))) ?_
  exact Ev.then rfl (hplus _ (fun _ => by show ior .i64 (sg x) (sg y) = _; rw [b, d, a4v (by omega)]; decide) (by omega))
theorem d3l {x y : Int} {k : Nat} (hx : Sm k x) (hy : Sm k y) (hk : k < 536870912) : Ev (fun n => b5r n (toB x) (toB y)) (toB (x - y), 0) := by
 unfold b5r
 refine Ev.bind (a5i hy (by omega)) ?_
 refine Ev.else rfl ?_
 refine Ev.bind (Ev.bind (c6q hy (by omega)) (Ev.bind (c9j hx hy.neg hk) (Ev.pure _))) ((Ev.pure _).eq ?_)
 rw [Int.sub_eq_add_neg]
theorem d0a {x y : Int} {k : Nat} (hx : Sm k x) (hy : Sm k y) (hk : k < 8388608) (hy0 : y ≠ 0) : Ev (fun n => b1i n (toB x) (toB y)) (toB (dq x y), toB (dr x y), 0) := by
 have lx := a2s hx
 have ly := a2s hy
 have hyn : y.natAbs ≠ 0 := by omega
 have hmod := Nat.mod_lt x.natAbs (show y.natAbs > 0 by omega)
 have hdivle : x.natAbs / y.natAbs ≤ x.natAbs := Nat.div_le_self _ _
 have lq := a5r hdivle
 have lr := a5r (Nat.le_of_lt hmod)
 have lq1 : (dig (x.natAbs / y.natAbs + 1)).length ≤ k + 1 := by
  have h : Sm (k + 1) ((x.natAbs / y.natAbs + 1 : Nat) : Int) := by
   generalize x.natAbs / y.natAbs = q at *
   unfold Sm at *
   rw [Int.natAbs_natCast]
   simp only [pw]; have := pw_pos k; omega
  have := a2s h
  rwa [Int.natAbs_natCast] at this
 have ls := a5r (show y.natAbs - x.natAbs % y.natAbs ≤ y.natAbs by omega)
 unfold b1i
 refine Ev.bind (a5i hx (by omega)) ?_
 refine Ev.bind (a := false) (Ev.else rfl (Ev.bind (a5i hy (by omega)) (Ev.pure _))) ?_
 refine Ev.else rfl ?_
 refine Ev.else (by show (sg y == 0) = false; rcases a2h y with h | h | h <;> first | (rw [h.2]; rfl) | omega) ?_
 refine Ev.bind (c6w x.natAbs y.natAbs hyn (by omega) (by omega)) ?_
 refine Ev.step (a := !odd x y) (by
  show (bif decide (0 ≤ imul .i64 (sg x) (sg y)) then some true else some (((dig (x.natAbs % y.natAbs)).length : Int) == 0)) = _
  rw [b4w]
  unfold odd
  have e1 : decide (0 ≤ sg (x * y)) = !decide (x * y < 0) := by
   rcases a2h (x * y) with ⟨h1, h2⟩ | ⟨h1, h2⟩ | ⟨h1, h2⟩ <;> rw [h2] <;> simp <;> omega
  have e2 : (((dig (x.natAbs % y.natAbs)).length : Int) == 0) = !decide (x.natAbs % y.natAbs ≠ 0) := by
   by_cases h : x.natAbs % y.natAbs = 0
   ·rw [h, dig_zero]; rfl
   ·have := b6c h
    have h3 : 0 < (dig (x.natAbs % y.natAbs)).length := List.length_pos_iff.2 this
    rw [beq_false_of_ne (by omega), decide_eq_true h]; rfl
  rw [e1, e2]
  cases decide (x * y < 0) <;> rfl) ?_
 by_cases ho : odd x y = true
 ·refine Ev.else (by rw [ho]; rfl) ?_
  refine Ev.bind (a := dig (x.natAbs / y.natAbs + 1)) (by
   have := c6t (x.natAbs / y.natAbs) 1 (by omega) (by rw [dig_one]; simp)
   rwa [dig_one] at this) ?_
  refine Ev.bind (b0i (by omega) (dq x y) (c7j ho).1 (fun _ => (c7j ho).2.symm)) ?_
  refine Ev.bind (c0v y.natAbs (x.natAbs % y.natAbs) (by omega) (by omega)) ?_
  exact Ev.bind (b0i (by omega) (dr x y) (c7i hy0 ho).1 (fun _ => (c7i hy0 ho).2.symm)) (Ev.pure _)
 ·refine Ev.then (by simpa using ho) ?_
  refine Ev.bind (b0i (by omega) (dq x y) (c2y hy0 ho).1 (fun h => by show imul .i64 (sg x) (sg y) = _; rw [b4w]; exact (c2y hy0 ho).2 h)) ?_
  exact Ev.bind (b0i (by omega) (dr x y) (c4b ho).1 (c4b ho).2) (Ev.pure _)
end Go.Proofs.YtknpjecpcmajiaaGreat.D

namespace Go.Proofs.YtknpjecpcmajiaaGreat.D
open Go Rt M
theorem c9h (n : Nat) (a b : Big) (kont : Option Bool) (hl : a.Digits.length = b.Digits.length) (hla : a.Digits.length < 1099511627776) : ∀ (us : List Int) (i m : Nat), a.Digits.drop i = us → us.length < m → a7c n a b kont m (i : Int) = bif decide (us = b.Digits.drop i) then kont else some false
 | [], i, m + 1, hd, _ => by
  rw [b1y]
  have := drop_nil hd
  have hb : b.Digits.drop i = [] := List.drop_eq_nil_of_le (by omega)
  rw [show decide ((i : Int) < (a.Digits.length : Int)) = false by simp; omega, hb]; rfl
 | x :: xs, i, m + 1, hd, hm => by
  rw [b1y]
  obtain ⟨f1, f2, f3⟩ := drop_cons hd
  have hdb : b.Digits.drop i = b.Digits[i] :: b.Digits.drop (i + 1) := List.drop_eq_getElem_cons (by omega)
  rw [show decide ((i : Int) < (a.Digits.length : Int)) = true by simp; omega, cond_true, f1, Option.bind_some, (drop_cons hdb).1, Option.bind_some, hdb]
  by_cases h : x = b.Digits[i]
  ·rw [show (x != b.Digits[i]) = false by simp [h], cond_false, inc64 (by omega), c9h n a b kont hl hla xs (i + 1) m f2 (by simpa using hm), d2g, show decide (x = b.Digits[i]) = true by simpa using h, Bool.true_and]
  ·rw [show (x != b.Digits[i]) = true by simpa using h, cond_true, d2g, show decide (x = b.Digits[i]) = false by simpa using h]; rfl
 | _, _, 0, _, h => by omega
theorem d1t {a b : Big} (hl : a.Digits.length < 1099511627776) : Ev (fun n => b1x n a b) (decide (a = b)) := by
 unfold b1x
 obtain ⟨s, l⟩ := a
 obtain ⟨t, k⟩ := b
 by_cases h : s = t
 ·subst h
  by_cases hlen : l.length = k.length
  ·refine Ev.step (a := false) (by simp [hlen]) ?_
   refine Ev.else rfl ⟨l.length + 1, fun n hn => ?_⟩
   have h1 := c9h n ⟨s, l⟩ ⟨s, k⟩ (some true) hlen hl l 0 n rfl (by omega)
   rw [show ((0 : Nat) : Int) = 0 from rfl, List.drop_zero] at h1
   dsimp only at h1 ⊢
   rw [h1]
   by_cases h2 : l = k
   ·simp [h2]
   ·simp [h2]
  ·refine Ev.step (a := true) (by simp; omega) ?_
   have : l ≠ k := fun e => hlen (by rw [e])
   exact Ev.then rfl ((Ev.pure _).eq (by simp [this]))
 ·refine Ev.step (a := true) (by rw [show (s != t) = true by simpa using h, cond_true]) ?_
  exact Ev.then rfl ((Ev.pure _).eq (by simp [h]))
theorem c9a {x y : Int} {k : Nat} (h : Sm k x) (hk : k < 1099511627776) : Ev (fun n => b1x n (toB x) (toB y)) (decide (x = y)) := by
 have h1 := d1t (a := toB x) (b := toB y) (by have := a2s h; simp only [toB]; omega)
 refine h1.eq ?_
 by_cases hxy : x = y
 ·simp [hxy]
 ·have : toB x ≠ toB y := fun e => hxy (c5z e)
  simp [hxy, this]
end Go.Proofs.YtknpjecpcmajiaaGreat.D

namespace Go.Proofs.YtknpjecpcmajiaaGreat.D
open Go Rt M
theorem d5y (v : Nat) : ∀ (u : Nat), (dig u).length < 16777216 → (dig v).length < 16777216 → ∃ N, ∀ n, N ≤ n → ∀ (kont : List Int → Option (Big × Int)) m, v < m → a6m n kont m (dig u) (dig v) = kont (dig (Nat.gcd u v)) := by
 induction v using Nat.strongRecOn with
 | ind v ih =>
  intro u hu hv
  by_cases h : v = 0
  ·subst h
   refine ⟨0, fun n _ kont m hm => ?_⟩
   obtain ⟨m, rfl⟩ : ∃ m', m = m' + 1 := ⟨m - 1, by omega⟩
   rw [dig_zero, Nat.gcd_zero_right]; rfl
  ·have hlt := Nat.mod_lt u (show v > 0 by omega)
   obtain ⟨N1, h1⟩ := c6w u v h (by omega) (by omega)
   obtain ⟨N2, h2⟩ := ih (u % v) hlt v hv (by have := a5r (Nat.le_of_lt hlt); omega)
   refine ⟨max N1 N2, fun n hn kont m hm => ?_⟩
   obtain ⟨m, rfl⟩ : ∃ m', m = m' + 1 := ⟨m - 1, by omega⟩
   have h3 : 0 < (dig v).length := List.length_pos_iff.2 (b6c h)
   unfold a6m
   rw [show decide (0 < ((dig v).length : Int)) = true by simp; omega, cond_true, (show a8p n (dig u) (dig v) = _ from h1 n (by omega)), Option.bind_some]
   show a6m n kont m (dig v) (dig (u % v)) = _
   rw [h2 n (by omega) kont m (by omega), Nat.gcd_comm v, ← Nat.gcd_rec, Nat.gcd_comm]
theorem c9g {x y : Int} {k : Nat} (hx : Sm k x) (hy : Sm k y) (hk : k < 8388608) : Ev (fun n => b2e n (toB x) (toB y)) (toB (Nat.gcd x.natAbs y.natAbs : Nat), 0) := by
 have lx := a2s hx
 have ly := a2s hy
 unfold b2e
 refine Ev.bind (a5i hx (by omega)) ?_
 refine Ev.bind (a := false) (Ev.else rfl (Ev.bind (a5i hy (by omega)) (Ev.pure _))) ?_
 refine Ev.else rfl ?_
 obtain ⟨N, hN⟩ := d5y y.natAbs x.natAbs (by omega) (by omega)
 have lg : (dig (Nat.gcd x.natAbs y.natAbs)).length ≤ k := by
  rcases Nat.eq_zero_or_pos x.natAbs with h | h
  ·rw [h, Nat.gcd_zero_left]; exact ly
  ·exact Nat.le_trans (a5r (Nat.gcd_le_left _ h)) lx
 refine Ev.from (g := fun n => (a2w n 1 (dig (Nat.gcd x.natAbs y.natAbs))).bind fun v3 => some ((⟨v3.Sign, v3.Digits⟩ : Big), (0 : Int))) (max N (y.natAbs + 1)) (fun n hn => hN n (by omega) _ n (by omega)) ?_
 exact Ev.bind (b0i (by omega) ((Nat.gcd x.natAbs y.natAbs : Nat) : Int) (Int.natAbs_natCast _) (fun h => (a4v (by omega)).symm)) (Ev.pure _)
theorem c1d {x y : Int} {k : Nat} (hx : Sm k x) (hy : Sm k y) (hk : k < 536870912) : Ev (fun n => a8g n (toB x) (toB y)) (sg (x - y)) := by
 have lx := a2s hx
 have ly := a2s hy
 unfold a8g
 refine Ev.bind (a5i hx (by omega)) ?_
 refine Ev.bind (a := false) (Ev.else rfl (Ev.bind (a5i hy (by omega)) (Ev.pure _))) ?_
 refine Ev.bind (Ev.else rfl (Ev.bind (c9a (y := y) hx (by omega)) (Ev.pure _))) ?_
 by_cases hxy : x = y
 ·exact Ev.then (by simpa using hxy) ((Ev.pure _).eq (by rw [hxy, Int.sub_self]; rfl))
 refine Ev.else (by simpa using hxy) ?_
 show Ev (fun n => bif sg x != sg y then (bif decide (sg x < sg y) then some (-1) else some 1) else (a6g n (dig x.natAbs) (dig y.natAbs)).bind fun v4 => bif v4 == decide (0 < sg x) then some (-1) else some 1) (sg (x - y))
 have hless := c6x x.natAbs y.natAbs (by omega) (by omega)
 rcases a2h x with ⟨a, b⟩ | ⟨a, b⟩ | ⟨a, b⟩ <;> rcases a2h y with ⟨c, d⟩ | ⟨c, d⟩ | ⟨c, d⟩ <;> rw [b, d]
 ·refine Ev.else rfl (Ev.bind hless ?_)
  by_cases h : x.natAbs < y.natAbs
  ·rw [decide_eq_true h, a4v (by omega)]; exact Ev.pure _
  ·rw [decide_eq_false h, a5b (by omega)]; exact Ev.pure _
 ·rw [a5b (by omega)]; exact Ev.pure _
 ·rw [a5b (by omega)]; exact Ev.pure _
 ·rw [a4v (by omega)]; exact Ev.pure _
 ·omega
 ·rw [a5b (by omega)]; exact Ev.pure _
 ·rw [a4v (by omega)]; exact Ev.pure _
 ·rw [a4v (by omega)]; exact Ev.pure _
 ·refine Ev.else rfl (Ev.bind hless ?_)
  by_cases h : x.natAbs < y.natAbs
  ·rw [decide_eq_true h, a5b (by omega)]; exact Ev.pure _
  ·rw [decide_eq_false h, a4v (by omega)]; exact Ev.pure _
end Go.Proofs.YtknpjecpcmajiaaGreat.D

namespace Go.Proofs.YtknpjecpcmajiaaGreat.D
open Go Rt M
theorem d7t {s : Int} (hs : s = 1 ∨ s = -1) (u : Nat) : rem (s * u) 1048576 = some (s * ((u % 1048576 : Nat) : Int)) := by
 have h := b9t (x := (u : Int)) (y := 1048576) (by omega) (by decide)
 rcases hs with rfl | rfl
 ·rw [Int.one_mul, Int.one_mul, h]; congr 1
 ·unfold rem at h ⊢
  rw [if_neg (by decide)] at h ⊢
  have h2 := Option.some.inj h
  rw [show (-1 : Int) * (u : Int) = -(u : Int) by omega, Int.neg_tmod, h2]
  congr 1; omega
theorem d7b {s : Int} (hs : s = 1 ∨ s = -1) {u : Nat} (hu : u ≤ 9223372036854775808) : quo .i64 (s * u) 1048576 = some (s * ((u / 1048576 : Nat) : Int)) := by
 have h : (u : Int).tdiv 1048576 = ((u / 1048576 : Nat) : Int) := by rw [Int.tdiv_eq_ediv_of_nonneg (by omega)]; omega
 unfold quo
 rw [if_neg (by decide)]
 rcases hs with rfl | rfl
 ·rw [Int.one_mul, Int.one_mul, h, a6n (by omega) (by omega)]
 ·rw [show (-1 : Int) * (u : Int) = -(u : Int) by omega, Int.neg_tdiv, h, a6n (by omega) (by omega)]
  congr 1; omega
theorem d6k (n : Nat) (kont : List Int → Option Big) {s : Int} (hs : s = 1 ∨ s = -1) : ∀ (u m : Nat) (acc : List Int), u ≤ 9223372036854775808 → (dig u).length < m → acc.length + (dig u).length < 1099511627776 → a7u n kont m (s * (u : Int)) acc = kont (acc ++ dig u) := by
 intro u
 induction u using Nat.strongRecOn with
 | ind u ih =>
  intro m acc hu hm ha
  obtain ⟨m, rfl⟩ : ∃ m', m = m' + 1 := ⟨m - 1, by omega⟩
  unfold a7u
  by_cases h : u = 0
  ·subst h
   rw [dig_zero, List.append_nil, show (s * ((0 : Nat) : Int) != 0) = false by simp]; rfl
  ·have hd := b3q h
   rw [hd] at hm ha
   simp only [List.length_cons] at hm ha
   have hne : (s * (u : Int) != 0) = true := by
    rw [bne_iff_ne]; rcases hs with rfl | rfl <;> omega
   rw [hne, cond_true, d7t hs, Option.bind_some]
   have e1 : (bif decide (s * ((u % 1048576 : Nat) : Int) < 0) then some (IntKind.i64.wrap (0 - s * ((u % 1048576 : Nat) : Int))) else some (s * ((u % 1048576 : Nat) : Int))) = some ((u % 1048576 : Nat) : Int) := by
    have hlt := Nat.mod_lt u (show 1048576 > 0 by decide)
    generalize u % 1048576 = r at *
    by_cases hn : s * (r : Int) < 0
    ·rw [decide_eq_true hn, cond_true]
     congr 1
     rcases hs with rfl | rfl
     ·omega
     ·rw [a6n (by omega) (by omega)]; omega
    ·rw [decide_eq_false hn, cond_false]
     congr 1
     rcases hs with rfl | rfl <;> omega
   rw [e1, Option.bind_some, b6z (by simp; omega), Option.bind_some, d7b hs hu, Option.bind_some, ih (u / 1048576) (by omega) m _ (by omega) (by omega) (by simp; omega), hd]
   simp
theorem d1b {x : Int} (h1 : -9223372036854775808 ≤ x) (h2 : x ≤ 9223372036854775807) : Ev (fun n => b2v n x) (toB x) := by
 have hl := c8h (u := x.natAbs) (by omega)
 by_cases h0 : x = 0
 ·subst h0
  exact (Ev.pure _).eq toB_zero.symm
 have hm : ∀ s : Int, s = sg x → Ev (fun n => (a2w n s (dig x.natAbs)).bind fun v1 => some (⟨v1.Sign, v1.Digits⟩ : Big)) (toB x) := fun s hs => Ev.bind (b0i (by omega) x rfl (fun _ => hs)) (Ev.pure _)
 refine Ev.from (g := fun n => (a2w n (sg x) (dig x.natAbs)).bind fun v1 => some (⟨v1.Sign, v1.Digits⟩ : Big)) 5 (fun n hn => ?_) (hm _ rfl)
 show b2v n x = _
 unfold b2v
 rw [show (x == 0) = false from beq_false_of_ne h0, cond_false]
 by_cases hx : x < 0
 ·rw [decide_eq_true hx, cond_true, Option.bind_some, a5b hx]
  have h3 := d6k n (fun (l2 : List Int) => (a2w n (-1) l2).bind fun v1 => some (⟨v1.Sign, v1.Digits⟩ : Big)) (s := -1) (.inr rfl) x.natAbs n [] (by omega) (by omega) (by simp; omega)
  rw [show (-1 : Int) * (x.natAbs : Int) = x by omega, List.nil_append] at h3
  exact h3
 ·rw [decide_eq_false hx, cond_false, Option.bind_some, a4v (by omega)]
  have h3 := d6k n (fun (l2 : List Int) => (a2w n 1 l2).bind fun v1 => some (⟨v1.Sign, v1.Digits⟩ : Big)) (s := 1) (.inl rfl) x.natAbs n [] (by omega) (by omega) (by simp; omega)
  rw [show (1 : Int) * (x.natAbs : Int) = x by omega, List.nil_append] at h3
  exact h3
end Go.Proofs.YtknpjecpcmajiaaGreat.D

namespace Go.Proofs.YtknpjecpcmajiaaGreat.D
open Go Rt M
theorem c7v {f : Big} {k : Nat} (h : f.Digits.length ≤ k) (hk : k < 8388608) : Ev (fun n => a2y n f) (a9z f) := c5f (by omega)
theorem c5g {f : Frac} {k : Nat} (hp : f.P.Digits.length ≤ k) (hq : f.Q.Digits.length ≤ k) (hk : k < 8388608) : Ev (fun n => a2z n f) (a9n f) := by
 unfold a2z
 refine Ev.bind (c7v (f := f.P) hp hk) ?_
 cases hP : a9z f.P with
 | false => exact Ev.bind (a := true) (Ev.then rfl (Ev.pure _)) (Ev.bind (a := true) (Ev.then rfl (Ev.pure _)) (Ev.then rfl ((Ev.pure _).eq (by unfold a9n; rw [hP]; rfl))))
 | true =>
  refine Ev.bind (a := !a9z f.Q) (Ev.else rfl (Ev.bind (c7v (f := f.Q) hq hk) (Ev.pure _))) ?_
  cases hQ : a9z f.Q with
  | false => exact Ev.bind (a := true) (Ev.then rfl (Ev.pure _)) (Ev.then rfl ((Ev.pure _).eq (by unfold a9n; rw [hP, hQ]; rfl)))
  | true =>
   obtain ⟨P, Q⟩ := f
   obtain ⟨p, rfl⟩ := a9v hP
   obtain ⟨q, rfl⟩ := a9v hQ
   have hp' : Sm k p := a9b hp
   have hq' : Sm k q := a9b hq
   refine Ev.bind (a := decide (sg q < 1)) (Ev.else rfl (Ev.pure _)) ?_
   by_cases hs : 0 < q
   ·refine Ev.else (by rw [a4v hs]; rfl) ?_
    have hg := c3g hp' hq'
    refine Ev.bind (c9g hp' hq' hk) ?_
    refine Ev.bind (d1b (x := 1) (by decide) (by decide)) ?_
    refine Ev.bind (c1d (k := k + 1) (hg.mono (by omega)) (sm01 (by decide) (by decide) (by omega)) (by omega)) ((Ev.pure _).eq ?_)
    unfold a9n
    have hs1 : (toB q).Sign = 1 := a4v hs
    rw [hP, hQ, b5n, b5n, hs1]
    have e : (sg ((Nat.gcd p.natAbs q.natAbs : Nat) - 1 : Int) == 0) = decide (((Nat.gcd p.natAbs q.natAbs : Nat) : Int) - 1 = 0) := b2c _
    rw [e]
    by_cases hg : Nat.gcd p.natAbs q.natAbs = 1
    ·rw [hg]; rfl
    ·rw [decide_eq_false (by omega)]; simp [hg]
   ·refine Ev.then (by
     have := a2h q
     exact decide_eq_true (by omega)) ((Ev.pure _).eq ?_)
    unfold a9n
    have hs1 : ((toB q).Sign == 1) = false := by
     have h1 : (toB q).Sign = sg q := rfl
     have := a2h q
     rw [h1, beq_eq_false_iff_ne]; omega
    rw [hP, hQ, hs1]; rfl
theorem a4y {r : Rat} {k : Nat} (h : SmF k r) (hk : k < 8388608) : Ev (fun n => a2z n (toF r)) true := (c5g (b6n h).1 (b6n h).2 hk).eq (b7z r)
section
variable {p q : Int} {k : Nat} (hp : Sm k p) (hq : Sm k q) (hk : k < 8388608)
include hp hq hk
theorem c5i (h0 : 0 < q) : Ev (fun n =>
   (b2e n (⟨(toB p).Sign, (toB p).Digits⟩ : Big) (⟨(toB q).Sign, (toB q).Digits⟩ : Big)).bind fun v3 =>
   (b1i n (⟨(toB p).Sign, (toB p).Digits⟩ : Big) (⟨v3.1.Sign, v3.1.Digits⟩ : Big)).bind fun v4 =>
   (b1i n (⟨(toB q).Sign, (toB q).Digits⟩ : Big) (⟨v3.1.Sign, v3.1.Digits⟩ : Big)).bind fun v5 =>
   some ((⟨(⟨v4.1.Sign, v4.1.Digits⟩ : Big), (⟨v5.1.Sign, v5.1.Digits⟩ : Big)⟩ : Frac), (0 : Int))) (toF (Rat.divInt p q), 0) := by
  have hg : 0 < Nat.gcd p.natAbs q.natAbs := Nat.gcd_pos_of_pos_right _ (by omega)
  have hgs := c3g hp hq
  obtain ⟨e1, e2⟩ := b3l (p := p) h0
  refine Ev.bind (c9g hp hq hk) ?_
  refine Ev.bind (d0a hp hgs hk (by omega)) ?_
  refine Ev.bind (d0a hq hgs hk (by omega)) ((Ev.pure _).eq ?_)
  unfold toF
  rw [e1, e2, ← c7d (by omega), ← c7d (by omega)]
theorem b9z (h0 : q ≠ 0) : Ev (fun n => b0j n (toB p) (toB q)) (toF (Rat.divInt p q), 0) := by
 unfold b0j
 refine Ev.bind (a5i hp (by omega)) ?_
 refine Ev.bind (a := false) (Ev.else rfl (Ev.bind (a5i hq (by omega)) (Ev.pure _))) ?_
 refine Ev.else rfl ?_
 refine Ev.else (by show (sg q == 0) = false; rw [b2c]; simpa using h0) ?_
 by_cases hn : q < 0
 ·refine Ev.bind (Ev.then (by show decide (sg q < 0) = true; rw [a5b hn]; rfl) (Ev.bind (c6q hp (by omega)) (Ev.bind (c6q hq (by omega)) (Ev.pure _)))) ?_
  rw [b6o]
  exact c5i hp.neg hq.neg hk (by omega)
 ·refine Ev.bind (Ev.else (by show decide (sg q < 0) = false; rw [a4v (by omega)]; rfl) (Ev.pure _)) ?_
  exact c5i hp hq hk (by omega)
end
section
variable {a b : Rat} {j k : Nat} (ha : SmF j a) (hb : SmF k b) (hk : j + k < 4000000)
include ha hb hk
theorem rmul_PQ : Ev (fun n => a4m n (⟨(toF a).P.Sign, (toF a).P.Digits⟩ : Big) (⟨(toF b).Q.Sign, (toF b).Q.Digits⟩ : Big)) (toB (a.num * b.den), 0) :=
 c3v (ha.1.mono (by omega : j ≤ j + k)) (hb.2.mono (by omega : k ≤ j + k)) (by omega)
theorem rmul_QP : Ev (fun n => a4m n (⟨(toF a).Q.Sign, (toF a).Q.Digits⟩ : Big) (⟨(toF b).P.Sign, (toF b).P.Digits⟩ : Big)) (toB (a.den * b.num), 0) :=
 c3v (ha.2.mono (by omega : j ≤ j + k)) (hb.1.mono (by omega : k ≤ j + k)) (by omega)
theorem rmul_PP : Ev (fun n => a4m n (⟨(toF a).P.Sign, (toF a).P.Digits⟩ : Big) (⟨(toF b).P.Sign, (toF b).P.Digits⟩ : Big)) (toB (a.num * b.num), 0) :=
 c3v (ha.1.mono (by omega : j ≤ j + k)) (hb.1.mono (by omega : k ≤ j + k)) (by omega)
theorem rmul_QQ : Ev (fun n => a4m n (⟨(toF a).Q.Sign, (toF a).Q.Digits⟩ : Big) (⟨(toF b).Q.Sign, (toF b).Q.Digits⟩ : Big)) (toB ((a.den : Int) * b.den), 0) :=
 c3v (ha.2.mono (by omega : j ≤ j + k)) (hb.2.mono (by omega : k ≤ j + k)) (by omega)
theorem QAdd_ev : Ev (fun n => b5m n (toF a) (toF b)) (toF (a + b), 0) := by
 have m1 : Sm (j + k + 1) (a.num * b.den) := (ha.1.mul hb.2).mono (by omega)
 have m2 : Sm (j + k + 1) (b.num * a.den) := (hb.1.mul ha.2).mono (by omega)
 have m3 : Sm (j + k + 1) ((a.den : Int) * b.den) := (ha.2.mul hb.2).mono (by omega)
 have m4 : Sm (j + k + 1) (a.num * b.den + b.num * a.den) := (ha.1.mul hb.2).add ((hb.1.mul ha.2).mono (by omega))
 unfold b5m
 refine Ev.bind (a4y ha (by omega)) ?_
 refine Ev.bind (a := false) (Ev.else rfl (Ev.bind (a4y hb (by omega)) (Ev.pure _))) ?_
 refine Ev.else rfl ?_
 refine Ev.bind (rmul_PQ ha hb hk) (Ev.bind (rmul_PQ hb ha (by omega)) (Ev.bind (rmul_QQ ha hb hk) ?_))
 refine Ev.bind (c9j m1 m2 (by omega)) ?_
 refine Ev.bind (b9z m4 m3 (by omega) (b6d (b1j a) (b1j b))) ((Ev.pure _).eq ?_)
 rw [c3u]
theorem QSub_ev : Ev (fun n => b4n n (toF a) (toF b)) (toF (a - b), 0) := by
 have m1 : Sm (j + k + 1) (a.num * b.den) := (ha.1.mul hb.2).mono (by omega)
 have m2 : Sm (j + k + 1) (b.num * a.den) := (hb.1.mul ha.2).mono (by omega)
 have m3 : Sm (j + k + 1) ((a.den : Int) * b.den) := (ha.2.mul hb.2).mono (by omega)
 have m4 : Sm (j + k + 1) (a.num * b.den - b.num * a.den) := (ha.1.mul hb.2).sub ((hb.1.mul ha.2).mono (by omega))
 unfold b4n
 refine Ev.bind (a4y ha (by omega)) ?_
 refine Ev.bind (a := false) (Ev.else rfl (Ev.bind (a4y hb (by omega)) (Ev.pure _))) ?_
 refine Ev.else rfl ?_
 refine Ev.bind (rmul_PQ ha hb hk) (Ev.bind (rmul_PQ hb ha (by omega)) (Ev.bind (rmul_QQ ha hb hk) ?_))
 refine Ev.bind (d3l m1 m2 (by omega)) ?_
 refine Ev.bind (b9z m4 m3 (by omega) (b6d (b1j a) (b1j b))) ((Ev.pure _).eq ?_)
 have e : a - b = Rat.divInt (a.num * b.den - b.num * a.den) (a.den * b.den) := by
  rw [Rat.sub_eq_add_neg, c3u, Rat.neg_num, Rat.neg_den, Int.neg_mul, ← Int.sub_eq_add_neg]
 rw [e]
theorem QMul_ev : Ev (fun n => b4z n (toF a) (toF b)) (toF (a * b), 0) := by
 unfold b4z
 refine Ev.bind (a4y ha (by omega)) ?_
 refine Ev.bind (a := false) (Ev.else rfl (Ev.bind (a4y hb (by omega)) (Ev.pure _))) ?_
 refine Ev.else rfl ?_
 refine Ev.bind (rmul_PP ha hb hk) (Ev.bind (rmul_QQ ha hb hk) ?_)
 refine Ev.bind (b9z (ha.1.mul hb.1) (ha.2.mul hb.2) (by omega) (b6d (b1j a) (b1j b))) ((Ev.pure _).eq ?_)
 rw [c6o]
theorem d3s (h0 : b.num ≠ 0) : Ev (fun n => b5p n (toF a) (toF b)) (toF (a / b), 0) := by
 unfold b5p
 refine Ev.bind (a4y ha (by omega)) ?_
 refine Ev.bind (a := false) (Ev.else rfl (Ev.bind (a4y hb (by omega)) (Ev.pure _))) ?_
 refine Ev.else rfl ?_
 refine Ev.else (by show (sg b.num == 0) = false; rw [b2c]; simpa using h0) ?_
 refine Ev.bind (rmul_PQ ha hb hk) (Ev.bind (rmul_QP ha hb hk) ?_)
 refine Ev.bind (b9z (ha.1.mul hb.2) (ha.2.mul hb.1) (by omega) (b6d (b1j a) h0)) ((Ev.pure _).eq ?_)
 rw [c6e]
theorem QCompare_ev : Ev (fun n => a5t n (toF a) (toF b)) (cmpQ a b) := by
 unfold a5t
 refine Ev.bind (a4y ha (by omega)) ?_
 refine Ev.bind (a := false) (Ev.else rfl (Ev.bind (a4y hb (by omega)) (Ev.pure _))) ?_
 refine Ev.else rfl ?_
 refine Ev.bind (rmul_PQ ha hb hk) (Ev.bind (rmul_PQ hb ha (by omega)) ?_)
 exact Ev.bind (c1d (ha.1.mul hb.2) ((hb.1.mul ha.2).mono (by omega)) (by omega)) (Ev.pure _)
theorem QMin_ev : Ev (fun n => b4u n (toF a) (toF b)) (toF (if b < a then b else a), 0) := by
 unfold b4u
 refine Ev.bind (a4y ha (by omega)) ?_
 refine Ev.bind (a := false) (Ev.else rfl (Ev.bind (a4y hb (by omega)) (Ev.pure _))) ?_
 refine Ev.else rfl ?_
 refine Ev.bind (QCompare_ev ha hb hk) ?_
 rcases a7l a b with ⟨h, e⟩ | ⟨h, e⟩ | ⟨h, e⟩
 ·rw [e, if_neg (by grind)]; exact Ev.then rfl (Ev.pure _)
 ·rw [e, if_neg (by grind)]; exact Ev.then rfl (Ev.pure _)
 ·rw [e, if_pos h]; exact Ev.else rfl (Ev.pure _)
theorem QMax_ev : Ev (fun n => b5f n (toF a) (toF b)) (toF (if a < b then b else a), 0) := by
 unfold b5f
 refine Ev.bind (a4y ha (by omega)) ?_
 refine Ev.bind (a := false) (Ev.else rfl (Ev.bind (a4y hb (by omega)) (Ev.pure _))) ?_
 refine Ev.else rfl ?_
 refine Ev.bind (QCompare_ev ha hb hk) ?_
 rcases a7l a b with ⟨h, e⟩ | ⟨h, e⟩ | ⟨h, e⟩
 ·rw [e, if_pos h]; exact Ev.else rfl (Ev.pure _)
 ·rw [e, if_neg (by grind)]; exact Ev.then rfl (Ev.pure _)
 ·rw [e, if_neg (by grind)]; exact Ev.then rfl (Ev.pure _)
end
section
variable {a : Rat} {k : Nat} (ha : SmF k a) (hk : k < 1000000)
include ha hk
theorem QSign_ev : Ev (fun n => a8j n (toF a)) (sg a.num) := by
 unfold a8j
 exact Ev.bind (a4y ha (by omega)) (Ev.else rfl (Ev.pure _))
end
theorem d6a {x y : Int} (h1 : -9223372036854775808 ≤ x) (h2 : x ≤ 9223372036854775807) (h3 : -9223372036854775808 ≤ y) (h4 : y ≤ 9223372036854775807) (h0 : y ≠ 0) : Ev (fun n => b4c n x y) (toF (Rat.divInt x y), 0) := by
 have s1 : Sm 4 x := a9b (c8h (by omega))
 have s2 : Sm 4 y := a9b (c8h (by omega))
 unfold b4c
 exact Ev.bind (d1b h1 h2) (Ev.bind (d1b h3 h4) (Ev.bind (b9z s1 s2 (by decide) h0) (Ev.pure _)))
theorem c5r {x : Int} (h1 : -9223372036854775808 ≤ x) (h2 : x ≤ 9223372036854775807) : Ev (fun n => a6t n x) (toF (x : Rat)) := by
 unfold a6t
 refine Ev.bind (d6a h1 h2 (y := 1) (by decide) (by decide) (by decide)) ((Ev.pure _).eq ?_)
 rw [c8p]
end Go.Proofs.YtknpjecpcmajiaaGreat.D

namespace Go.Proofs.YtknpjecpcmajiaaGreat.Ta
open Go Rt M
theorem orT (c d : Bool) : (bif c then some true else some d) = some (c || d) := by cases c <;> rfl
theorem andT (c d : Bool) : (bif c then some d else some false) = some (c && d) := by cases c <;> rfl
theorem d1d (n : Nat) {o : Int} (h1 : 0 ≤ o) (h2 : o ≤ 16) : a8e n o = some (b6u o) := by
 unfold a8e b6u
 rw [decide_eq_false (show ¬ o < 0 by omega), cond_false, Option.bind_some, decide_eq_false (show ¬ 17 ≤ o by omega), cond_false]
 by_cases h3 : o ≤ 4
 ·rw [decide_eq_true h3, if_pos h3]; rfl
 ·rw [decide_eq_false h3, if_neg h3, cond_false]
  by_cases h4 : o = 14
  ·subst h4; rfl
  ·rw [show (o == 14) = false by simpa using h4, if_neg h4, cond_false]
   by_cases h5 : o = 11
   ·subst h5; rfl
   ·rw [show (o == 11) = false by simpa using h5, if_neg h5]; rfl
theorem d1e (n : Nat) {o : Int} (h : ¬ (0 ≤ o ∧ o ≤ 16)) : a8e n o = some (-1) := by
 unfold a8e
 rw [orT, Option.bind_some, show (decide (o < 0) || decide (17 ≤ o)) = true by by_cases h1 : o < 0 <;> simp [h1]; omega]; rfl
theorem c7f (x : M.Expr) (hl : x.Args.length ≤ 1000000) : ∀ (us : List M.Expr) (i : Nat), x.Args.drop i = us → (∀ y, y ∈ us → ∃ b, Ev (fun n => tariff_shaped n y) b ∧ Ev (fun n => ref35_shaped n y) b) →
  ∃ N r, ∀ n m, N ≤ n → us.length < m → a1l n x.Args (tariff_shaped_1 n) (some (-1)) m (i : Int) = some r ∧ a4o n (ref35_shaped n) x (some true) m (i : Int) = some (!decide (0 ≤ r))
 | [], i, hd, _ => by
  refine ⟨0, -1, fun n m _ hm => ?_⟩
  obtain ⟨m, rfl⟩ := left hm
  rw [a1m, a6f hd, b0o, a6f hd]
  exact ⟨rfl, rfl⟩
 | y :: us, i, hd, H => by
  obtain ⟨h1, h2, h3⟩ := drop_cons hd
  obtain ⟨b, ⟨N1, e1⟩, ⟨N2, e2⟩⟩ := H y (by simp)
  obtain ⟨N, r, ih⟩ := c7f x hl us (i + 1) h2 (fun z hz => H z (by simp [hz]))
  refine ⟨max N (max (N1 + 1) N2), if b = true then r else (i : Int), fun n m hn hm => ?_⟩
  obtain ⟨m, rfl, hm2⟩ := pred (by simpa using hm)
  obtain ⟨n', rfl⟩ : ∃ k, n = k + 1 := ⟨n - 1, by omega⟩
  have e1 : tariff_shaped n' y = some b := e1 n' (by omega)
  have e2 : ref35_shaped (n' + 1) y = some b := e2 (n' + 1) (by omega)
  have ih := ih (n' + 1) m (by omega) hm2
  rw [a1m, a3e hd, cond_true, h1, Option.bind_some, a8m, e1, Option.bind_some, Option.bind_some, b0o, a3e hd, cond_true, h1, Option.bind_some, e2, Option.bind_some]
  cases b with
  | true => rw [Bool.not_true, cond_false, cond_false, if_pos rfl, inc64 (by omega)]; exact ih
  | false =>
   rw [if_neg (by decide), decide_eq_true (show (0 : Int) ≤ (i : Int) by omega)]
   exact ⟨rfl, rfl⟩
theorem d1v {x : M.Expr} (hx : Fit x) : ∃ b, Ev (fun n => tariff_shaped n x) b ∧ Ev (fun n => ref35_shaped n x) b := by
 induction hx with
 | @mk o k s l hl _ ih =>
  by_cases hr : 0 ≤ o ∧ o ≤ 16
  rotate_left
  ·refine ⟨false, Ev.suc (fun n => a5g n _) ?_, Ev.suc (fun n => b0z n _) ?_⟩
   ·refine Ev.bind (a := true) (Ev.all fun n => ?_) (Ev.bind (a := true) (Ev.then rfl (Ev.pure _)) (Ev.then rfl (Ev.pure _)))
    rw [orT]; dsimp only
    congr 1
    by_cases h1 : o < 0 <;> simp [h1]
    omega
   ·refine Ev.bind (Ev.all fun n => d1e n hr) ?_
    exact Ev.bind (a := true) (Ev.then (by dsimp only; rw [bne_iff_ne]; omega) (Ev.pure _)) (Ev.then rfl (Ev.pure _))
  have d1 : decide (o < 0) = false := decide_eq_false (by omega)
  have d2 : decide (17 ≤ o) = false := decide_eq_false (by omega)
  by_cases ha : (l.length : Int) = b6u o
  rotate_left
  ·have d3 : ((l.length : Int) != b6u o) = true := by simpa using ha
   refine ⟨false, Ev.suc (fun n => a5g n _) ?_, Ev.suc (fun n => b0z n _) ?_⟩
   ·exact Ev.bind (a := false) (Ev.else d1 ((Ev.pure _).eq d2)) (Ev.bind (a := true) (Ev.else rfl (Ev.bind (Ev.all fun n => c7a n _) ((Ev.pure _).eq d3))) (Ev.then rfl (Ev.pure _)))
   ·exact Ev.bind (Ev.all fun n => d1d n hr.1 hr.2) (Ev.bind (a := true) (Ev.then d3 (Ev.pure _)) (Ev.then rfl (Ev.pure _)))
  have d3 : ((l.length : Int) != b6u o) = false := by simpa using ha
  have code : ∀ {b : Bool} {f : Nat → Option Bool}, Ev f b → Ev (fun n => (bif decide (o < 0) then some true else some (decide (17 ≤ o))).bind fun v1 => (bif v1 then some true else (a9f n o).bind fun v11 => some ((l.length : Int) != v11)).bind fun v2 => bif v2 then some false else f n) b := fun h =>
   Ev.bind (a := false) (Ev.else d1 ((Ev.pure _).eq d2)) (Ev.bind (a := false) (Ev.else rfl (Ev.bind (Ev.all fun n => c7a n _) ((Ev.pure _).eq d3))) (Ev.else rfl h))
  obtain ⟨N, r, hL⟩ := c7f ⟨o, k, s, l⟩ hl l 0 rfl ih
  have loopR : Ev (fun n => a4o n (ref35_shaped n) ⟨o, k, s, l⟩ (some true) n 0) (!decide (0 ≤ r)) := ⟨N + l.length + 1, fun n hn => (hL n n (by omega) (by omega)).2⟩
  have loopC : Ev (fun n => a1p n l (tariff_shaped_1 n)) (decide (0 ≤ r)) := by
   unfold a1p a2q
   exact Ev.bind (a := r) ⟨N + l.length + 1, fun n hn => (hL n n (by omega) (by omega)).1⟩ (Ev.pure _)
  have loop0 : b6u o = 0 → (!decide (0 ≤ r)) = true := by
   intro h0
   have hz : l = [] := List.length_eq_zero_iff.1 (by omega)
   subst hz
   have h1 := (hL (N + 1) 1 (by omega) (by simp)).1
   rw [a1m] at h1
   have h2 : (some (-1) : Option Int) = some r := h1
   cases h2; rfl
  have ref : ∀ {vn : Bool}, Lx.name s = vn → Ev (fun n => ref35_shaped n ⟨o, k, s, l⟩) (!((o != 0 && k != 0) || ((((o == 1 || o == 4) && !vn) || (!(o == 1 || o == 4) && !(s == []))) || (o == 0 && (decide (k < 0) || decide (1099511627776 < k))))) && !decide (0 ≤ r)) := by
   intro vn hvn
   refine Ev.suc (fun n => b0z n _) ?_
   refine Ev.bind (Ev.all fun n => d1d n hr.1 hr.2) ?_
   refine Ev.bind (a := (o != 0 && k != 0)) (Ev.else d3 (Ev.all fun n => by rw [andT]; rfl)) ?_
   cases (o != 0 && k != 0) with
   | true => exact Ev.then rfl ((Ev.pure _).eq rfl)
   | false =>
    refine Ev.else rfl ?_
    refine Ev.bind (a := (o == 1 || o == 4)) (Ev.all fun n => orT _ _) ?_
    refine Ev.bind (a := ((o == 1 || o == 4) && !vn)) ?_ ?_
    ·cases (o == 1 || o == 4) with
     | true => exact Ev.then rfl (Ev.bind ((c3e s).eq hvn) (Ev.pure _))
     | false => exact Ev.else rfl (Ev.pure _)
    refine Ev.bind (a := (((o == 1 || o == 4) && !vn) || (!(o == 1 || o == 4) && !(s == [])))) ?_ ?_
    ·cases ((o == 1 || o == 4) && !vn) with
     | true => exact Ev.then rfl (Ev.pure _)
     | false => exact Ev.else rfl (Ev.all fun n => by rw [andT]; rfl)
    refine Ev.bind (a := ((((o == 1 || o == 4) && !vn) || (!(o == 1 || o == 4) && !(s == []))) || (o == 0 && (decide (k < 0) || decide (1099511627776 < k))))) ?_ ?_
    ·cases (((o == 1 || o == 4) && !vn) || (!(o == 1 || o == 4) && !(s == []))) with
     | true => exact Ev.then rfl (Ev.pure _)
     | false =>
      refine Ev.else rfl (Ev.bind (a := (o == 0 && (decide (k < 0) || decide (1099511627776 < k)))) ?_ ((Ev.pure _).eq (by simp)))
      cases o == 0 with
      | true => exact Ev.then rfl (Ev.all fun n => by rw [orT]; rfl)
      | false => exact Ev.else rfl (Ev.pure _)
    cases ((((o == 1 || o == 4) && !vn) || (!(o == 1 || o == 4) && !(s == []))) || (o == 0 && (decide (k < 0) || decide (1099511627776 < k)))) with
    | true => exact Ev.then rfl (Ev.pure _)
    | false => exact Ev.else rfl (loopR.eq (by simp))
  by_cases o0 : o = 0
  ·refine ⟨(decide (0 ≤ k) && decide (k ≤ 1099511627776)) && s == [], Ev.suc (fun n => a5g n _) (code (Ev.then (by simpa using o0) ?_)), (ref rfl).eq ?_⟩
   ·refine Ev.bind (a := (decide (0 ≤ k) && decide (k ≤ 1099511627776))) (Ev.all fun n => andT _ _) ?_
    exact Ev.bind (a := ((decide (0 ≤ k) && decide (k ≤ 1099511627776)) && s == [])) (Ev.all fun n => andT _ _) (Ev.pure _)
   ·rw [loop0 (by rw [o0]; rfl)]
    subst o0
    by_cases k1 : k < 0
    ·rw [decide_eq_true k1, decide_eq_false (show ¬ 0 ≤ k by omega)]; simp
    ·by_cases k2 : 1099511627776 < k
     ·rw [decide_eq_true k2, decide_eq_false (show ¬ k ≤ 1099511627776 by omega)]; simp
     ·rw [decide_eq_false k1, decide_eq_false k2, decide_eq_true (show 0 ≤ k by omega), decide_eq_true (show k ≤ 1099511627776 by omega)]; simp
  have f0 : (o == 0) = false := by simpa using o0
  have g0 : (o != 0) = true := by simpa using o0
  by_cases o1 : (o == 1 || o == 4) = true
  ·refine ⟨k == 0 && Lx.name s, Ev.suc (fun n => a5g n _) (code (Ev.else f0 (Ev.bind (a := true) ((Ev.all fun n => orT _ _).eq o1) (Ev.then rfl (Ev.bind (a := (k == 0 && Lx.name s)) ?_ (Ev.pure _)))))), (ref rfl).eq ?_⟩
   ·cases hk : k == 0 with
    | true => exact Ev.then rfl (Ev.bind (b8a s) ((Ev.pure _).eq (by simp)))
    | false => exact Ev.else rfl (Ev.pure _)
   ·have h4 : o = 1 ∨ o = 4 := by simpa using o1
    rw [loop0 (by rcases h4 with h | h <;> rw [h] <;> rfl), o1, f0, g0]
    cases hk : k == 0 <;> cases Lx.name s <;> simp [bne, hk]
  ·have o1' : (o == 1 || o == 4) = false := by simpa using o1
   refine ⟨(k == 0 && s == []) && !decide (0 ≤ r), Ev.suc (fun n => a5g n _) (code (Ev.else f0 (Ev.bind (a := false) ((Ev.all fun n => orT _ _).eq o1') (Ev.else rfl ?_)))), (ref rfl).eq ?_⟩
   ·refine Ev.bind (a := (k == 0 && s == [])) (Ev.all fun n => andT _ _) ?_
    refine Ev.bind (a := ((k == 0 && s == []) && !decide (0 ≤ r))) ?_ (Ev.pure _)
    cases (k == 0 && s == []) with
    | true => exact Ev.then rfl (Ev.bind loopC ((Ev.pure _).eq (by simp)))
    | false => exact Ev.else rfl (Ev.pure _)
   ·rw [o1', f0, g0]
    cases hk : k == 0 <;> cases s == [] <;> simp [bne, hk]
theorem d5z {x : M.Expr} (hx : Fit x) : ∃ b, Ev (fun n => a9h n x) b ∧ Ev (fun n => b3f n x) b ∧ (b = true → Shp x) := by
 obtain ⟨b1, z, e1, e2⟩ := d7f hx
 obtain ⟨b2, e3, e4⟩ := d1v hx
 obtain ⟨b3, e5, hS⟩ := d2p hx
 have hb : b3 = b2 := e5.uniq e3
 refine ⟨b1 && b2, ?_, ?_, fun h => hS (by rw [hb]; simp at h; exact h.2)⟩
 ·unfold a9h
  refine Ev.bind e1 (Ev.bind (a := b1 && b2) ?_ (Ev.pure _))
  cases b1 with
  | true => exact Ev.then rfl (Ev.bind e3 ((Ev.pure _).eq (by simp)))
  | false => exact Ev.else rfl (Ev.pure _)
 ·unfold b3f
  refine Ev.bind e2 (Ev.bind (a := b1 && b2) ?_ (Ev.pure _))
  cases b1 with
  | true => exact Ev.then rfl (Ev.bind e4 ((Ev.pure _).eq (by simp)))
  | false => exact Ev.else rfl (Ev.pure _)
theorem c9i {t : Tariff} (hx : Fit t.Fee) : ∃ b, Ev (fun n => a6d n t) b ∧ Ev (fun n => b0f n t) b ∧ (b = true → Shp t.Fee) := by
 obtain ⟨b, e1, e2, hS⟩ := d5z hx
 refine ⟨((Lx.name t.Name && b) && decide (-1 ≤ t.Cap)) && decide (t.Cap ≤ 1099511627776), ?_, ?_, fun h => hS (by simp at h; exact h.1.1.2)⟩
 ·unfold a6d
  refine Ev.bind (b8a _) (Ev.bind (a := (Lx.name t.Name && b)) ?_ (Ev.bind (Ev.all fun n => andT _ _) (Ev.bind (Ev.all fun n => andT _ _) (Ev.pure _))))
  cases Lx.name t.Name with
  | true => exact Ev.then rfl (Ev.bind e1 ((Ev.pure _).eq (by simp)))
  | false => exact Ev.else rfl (Ev.pure _)
 ·unfold b0f
  refine Ev.bind (c3e _) (Ev.bind (a := (Lx.name t.Name && b)) ?_ (Ev.bind (Ev.all fun n => andT _ _) (Ev.bind (Ev.all fun n => andT _ _) (Ev.pure _))))
  cases Lx.name t.Name with
  | true => exact Ev.then rfl (Ev.bind e2 ((Ev.pure _).eq (by simp)))
  | false => exact Ev.else rfl (Ev.pure _)
end Go.Proofs.YtknpjecpcmajiaaGreat.Ta

namespace Go.Proofs.YtknpjecpcmajiaaGreat.Ta
open Go Rt M
def b9c (a b : Int) : Int := bif a == 2 || b == 2 then 2 else 1
theorem d1f (n : Nat) (a b : Int) : a8i n a b = some (b9c a b) := by
 unfold a8i b9c
 rw [orT, Option.bind_some]
 cases a == 2 || b == 2 <;> rfl
theorem d6v (n : Nat) (a b : Int) : a2b n a b = some (bif a == 0 || b == 0 then (0, 13) else (b9c a b, 0)) := by
 unfold a2b b9c
 rw [orT, Option.bind_some, orT, Option.bind_some]
 cases a == 0 || b == 0 <;> cases a == 2 || b == 2 <;> rfl
theorem c6n (a b : Int) : 0 ≤ b9c a b ∧ b9c a b ≤ 2 := by
 unfold b9c
 cases a == 2 || b == 2 <;> decide
theorem c7u (n : Nat) (p q : Int) : a3t n 12 [p, q] = some (0, p == 1 && q == 1) ∧ a3t n 13 [p, q] = some (0, p == 1 && q == 1) := by
 constructor <;> (show ((bif p == 1 then some (q == 1) else some false).bind fun v4 => some ((0 : Int), v4)) = _; rw [andT]; rfl)
theorem d0m (n : Nat) (p q : Int) : a3t n 15 [p, q] = some (0, p == 0 && q == 0) ∧ a3t n 16 [p, q] = some (0, p == 0 && q == 0) := by
 constructor <;> (show ((bif p == 0 then some (q == 0) else some false).bind fun v4 => some ((0 : Int), v4)) = _; rw [andT]; rfl)
theorem d3x (n : Nat) (p : Int) : a3t n 14 [p] = some (0, p == 0) := rfl
theorem d5t (n : Nat) (p q r : Int) : a3t n 11 [p, q, r] = some (b9c q r, (p == 0 && q != 0) && r != 0) := by
 show ((a8i n q r).bind fun v5 => (bif p == 0 then some (q != 0) else some false).bind fun v6 => (bif v6 then some (r != 0) else some false).bind fun v7 => some (v5, v7)) = _
 rw [d1f, Option.bind_some, andT, Option.bind_some, andT]; rfl
theorem d3u (n : Nat) (p q : Int) : a3t n 7 [p, q] = some (b9c p q, (p != 0 && q != 0) && (p == 1 || q == 1)) := by
 show ((bif p != 0 then some (q != 0) else some false).bind fun v8 => ((bif v8 then (bif p == 1 then some true else some (q == 1)).bind fun v11 => some v11 else some false).bind fun v10 => some v10).bind fun numbers1 => (a8i n p q).bind fun v9 => some (v9, numbers1)) = _
 rw [andT, Option.bind_some, orT, d1f]
 cases p != 0 && q != 0 <;> rfl
theorem d4w (n : Nat) (p q : Int) {o : Int} (ho : o = 5 ∨ o = 6 ∨ o = 8 ∨ o = 9 ∨ o = 10) : a3t n o [p, q] = some (b9c p q, p != 0 && q != 0) := by
 have h : (bif p != 0 then some (q != 0) else some false).bind (fun v8 => (some v8).bind fun numbers1 => (a8i n p q).bind fun v9 => some (v9, numbers1)) = some (b9c p q, p != 0 && q != 0) := by
  rw [andT, Option.bind_some, Option.bind_some, d1f]; rfl
 rcases ho with rfl | rfl | rfl | rfl | rfl <;> exact h
theorem all2 (k p q w : Int) : Ev (fun n => a3v n k [p, q] w) (bif p == w && q == w then (k, 0) else (0, 13)) := by
 refine ⟨3, fun n hn => ?_⟩
 obtain ⟨n, rfl⟩ : ∃ j, n = j + 3 := ⟨n - 3, by omega⟩
 show ((bif p != w then some (0 : Int) else bif q != w then some 1 else some (-1)).bind fun v1 => some (decide (0 ≤ v1))).bind (fun v1 => bif v1 then some ((0 : Int), (13 : Int)) else some (k, 0)) = _
 cases hp : p == w <;> cases hq : q == w <;> simp [bne, hp, hq]
theorem all1 (k p w : Int) : Ev (fun n => a3v n k [p] w) (bif p == w then (k, 0) else (0, 13)) := by
 refine ⟨3, fun n hn => ?_⟩
 obtain ⟨n, rfl⟩ : ∃ j, n = j + 3 := ⟨n - 3, by omega⟩
 show ((bif p != w then some (0 : Int) else some (-1)).bind fun v1 => some (decide (0 ≤ v1))).bind (fun v1 => bif v1 then some ((0 : Int), (13 : Int)) else some (k, 0)) = _
 cases hp : p == w <;> simp [bne, hp]
theorem c2v (n : Nat) (l : List Rt.Bs) (s : Rt.Bs) (hl : l.length < 4611686018427387904) : ∀ (us : List Rt.Bs) (i m : Nat), l.drop i = us → us.length < m →
  a4t n l s (some (-1)) m (i : Int) = some (if s ∈ us then ((i + us.idxOf s : Nat) : Int) else -1)
 | [], i, m + 1, hd, _ => by rw [b0l, a6f hd]; rfl
 | x :: us, i, m + 1, hd, hm => by
  obtain ⟨h1, h2, h3⟩ := drop_cons hd
  have ih := c2v n l s hl us (i + 1) m h2 (by simp only [List.length_cons] at hm; omega)
  rw [b0l, a3e hd, cond_true, h1, Option.bind_some]
  by_cases h : x = s
  ·subst h
   rw [beq_self_eq_true, cond_true, if_pos (by simp)]; simp
  ·have e : (x == s) = false := by simpa using h
   rw [e, cond_false, inc64 (by omega), ih]
   by_cases h5 : s ∈ us
   ·rw [if_pos h5, if_pos (List.mem_cons_of_mem _ h5), List.idxOf_cons, e]
    simp only [cond_false]; congr 1; omega
   ·rw [if_neg h5, if_neg (by simp only [List.mem_cons, not_or]; exact ⟨fun h6 => h h6.symm, h5⟩)]
theorem c4p {l : List Rt.Bs} (s : Rt.Bs) (hl : l.length < 4611686018427387904) : Ev (fun n => (a4x n l s).bind fun v6 => some (decide (v6 < 0))) (!decide (s ∈ l)) := by
 refine ⟨l.length + 1, fun n hn => ?_⟩
 unfold a4x
 dsimp only
 have h : a4t n l s (some (-1)) n 0 = _ := c2v n l s hl l 0 n rfl (by omega)
 rw [h, Option.bind_some]
 by_cases h5 : s ∈ l
 ·rw [if_pos h5, decide_eq_true h5, decide_eq_false (by omega)]; rfl
 ·rw [if_neg h5, decide_eq_false h5]; rfl
def Ty (r : Int × Int) : Prop := r.2 = 0 → 0 ≤ r.1 ∧ r.1 ≤ 2
theorem d0x (x : M.Expr) (names : List Rt.Bs) (hx : x.Args.length ≤ 1000000) : ∀ (us : List M.Expr) (i : Nat) (acc : List Int), x.Args.drop i = us → acc.length = i → i ≤ x.Args.length → (∀ t, t ∈ acc → 0 ≤ t ∧ t ≤ 2) →
  (∀ y, y ∈ us → ∃ r, Ev (fun n => tariff_typed n y names) r ∧ Ev (fun n => ref35_typed n y names) r ∧ Ty r) →
  (∃ (N : Nat) (e : Int), e ≠ 0 ∧ ∀ n m kont kont', N ≤ n → us.length < m → a2r n (tariff_typed n) x names kont m (i : Int) acc = some (0, e) ∧ a3z n (ref35_typed n) x names kont' m (i : Int) acc = some (0, e)) ∨
  ∃ (N : Nat) (l2 : List Int), l2.length = x.Args.length ∧ (∀ t, t ∈ l2 → 0 ≤ t ∧ t ≤ 2) ∧ ∀ n m kont kont', N ≤ n → us.length < m → a2r n (tariff_typed n) x names kont m (i : Int) acc = kont l2 ∧ a3z n (ref35_typed n) x names kont' m (i : Int) acc = kont' l2
 | [], i, acc, hd, ha, hi, ht, _ => by
  refine .inr ⟨0, acc, by have := Rt.drop_nil hd; omega, ht, fun n m kont kont' _ hm => ?_⟩
  obtain ⟨m, rfl⟩ := left hm
  rw [a5a, a6f hd, a9d, a6f hd]; exact ⟨rfl, rfl⟩
 | y :: us, i, acc, hd, ha, hi, ht, H => by
  obtain ⟨h1, h2, h3⟩ := drop_cons hd
  obtain ⟨⟨k, e⟩, ⟨N1, e1⟩, ⟨N2, e2⟩, hty⟩ := H y (by simp)
  by_cases he : e = 0
  ·subst he
   have hk := hty rfl
   have step : ∀ n m kont kont', max N1 N2 ≤ n → a2r n (tariff_typed n) x names kont (m + 1) (i : Int) acc = a2r n (tariff_typed n) x names kont m ((i + 1 : Nat) : Int) (acc ++ [k]) ∧ a3z n (ref35_typed n) x names kont' (m + 1) (i : Int) acc = a3z n (ref35_typed n) x names kont' m ((i + 1 : Nat) : Int) (acc ++ [k]) := by
    intro n m kont kont' hn
    have e1 : tariff_typed n y names = some (k, 0) := e1 n (by omega)
    have e2 : ref35_typed n y names = some (k, 0) := e2 n (by omega)
    constructor
    ·rw [a5a, a3e hd, cond_true, h1, Option.bind_some, e1, Option.bind_some]
     show ((app 8 acc [k]).bind fun l3 => _) = _
     rw [c7l (by simp only [List.length_cons, List.length_nil]; omega), Option.bind_some, inc64 (by omega)]
    ·rw [a9d, a3e hd, cond_true, h1, Option.bind_some, e2, Option.bind_some]
     show ((app 8 acc [k]).bind fun l3 => _) = _
     rw [c7l (by simp only [List.length_cons, List.length_nil]; omega), Option.bind_some, inc64 (by omega)]
   have ht2 : ∀ t, t ∈ acc ++ [k] → 0 ≤ t ∧ t ≤ 2 := by
    intro t h
    rcases List.mem_append.1 h with h | h
    ·exact ht t h
    ·rw [List.mem_singleton] at h; subst h; exact hk
   rcases d0x x names hx us (i + 1) (acc ++ [k]) h2 (by simp [ha]) (by omega) ht2 (fun z hz => H z (by simp [hz])) with ⟨N, e, he, ih⟩ | ⟨N, l2, hl2, ht3, ih⟩
   ·refine .inl ⟨max N (max N1 N2), e, he, fun n m kont kont' hn hm => ?_⟩
    obtain ⟨m, rfl, hm2⟩ := pred (by simpa using hm)
    have h5 := step n m kont kont' (by omega)
    rw [h5.1, h5.2]
    exact ih n m kont kont' (by omega) hm2
   ·refine .inr ⟨max N (max N1 N2), l2, hl2, ht3, fun n m kont kont' hn hm => ?_⟩
    obtain ⟨m, rfl, hm2⟩ := pred (by simpa using hm)
    have h5 := step n m kont kont' (by omega)
    rw [h5.1, h5.2]
    exact ih n m kont kont' (by omega) hm2
  ·refine .inl ⟨max N1 N2, e, he, fun n m kont kont' hn hm => ?_⟩
   obtain ⟨m, rfl⟩ := left hm
   have e1 : tariff_typed n y names = some (k, e) := e1 n (by omega)
   have e2 : ref35_typed n y names = some (k, e) := e2 n (by omega)
   have hb : (e != 0) = true := by simpa using he
   constructor
   ·rw [a5a, a3e hd, cond_true, h1, Option.bind_some, e1, Option.bind_some]
    dsimp only
    rw [hb]; rfl
   ·rw [a9d, a3e hd, cond_true, h1, Option.bind_some, e2, Option.bind_some]
    dsimp only
    rw [hb]; rfl
end Go.Proofs.YtknpjecpcmajiaaGreat.Ta

namespace Go.Proofs.YtknpjecpcmajiaaGreat.Ta
open Go Rt M
def d0y (names : List Rt.Bs) (x : M.Expr) (n : Nat) (l2 : List Int) : Option (Int × Int) :=
   (bif x.Op == 1 then
    some true
   else
    some (x.Op == 4)).bind fun v1 =>
   bif v1 then
    (a1t n names x.Name).bind fun v2 =>
    bif !v2 then
     some (0, 11)
    else
     bif x.Op == 4 then
      some (2, 0)
     else
      some (1, 0)
   else
    (bif x.Op == 0 then
     some true
    else
     bif x.Op == 2 then
      some true
     else
      some (x.Op == 3)).bind fun v3 =>
    bif v3 then
     some (1, 0)
    else
     (bif x.Op == 12 then
      some true
     else
      some (x.Op == 13)).bind fun v4 =>
     bif v4 then
      (a3v n 0 l2 1).bind fun v5 =>
      some (v5.1, v5.2)
     else
      (bif x.Op == 14 then
       some true
      else
       bif x.Op == 15 then
        some true
       else
        some (x.Op == 16)).bind fun v6 =>
      bif v6 then
       (a3v n 0 l2 0).bind fun v7 =>
       some (v7.1, v7.2)
      else
       bif x.Op == 11 then
        (ix l2 0).bind fun ex =>
        bif ex != 0 then
         some (0, 13)
        else
         (ix l2 1).bind fun w2 =>
         (ix l2 2).bind fun w3 =>
         (a2b n w2 w3).bind fun v8 =>
         some (v8.1, v8.2)
       else
        bif x.Op == 7 then
         (ix l2 0).bind fun w4 =>
         (bif w4 == 2 then
          (ix l2 1).bind fun w7 =>
          some (w7 == 2)
         else
          some false).bind fun v9 =>
         bif v9 then
          some (0, 13)
         else
          (ix l2 0).bind fun w5 =>
          (ix l2 1).bind fun w6 =>
          (a2b n w5 w6).bind fun v10 =>
          some (v10.1, v10.2)
        else
         bif x.Op == 8 then
          (ix x.Args 1).bind fun w8 =>
          bif w8.Op != 0 then
           some (0, 13)
          else
           bif w8.N == 0 then
            some (0, 14)
           else
            (ix l2 0).bind fun w9 =>
            (ix l2 1).bind fun w0 =>
            (a2b n w9 w0).bind fun v11 =>
            some (v11.1, v11.2)
         else
          (ix l2 0).bind fun w1 =>
          (ix l2 1).bind fun w2 =>
          (a2b n w1 w2).bind fun v12 =>
          some (v12.1, v12.2)
def refK (names : List Rt.Bs) (x : M.Expr) (n : Nat) (l2 : List Int) : Option (Int × Int) :=
   (bif x.Op == 1 then
    some true
   else
    some (x.Op == 4)).bind fun v1 =>
   (bif v1 then
    (a4x n names x.Name).bind fun v6 =>
    some (decide (v6 < 0))
   else
    some false).bind fun v2 =>
   bif v2 then
    some (0, 11)
   else
    bif x.Op == 4 then
     some (2, 0)
    else
     bif (l2.length : Int) == 0 then
      some (1, 0)
     else
      bif x.Op == 8 then
       (ix x.Args 1).bind fun ex =>
       (bif ex.Op == 0 then
        (ix x.Args 1).bind fun ex3 =>
        some (ex3.N == 0)
       else
        some false).bind fun v3 =>
       bif v3 then
        some (0, 14)
       else
        (ix x.Args 1).bind fun ex2 =>
        bif ex2.Op != 0 then
         some (0, 13)
        else
         (a3t n x.Op l2).bind fun v4 =>
         bif !v4.2 then
          some (0, 13)
         else
          some (v4.1, 0)
      else
       (a3t n x.Op l2).bind fun v5 =>
       bif !v5.2 then
        some (0, 13)
       else
        some (v5.1, 0)
theorem c1f (n : Nat) (x : M.Expr) (names : List Rt.Bs) : tariff_typed (n + 1) x names = a2r n (tariff_typed n) x names (d0y names x n) n 0 [] := rfl
theorem c6y (n : Nat) (x : M.Expr) (names : List Rt.Bs) : ref35_typed (n + 1) x names = a3z n (ref35_typed n) x names (refK names x n) n 0 [] := rfl
def c2a (p q : Int) : Int × Int := bif p == 0 || q == 0 then (0, 13) else (b9c p q, 0)
theorem b3o (p q : Int) : Ty (c2a p q) := by
 unfold c2a
 cases p == 0 || q == 0
 ·exact fun _ => c6n p q
 ·exact fun h => by cases h
theorem b6k (p q : Int) : Ev (fun n => (a2b n p q).bind fun v => some (v.1, v.2)) (c2a p q) := Ev.all fun n => by rw [d6v]; rfl
theorem ty0 (b : Bool) : Ty (bif b then ((0 : Int), (0 : Int)) else (0, 13)) := by
 cases b
 ·exact fun h => by cases h
 ·exact fun _ => ⟨by decide, by decide⟩
theorem c1j {o p q : Int} (ho : o = 5 ∨ o = 6 ∨ o = 8 ∨ o = 9 ∨ o = 10) : Ev (fun n => (a3t n o [p, q]).bind fun v5 => bif !v5.2 then some ((0 : Int), (13 : Int)) else some (v5.1, 0)) (c2a p q) := Ev.all fun n => by
 rw [d4w n p q ho]
 unfold c2a
 cases hp : p == 0 <;> cases hq : q == 0 <;> simp [bne, hp, hq]
theorem d2n (p q w : Int) : Ev (fun n => (a3v n 0 [p, q] w).bind fun v5 => some (v5.1, v5.2)) (bif p == w && q == w then (0, 0) else (0, 13)) := Ev.bind (all2 0 p q w) (Ev.pure _)
theorem d7m (p w : Int) : Ev (fun n => (a3v n 0 [p] w).bind fun v5 => some (v5.1, v5.2)) (bif p == w then (0, 0) else (0, 13)) := Ev.bind (all1 0 p w) (Ev.pure _)
theorem fitb {o : Int} {l : List Int} {b : Bool} (h : ∀ n, a3t n o l = some (0, b)) : Ev (fun n => (a3t n o l).bind fun v5 => bif !v5.2 then some ((0 : Int), (13 : Int)) else some (v5.1, 0)) (bif b then (0, 0) else (0, 13)) :=
 Ev.all fun n => by rw [h n]; cases b <;> rfl
theorem d4v {x : M.Expr} (hx : Fit x) (names : List Rt.Bs) (hn : names.length < 4611686018427387904) : Shp x → ∃ r, Ev (fun n => tariff_typed n x names) r ∧ Ev (fun n => ref35_typed n x names) r ∧ Ty r := by
 induction hx with
 | @mk o k s l hl _ ih =>
  intro hs
  cases hs with
  | mk h1 h2 h3 h4 =>
  rcases d0x ⟨o, k, s, l⟩ names hl l 0 [] rfl rfl (by simp) (by simp) (fun y hy => ih y hy (h4 y hy)) with ⟨N, e, he, hL⟩ | ⟨N, l2, hl2, ht, hL⟩
  ·exact ⟨(0, e), Ev.suc (fun n => c1f n _ _) ⟨N + l.length + 1, fun n hn => (hL n n _ (fun _ => none) (by omega) (by omega)).1⟩, Ev.suc (fun n => c6y n _ _) ⟨N + l.length + 1, fun n hn => (hL n n (fun _ => none) _ (by omega) (by omega)).2⟩, fun h => absurd h he⟩
  have out : ∀ r : Int × Int, Ty r → Ev (fun n => d0y names ⟨o, k, s, l⟩ n l2) r → Ev (fun n => refK names ⟨o, k, s, l⟩ n l2) r → ∃ r, Ev (fun n => tariff_typed n ⟨o, k, s, l⟩ names) r ∧ Ev (fun n => ref35_typed n ⟨o, k, s, l⟩ names) r ∧ Ty r := by
   intro r hty hf hg
   exact ⟨r, Ev.suc (fun n => c1f n _ _) (Ev.from (N + l.length + 1) (fun n hn => (hL n n _ (fun _ => none) (by omega) (by omega)).1) hf), Ev.suc (fun n => c6y n _ _) (Ev.from (N + l.length + 1) (fun n hn => (hL n n (fun _ => none) _ (by omega) (by omega)).2) hg), hty⟩
  replace hl2 : (l2.length : Int) = b6u o := by rw [← h3]; exact congrArg Int.ofNat hl2
  clear hL
  have len0 : (l2.length : Int) = 0 → l2 = [] := fun h => List.length_eq_zero_iff.1 (by omega)
  have len1 : (l2.length : Int) = 1 → ∃ p, l2 = [p] := fun h => by
   match l2, h with
   | [p], _ => exact ⟨p, rfl⟩
   | [], h => simp at h
   | _ :: _ :: _, h => simp at h; omega
  have len2 : (l2.length : Int) = 2 → ∃ p q, l2 = [p, q] ∧ (0 ≤ p ∧ p ≤ 2) ∧ (0 ≤ q ∧ q ≤ 2) := fun h => by
   match l2, h, ht with
   | [p, q], _, ht => exact ⟨p, q, rfl, ht p (by simp), ht q (by simp)⟩
   | [], h, _ => simp at h
   | [_], h, _ => simp at h
   | _ :: _ :: _ :: _, h, _ => simp at h; omega
  have len3 : (l2.length : Int) = 3 → ∃ p q r, l2 = [p, q, r] := fun h => by
   match l2, h with
   | [p, q, r], _ => exact ⟨p, q, r, rfl⟩
   | [], h => simp at h
   | [_], h => simp at h
   | [_, _], h => simp at h
   | _ :: _ :: _ :: _ :: _, h => simp at h; omega
  have hc : o = 0 ∨ o = 1 ∨ o = 2 ∨ o = 3 ∨ o = 4 ∨ o = 5 ∨ o = 6 ∨ o = 7 ∨ o = 8 ∨ o = 9 ∨ o = 10 ∨ o = 11 ∨ o = 12 ∨ o = 13 ∨ o = 14 ∨ o = 15 ∨ o = 16 := by omega
  have lf : ∀ t : Int, 0 ≤ t → t ≤ 2 → Ty (bif !decide (s ∈ names) then ((0 : Int), (11 : Int)) else (t, 0)) := by
   intro t h5 h6
   cases decide (s ∈ names)
   ·exact fun h => by cases h
   ·exact fun _ => ⟨h5, h6⟩
  have t10 : Ty ((1 : Int), (0 : Int)) := fun _ => ⟨by decide, by decide⟩
  rcases hc with rfl | rfl | rfl | rfl | rfl | rfl | rfl | rfl | rfl | rfl | rfl | rfl | rfl | rfl | rfl | rfl | rfl
  ·obtain rfl := len0 hl2
   exact out (1, 0) t10 (Ev.all fun n => rfl) (Ev.all fun n => rfl)
  ·obtain rfl := len0 hl2
   refine out _ (lf 1 (by decide) (by decide)) ?_ ?_
   ·exact Ev.bind (f := fun n v2 => bif !v2 then some (0, 11) else some (1, 0)) (b2n s hn) (by cases decide (s ∈ names) <;> exact Ev.pure _)
   ·exact Ev.bind (f := fun n v2 => bif v2 then some (0, 11) else some (1, 0)) (c4p s hn) (by cases decide (s ∈ names) <;> exact Ev.pure _)
  ·obtain rfl := len0 hl2
   exact out (1, 0) t10 (Ev.all fun n => rfl) (Ev.all fun n => rfl)
  ·obtain rfl := len0 hl2
   exact out (1, 0) t10 (Ev.all fun n => rfl) (Ev.all fun n => rfl)
  ·obtain rfl := len0 hl2
   refine out _ (lf 2 (by decide) (by decide)) ?_ ?_
   ·exact Ev.bind (f := fun n v2 => bif !v2 then some (0, 11) else some (2, 0)) (b2n s hn) (by cases decide (s ∈ names) <;> exact Ev.pure _)
   ·exact Ev.bind (f := fun n v2 => bif v2 then some (0, 11) else some (2, 0)) (c4p s hn) (by cases decide (s ∈ names) <;> exact Ev.pure _)
  ·obtain ⟨p, q, rfl, _, _⟩ := len2 hl2
   exact out _ (b3o p q) (b6k p q) (c1j (o := 5) (by decide))
  ·obtain ⟨p, q, rfl, _, _⟩ := len2 hl2
   exact out _ (b3o p q) (b6k p q) (c1j (o := 6) (by decide))
  ·obtain ⟨p, q, rfl, hp, hq⟩ := len2 hl2
   refine out (bif p == 2 && q == 2 then (0, 13) else c2a p q) ?_ ?_ ?_
   ·cases p == 2 && q == 2
    ·exact b3o p q
    ·exact fun h => by cases h
   ·show Ev (fun n => (bif p == 2 then some (q == 2) else some false).bind fun v9 => bif v9 then some (0, 13) else (a2b n p q).bind fun v => some (v.1, v.2)) _
    refine Ev.bind (a := p == 2 && q == 2) (Ev.all fun n => andT _ _) ?_
    cases p == 2 && q == 2
    ·exact Ev.else rfl (b6k p q)
    ·exact Ev.then rfl (Ev.pure _)
   ·show Ev (fun n => (a3t n 7 [p, q]).bind fun v5 => bif !v5.2 then some ((0 : Int), (13 : Int)) else some (v5.1, 0)) _
    refine Ev.all fun n => ?_
    rw [d3u]
    unfold c2a
    have hp3 : p = 0 ∨ p = 1 ∨ p = 2 := by omega
    have hq3 : q = 0 ∨ q = 1 ∨ q = 2 := by omega
    rcases hp3 with rfl | rfl | rfl <;> rcases hq3 with rfl | rfl | rfl <;> rfl
  ·obtain ⟨p, q, rfl, _, _⟩ := len2 hl2
   have h8 : (l.length : Int) = 2 := h3
   obtain ⟨u, v, rfl⟩ : ∃ u v, l = [u, v] := by
    match l, h8 with
    | [u, v], _ => exact ⟨u, v, rfl⟩
    | [], h => simp at h
    | [_], h => simp at h
    | _ :: _ :: _ :: _, h => simp at h; omega
   refine out (bif v.Op != 0 then (0, 13) else bif v.N == 0 then (0, 14) else c2a p q) ?_ ?_ ?_
   ·cases v.Op != 0
    ·cases v.N == 0
     ·exact b3o p q
     ·exact fun h => by cases h
    ·exact fun h => by cases h
   ·show Ev (fun n => bif v.Op != 0 then some (0, 13) else bif v.N == 0 then some (0, 14) else (a2b n p q).bind fun v => some (v.1, v.2)) _
    cases v.Op != 0
    ·cases v.N == 0
     ·exact Ev.else rfl (Ev.else rfl (b6k p q))
     ·exact Ev.else rfl (Ev.then rfl (Ev.pure _))
    ·exact Ev.then rfl (Ev.pure _)
   ·show Ev (fun n => (bif v.Op == 0 then some (v.N == 0) else some false).bind fun v3 => bif v3 then some (0, 14) else bif v.Op != 0 then some (0, 13) else (a3t n 8 [p, q]).bind fun v5 => bif !v5.2 then some ((0 : Int), (13 : Int)) else some (v5.1, 0)) _
    refine Ev.bind (a := v.Op == 0 && v.N == 0) (Ev.all fun n => andT _ _) ?_
    unfold bne
    cases v.Op == 0
    ·exact Ev.else rfl (Ev.then rfl (Ev.pure _))
    ·cases v.N == 0
     ·exact Ev.else rfl (Ev.else rfl (c1j (o := 8) (by decide)))
     ·exact Ev.then rfl (Ev.pure _)
  ·obtain ⟨p, q, rfl, _, _⟩ := len2 hl2
   exact out _ (b3o p q) (b6k p q) (c1j (o := 9) (by decide))
  ·obtain ⟨p, q, rfl, _, _⟩ := len2 hl2
   exact out _ (b3o p q) (b6k p q) (c1j (o := 10) (by decide))
  ·obtain ⟨p, q, r, rfl⟩ := len3 hl2
   refine out (bif p != 0 then (0, 13) else c2a q r) ?_ ?_ ?_
   ·cases p != 0
    ·exact b3o q r
    ·exact fun h => by cases h
   ·show Ev (fun n => bif p != 0 then some (0, 13) else (a2b n q r).bind fun v => some (v.1, v.2)) _
    cases p != 0
    ·exact Ev.else rfl (b6k q r)
    ·exact Ev.then rfl (Ev.pure _)
   ·show Ev (fun n => (a3t n 11 [p, q, r]).bind fun v5 => bif !v5.2 then some ((0 : Int), (13 : Int)) else some (v5.1, 0)) _
    refine Ev.all fun n => ?_
    rw [d5t]
    unfold c2a
    cases hp : p == 0 <;> cases hq : q == 0 <;> cases hr : r == 0 <;> simp [bne, hp, hq, hr]
  ·obtain ⟨p, q, rfl, _, _⟩ := len2 hl2
   exact out _ (ty0 (p == 1 && q == 1)) (d2n p q 1) (fitb fun n => (c7u n p q).1)
  ·obtain ⟨p, q, rfl, _, _⟩ := len2 hl2
   exact out _ (ty0 (p == 1 && q == 1)) (d2n p q 1) (fitb fun n => (c7u n p q).2)
  ·obtain ⟨p, rfl⟩ := len1 hl2
   exact out _ (ty0 (p == 0)) (d7m p 0) (fitb fun n => d3x n p)
  ·obtain ⟨p, q, rfl, _, _⟩ := len2 hl2
   exact out _ (ty0 (p == 0 && q == 0)) (d2n p q 0) (fitb fun n => (d0m n p q).1)
  ·obtain ⟨p, q, rfl, _, _⟩ := len2 hl2
   exact out _ (ty0 (p == 0 && q == 0)) (d2n p q 0) (fitb fun n => (d0m n p q).2)
theorem d5j {t : Tariff} (hx : Fit t.Fee) (names : List Rt.Bs) (hn : names.length < 4611686018427387904) : ∃ e, Ev (fun n => a9t n t names) e ∧ Ev (fun n => b3r n t names) e := by
 obtain ⟨b, w1, w2, hS⟩ := c9i hx
 cases hnm : d0i names with
 | false => exact ⟨1, Ev.bind ((b9i hn).eq hnm) (Ev.then rfl (Ev.pure _)), Ev.bind ((c3i names).eq hnm) (Ev.then rfl (Ev.pure _))⟩
 | true =>
  cases b with
  | false => exact ⟨2, Ev.bind ((b9i hn).eq hnm) (Ev.else rfl (Ev.bind w1 (Ev.then rfl (Ev.pure _)))), Ev.bind ((c3i names).eq hnm) (Ev.else rfl (Ev.bind w2 (Ev.then rfl (Ev.pure _))))⟩
  | true =>
   obtain ⟨r, r1, r2, _⟩ := d4v hx names hn (hS rfl)
   refine ⟨bif (r.2 == 0 && r.1 == 0) then 13 else r.2, Ev.bind ((b9i hn).eq hnm) (Ev.else rfl (Ev.bind w1 (Ev.else rfl (Ev.bind r1 (Ev.bind (Ev.all fun n => andT _ _) ?_))))), Ev.bind ((c3i names).eq hnm) (Ev.else rfl (Ev.bind w2 (Ev.else rfl (Ev.bind r2 (Ev.bind (Ev.all fun n => andT _ _) ?_)))))⟩ <;>
   (cases r.2 == 0 && r.1 == 0 <;> exact Ev.pure _)
end Go.Proofs.YtknpjecpcmajiaaGreat.Ta

namespace Go.Proofs.YtknpjecpcmajiaaGreat.Fe
open Go Rt M Ta Tp D
theorem c6u (f : Facts) (hl : f.Lifts.length ≤ 1000000) (kont : Nat → Option Bool) (d : Bool) (hk : Ev kont d) : ∀ (us : List Int) (i : Nat), f.Lifts.drop i = us →
  ∃ N, ∀ n m, N ≤ n → us.length < m → a6r n f (kont n) m (i : Int) = some (!(us.any fun x => !(decide (0 ≤ x) && decide (x ≤ 200))) && d)
 | [], i, hd => by
  obtain ⟨N, h⟩ := hk
  refine ⟨N, fun n m hn hm => ?_⟩
  obtain ⟨m, rfl⟩ := left hm
  rw [b1n, a6f hd]; exact h n hn
 | x :: us, i, hd => by
  obtain ⟨h1, h2, h3⟩ := Rt.drop_cons hd
  obtain ⟨N, ih⟩ := c6u f hl kont d hk us (i + 1) h2
  refine ⟨N, fun n m hn hm => ?_⟩
  obtain ⟨m, rfl, hm2⟩ := pred (by simpa using hm)
  have e : (bif decide (x < 0) then some true else (ix f.Lifts (i : Int)).bind fun ex2 => some (decide (200 < ex2))) = some (!(decide (0 ≤ x) && decide (x ≤ 200))) := by
   rw [h1, Option.bind_some]
   by_cases g1 : x < 0
   ·rw [decide_eq_true g1, decide_eq_false (show ¬0 ≤ x by omega)]; rfl
   ·rw [decide_eq_false g1, decide_eq_true (show 0 ≤ x by omega)]
    by_cases g2 : 200 < x
    ·rw [decide_eq_true g2, decide_eq_false (show ¬x ≤ 200 by omega)]; rfl
    ·rw [decide_eq_false g2, decide_eq_true (show x ≤ 200 by omega)]; rfl
  rw [b1n, a3e hd, cond_true]
  show ((ix f.Lifts (i : Int)).bind fun ex1 => (bif decide (ex1 < 0) then some true else (ix f.Lifts (i : Int)).bind fun ex2 => some (decide (200 < ex2))).bind fun v5 => _) = _
  rw [h1, Option.bind_some, ← h1, e, Option.bind_some, List.any_cons]
  cases (decide (0 ≤ x) && decide (x ≤ 200)) with
  | false => rfl
  | true => rw [Bool.not_true, cond_false, Rt.inc64 (by omega), ih n m hn hm2]; rfl
theorem c2k (l : List Frac) (hl : l.length ≤ 1000000) (c : Bool) {k : Nat} (hk : k ≤ 30) : ∀ (us : List Frac) (i : Nat), l.drop i = us → Lim k us →
  ∃ N, ∀ n m, N ≤ n → us.length < m → a5m n l (some c) m (i : Int) = some (!(us.any badF) && c)
 | [], i, hd, _ => by
  refine ⟨0, fun n m _ hm => ?_⟩
  obtain ⟨m, rfl⟩ := left hm
  rw [b0c, a6f hd]; rfl
 | x :: us, i, hd, hw => by
  obtain ⟨h1, h2, h3⟩ := Rt.drop_cons hd
  obtain ⟨N, ih⟩ := c2k l hl c hk us (i + 1) h2 (fun w h => hw w (by simp [h]))
  have hx := hw x (by simp)
  obtain ⟨N1, e1⟩ : Ev (fun n => (a2z n x).bind fun v1 => bif !v1 then some true else (ix l (i : Int)).bind fun ex2 => (a8j n ex2).bind fun v3 => some (decide (v3 < 0))) (badF x) := by
   refine Ev.bind (c5g hx.1 hx.2 (by omega)) ?_
   unfold badF
   cases hr : a9n x with
   | false => exact Ev.then rfl (Ev.pure _)
   | true =>
    obtain ⟨r, rfl, hs⟩ := c9m hx hr
    exact Ev.else rfl (Ev.step h1 (Ev.bind (QSign_ev hs (by omega)) (Ev.pure _)))
  refine ⟨max N N1, fun n m hn hm => ?_⟩
  obtain ⟨m, rfl, hm2⟩ := pred (by simpa using hm)
  have e1 := e1 n (by omega)
  dsimp only at e1
  obtain ⟨v1, g1, g2⟩ := Option.bind_eq_some_iff.1 e1
  rw [b0c, a3e hd, cond_true, h1, Option.bind_some, g1, Option.bind_some]
  rw [h1] at g2
  rw [g2, Option.bind_some, List.any_cons]
  cases badF x with
  | true => rfl
  | false => rw [cond_false, Rt.inc64 (by omega), ih n m (by omega) hm2]; rfl
theorem d7o {names : List Rt.Bs} {f : Facts} {weights : List Frac} {k : Nat} (hw : Lim k weights) (hk : k ≤ 30) (hl : f.Lifts.length ≤ 1000000) (hwl : weights.length ≤ 1000000) :
  ∃ b1 b2, Ev (fun n => b3n n f (names.length : Int)) b1 ∧ Ev (fun n => b1s n weights (names.length : Int)) b2 ∧ c0o names f weights = (b1 && b2) := by
 have hkont : Ev (fun _ : Nat => (bif (f.Lifts.length : Int) == (names.length : Int) then some (decide (0 ≤ f.Persons)) else some false).bind fun v1 => (bif v1 then some (decide (f.Persons ≤ 1000)) else some false).bind fun v2 =>
   (bif v2 then some (decide (0 ≤ f.Flats)) else some false).bind fun v3 => (bif v3 then some (decide (f.Flats ≤ 1000)) else some false).bind fun v4 => some v4)
   (((((f.Lifts.length : Int) == (names.length : Int)) && decide (0 ≤ f.Persons)) && decide (f.Persons ≤ 1000)) && decide (0 ≤ f.Flats) && decide (f.Flats ≤ 1000)) := by
  refine Ev.all fun _ => ?_
  generalize ((f.Lifts.length : Int) == (names.length : Int)) = A
  generalize decide (0 ≤ f.Persons) = B
  generalize decide (f.Persons ≤ 1000) = C
  generalize decide (0 ≤ f.Flats) = H
  generalize decide (f.Flats ≤ 1000) = E
  revert A B C H E; decide
 obtain ⟨N1, e1⟩ := c6u f hl _ _ hkont f.Lifts 0 rfl
 obtain ⟨N2, e2⟩ := c2k weights hwl ((weights.length : Int) == (names.length : Int)) hk weights 0 rfl hw
 refine ⟨_, _, ⟨N1 + f.Lifts.length + 1, fun n hn => e1 n n (by omega) (by omega)⟩, ⟨N2 + weights.length + 1, fun n hn => e2 n n (by omega) (by omega)⟩, ?_⟩
 unfold c0o
 generalize ((f.Lifts.length : Int) == (names.length : Int)) = A
 generalize decide (0 ≤ f.Persons) = B
 generalize decide (f.Persons ≤ 1000) = C
 generalize decide (0 ≤ f.Flats) = H
 generalize decide (f.Flats ≤ 1000) = E
 generalize ((weights.length : Int) == (names.length : Int)) = G
 generalize (f.Lifts.any fun x => !(decide (0 ≤ x) && decide (x ≤ 200))) = X
 generalize weights.any badF = Y
 revert A B C H E G X Y; decide
theorem c7z {l : List Rt.Bs} (s : Rt.Bs) (hl : l.length < 4611686018427387904) : Ev (fun n => a4x n l s) (if s ∈ l then ((l.idxOf s : Nat) : Int) else -1) := by
 refine ⟨l.length + 1, fun n hn => ?_⟩
 unfold a4x
 dsimp only
 have h : a4t n l s (some (-1)) n 0 = _ := c2v n l s hl l 0 n rfl (by omega)
 rw [h]; simp only [Nat.zero_add]
theorem b7f {x : Int} (h1 : -9223372036854775808 ≤ x) (h2 : x ≤ 9223372036854775807) : Ev (fun n => a7v n x) ⟨toF (x : Rat), false⟩ := by
 unfold a7v
 exact Ev.bind (c5r h1 h2) (Ev.pure _)
theorem d3y {α : Type} {o : Int} (h : o ≠ 12 ∧ o ≠ 13) {c1 c2 : Nat → Option Bool} {g : Nat → Bool → Option α} {r : α} (hg : Ev (fun n => g n false) r) :
  Ev (fun n => (bif o == 12 then c1 n else some false).bind fun v2 => (bif v2 then some true else (bif o == 13 then c2 n else some false).bind fun v4 => some v4).bind fun v3 => g n v3) r := by
 refine Ev.bind (a := false) (Ev.else (by simpa using h.1) (Ev.pure _)) ?_
 exact Ev.bind (a := false) (Ev.else rfl (Ev.bind (a := false) (Ev.else (by simpa using h.2) (Ev.pure _)) (Ev.pure _))) hg
theorem d5k {j k : Nat} {a b : Rat} (ha : SmF j a) (hb : SmF k b) (hk : j + k < 4000000) {o : Int} (ho : o = 8 → b.num ≠ 0) (h0 : o = 5 ∨ o = 6 ∨ o = 7 ∨ o = 8 ∨ o = 9 ∨ o = 10) : Ev (fun n => b1k n o (toF a) (toF b)) ⟨toF (two o a b), false⟩ := by
 unfold b1k
 have ho2 : o ≠ 12 ∧ o ≠ 13 := by omega
 refine Ev.bind (a := ((toF (two o a b)).P.Sign, (toF (two o a b)).P.Digits, (toF (two o a b)).Q.Sign, (toF (two o a b)).Q.Digits)) ?_ (d3y ho2 (Ev.pure _))
 rcases h0 with rfl | rfl | rfl | rfl | rfl | rfl
 ·exact Ev.then rfl (Ev.bind (QAdd_ev ha hb hk) (Ev.pure _))
 ·exact Ev.else rfl (Ev.then rfl (Ev.bind (QSub_ev ha hb hk) (Ev.pure _)))
 ·exact Ev.else rfl (Ev.else rfl (Ev.then rfl (Ev.bind (QMul_ev ha hb hk) (Ev.pure _))))
 ·exact Ev.else rfl (Ev.else rfl (Ev.else rfl (Ev.then rfl (Ev.bind (d3s ha hb hk (ho rfl)) (Ev.pure _)))))
 ·exact Ev.else rfl (Ev.else rfl (Ev.else rfl (Ev.else rfl (Ev.then rfl (Ev.bind (QMin_ev ha hb hk) (Ev.pure _))))))
 ·exact Ev.else rfl (Ev.else rfl (Ev.else rfl (Ev.else rfl (Ev.else rfl (Ev.then rfl (Ev.bind (QMax_ev ha hb hk) (Ev.pure _)))))))
def d4d {β : Type} (f : Nat → M.Expr → Option β) : List M.Expr → List β → Prop
  | [], [] => True
  | y :: us, r :: rs => Ev (fun n => f n y) r ∧ d4d f us rs
  | _, _ => False
theorem d3j (x : M.Expr) (names : List Rt.Bs) (f : Facts) (weights : List Frac) (hx : x.Args.length ≤ 3) : ∀ (us : List M.Expr) (rs : List M.Result) (i : Nat) (acc : List M.Result), x.Args.drop i = us → acc.length = i → d4d (fun n y => ref36_Eval n y names f weights) us rs →
  ∃ N, ∀ n m kont, N ≤ n → us.length < m → a5u n (ref36_Eval n) x names f weights kont m (i : Int) acc = kont (acc ++ rs)
 | [], [], i, acc, hd, _, _ => by
  refine ⟨0, fun n m kont _ hm => ?_⟩
  obtain ⟨m, rfl⟩ := left hm
  rw [b2m, a6f hd, List.append_nil]; rfl
 | [], _ :: _, _, _, _, _, h => h.elim
 | _ :: _, [], _, _, _, _, h => h.elim
 | y :: us, r :: rs, i, acc, hd, ha, ⟨⟨N1, e1⟩, h⟩ => by
  obtain ⟨h1, h2, h3⟩ := Rt.drop_cons hd
  obtain ⟨N, ih⟩ := d3j x names f weights hx us rs (i + 1) (acc ++ [r]) h2 (by simp [ha]) h
  refine ⟨max N N1, fun n m kont hn hm => ?_⟩
  obtain ⟨m, rfl, hm2⟩ := pred (by simpa using hm)
  have e1 : ref36_Eval n y names f weights = some r := e1 n (by omega)
  rw [b2m, a3e hd, cond_true, h1, Option.bind_some, e1, Option.bind_some, c7l (by simp only [List.length_cons, List.length_nil]; omega), Option.bind_some, Rt.inc64 (by omega), ih n m kont (by omega) hm2, List.append_assoc]; rfl
section
variable {names : List Rt.Bs} {f : Facts} {ws : List Rat} {W : Nat}
variable (hf : RF names f ws) (hW : 4 ≤ W) (hW2 : W ≤ 30) (hw : ∀ w, w ∈ ws → SmF W w) (hn : names.length < 4611686018427387904)
include hf hW hW2 hw hn
theorem d4k {x : M.Expr} {k : Int} (ht : Typ names x k) : cnt x ≤ 1000 →
  (k ≠ 0 → Ev (fun n => ref36_Eval n x names f (ws.map toF)) ⟨toF (num (mkE names f ws) x), false⟩) ∧
  (k = 0 → Ev (fun n => ref36_Eval n x names f (ws.map toF)) ⟨zeroF, tru (mkE names f ws) x⟩) := by
 have hnum : ∀ s, Ev (fun n => a4x n names s) (if s ∈ names then ((names.idxOf s : Nat) : Int) else -1) := fun s => c7z s hn
 have c2 : ∀ (o n : Int) (s : Rt.Bs) (a b : M.Expr), cnt ⟨o, n, s, [a, b]⟩ = cnt a + cnt b + 1 := fun o n s a b => by show cnt a + (cnt b + 0) + 1 = _; omega
 have lf : ∀ {o m : Int} {s : Rt.Bs} {r : M.Result}, Ev (fun n => b3m n ⟨o, m, s, []⟩ names f (ws.map toF)) r → Ev (fun n => ref36_Eval n ⟨o, m, s, []⟩ names f (ws.map toF)) r := fun h => Ev.suc (fun n => a7y n _ _ _ _) (Ev.then rfl (Ev.bind h (Ev.pure _)))
 have nd : ∀ {x : M.Expr} {rs : List M.Result} {r : M.Result} {kont : Nat → List M.Result → Option M.Result}, x.Args.length ≤ 3 → d4d (fun n y => ref36_Eval n y names f (ws.map toF)) x.Args rs → Ev (fun n => kont n rs) r →
   Ev (fun n => a5u n (ref36_Eval n) x names f (ws.map toF) (kont n) n 0 []) r := by
  intro x rs r kont h3 ha hk
  obtain ⟨N, h⟩ := d3j x names f (ws.map toF) h3 x.Args rs 0 [] rfl rfl ha
  exact Ev.from (N + x.Args.length + 1) (fun n hn => h n n (kont n) (by omega) (by omega)) hk
 have ari : ∀ {o p q r : Int} {a b : M.Expr}, (o = 5 ∨ o = 6 ∨ o = 7 ∨ o = 8 ∨ o = 9 ∨ o = 10) → Typ names a p → Typ names b q → p ≠ 0 → q ≠ 0 → r ≠ 0 → (o = 8 → (num (mkE names f ws) b).num ≠ 0) →
   (cnt a ≤ 1000 → (p ≠ 0 → Ev (fun n => ref36_Eval n a names f (ws.map toF)) ⟨toF (num (mkE names f ws) a), false⟩) ∧ (p = 0 → Ev (fun n => ref36_Eval n a names f (ws.map toF)) ⟨zeroF, tru (mkE names f ws) a⟩)) →
   (cnt b ≤ 1000 → (q ≠ 0 → Ev (fun n => ref36_Eval n b names f (ws.map toF)) ⟨toF (num (mkE names f ws) b), false⟩) ∧ (q = 0 → Ev (fun n => ref36_Eval n b names f (ws.map toF)) ⟨zeroF, tru (mkE names f ws) b⟩)) →
   cnt ⟨o, 0, [], [a, b]⟩ ≤ 1000 →
   (r ≠ 0 → Ev (fun n => ref36_Eval n ⟨o, 0, [], [a, b]⟩ names f (ws.map toF)) ⟨toF (num (mkE names f ws) ⟨o, 0, [], [a, b]⟩), false⟩) ∧
   (r = 0 → Ev (fun n => ref36_Eval n ⟨o, 0, [], [a, b]⟩ names f (ws.map toF)) ⟨zeroF, tru (mkE names f ws) ⟨o, 0, [], [a, b]⟩⟩) := by
  intro o p q r a b ho ta tb hp hq hr h8 iha ihb hc
  rw [c2] at hc
  have sa := b5g hf hW hW2 hw hn ta hp (by omega)
  have sb := b5g hf hW hW2 hw hn tb hq (by omega)
  have wa := wle hW2 (show cnt a ≤ 1000 by omega)
  have wb := wle hW2 (show cnt b ≤ 1000 by omega)
  refine ⟨fun _ => ?_, fun h => absurd h hr⟩
  rw [num_two]
  have e : ∀ k : Int, (k = 11 ∨ k = 14 ∨ k = 15 ∨ k = 16) → (o == k) = false := fun k hk => by rw [beq_eq_false_iff_ne]; omega
  refine Ev.suc (fun n => a7y n _ _ _ _) (Ev.else rfl ?_)
  refine nd (rs := [⟨toF (num (mkE names f ws) a), false⟩, ⟨toF (num (mkE names f ws) b), false⟩]) (show (2 : Nat) ≤ 3 by decide) ⟨(iha (by omega)).1 hp, (ihb (by omega)).1 hq, trivial⟩ ?_
  refine Ev.else (e 11 (by decide)) (Ev.else (e 14 (by decide)) (Ev.else (e 15 (by decide)) (Ev.else (e 16 (by decide)) ?_)))
  exact Ev.step (a := ⟨toF (num (mkE names f ws) a), false⟩) rfl (Ev.step (a := ⟨toF (num (mkE names f ws) b), false⟩) rfl (Ev.bind (d5k sa sb (by omega) h8 ho) (Ev.pure _)))
 induction ht with
 | @num m h0 h1 =>
  intro _
  exact ⟨fun _ => lf (Ev.bind (hnum _) (Ev.then rfl (Ev.bind (b7f (x := m) (by omega) (by omega)) (Ev.pure _)))), fun h => (by cases h)⟩
 | @lifts s _ hs =>
  intro _
  have h5 := hf.l1 _ (c4c (0 : Int) hs hf.hl.symm)
  refine ⟨fun _ => lf (Ev.bind (hnum _) (Ev.else rfl (Ev.then rfl ?_))), fun h => (by cases h)⟩
  refine Ev.step (a := look names f.Lifts 0 s) (by rw [if_pos hs]; exact c3k 0 hs hf.hl.symm) ?_
  exact Ev.bind (b7f (x := look names f.Lifts 0 s) (by omega) (by omega)) (Ev.pure _)
 | pers =>
  intro _
  have h1 := hf.p1
  have h2 := hf.p2
  exact ⟨fun _ => lf (Ev.bind (hnum _) (Ev.else rfl (Ev.else rfl (Ev.then rfl (Ev.bind (b7f (x := f.Persons) (by omega) (by omega)) (Ev.pure _)))))), fun h => (by cases h)⟩
 | flats =>
  intro _
  have h1 := hf.f1
  have h2 := hf.f2
  exact ⟨fun _ => lf (Ev.bind (hnum _) (Ev.else rfl (Ev.else rfl (Ev.else rfl (Ev.then rfl (Ev.bind (b7f (x := f.Flats) (by omega) (by omega)) (Ev.pure _))))))), fun h => (by cases h)⟩
 | @wgt s _ hs =>
  intro _
  refine ⟨fun _ => lf (Ev.bind (hnum _) (Ev.else rfl (Ev.else rfl (Ev.else rfl (Ev.else rfl ?_))))), fun h => (by cases h)⟩
  refine Ev.step (a := toF (look names ws 0 s)) ?_ (Ev.pure _)
  rw [if_pos hs, ← c7g toF 0 (toF 0) hs hf.hw.symm]
  exact c3k (toF 0) hs (by show _ = (ws.map toF).length; rw [List.length_map]; exact hf.hw.symm)
 | @ari o a b p q ho ta tb hp hq iha ihb =>
  exact ari (by omega) ta tb hp hq (c8r p q) (fun h => by omega) iha ihb
 | @mul a b p q ta tb hp hq _ iha ihb =>
  exact ari (by omega) ta tb hp hq (c8r p q) (fun h => by omega) iha ihb
 | @div a m p ta hp h1 h2 iha =>
  refine ari (q := 1) (by omega) ta (Typ.num (by omega) h2) hp (by decide) hp (fun _ => ?_) iha ?_
  ·rw [num_num, Rat.num_intCast]; omega
  ·intro _
   exact ⟨fun _ => lf (Ev.bind (hnum _) (Ev.then rfl (Ev.bind (b7f (x := m) (by omega) (by omega)) (Ev.pure _)))), fun h => (by cases h)⟩
 | @ite c a b p q _ _ _ hp hq ihc iha ihb =>
  intro hc
  have hc3 : cnt ⟨11, 0, [], [c, a, b]⟩ = cnt c + cnt a + cnt b + 1 := by show cnt c + (cnt a + (cnt b + 0)) + 1 = _; omega
  rw [hc3] at hc
  have ec := (ihc (by omega)).2 rfl
  have ea := (iha (by omega)).1 hp
  have eb := (ihb (by omega)).1 hq
  refine ⟨fun _ => ?_, fun h => absurd h (c8r p q)⟩
  rw [num_ite]
  refine Ev.suc (fun n => a7y n _ _ _ _) (Ev.else rfl ?_)
  refine nd (rs := [⟨zeroF, tru (mkE names f ws) c⟩, ⟨toF (num (mkE names f ws) a), false⟩, ⟨toF (num (mkE names f ws) b), false⟩]) (show (3 : Nat) ≤ 3 by decide) ⟨ec, ea, eb, trivial⟩ ?_
  refine Ev.then rfl (Ev.step (a := ⟨zeroF, tru (mkE names f ws) c⟩) rfl ?_)
  cases tru (mkE names f ws) c with
  | true => exact Ev.then rfl (Ev.step (a := ⟨toF (num (mkE names f ws) a), false⟩) rfl (Ev.pure _))
  | false => exact Ev.else rfl (Ev.step (a := ⟨toF (num (mkE names f ws) b), false⟩) rfl (Ev.pure _))
 | @rel o a b ho ta tb iha ihb =>
  intro hc
  rw [c2] at hc
  have ea := (iha (by omega)).1 (by decide)
  have eb := (ihb (by omega)).1 (by decide)
  have sa := b5g hf hW hW2 hw hn ta (by decide) (by omega)
  have sb := b5g hf hW hW2 hw hn tb (by decide) (by omega)
  have wa := wle hW2 (show cnt a ≤ 1000 by omega)
  have wb := wle hW2 (show cnt b ≤ 1000 by omega)
  refine ⟨fun h => absurd rfl h, fun _ => ?_⟩
  rw [tru_two]
  refine Ev.suc (fun n => a7y n _ _ _ _) (Ev.else rfl ?_)
  refine nd (rs := [⟨toF (num (mkE names f ws) a), false⟩, ⟨toF (num (mkE names f ws) b), false⟩]) (show (2 : Nat) ≤ 3 by decide) ⟨ea, eb, trivial⟩ ?_
  have e : ∀ k : Int, (k ≤ 11 ∨ k = 14 ∨ k = 15 ∨ k = 16) → (o == k) = false := fun k hk => by rw [beq_eq_false_iff_ne]; omega
  refine Ev.else (e 11 (by decide)) (Ev.else (e 14 (by decide)) (Ev.else (e 15 (by decide)) (Ev.else (e 16 (by decide)) ?_)))
  refine Ev.step (a := ⟨toF (num (mkE names f ws) a), false⟩) rfl (Ev.step (a := ⟨toF (num (mkE names f ws) b), false⟩) rfl (Ev.bind (a := ⟨zeroF, rel o (vl (mkE names f ws) a) (vl (mkE names f ws) b)⟩) ?_ (Ev.pure _)))
  unfold b1k
  refine Ev.bind (a := (0, [], 0, [])) (Ev.else (e 5 (by decide)) (Ev.else (e 6 (by decide)) (Ev.else (e 7 (by decide)) (Ev.else (e 8 (by decide)) (Ev.else (e 9 (by decide)) (Ev.else (e 10 (by decide)) (Ev.pure _))))))) ?_
  have hcmp := QCompare_ev sa sb (by omega)
  rcases ho with rfl | rfl
  ·refine Ev.bind (a := decide (num (mkE names f ws) a < num (mkE names f ws) b)) (Ev.then rfl (Ev.bind hcmp ((Ev.pure _).eq ?_))) ?_
   ·rcases a7l (num (mkE names f ws) a) (num (mkE names f ws) b) with ⟨h1, h2⟩ | ⟨h1, h2⟩ | ⟨h1, h2⟩
    ·rw [h2, decide_eq_true h1]; rfl
    ·rw [h2, h1, decide_eq_false Rat.lt_irrefl]; rfl
    ·rw [h2, decide_eq_false (Rat.not_lt.2 (Rat.le_of_lt h1))]; rfl
   ·rw [b9p]
    show Ev _ (⟨zeroF, decide (num (mkE names f ws) a < num (mkE names f ws) b)⟩ : M.Result)
    cases decide (num (mkE names f ws) a < num (mkE names f ws) b) with
    | true => exact Ev.bind (Ev.then rfl (Ev.pure _)) (Ev.pure _)
    | false => exact Ev.bind (a := false) (Ev.else rfl (Ev.bind (a := false) (Ev.else rfl (Ev.pure _)) (Ev.pure _))) (Ev.pure _)
  ·refine Ev.bind (a := false) (Ev.else rfl (Ev.pure _)) ?_
   refine Ev.bind (a := decide (num (mkE names f ws) a = num (mkE names f ws) b)) (Ev.else rfl (Ev.bind (Ev.then rfl (Ev.bind hcmp (Ev.pure _))) ((Ev.pure _).eq ?_))) ?_
   ·exact d0k _ _
   ·rw [c6s]; exact Ev.pure _
 | @not a _ iha =>
  intro hc
  have h1 : cnt ⟨14, 0, [], [a]⟩ = cnt a + 0 + 1 := rfl
  refine ⟨fun h => absurd rfl h, fun _ => ?_⟩
  rw [tru_not]
  refine Ev.suc (fun n => a7y n _ _ _ _) (Ev.else rfl ?_)
  refine nd (rs := [⟨zeroF, tru (mkE names f ws) a⟩]) (show (1 : Nat) ≤ 3 by decide) ⟨(iha (by omega)).2 rfl, trivial⟩ ?_
  exact Ev.else rfl (Ev.then rfl (Ev.step (a := ⟨zeroF, tru (mkE names f ws) a⟩) rfl (Ev.pure _)))
 | @bin o a b ho _ _ iha ihb =>
  intro hc
  rw [c2] at hc
  have ea := (iha (by omega)).2 rfl
  have eb := (ihb (by omega)).2 rfl
  refine ⟨fun h => absurd rfl h, fun _ => ?_⟩
  rw [tru_two]
  refine Ev.suc (fun n => a7y n _ _ _ _) (Ev.else rfl ?_)
  refine nd (rs := [⟨zeroF, tru (mkE names f ws) a⟩, ⟨zeroF, tru (mkE names f ws) b⟩]) (show (2 : Nat) ≤ 3 by decide) ⟨ea, eb, trivial⟩ ?_
  rcases ho with rfl | rfl
  ·refine Ev.else rfl (Ev.else rfl (Ev.then rfl ?_))
   refine Ev.step (a := ⟨zeroF, tru (mkE names f ws) a⟩) rfl ?_
   show Ev _ (⟨zeroF, tru (mkE names f ws) a && tru (mkE names f ws) b⟩ : M.Result)
   cases tru (mkE names f ws) a with
   | true => exact Ev.bind (Ev.then rfl (Ev.step (a := ⟨zeroF, tru (mkE names f ws) b⟩) rfl (Ev.pure _))) (Ev.pure _)
   | false => exact Ev.bind (Ev.else rfl (Ev.pure _)) (Ev.pure _)
  ·refine Ev.else rfl (Ev.else rfl (Ev.else rfl (Ev.then rfl ?_)))
   refine Ev.step (a := ⟨zeroF, tru (mkE names f ws) a⟩) rfl ?_
   show Ev _ (⟨zeroF, tru (mkE names f ws) a || tru (mkE names f ws) b⟩ : M.Result)
   cases tru (mkE names f ws) a with
   | true => exact Ev.bind (Ev.then rfl (Ev.pure _)) (Ev.pure _)
   | false => exact Ev.bind (Ev.else rfl (Ev.step (a := ⟨zeroF, tru (mkE names f ws) b⟩) rfl (Ev.pure _))) (Ev.pure _)
end
theorem c8m {t : Tariff} {names : List Rt.Bs} {f : Facts} {weights : List Frac} {v : Rat} (hc : -1 ≤ t.Cap ∧ t.Cap ≤ 1099511627776) (hv : SmF 3000 v) (h : Ev (fun n => a6e n t names f weights) (toF v, 0)) :
  Ev (fun n => a7x n t names f weights) (toF (capV t.Cap v), 0) := by
 unfold a7x
 refine Ev.bind h (Ev.else rfl ?_)
 have hi := c5r (x := t.Cap) (by omega) (by omega)
 have hs : SmF 4 (t.Cap : Rat) := smI (by omega) (by omega) (by decide)
 unfold capV
 have rest : ¬(t.Cap ≠ -1 ∧ (t.Cap : Rat) < v) → Ev (fun n => (a8j n (toF v)).bind fun v4 => bif decide (v4 < 0) then (a6t n 0).bind fun v5 => some (v5, (0 : Int)) else some (toF v, 0)) (toF (if v < 0 then 0 else if t.Cap ≠ -1 ∧ (t.Cap : Rat) < v then (t.Cap : Rat) else v), 0) := by
  intro h5
  rw [if_neg h5]
  refine Ev.bind (QSign_ev hv (by decide)) ?_
  rw [b7y]
  by_cases h0 : v < 0
  ·rw [if_pos h0]
   exact Ev.then (decide_eq_true h0) (Ev.bind (c5r (x := 0) (by decide) (by decide)) (Ev.pure _))
  ·rw [if_neg h0]
   exact Ev.else (decide_eq_false h0) (Ev.pure _)
 by_cases hn : t.Cap = -1
 ·exact Ev.bind (a := false) (Ev.else (by rw [hn]; rfl) (Ev.pure _)) (Ev.else rfl (rest fun h => h.1 hn))
 ·refine Ev.bind (a := decide ((t.Cap : Rat) < v)) (Ev.then (by simpa using hn) (Ev.bind hi (Ev.bind (QCompare_ev hv hs (by decide)) ((Ev.pure _).eq ?_)))) ?_
  ·rcases a7l v (t.Cap : Rat) with ⟨h1, h2⟩ | ⟨h1, h2⟩ | ⟨h1, h2⟩
   ·rw [h2, decide_eq_false (p := (t.Cap : Rat) < v) (Rat.not_lt.2 (Rat.le_of_lt h1))]; rfl
   ·rw [h2, ← h1, decide_eq_false (p := v < v) Rat.lt_irrefl]; rfl
   ·rw [h2, decide_eq_true h1]; rfl
  ·by_cases h1 : (t.Cap : Rat) < v
   ·have h2 : (0 : Rat) ≤ (t.Cap : Rat) := Rat.intCast_le_intCast.2 (show (0 : Int) ≤ t.Cap by omega)
    rw [if_neg (Rat.not_lt.2 (Rat.le_of_lt (by grind))), if_pos ⟨hn, h1⟩]
    exact Ev.then (decide_eq_true h1) (Ev.bind hi (Ev.pure _))
   ·exact Ev.else (decide_eq_false h1) (rest fun h => h1 h.2)
theorem c6k {t : Tariff} {names : List Rt.Bs} {f : Facts} {weights : List Frac} {e : Int} (he : e ≠ 0) (h : Ev (fun n => a6e n t names f weights) (zeroF, e)) :
  Ev (fun n => a7x n t names f weights) (zeroF, e) := by
 unfold a7x
 exact Ev.bind h (Ev.then (by simpa using he) (Ev.pure _))
theorem d4a {names : List Rt.Bs} {f : Facts} {t : Tariff} (hx : Fit t.Fee) (hn : names.length < 4611686018427387904) {weights : List Frac} {k : Nat} (hw : Lim k weights) (hk : k ≤ 30) (hk4 : 4 ≤ k) (hl : f.Lifts.length ≤ 1000000) (hwl : weights.length ≤ 1000000) :
  (∃ v, SmF 3000 v ∧ (-1 ≤ t.Cap ∧ t.Cap ≤ 1099511627776) ∧ Ev (fun n => a7h n t names f weights) (toF v, 0) ∧ Ev (fun n => a6e n t names f weights) (toF v, 0)) ∨
  (∃ e, e ≠ 0 ∧ Ev (fun n => a7h n t names f weights) (zeroF, e) ∧ Ev (fun n => a6e n t names f weights) (zeroF, e)) := by
 obtain ⟨e, e1, e2⟩ := d5j hx names hn
 obtain ⟨e', e1', hq⟩ := d5i hx names hn
 obtain rfl := e1.uniq e1'
 by_cases he : e = 0
 ·subst he
  have hc := hq.1 rfl
  obtain ⟨b1, b2, r1, r2, hb⟩ := d7o (names := names) hw hk hl hwl
  have hr := d2i (names := names) hw hk hl hwl
  cases h : c0o names f weights with
  | true =>
   left
   obtain ⟨ws, rfl, hrf, hsm⟩ := c8f hw h
   obtain ⟨j, hj, ht⟩ := hc.2.2
   have hcn : cnt t.Fee ≤ 100 := hc.2.1.2.1.1.2
   have h5 := c9f hrf hk4 hk hsm hn ht hj (by omega)
   have h6 := b5g hrf hk4 hk hsm hn ht hj (by omega)
   have h7 : k * cnt t.Fee ≤ 3000 := by have := Nat.mul_le_mul hk hcn; omega
   have h8 := h6.mono h7
   have h9 := (d4k hrf hk4 hk hsm hn ht (by omega)).1 hj
   rw [h] at hb hr
   have hb1 : b1 = true := by cases b1 <;> simp at hb ⊢
   have hb2 : b2 = true := by cases b2 <;> simp at hb ⊢
   subst hb1 hb2
   refine ⟨num (mkE names f ws) t.Fee, h8, hc.2.1.2.2, ?_, ?_⟩
   ·unfold a7h
    exact Ev.bind e1 (Ev.else rfl (Ev.bind hr (Ev.else rfl (Ev.bind h5 (Ev.bind (d1s h8 (by decide)) (Ev.pure _))))))
   ·unfold a6e
    exact Ev.bind e2 (Ev.else rfl (Ev.bind r1 (Ev.bind (a := false) (Ev.else rfl (Ev.bind r2 (Ev.pure _))) (Ev.else rfl (Ev.bind h9 (Ev.pure _))))))
  | false =>
   right
   rw [h] at hb hr
   refine ⟨1, by decide, ?_, ?_⟩
   ·unfold a7h
    exact Ev.bind e1 (Ev.else rfl (Ev.bind hr (Ev.then rfl (Ev.pure _))))
   ·unfold a6e
    refine Ev.bind e2 (Ev.else rfl (Ev.bind r1 ?_))
    cases b1 with
    | false => exact Ev.bind (a := true) (Ev.then rfl (Ev.pure _)) (Ev.then rfl (Ev.pure _))
    | true =>
     have hb2 : b2 = false := by cases b2 <;> simp at hb ⊢
     subst hb2
     exact Ev.bind (a := true) (Ev.else rfl (Ev.bind r2 (Ev.pure _))) (Ev.then rfl (Ev.pure _))
 ·right
  refine ⟨e, he, ?_, ?_⟩
  ·unfold a7h
   exact Ev.bind e1 (Ev.then (by simpa using he) (Ev.pure _))
  ·unfold a6e
   exact Ev.bind e2 (Ev.then (by simpa using he) (Ev.pure _))
end Go.Proofs.YtknpjecpcmajiaaGreat.Fe

namespace Go.Proofs.YtknpjecpcmajiaaGreat.Fe
open Go Rt M Ta Tp D
theorem tells_ev (t : Tariff) (names : List Rt.Bs) (f : Facts) (weights : List Frac) : Ev (fun n => b0w n t names f weights) true := by
 unfold b0w
 refine Ev.bind small36 ?_
 obtain ⟨b, hb, hq⟩ := d7g t names f weights
 refine Ev.bind hb ?_
 cases b with
 | false => exact Ev.then rfl (Ev.pure _)
 | true =>
 refine Ev.else rfl ?_
 have s1 := hq rfl
 have n8 := s1.nl
 have l8 := s1.ll
 have w8 := s1.wl
 rcases d4a s1.fit (show names.length < _ by omega) s1.lim (by decide) (by decide) (show f.Lifts.length ≤ _ by omega) (by omega) with ⟨v, hv, hc, e1, e2⟩ | ⟨e, he, e1, e2⟩
 ·refine Ev.bind e1 (Ev.bind e2 (Ev.bind (c9o hc hv e1) (Ev.bind (c8m hc hv e2) ?_)))
  refine Ev.bind (a := true) (Ev.then rfl (Ev.pure _)) (Ev.bind (a := true) (Ev.then rfl (Ev.pure _)) ?_)
  refine Ev.bind (a := true) (Ev.then rfl (Ev.bind (c2j hv (by decide) rfl) (Ev.pure _))) ?_
  have hcs : SmF 3000 (capV t.Cap v) := by
   unfold capV
   split
   ·exact smI (x := 0) (by decide) (by decide) (by decide)
   ·split
    ·exact smI (by omega) (by omega) (by decide)
    ·exact hv
  exact Ev.bind (a := true) (Ev.then rfl (Ev.bind (c2j hcs (by decide) rfl) (Ev.pure _))) (Ev.pure _)
 ·have hz : Ev (fun n => a6a n zeroF zeroF) true := (c4w (f := zeroF) (g := zeroF) (by decide) (by decide)).eq rfl
  refine Ev.bind e1 (Ev.bind e2 (Ev.bind (c8g he e1) (Ev.bind (c6k he e2) ?_)))
  refine Ev.bind (a := true) (Ev.then rfl ((Ev.pure _).eq (beq_self_eq_true e))) (Ev.bind (a := true) (Ev.then rfl ((Ev.pure _).eq (beq_self_eq_true e))) ?_)
  refine Ev.bind (a := true) (Ev.then rfl (Ev.bind hz (Ev.pure _))) ?_
  exact Ev.bind (a := true) (Ev.then rfl (Ev.bind hz (Ev.pure _))) (Ev.pure _)
end Go.Proofs.YtknpjecpcmajiaaGreat.Fe

namespace Go.Proofs.YtknpjecpcmajiaaGreat.FeeTells
open Go Go.ChangeShapes Go.WideShapes Go.ChangeAt Go.RowKit Rt Wrap
set_option maxRecDepth 100000 in
theorem d2q (H : Type) (enc : TypeId × Value → H) (W : World) (base : Nat) (args : Array Value) (ds gs : List (DataW H)) (before : List MemPlace)
  (hval : ∀ (j : Nat) t v, Tryz.f3.params[j]? = some t → args[j]? = some v → Value.okWide Tryz.prog W .any base t v)
  (hW : DataW.Whole enc Tryz.prog Tryz.f3.params.toList Rows.feeTellsSpec.vars false W args.toList ds gs before) (_hL : laidMetH Tryz.prog tabs W) :
  Calls Tryz.prog 3 args W fun e W' => ∃ v, e = .returned v ∧ Rows.feeTellsSpec.post enc Tryz.prog Tryz.f3 false true false false W args v W' := by
 have hW' := hW
 obtain ⟨p, q, hA0, hV, rfl, hfz, hnd⟩ := hW
 have hA : DataW.TrodAll enc Tryz.prog W 0 (fun _ => true) true Tryz.f3.params.toList args.toList ds p := hA0
 rw [Tryz.params3] at hA hval
 obtain ⟨v0, vs0, d0, ds0, p0, q0, hargs, rfl, rfl, h0, r0⟩ := trodAll_cons hA
 obtain ⟨v1, vs1, d1, ds1, p1, q1, rfl, rfl, rfl, h1, r1⟩ := trodAll_cons r0
 obtain ⟨v2, vs2, d2, ds2, p2, q2, rfl, rfl, rfl, h2, r2⟩ := trodAll_cons r1
 obtain ⟨v3, vs3, d3, ds3, p3, q3, rfl, rfl, rfl, h3, r3⟩ := trodAll_cons r2
 obtain ⟨rfl, rfl, rfl⟩ := trodAll_nil r3
 obtain rfl : args = #[v0, v1, v2, v3] := by cases args; simp_all
 obtain ⟨rfl, rfl⟩ := trodVars_none hV
 obtain ⟨cs0, rfl, hsz0⟩ := okWide_struct Tryz.underlying26 (hval 0 26 v0 rfl rfl)
 obtain ⟨y0, hr0, ho0⟩ := c4d (d3m W) h0
 obtain ⟨ax0_4, nx0_4, cx0_4, he0, sx0_4⟩ := hr0
 have he0' : cs0.toList = [vs y0.Name, .int .i64 y0.Fee.Op, .int .i64 y0.Fee.N, vs y0.Fee.Name, .slice ax0_4 nx0_4 cx0_4, .int .i64 y0.Cap] := he0
 obtain rfl : cs0 = #[vs y0.Name, .int .i64 y0.Fee.Op, .int .i64 y0.Fee.N, vs y0.Fee.Name, .slice ax0_4 nx0_4 cx0_4, .int .i64 y0.Cap] := by rw [← Array.toArray_toList (xs := cs0), he0']
 obtain ⟨a1, n1, c1, l1, rfl, hl1, ho1⟩ := d0w Tryz.underlying27 (d3o W) (hval 1 27 v1 rfl rfl) h1
 obtain ⟨cs2, rfl, hsz2⟩ := okWide_struct Tryz.underlying30 (hval 2 30 v2 rfl rfl)
 obtain ⟨y2, hr2, ho2⟩ := c4d (d4o W) h2
 obtain ⟨ax2_0, nx2_0, cx2_0, he2, sx2_0⟩ := hr2
 have he2' : cs2.toList = [.slice ax2_0 nx2_0 cx2_0, .int .i64 y2.Persons, .int .i64 y2.Flats] := he2
 obtain rfl : cs2 = #[.slice ax2_0 nx2_0 cx2_0, .int .i64 y2.Persons, .int .i64 y2.Flats] := by rw [← Array.toArray_toList (xs := cs2), he2']
 obtain ⟨a3, n3, c3, l3, rfl, hl3, ho3⟩ := d0w Tryz.underlying31 (d4n W) (hval 3 31 v3 rfl rfl) h3
 obtain ⟨N, hN⟩ := Fe.tells_ev y0 l1 y2 l3
 refine (M.law36_FeeTells_ok N y0 l1 y2 l3 true (hN N (Nat.le_refl N)) (d5d W) sx0_4 hl1 sx2_0 hl3).mono ?_
 rintro e W' ⟨v, F', O', rfl, hh, rfl, rfl⟩
 refine ⟨_, rfl, c8x laidOut ?_ rfl (by kernel_rfl) Tryz.underlying4 rfl hW' hh.below⟩
 rw [Tryz.params3]
 intro t ht
 have ht : t ∈ [26, 27, 30, 31] := ht
 rcases List.mem_cons.1 ht with rfl | ht
 ·exact ⟨by kernel_rfl, of_decide_eq_true (by kernel_rfl)⟩
 rcases List.mem_cons.1 ht with rfl | ht
 ·exact ⟨by kernel_rfl, of_decide_eq_true (by kernel_rfl)⟩
 rcases List.mem_cons.1 ht with rfl | ht
 ·exact ⟨by kernel_rfl, of_decide_eq_true (by kernel_rfl)⟩
 rcases List.mem_cons.1 ht with rfl | ht
 ·exact ⟨by kernel_rfl, of_decide_eq_true (by kernel_rfl)⟩
 exact absurd ht (List.not_mem_nil)
theorem reads (os : Os) {H : Type} (enc : TypeId × Value → H) : ∃ places, DataW.whole enc Tryz.prog ((c0k os).forCall (fun _ _ => 0) ⟨#[], #[.agg #[.string ⟨#[]⟩, .int .i64 0, .int .i64 0, .string ⟨#[]⟩, .slice none 0 0, .int .i64 0], .slice none 0 0, .agg #[.slice none 0 0, .int .i64 0, .int .i64 0], .slice none 0 0], []⟩).memory Tryz.f3.params.toList Rows.feeTellsSpec.vars false (#[.agg #[.string ⟨#[]⟩, .int .i64 0, .int .i64 0, .string ⟨#[]⟩, .slice none 0 0, .int .i64 0], .slice none 0 0, .agg #[.slice none 0 0, .int .i64 0, .int .i64 0], .slice none 0 0] : Array Value).toList 8 = some ([.agg [.lit (.string []), .agg [.lit (.int .i64 0), .lit (.int .i64 0), .lit (.string []), .nil], .lit (.int .i64 0)], .nil, .agg [.nil, .lit (.int .i64 0), .lit (.int .i64 0)], .nil], [], places) :=
 ⟨[], by kernel_rfl⟩
set_option maxRecDepth 100000 in
theorem d6w (os : Os) (started : os.Started) (H : Type) (enc : TypeId × Value → H) (F : Stop.Interp) :
  ReturnsInHanded {} Tryz.checked os 3 .any ((OpenSpec.ofChange Rows.feeTellsSpec).preRow enc Tryz.prog Tryz.f3 Rows.feeTellsRow.domain false Rows.feeTellsRow.laid) (((OpenSpec.ofChange Rows.feeTellsSpec).at F).post enc Tryz.prog Tryz.f3 false true false false) := by
 obtain ⟨places, hx⟩ := reads os enc
 refine returnsInHanded_of_row (C := Tryz.checked) (s := OpenSpec.ofChange Rows.feeTellsSpec) own started (by kernel_rfl) Tryz.func3
  (witness_row_at (enc := enc) (C := Tryz.checked) false (c0k os) #[.agg #[.string ⟨#[]⟩, .int .i64 0, .int .i64 0, .string ⟨#[]⟩, .slice none 0 0, .int .i64 0], .slice none 0 0, .agg #[.slice none 0 0, .int .i64 0, .int .i64 0], .slice none 0 0] rfl (by kernel_rfl) (by kernel_rfl) (by kernel_rfl)
   (OpenSpec.preRow_of_cond 8 hx (by kernel_rfl) (fun k hk => by cases hk) (by kernel_rfl) (d2h os _))) ?_
 intro W base args ds gs before hval hW _ _ _ hL _ _
 exact d2q H enc W base args ds gs before hval hW hL
theorem said : Rows.FeeTellsSaid :=
 OpenClaim.holds_of_cond 3 Tryz.f3 rfl rfl rfl rfl rfl rfl rfl ⟨rfl, rfl, rfl, rfl, rfl⟩ rfl rfl rfl rfl rfl (by kernel_rfl) Tryz.func3 (by kernel_rfl)
  (of_decide_eq_true (by kernel_rfl)) (by unfold Func.isWrapper; first | (rw [if_pos (by decide +kernel)]; kernel_rfl) | (rw [if_neg (by decide +kernel)]; exact ⟨rfl, rfl⟩))
  (fun os started H enc _ F => by rw [OpenClaim.pre_eq_preRow]; exact d6w os started H enc F)
end Go.Proofs.YtknpjecpcmajiaaGreat.FeeTells

