/-
  THE BIG INTEGERS' FUNCTIONS, as arithmetic, second part: division, the greatest common divisor, the order, equality, ints.
-/
import Derived.Test.YtaanocaobllohaaGreatDoorBigS
namespace Go.Proofs.YtaanocaobllohaaGreatDoor.D
open Go Rt M

/- the quotient and the remainder -/
def odd (x y : Int) : Bool := decide (x * y < 0) && decide (x.natAbs % y.natAbs ≠ 0)
def dq (x y : Int) : Int := if odd x y then -((x.natAbs / y.natAbs : Nat) + 1 : Int) else sg (x * y) * (x.natAbs / y.natAbs : Nat)
def dr (x y : Int) : Int := if odd x y then sg y * ((y.natAbs - x.natAbs % y.natAbs : Nat) : Int) else sg x * ((x.natAbs % y.natAbs : Nat) : Int)
theorem mul_neg_iff {x y : Int} : x * y < 0 ↔ (x < 0 ∧ 0 < y) ∨ (0 < x ∧ y < 0) := by
  rcases sg_cases x with ⟨h1, h2⟩ | ⟨h1, h2⟩ | ⟨h1, h2⟩ <;> rcases sg_cases y with ⟨h3, h4⟩ | ⟨h3, h4⟩ | ⟨h3, h4⟩
  · have := Int.mul_pos_of_neg_of_neg h1 h3; omega
  · subst h3; simp
  · have := Int.mul_neg_of_neg_of_pos h1 h3; omega
  · subst h1; simp
  · subst h1; simp
  · subst h1; simp
  · have := Int.mul_neg_of_pos_of_neg h1 h3; omega
  · subst h3; simp
  · have := Int.mul_pos h1 h3; omega
theorem dq_dr {x y : Int} (hy : y ≠ 0) : dq x y * y + dr x y = x ∧ (dr x y = 0 ∨ sg (dr x y) = sg y) ∧ (dr x y).natAbs < y.natAbs := by
  have hyn : 0 < y.natAbs := by omega
  have h1 := Nat.div_add_mod x.natAbs y.natAbs
  have h2 := Nat.mod_lt x.natAbs hyn
  have h1' : (y.natAbs : Int) * ((x.natAbs / y.natAbs : Nat) : Int) + ((x.natAbs % y.natAbs : Nat) : Int) = x.natAbs := by rw [← Int.natCast_mul]; omega
  generalize hq : x.natAbs / y.natAbs = q at *
  generalize hr : x.natAbs % y.natAbs = r at *
  unfold dq dr odd
  rw [hq, hr]
  by_cases ho : x * y < 0
  · by_cases hr0 : r = 0
    · rw [show (decide (x * y < 0) && decide (r ≠ 0)) = false by simp [hr0]]
      simp only [if_neg Bool.false_ne_true]
      rw [hr0] at h1' ⊢
      rw [sg_neg ho]
      simp only [Int.natCast_zero, Int.mul_zero, Int.add_zero] at h1' ⊢
      refine ⟨?_, .inl trivial, by omega⟩
      rcases mul_neg_iff.1 ho with ⟨a, b⟩ | ⟨a, b⟩
      · have e : (y.natAbs : Int) = y := by omega
        rw [e] at h1'
        have : -1 * (q : Int) * y = -(y * q) := by grind
        omega
      · have e : (y.natAbs : Int) = -y := by omega
        rw [e] at h1'
        have : -1 * (q : Int) * y = -y * q := by grind
        omega
    · rw [show (decide (x * y < 0) && decide (r ≠ 0)) = true by simp [hr0, ho]]
      simp only [if_true]
      rcases mul_neg_iff.1 ho with ⟨a, b⟩ | ⟨a, b⟩
      · have e : (y.natAbs : Int) = y := by omega
        rw [e] at h1'
        rw [sg_pos b]
        have : -((q : Int) + 1) * y = -(y * q) - y := by grind
        exact ⟨by omega, .inr (by rw [sg_pos (by omega)]), by omega⟩
      · have e : (y.natAbs : Int) = -y := by omega
        rw [e] at h1'
        rw [sg_neg b]
        have : -((q : Int) + 1) * y = -y * q - y := by grind
        exact ⟨by omega, .inr (by rw [sg_neg (by omega)]), by omega⟩
  · rw [show (decide (x * y < 0) && decide (r ≠ 0)) = false by simp [ho]]
    simp only [if_neg Bool.false_ne_true]
    rcases sg_cases x with ⟨a, b⟩ | ⟨a, b⟩ | ⟨a, b⟩ <;> rcases sg_cases y with ⟨c, d⟩ | ⟨c, d⟩ | ⟨c, d⟩
    · rw [sg_mul, b, d]
      have e : (y.natAbs : Int) = -y := by omega
      rw [e] at h1'
      have : -1 * -1 * (q : Int) * y = -(-y * q) := by grind
      refine ⟨by omega, ?_, by omega⟩
      by_cases hr0 : r = 0
      · left; omega
      · right; rw [sg_neg (by omega)]
    · exact absurd c hy
    · exact absurd (mul_neg_iff.2 (.inl ⟨a, c⟩)) ho
    · rw [sg_mul, b]; subst a
      have : r = 0 := by rw [← hr]; simp
      refine ⟨?_, .inl (by omega), by omega⟩
      simp
    · exact absurd c hy
    · rw [sg_mul, b]; subst a
      refine ⟨?_, .inl (by omega), by omega⟩
      simp
    · exact absurd (mul_neg_iff.2 (.inr ⟨a, c⟩)) ho
    · exact absurd c hy
    · rw [sg_mul, b, d]
      have e : (y.natAbs : Int) = y := by omega
      rw [e] at h1'
      have : 1 * 1 * (q : Int) * y = y * q := by grind
      refine ⟨by omega, ?_, by omega⟩
      by_cases hr0 : r = 0
      · left; omega
      · right; rw [sg_pos (by omega)]

theorem dq_odd {x y : Int} (ho : odd x y = true) : (dq x y).natAbs = x.natAbs / y.natAbs + 1 ∧ sg (dq x y) = -1 := by
  unfold dq; rw [if_pos ho]
  generalize x.natAbs / y.natAbs = q
  exact ⟨by omega, sg_neg (by omega)⟩
theorem dr_odd {x y : Int} (hy : y ≠ 0) (ho : odd x y = true) : (dr x y).natAbs = y.natAbs - x.natAbs % y.natAbs ∧ sg (dr x y) = sg y := by
  unfold dr; rw [if_pos ho]
  have h := Nat.mod_lt x.natAbs (show y.natAbs > 0 by omega)
  generalize x.natAbs % y.natAbs = r at *
  rcases sg_cases y with ⟨h1, h2⟩ | ⟨h1, h2⟩ | ⟨h1, h2⟩ <;> rw [h2]
  · exact ⟨by omega, sg_neg (by omega)⟩
  · exact absurd h1 hy
  · exact ⟨by omega, sg_pos (by omega)⟩
theorem dq_even {x y : Int} (hy : y ≠ 0) (ho : ¬odd x y = true) : (dq x y).natAbs = x.natAbs / y.natAbs ∧ (x.natAbs / y.natAbs ≠ 0 → sg (x * y) = sg (dq x y)) := by
  unfold dq; rw [if_neg ho]
  rcases sg_cases (x * y) with ⟨h1, h2⟩ | ⟨h1, h2⟩ | ⟨h1, h2⟩ <;> rw [h2]
  · generalize x.natAbs / y.natAbs = q
    exact ⟨by omega, fun _ => by rw [sg_neg (by omega)]⟩
  · have h3 : x = 0 := by
      rcases Int.mul_eq_zero.1 h1 with h4 | h4
      · exact h4
      · exact absurd h4 hy
    subst h3
    rw [show (0 : Int).natAbs = 0 from rfl, Nat.zero_div]
    exact ⟨rfl, fun h => absurd rfl h⟩
  · generalize x.natAbs / y.natAbs = q
    exact ⟨by omega, fun _ => by rw [sg_pos (by omega)]⟩
theorem dr_even {x y : Int} (ho : ¬odd x y = true) : (dr x y).natAbs = x.natAbs % y.natAbs ∧ (x.natAbs % y.natAbs ≠ 0 → sg x = sg (dr x y)) := by
  unfold dr; rw [if_neg ho]
  rcases sg_cases x with ⟨h1, h2⟩ | ⟨h1, h2⟩ | ⟨h1, h2⟩ <;> rw [h2]
  · generalize x.natAbs % y.natAbs = r
    exact ⟨by omega, fun _ => by rw [sg_neg (by omega)]⟩
  · subst h1
    rw [show (0 : Int).natAbs = 0 from rfl, Nat.zero_mod]
    exact ⟨rfl, fun h => absurd rfl h⟩
  · generalize x.natAbs % y.natAbs = r
    exact ⟨by omega, fun _ => by rw [sg_pos (by omega)]⟩

theorem dig_one : dig 1 = [1] := by rw [dig_pos (by decide), show 1 / 1048576 = 0 from rfl, dig_zero]; rfl

theorem Div_ev {x y : Int} {k : Nat} (hx : Sm k x) (hy : Sm k y) (hk : k < 8388608) (hy0 : y ≠ 0) : Ev (fun n => big_Div n (toB x) (toB y)) (toB (dq x y), toB (dr x y), 0) := by
  have lx := len_of_sm hx
  have ly := len_of_sm hy
  have hyn : y.natAbs ≠ 0 := by omega
  have hmod := Nat.mod_lt x.natAbs (show y.natAbs > 0 by omega)
  have hdivle : x.natAbs / y.natAbs ≤ x.natAbs := Nat.div_le_self _ _
  have lq := len_mono hdivle
  have lr := len_mono (Nat.le_of_lt hmod)
  have lq1 : (dig (x.natAbs / y.natAbs + 1)).length ≤ k + 1 := by
    have h : Sm (k + 1) ((x.natAbs / y.natAbs + 1 : Nat) : Int) := by
      generalize x.natAbs / y.natAbs = q at *
      unfold Sm at *
      rw [Int.natAbs_natCast]
      simp only [pw]; have := pw_pos k; omega
    have := len_of_sm h
    rwa [Int.natAbs_natCast] at this
  have ls := len_mono (show y.natAbs - x.natAbs % y.natAbs ≤ y.natAbs by omega)
  unfold big_Div
  refine Ev.bind (Right_toB hx (by omega)) ?_
  refine Ev.bind (a := false) (Ev.else rfl (Ev.bind (Right_toB hy (by omega)) (Ev.pure _))) ?_
  refine Ev.else rfl ?_
  refine Ev.else (by show (sg y == 0) = false; rcases sg_cases y with h | h | h <;> first | (rw [h.2]; rfl) | omega) ?_
  refine Ev.bind (div_ev (x := x.natAbs) (y := y.natAbs) hyn (by omega) (by omega)) ?_
  refine Ev.step (a := odd x y) (by
    show (bif decide (imul .i64 (sg x) (sg y) < 0) then some (decide (0 < ((dig (x.natAbs % y.natAbs)).length : Int))) else some false) = _
    rw [imul_sg]
    unfold odd
    have e1 : decide (sg (x * y) < 0) = decide (x * y < 0) := by
      rcases sg_cases (x * y) with ⟨h1, h2⟩ | ⟨h1, h2⟩ | ⟨h1, h2⟩ <;> rw [h2] <;> simp <;> omega
    have e2 : decide (0 < ((dig (x.natAbs % y.natAbs)).length : Int)) = decide (x.natAbs % y.natAbs ≠ 0) := by
      by_cases h : x.natAbs % y.natAbs = 0
      · rw [h, dig_zero]; rfl
      · have := dig_ne h
        have h3 : 0 < (dig (x.natAbs % y.natAbs)).length := List.length_pos_iff.2 this
        simp [h]; omega
    rw [e1, e2]
    cases decide (x * y < 0) <;> rfl) ?_
  by_cases ho : odd x y = true
  · refine Ev.then ho ?_
    refine Ev.bind (a := dig (x.natAbs / y.natAbs + 1)) (by
      have := add_nat (x.natAbs / y.natAbs) 1 (by omega) (by rw [dig_one]; simp)
      rwa [dig_one] at this) ?_
    refine Ev.bind (signed_ev (-1) (by omega)) ?_
    refine Ev.bind (sub_nat y.natAbs (x.natAbs % y.natAbs) (by omega) (by omega)) ?_
    refine Ev.bind (signed_ev (sg y) (by omega)) ?_
    refine (Ev.pure _).eq ?_
    rw [signed_toB (dq x y) (dq_odd ho).1 (fun _ => (dq_odd ho).2.symm), signed_toB (dr x y) (dr_odd hy0 ho).1 (fun _ => (dr_odd hy0 ho).2.symm)]
  · refine Ev.else (by simpa using ho) ?_
    refine Ev.bind (signed_ev (imul .i64 (sg x) (sg y)) (by omega)) ?_
    refine Ev.bind (signed_ev (sg x) (by omega)) ?_
    refine (Ev.pure _).eq ?_
    rw [imul_sg, signed_toB (dq x y) (dq_even hy0 ho).1 (dq_even hy0 ho).2, signed_toB (dr x y) (dr_even ho).1 (dr_even ho).2]

/- gcd -/
theorem Gcd_L (v : Nat) : ∀ (u : Nat), (dig u).length < 16777216 → (dig v).length < 16777216 → ∃ N, ∀ n, N ≤ n → ∀ (kont : List Int → Option (Big × Int)) m, v < m → big_Gcd_L1 n kont m (dig u) (dig v) = kont (dig (Nat.gcd u v)) := by
  induction v using Nat.strongRecOn with
  | ind v ih =>
    intro u hu hv
    by_cases h : v = 0
    · subst h
      refine ⟨0, fun n _ kont m hm => ?_⟩
      obtain ⟨m, rfl⟩ : ∃ m', m = m' + 1 := ⟨m - 1, by omega⟩
      rw [big_Gcd_L1_s, dig_zero, Nat.gcd_zero_right]; rfl
    · have hlt := Nat.mod_lt u (show v > 0 by omega)
      obtain ⟨N1, h1⟩ := div_ev (x := u) (y := v) h hu hv
      obtain ⟨N2, h2⟩ := ih (u % v) hlt v hv (by have := len_mono (Nat.le_of_lt hlt); omega)
      refine ⟨max N1 N2, fun n hn kont m hm => ?_⟩
      obtain ⟨m, rfl⟩ : ∃ m', m = m' + 1 := ⟨m - 1, by omega⟩
      have h3 : 0 < (dig v).length := List.length_pos_iff.2 (dig_ne h)
      rw [big_Gcd_L1_s, show decide (0 < ((dig v).length : Int)) = true by simp; omega, cond_true, (show big_div n (dig u) (dig v) = _ from h1 n (by omega)), Option.bind_some]
      show big_Gcd_L1 n kont m (dig v) (dig (u % v)) = _
      rw [h2 n (by omega) kont m (by omega), Nat.gcd_comm v, ← Nat.gcd_rec, Nat.gcd_comm]
theorem Gcd_ev {x y : Int} {k : Nat} (hx : Sm k x) (hy : Sm k y) (hk : k < 8388608) : Ev (fun n => big_Gcd n (toB x) (toB y)) (toB (Nat.gcd x.natAbs y.natAbs : Nat), 0) := by
  have lx := len_of_sm hx
  have ly := len_of_sm hy
  have lg : (dig (Nat.gcd x.natAbs y.natAbs)).length < 16777216 := by
    by_cases h : x.natAbs = 0
    · rw [h, Nat.gcd_zero_left]; omega
    · have := len_mono (Nat.gcd_le_left y.natAbs (show 0 < x.natAbs by omega)); omega
  unfold big_Gcd
  refine Ev.bind (Right_toB hx (by omega)) ?_
  refine Ev.bind (a := false) (Ev.else rfl (Ev.bind (Right_toB hy (by omega)) (Ev.pure _))) ?_
  refine Ev.else rfl ?_
  refine Ev.bind (clone_ev (a := (toB x).Digits) (by simp only [toB]; omega)) ?_
  obtain ⟨N, hN⟩ := Gcd_L y.natAbs x.natAbs (by omega) (by omega)
  refine Ev.from (max N (y.natAbs + 1)) (fun n hn => hN n (by omega) _ n (by omega)) ?_
  refine Ev.bind (clone_ev (by omega)) ?_
  refine Ev.bind (signed_ev 1 (by omega)) ?_
  rw [signed_toB ((Nat.gcd x.natAbs y.natAbs : Nat) : Int) (Int.natAbs_natCast _) (fun hv => by rw [sg_pos (by omega)])]
  exact Ev.step (checked_true 0 _) (Ev.pure _)

/- Compare -/
theorem Compare_ev {x y : Int} {k : Nat} (hx : Sm k x) (hy : Sm k y) (hk : k < 536870912) : Ev (fun n => big_Compare n (toB x) (toB y)) (sg (x - y)) := by
  have lx := len_of_sm hx
  unfold big_Compare
  refine Ev.bind (Right_toB hx (by omega)) ?_
  refine Ev.bind (a := false) (Ev.else rfl (Ev.bind (Right_toB hy (by omega)) (Ev.pure _))) ?_
  refine Ev.else rfl ?_
  by_cases h : sg x = sg y
  · refine Ev.else (by show (sg x != sg y) = false; rw [h]; simp) ?_
    refine Ev.bind (compare_nat x.natAbs y.natAbs (by omega)) ?_
    refine (Ev.pure _).eq ?_
    show imul .i64 (sg x) _ = _
    rw [imul_sg]
    rcases sg_cases x with ⟨a, b⟩ | ⟨a, b⟩ | ⟨a, b⟩ <;> rcases sg_cases y with ⟨c, d⟩ | ⟨c, d⟩ | ⟨c, d⟩ <;> rw [b, d] at h <;> (try omega)
    · rw [sg_mul, b]
      rcases sg_cases (x - y) with ⟨e, f⟩ | ⟨e, f⟩ | ⟨e, f⟩
      · rw [f, sg_pos (by omega)]; rfl
      · rw [f, show (x.natAbs : Int) - y.natAbs = 0 by omega]; rfl
      · rw [f, sg_neg (by omega)]; rfl
    · subst a c; rfl
    · rw [sg_mul, b, Int.one_mul, show (x.natAbs : Int) - y.natAbs = x - y by omega]
  · refine Ev.then (by show (sg x != sg y) = true; simpa using h) ?_
    refine Ev.step (a := sg (sg x - sg y)) (Compare_int 0 _ _) ?_
    refine (Ev.pure _).eq ?_
    rcases sg_cases x with ⟨a, b⟩ | ⟨a, b⟩ | ⟨a, b⟩ <;> rcases sg_cases y with ⟨c, d⟩ | ⟨c, d⟩ | ⟨c, d⟩ <;> rw [b, d] at h ⊢ <;> first
      | (exfalso; omega)
      | (rw [sg_neg (x := x - y) (by omega)]; decide)
      | (rw [sg_pos (x := x - y) (by omega)]; decide)

/- Same -/
theorem dcons (x y : Int) (xs ys : List Int) : decide (x :: xs = y :: ys) = (decide (x = y) && decide (xs = ys)) := by
  by_cases h : x = y <;> by_cases h2 : xs = ys <;> simp [h, h2]
theorem Equal_L (n : Nat) (a b : List Int) (kont : Option Bool) (hl : a.length = b.length) (hla : a.length < 1099511627776) : ∀ (us : List Int) (i m : Nat), a.drop i = us → us.length < m → slices_Equal_int_int_L1 n a b kont m (i : Int) = bif decide (us = b.drop i) then kont else some false
  | [], i, m + 1, hd, _ => by
    rw [slices_Equal_int_int_L1_s]
    have := drop_nil hd
    have hb : b.drop i = [] := List.drop_eq_nil_of_le (by omega)
    rw [show decide ((i : Int) < (a.length : Int)) = false by simp; omega, hb]; rfl
  | x :: xs, i, m + 1, hd, hm => by
    rw [slices_Equal_int_int_L1_s]
    obtain ⟨f1, f2, f3⟩ := drop_cons hd
    have hdb : b.drop i = b[i] :: b.drop (i + 1) := List.drop_eq_getElem_cons (by omega)
    rw [show decide ((i : Int) < (a.length : Int)) = true by simp; omega, cond_true, f1, Option.bind_some, (drop_cons hdb).1, Option.bind_some, hdb]
    by_cases h : x = b[i]
    · rw [show (x != b[i]) = false by simp [h], cond_false, inc64 (by omega), Equal_L n a b kont hl hla xs (i + 1) m f2 (by simpa using hm), dcons, show decide (x = b[i]) = true by simpa using h, Bool.true_and]
    · rw [show (x != b[i]) = true by simpa using h, cond_true, dcons, show decide (x = b[i]) = false by simpa using h]; rfl
  | _, _, 0, _, h => by omega
theorem Same_ev {a b : Big} (hl : a.Digits.length < 1099511627776) : Ev (fun n => big_Same n a b) (decide (a = b)) := by
  unfold big_Same
  refine Ev.bind (a := decide (a = b)) ?_ (Ev.pure _)
  obtain ⟨s, l⟩ := a
  obtain ⟨t, k⟩ := b
  by_cases h : s = t
  · subst h
    refine Ev.then (by simp) ?_
    refine Ev.bind (a := decide (l = k)) ?_ ((Ev.pure _).eq (by simp))
    unfold slices_Equal_int_int
    by_cases hlen : l.length = k.length
    · refine Ev.else (by simp [hlen]) ⟨l.length + 1, fun n hn => ?_⟩
      have h1 := Equal_L n l k (some true) hlen hl l 0 n rfl (by omega)
      rw [show ((0 : Nat) : Int) = 0 from rfl, List.drop_zero] at h1
      dsimp only at h1 ⊢
      rw [h1]
      cases decide (l = k) <;> rfl
    · refine Ev.then (by simp; omega) ((Ev.pure _).eq ?_)
      have : l ≠ k := fun e => hlen (by rw [e])
      simp [this]
  · refine Ev.else (by simpa using h) ((Ev.pure _).eq (by simp [h]))
theorem Same_toB {x y : Int} {k : Nat} (h : Sm k x) (hk : k < 1099511627776) : Ev (fun n => big_Same n (toB x) (toB y)) (decide (x = y)) := by
  have h1 := Same_ev (a := toB x) (b := toB y) (by have := len_of_sm h; simp only [toB]; omega)
  refine h1.eq ?_
  by_cases hxy : x = y
  · simp [hxy]
  · have : toB x ≠ toB y := fun e => hxy (toB_inj e)
    simp [hxy, this]
end Go.Proofs.YtaanocaobllohaaGreatDoor.D
