/- Several texts in one, for FeePairs.said: what the theorem leans on. -/
import Derived.Test.YtknpjecpcmajiaaPp6
/-
  THE REFERENCE's FUNCTIONS, as arithmetic, sixth part: what is exported, at right big integers.
-/
namespace Go.Proofs.Ytknpjecpcmajiaa.D
open Go Rt M
theorem c3o {a : Big} (hl : a.Digits.length < 1099511627776) : Ev (fun n => a4d n a) (a9u a) := ⟨a.Digits.length + 1, fun _ hn => c5y hl hn⟩
theorem a8x {x : Int} {k : Nat} (h : Sm k x) (hk : k < 1099511627776) : Ev (fun n => a4d n (toB x)) true := by
  have := a2w h
  exact (c3o (a := toB x) (by simp only [toB]; omega)).eq (b2s x)
theorem c8s (s : Int) {v : Nat} (h : (dig v).length < 1099511627776) : Ev (fun n => a3h n s (dig v)) (if v = 0 then ⟨0, []⟩ else ⟨s, dig v⟩) := by
  refine ⟨(dig v).length + 1, fun n hn => ?_⟩
  have h1 := d0b s (a2z v) h (n := n) (by omega)
  rw [a2m, Int.toNat_natCast] at h1
  exact h1
theorem b1m {s : Int} {v : Nat} (h : (dig v).length < 1099511627776) (z : Int) (hz : z.natAbs = v) (hs : v ≠ 0 → s = sg z) : Ev (fun n => a3h n s (dig v)) (toB z) := (c8s s h).eq (a5c z hz hs)
theorem c6b (u v : Nat) (hu : (dig u).length < 1073741824) (hv : (dig v).length < 1073741824) : Ev (fun n => a8q n (dig u) (dig v)) (dig (u + v)) :=
  (c9d (a2z u) (a2z v) hu hv).eq (by rw [a2m, a2m, ← Int.natCast_add, Int.toNat_natCast])
theorem c4u (u v : Nat) (hu : (dig u).length < 1073741824) (h : v ≤ u) : Ev (fun n => a3w n (dig u) (dig v)) (dig (u - v)) :=
  (c6f (a2z u) (a2z v) hu (a5j h) (by rw [a2m, a2m]; omega)).eq (by rw [a2m, a2m]; congr 1; omega)
theorem c1r (u v : Nat) (h : v ≠ 0) (hu : (dig u).length < 536870800) (hv : (dig v).length < 536870800) : Ev (fun n => a7f n (dig u) (dig v)) (dig (u / v), dig (u % v)) :=
  ⟨(dig u).length + 2 * (dig v).length + 1048601, fun n hn => d0q (by omega) hu hv (by omega)⟩
theorem c3x {x : Int} {k : Nat} (h : Sm k x) (hk : k < 1073741824) : Ev (fun n => b0v n (toB x)) (toB (-x)) := by
  have hl := a2w h
  unfold b0v
  refine Ev.bind (a8x h (by omega)) ?_
  refine Ev.else rfl ?_
  refine Ev.bind (b1m (v := x.natAbs) (by omega) (-x) (by omega) (fun hne => ?_)) (Ev.pure _)
  show IntKind.i64.wrap (0 - sg x) = sg (-x)
  rcases a2a x with ⟨a, b⟩ | ⟨a, b⟩ | ⟨a, b⟩ <;> rw [b]
  · rw [a6g (by omega)]; decide
  · omega
  · rw [a6j (by omega)]; decide
theorem c3f {x y : Int} {k : Nat} (hx : Sm k x) (hy : Sm k y) (hk : k < 8388608) (hy0 : y ≠ 0) : Ev (fun n => a9g n (toB x) (toB y)) (toB (dq x y), toB (dr x y), 0) := by
  have lx := a2w hx
  have ly := a2w hy
  have hyn : y.natAbs ≠ 0 := by omega
  have hmod := Nat.mod_lt x.natAbs (show y.natAbs > 0 by omega)
  have hdivle : x.natAbs / y.natAbs ≤ x.natAbs := Nat.div_le_self _ _
  have lq := a5j hdivle
  have lr := a5j (Nat.le_of_lt hmod)
  have lq1 : (dig (x.natAbs / y.natAbs + 1)).length ≤ k + 1 := by
    have h : Sm (k + 1) ((x.natAbs / y.natAbs + 1 : Nat) : Int) := by
      generalize x.natAbs / y.natAbs = q at *
      unfold Sm at *
      rw [Int.natAbs_natCast]
      simp only [pw]; have := pw_pos k; omega
    have := a2w h
    rwa [Int.natAbs_natCast] at this
  have ls := a5j (show y.natAbs - x.natAbs % y.natAbs ≤ y.natAbs by omega)
  unfold a9g
  refine Ev.bind (a8x hx (by omega)) ?_
  refine Ev.bind (a := false) (Ev.else rfl (Ev.bind (a8x hy (by omega)) (Ev.pure _))) ?_
  refine Ev.else rfl ?_
  refine Ev.else (by show (sg y == 0) = false; rcases a2a y with h | h | h <;> first | (rw [h.2]; rfl) | omega) ?_
  refine Ev.bind (c1r x.natAbs y.natAbs hyn (by omega) (by omega)) ?_
  refine Ev.step (a := !odd x y) (by
    show (bif decide (0 ≤ imul .i64 (sg x) (sg y)) then some true else some (((dig (x.natAbs % y.natAbs)).length : Int) == 0)) = _
    rw [b3s]
    unfold odd
    have e1 : decide (0 ≤ sg (x * y)) = !decide (x * y < 0) := by
      rcases a2a (x * y) with ⟨h1, h2⟩ | ⟨h1, h2⟩ | ⟨h1, h2⟩ <;> rw [h2] <;> simp <;> omega
    have e2 : (((dig (x.natAbs % y.natAbs)).length : Int) == 0) = !decide (x.natAbs % y.natAbs ≠ 0) := by
      by_cases h : x.natAbs % y.natAbs = 0
      · rw [h, dig_zero]; rfl
      · have := b3a h
        have h3 : 0 < (dig (x.natAbs % y.natAbs)).length := List.length_pos_iff.2 this
        rw [beq_false_of_ne (by omega), decide_eq_true h]; rfl
    rw [e1, e2]
    cases decide (x * y < 0) <;> rfl) ?_
  by_cases ho : odd x y = true
  · refine Ev.else (by rw [ho]; rfl) ?_
    refine Ev.bind (a := dig (x.natAbs / y.natAbs + 1)) (by
      have := c6b (x.natAbs / y.natAbs) 1 (by omega) (by rw [dig_one]; simp)
      rwa [dig_one] at this) ?_
    refine Ev.bind (b1m (by omega) (dq x y) (c1x ho).1 (fun _ => (c1x ho).2.symm)) ?_
    refine Ev.bind (c4u y.natAbs (x.natAbs % y.natAbs) (by omega) (by omega)) ?_
    exact Ev.bind (b1m (by omega) (dr x y) (c2e hy0 ho).1 (fun _ => (c2e hy0 ho).2.symm)) (Ev.pure _)
  · refine Ev.then (by simpa using ho) ?_
    refine Ev.bind (b1m (by omega) (dq x y) (b8y hy0 ho).1 (fun h => by show imul .i64 (sg x) (sg y) = _; rw [b3s]; exact (b8y hy0 ho).2 h)) ?_
    exact Ev.bind (b1m (by omega) (dr x y) (b9j ho).1 (b9j ho).2) (Ev.pure _)
end Go.Proofs.Ytknpjecpcmajiaa.D

/-
  THE REFERENCE's FUNCTIONS, as arithmetic, seventh part: the greatest common divisor, the order, ints.
-/
namespace Go.Proofs.Ytknpjecpcmajiaa.D
open Go Rt M
theorem d1b (v : Nat) : ∀ (u : Nat), (dig u).length < 16777216 → (dig v).length < 16777216 → ∃ N, ∀ n, N ≤ n → ∀ (kont : List Int → Option (Big × Int)) m, v < m → a5k n kont m (dig u) (dig v) = kont (dig (Nat.gcd u v)) := by
  induction v using Nat.strongRecOn with
  | ind v ih =>
    intro u hu hv
    by_cases h : v = 0
    · subst h
      refine ⟨0, fun n _ kont m hm => ?_⟩
      obtain ⟨m, rfl⟩ : ∃ m', m = m' + 1 := ⟨m - 1, by omega⟩
      rw [dig_zero, Nat.gcd_zero_right]; rfl
    · have hlt := Nat.mod_lt u (show v > 0 by omega)
      obtain ⟨N1, h1⟩ := c1r u v h (by omega) (by omega)
      obtain ⟨N2, h2⟩ := ih (u % v) hlt v hv (by have := a5j (Nat.le_of_lt hlt); omega)
      refine ⟨max N1 N2, fun n hn kont m hm => ?_⟩
      obtain ⟨m, rfl⟩ : ∃ m', m = m' + 1 := ⟨m - 1, by omega⟩
      have h3 : 0 < (dig v).length := List.length_pos_iff.2 (b3a h)
      unfold a5k
      rw [show decide (0 < ((dig v).length : Int)) = true by simp; omega, cond_true, (show a7f n (dig u) (dig v) = _ from h1 n (by omega)), Option.bind_some]
      show a5k n kont m (dig v) (dig (u % v)) = _
      rw [h2 n (by omega) kont m (by omega), Nat.gcd_comm v, ← Nat.gcd_rec, Nat.gcd_comm]
theorem c9l {x y : Int} {k : Nat} (hx : Sm k x) (hy : Sm k y) (hk : k < 8388608) : Ev (fun n => b0y n (toB x) (toB y)) (toB (Nat.gcd x.natAbs y.natAbs : Nat), 0) := by
  have lx := a2w hx
  have ly := a2w hy
  unfold b0y
  refine Ev.bind (a8x hx (by omega)) ?_
  refine Ev.bind (a := false) (Ev.else rfl (Ev.bind (a8x hy (by omega)) (Ev.pure _))) ?_
  refine Ev.else rfl ?_
  obtain ⟨N, hN⟩ := d1b y.natAbs x.natAbs (by omega) (by omega)
  have lg : (dig (Nat.gcd x.natAbs y.natAbs)).length ≤ k := by
    rcases Nat.eq_zero_or_pos x.natAbs with h | h
    · rw [h, Nat.gcd_zero_left]; exact ly
    · exact Nat.le_trans (a5j (Nat.gcd_le_left _ h)) lx
  refine Ev.from (g := fun n => (a3h n 1 (dig (Nat.gcd x.natAbs y.natAbs))).bind fun v3 => some ((⟨v3.Sign, v3.Digits⟩ : Big), (0 : Int))) (max N (y.natAbs + 1)) (fun n hn => hN n (by omega) _ n (by omega)) ?_
  exact Ev.bind (b1m (by omega) ((Nat.gcd x.natAbs y.natAbs : Nat) : Int) (Int.natAbs_natCast _) (fun h => (a6g (by omega)).symm)) (Ev.pure _)
end Go.Proofs.Ytknpjecpcmajiaa.D

/-
  THE REFERENCE's FUNCTIONS, as arithmetic, eighth part: ints.
-/
namespace Go.Proofs.Ytknpjecpcmajiaa.D
open Go Rt M
theorem d1k {s : Int} (hs : s = 1 ∨ s = -1) (u : Nat) : rem (s * u) 1048576 = some (s * ((u % 1048576 : Nat) : Int)) := by
  have h := b6t (x := (u : Int)) (y := 1048576) (by omega) (by decide)
  rcases hs with rfl | rfl
  · rw [Int.one_mul, Int.one_mul, h]; congr 1
  · unfold rem at h ⊢
    rw [if_neg (by decide)] at h ⊢
    have h2 := Option.some.inj h
    rw [show (-1 : Int) * (u : Int) = -(u : Int) by omega, Int.neg_tmod, h2]
    congr 1; omega
theorem d1m {s : Int} (hs : s = 1 ∨ s = -1) {u : Nat} (hu : u ≤ 9223372036854775808) : quo .i64 (s * u) 1048576 = some (s * ((u / 1048576 : Nat) : Int)) := by
  have h : (u : Int).tdiv 1048576 = ((u / 1048576 : Nat) : Int) := by rw [Int.tdiv_eq_ediv_of_nonneg (by omega)]; omega
  unfold quo
  rw [if_neg (by decide)]
  rcases hs with rfl | rfl
  · rw [Int.one_mul, Int.one_mul, h, a5m (by omega) (by omega)]
  · rw [show (-1 : Int) * (u : Int) = -(u : Int) by omega, Int.neg_tdiv, h, a5m (by omega) (by omega)]
    congr 1; omega
theorem d0v (n : Nat) (kont : List Int → Option Big) {s : Int} (hs : s = 1 ∨ s = -1) : ∀ (u m : Nat) (acc : List Int), u ≤ 9223372036854775808 → (dig u).length < m → acc.length + (dig u).length < 1099511627776 → a6t n kont m (s * (u : Int)) acc = kont (acc ++ dig u) := by
  intro u
  induction u using Nat.strongRecOn with
  | ind u ih =>
    intro m acc hu hm ha
    obtain ⟨m, rfl⟩ : ∃ m', m = m' + 1 := ⟨m - 1, by omega⟩
    unfold a6t
    by_cases h : u = 0
    · subst h
      rw [dig_zero, List.append_nil, show (s * ((0 : Nat) : Int) != 0) = false by simp]; rfl
    · have hd := b1i h
      rw [hd] at hm ha
      simp only [List.length_cons] at hm ha
      have hne : (s * (u : Int) != 0) = true := by
        rw [bne_iff_ne]; rcases hs with rfl | rfl <;> omega
      rw [hne, cond_true, d1k hs, Option.bind_some]
      have e1 : (bif decide (s * ((u % 1048576 : Nat) : Int) < 0) then some (IntKind.i64.wrap (0 - s * ((u % 1048576 : Nat) : Int))) else some (s * ((u % 1048576 : Nat) : Int))) = some ((u % 1048576 : Nat) : Int) := by
        have hlt := Nat.mod_lt u (show 1048576 > 0 by decide)
        generalize u % 1048576 = r at *
        by_cases hn : s * (r : Int) < 0
        · rw [decide_eq_true hn, cond_true]
          congr 1
          rcases hs with rfl | rfl
          · omega
          · rw [a5m (by omega) (by omega)]; omega
        · rw [decide_eq_false hn, cond_false]
          congr 1
          rcases hs with rfl | rfl <;> omega
      rw [e1, Option.bind_some, b4f (by simp; omega), Option.bind_some, d1m hs hu, Option.bind_some, ih (u / 1048576) (by omega) m _ (by omega) (by omega) (by simp; omega), hd]
      simp
theorem c7l {x : Int} (h1 : -9223372036854775808 ≤ x) (h2 : x ≤ 9223372036854775807) : Ev (fun n => b1n n x) (toB x) := by
  have hl := c2x (u := x.natAbs) (by omega)
  by_cases h0 : x = 0
  · subst h0
    exact (Ev.pure _).eq toB_zero.symm
  have hm : ∀ s : Int, s = sg x → Ev (fun n => (a3h n s (dig x.natAbs)).bind fun v1 => some (⟨v1.Sign, v1.Digits⟩ : Big)) (toB x) := fun s hs => Ev.bind (b1m (by omega) x rfl (fun _ => hs)) (Ev.pure _)
  refine Ev.from (g := fun n => (a3h n (sg x) (dig x.natAbs)).bind fun v1 => some (⟨v1.Sign, v1.Digits⟩ : Big)) 5 (fun n hn => ?_) (hm _ rfl)
  show b1n n x = _
  unfold b1n
  rw [show (x == 0) = false from beq_false_of_ne h0, cond_false]
  by_cases hx : x < 0
  · rw [decide_eq_true hx, cond_true, Option.bind_some, a6j hx]
    have h3 := d0v n (fun (l2 : List Int) => (a3h n (-1) l2).bind fun v1 => some (⟨v1.Sign, v1.Digits⟩ : Big)) (s := -1) (.inr rfl) x.natAbs n [] (by omega) (by omega) (by simp; omega)
    rw [show (-1 : Int) * (x.natAbs : Int) = x by omega, List.nil_append] at h3
    exact h3
  · rw [decide_eq_false hx, cond_false, Option.bind_some, a6g (by omega)]
    have h3 := d0v n (fun (l2 : List Int) => (a3h n 1 l2).bind fun v1 => some (⟨v1.Sign, v1.Digits⟩ : Big)) (s := 1) (.inl rfl) x.natAbs n [] (by omega) (by omega) (by simp; omega)
    rw [show (1 : Int) * (x.natAbs : Int) = x by omega, List.nil_append] at h3
    exact h3
end Go.Proofs.Ytknpjecpcmajiaa.D

/-
  THE REFERENCE's FUNCTIONS of fractions: they return what the program's do.
-/
namespace Go.Proofs.Ytknpjecpcmajiaa.D
open Go Rt M
section
variable {p q : Int} {k : Nat} (hp : Sm k p) (hq : Sm k q) (hk : k < 8388608)
include hp hq hk
theorem c0j (h0 : 0 < q) : Ev (fun n =>
   (b0y n (⟨(toB p).Sign, (toB p).Digits⟩ : Big) (⟨(toB q).Sign, (toB q).Digits⟩ : Big)).bind fun v3 =>
   (a9g n (⟨(toB p).Sign, (toB p).Digits⟩ : Big) (⟨v3.1.Sign, v3.1.Digits⟩ : Big)).bind fun v4 =>
   (a9g n (⟨(toB q).Sign, (toB q).Digits⟩ : Big) (⟨v3.1.Sign, v3.1.Digits⟩ : Big)).bind fun v5 =>
   some ((⟨(⟨v4.1.Sign, v4.1.Digits⟩ : Big), (⟨v5.1.Sign, v5.1.Digits⟩ : Big)⟩ : Frac), (0 : Int))) (toF (Rat.divInt p q), 0) := by
  have hg : 0 < Nat.gcd p.natAbs q.natAbs := Nat.gcd_pos_of_pos_right _ (by omega)
  have hgs := c1e hp hq
  obtain ⟨e1, e2⟩ := b0q (p := p) h0
  refine Ev.bind (c9l hp hq hk) ?_
  refine Ev.bind (c3f hp hgs hk (by omega)) ?_
  refine Ev.bind (c3f hq hgs hk (by omega)) ((Ev.pure _).eq ?_)
  unfold toF
  rw [e1, e2, ← c2d (by omega), ← c2d (by omega)]
theorem c8q (h0 : q ≠ 0) : Ev (fun n => b2e n (toB p) (toB q)) (toF (Rat.divInt p q), 0) := by
  unfold b2e
  refine Ev.bind (a8x hp (by omega)) ?_
  refine Ev.bind (a := false) (Ev.else rfl (Ev.bind (a8x hq (by omega)) (Ev.pure _))) ?_
  refine Ev.else rfl ?_
  refine Ev.else (by show (sg q == 0) = false; rw [b3w]; simpa using h0) ?_
  by_cases hn : q < 0
  · refine Ev.bind (Ev.then (by show decide (sg q < 0) = true; rw [a6j hn]; rfl) (Ev.bind (c3x hp (by omega)) (Ev.bind (c3x hq (by omega)) (Ev.pure _)))) ?_
    rw [b3j]
    exact c0j hp.neg hq.neg hk (by omega)
  · refine Ev.bind (Ev.else (by show decide (sg q < 0) = false; rw [a6g (by omega)]; rfl) (Ev.pure _)) ?_
    exact c0j hp hq hk (by omega)
end
section
variable {a b : Rat} {j k : Nat} (ha : SmF j a) (hb : SmF k b) (hk : j + k < 4000000)
include ha hb hk
end
section
variable {a : Rat} {k : Nat} (ha : SmF k a) (hk : k < 1000000)
include ha hk
end
theorem c9s {x y : Int} (h1 : -9223372036854775808 ≤ x) (h2 : x ≤ 9223372036854775807) (h3 : -9223372036854775808 ≤ y) (h4 : y ≤ 9223372036854775807) (h0 : y ≠ 0) : Ev (fun n => b1d n x y) (toF (Rat.divInt x y), 0) := by
  have s1 : Sm 4 x := a9j (c2x (by omega))
  have s2 : Sm 4 y := a9j (c2x (by omega))
  unfold b1d
  exact Ev.bind (c7l h1 h2) (Ev.bind (c7l h3 h4) (Ev.bind (c8q s1 s2 (by decide) h0) (Ev.pure _)))
theorem c3b {x : Int} (h1 : -9223372036854775808 ≤ x) (h2 : x ≤ 9223372036854775807) : Ev (fun n => a6q n x) (toF (x : Rat)) := by
  unfold a6q
  refine Ev.bind (c9s h1 h2 (y := 1) (by decide) (by decide) (by decide)) ((Ev.pure _).eq ?_)
  rw [c2v]
/- reading -/
end Go.Proofs.Ytknpjecpcmajiaa.D

/-
  FeePairs: the value of a sum is the sum of the values; the lesser and the greater one are both; a difference with itself is 0; the cap.
-/
namespace Go.Proofs.Ytknpjecpcmajiaa.Fe
open Go Rt M Ta Tp D
theorem c9o {names : List Rt.Bs} {f : Facts} {t : Tariff} {ws : List Rat} {k : Nat} (hx : Fit t.Fee) (hn : names.length ≤ 1000000) (hsm : ∀ w, w ∈ ws → SmF k w) (hk : k ≤ 30) (hk4 : 4 ≤ k) (hrf : RF names f ws) :
    Tt (fun r => (r.2 = 0 ∧ Chk names t ∧ SmF 3000 (fv names f ws t) ∧ r.1 = toF (fv names f ws t)) ∨ (r.2 ≠ 0 ∧ r.1 = zeroF)) (fun n => a5f n t names f (ws.map toF)) := by
  have h1 := hrf.hl
  have h2 := hrf.hw
  obtain ⟨r, er, hr⟩ := c0r hx (by omega) (c4w hsm) hk hk4 (by omega) (by rw [List.length_map]; omega) (f := f) (names := names)
  refine ⟨r, er, ?_⟩
  rcases hr with ⟨_, hc, _⟩ | h
  · obtain ⟨ev, hs⟩ := c6k hx (by omega) hsm hk hk4 hn hc hrf
    obtain rfl := er.uniq ev
    exact .inl ⟨rfl, hc, hs, rfl⟩
  · exact .inr h
theorem b8h {c : Int} (h : 0 ≤ c) : (0 : Rat) ≤ (c : Rat) := by
  have := Rat.intCast_le_intCast.2 h
  exact this
theorem c0o {c : Int} (hc : -1 ≤ c) (v : Rat) : 0 ≤ capV c v := by
  unfold capV
  split
  · exact Rat.le_refl
  · split
    · exact b8h (by omega)
    · exact Rat.not_lt.1 (by assumption)
theorem c9q {c : Int} (hc : -1 ≤ c) (h1 : c ≠ -1) (v : Rat) : capV c v ≤ (c : Rat) := by
  unfold capV
  split
  · exact b8h (by omega)
  · split
    · exact Rat.le_refl
    · rename_i h
      exact Rat.not_lt.1 fun h5 => h ⟨h1, h5⟩
theorem c8d {c : Int} (hc : -1 ≤ c ∧ c ≤ 1099511627776) {v : Rat} (hv : SmF 3000 v) : SmF 3000 (capV c v) := by
  unfold capV
  split
  · exact smI (x := 0) (by decide) (by decide) (by decide)
  · split
    · exact smI (by omega) (by omega) (by decide)
    · exact hv
theorem c3g {r : Frac × Int} {v w : Rat} (h : r.2 = 0 → r.1 = toF v ∧ SmF 9000 v ∧ v = w) : Ev (fun n => bif r.2 == 0 then (a3y n r.1 (toF w)).bind fun v => some (!v) else some false) false := by
  by_cases h0 : r.2 = 0
  · obtain ⟨h1, h2, h3⟩ := h h0
    refine Ev.then (by simpa using h0) ?_
    rw [h1]
    exact Ev.bind (b4u h2 (by decide) h3) (Ev.pure _)
  · exact Ev.else (by simpa using h0) (Ev.pure _)
theorem pairs_ev (t other : Tariff) (names : List Rt.Bs) (f : Facts) (weights : List Frac) : Ev (fun n => a8y n t other names f weights) true := by
  unfold a8y
  refine Ev.bind small36 ?_
  obtain ⟨b, hb, hq⟩ := d0e t names f weights
  refine Ev.bind hb ?_
  cases b with
  | false => exact Ev.bind (Ev.then rfl (Ev.pure _)) (Ev.then rfl (Ev.pure _))
  | true =>
  obtain ⟨b, hb2, hq2⟩ := d0e other names f weights
  refine Ev.bind (a := !b) (Ev.else rfl (Ev.bind hb2 (Ev.pure _))) ?_
  cases b with
  | false => exact Ev.then rfl (Ev.pure _)
  | true =>
  refine Ev.else rfl ?_
  have s1 := hq rfl
  have s2 := hq2 rfl
  obtain ⟨r, er, hr⟩ := c0r s1.fit (show names.length < _ by have := s1.nl; omega) s1.lim (by decide) (by decide) (by have := s1.ll; omega) (by have := s1.wl; omega) (f := f)
  refine Ev.bind er ?_
  rcases hr with ⟨h0, hc, ws, rfl, hrf, hsm, hs, hv⟩ | ⟨hne, hz⟩
  rotate_left
  · obtain ⟨r2, er2, _⟩ := c0r s2.fit (show names.length < _ by have := s1.nl; omega) s1.lim (by decide) (by decide) (by have := s1.ll; omega) (by have := s1.wl; omega) (f := f)
    refine Ev.bind er2 ?_
    exact Ev.bind (Ev.then (by simpa using hne) (Ev.pure _)) (Ev.then rfl (Ev.pure _))
  have vc : ∀ {t : Tariff}, Fit t.Fee → _ := fun {t} hx => c9o (names := names) (f := f) (t := t) hx (by have := s1.nl; omega) hsm (by decide) (by decide) hrf
  obtain ⟨r2, er2, hr2⟩ := vc s2.fit
  refine Ev.bind er2 ?_
  refine Ev.bind (a := r2.2 != 0) (Ev.else (by rw [h0]; rfl) (Ev.pure _)) ?_
  rcases hr2 with ⟨h02, hc2, hs2, hv2⟩ | ⟨hne2, _⟩
  rotate_left
  · exact Ev.then (by simpa using hne2) (Ev.pure _)
  refine Ev.else (by rw [h02]; rfl) ?_
  obtain ⟨r1, r0⟩ := r
  obtain ⟨q1, q0⟩ := r2
  dsimp only at h0 hv h02 hv2
  subst h0 h02 hv hv2
  refine Ev.bind (FAdd_ev hs hs2 (by decide)) ?_
  refine Ev.bind (a := [t.Fee, other.Fee]) (Ev.all fun _ => rfl) ?_
  refine Ev.bind (a := ⟨5, 0, [], [t.Fee, other.Fee]⟩) (Ev.all fun _ => rfl) ?_
  refine Ev.bind (a := ⟨9, 0, [], [t.Fee, other.Fee]⟩) (Ev.all fun _ => rfl) ?_
  refine Ev.bind (a := ⟨10, 0, [], [t.Fee, other.Fee]⟩) (Ev.all fun _ => rfl) ?_
  refine Ev.bind (a := [⟨9, 0, [], [t.Fee, other.Fee]⟩, ⟨10, 0, [], [t.Fee, other.Fee]⟩]) (Ev.all fun _ => rfl) ?_
  refine Ev.bind (a := ⟨5, 0, [], [⟨9, 0, [], [t.Fee, other.Fee]⟩, ⟨10, 0, [], [t.Fee, other.Fee]⟩]⟩) (Ev.all fun _ => rfl) ?_
  refine Ev.bind (a := [t.Fee, t.Fee]) (Ev.all fun _ => rfl) ?_
  refine Ev.bind (a := ⟨6, 0, [], [t.Fee, t.Fee]⟩) (Ev.all fun _ => rfl) ?_
  have f2 : ∀ (o : Int), Fit ⟨o, 0, [], [t.Fee, other.Fee]⟩ := fun o => Fit.two o 0 [] s1.fit s2.fit
  obtain ⟨x1, ex1, hx1⟩ := vc (t := ⟨t.Name, ⟨5, 0, [], [t.Fee, other.Fee]⟩, t.Cap⟩) (f2 5)
  refine Ev.bind ex1 ?_
  obtain ⟨x2, ex2, hx2⟩ := vc (t := ⟨t.Name, ⟨5, 0, [], [⟨9, 0, [], [t.Fee, other.Fee]⟩, ⟨10, 0, [], [t.Fee, other.Fee]⟩]⟩, t.Cap⟩) (Fit.two 5 0 [] (f2 9) (f2 10))
  refine Ev.bind ex2 ?_
  obtain ⟨x3, ex3, hx3⟩ := vc (t := ⟨t.Name, ⟨6, 0, [], [t.Fee, t.Fee]⟩, t.Cap⟩) (Fit.two 6 0 [] s1.fit s1.fit)
  refine Ev.bind ex3 ?_
  have ok : ∀ {x : Frac × Int} {t' : Tariff} {w : Rat}, ((x.2 = 0 ∧ Chk names t' ∧ SmF 3000 (fv names f ws t') ∧ x.1 = toF (fv names f ws t')) ∨ (x.2 ≠ 0 ∧ x.1 = zeroF)) → fv names f ws t' = w →
      x.2 = 0 → x.1 = toF (fv names f ws t') ∧ SmF 9000 (fv names f ws t') ∧ fv names f ws t' = w := by
    intro x t' w h e h0
    rcases h with ⟨_, _, h2, h3⟩ | ⟨h, _⟩
    · exact ⟨h3, h2.mono (by decide), e⟩
    · exact absurd h0 h
  refine Ev.bind (c3g (ok hx1 rfl)) ?_
  refine Ev.bind (a := false) (Ev.else rfl (Ev.bind (c3g (ok hx2 ?_)) (Ev.pure _))) ?_
  · show (if fv names f ws other < fv names f ws t then fv names f ws other else fv names f ws t) + (if fv names f ws t < fv names f ws other then fv names f ws other else fv names f ws t) = fv names f ws t + fv names f ws other
    generalize fv names f ws t = a
    generalize fv names f ws other = b
    grind
  refine Ev.bind (a := false) (Ev.else rfl (Ev.bind (a := false) ?_ (Ev.pure _))) ?_
  · by_cases h0 : x3.2 = 0
    · refine Ev.then (by simpa using h0) ?_
      have h5 := ok hx3 (w := 0) (by
        show fv names f ws t - fv names f ws t = 0
        grind) h0
      refine Ev.bind (c3b (x := 0) (by decide) (by decide)) ?_
      rw [h5.1]
      exact Ev.bind (b4u h5.2.1 (by decide) h5.2.2) (Ev.pure _)
    · exact Ev.else (by simpa using h0) (Ev.pure _)
  refine Ev.else rfl ?_
  have cap := hc.2.1.2.2
  have hcs := c8d cap hs
  have hi := c3b (x := t.Cap) (by omega) (by omega)
  have hsc : SmF 4 (t.Cap : Rat) := smI (by omega) (by omega) (by decide)
  refine Ev.bind (c5n cap hs er) ?_
  have hnn := c0o cap.1 (fv names f ws t)
  refine Ev.bind (a := false) (Ev.else rfl (Ev.bind (FSign_ev hcs (by decide)) ((Ev.pure _).eq ?_))) ?_
  · rw [b2w]; exact decide_eq_false (Rat.not_lt.2 hnn)
  refine Ev.bind (a := false) (Ev.else rfl (Ev.bind (a := false) ?_ (Ev.pure _))) ?_
  · by_cases hn : t.Cap = -1
    · exact Ev.else (by rw [hn]; rfl) (Ev.pure _)
    · refine Ev.then (by simpa using hn) (Ev.bind hi (Ev.bind (FCompare_ev hcs hsc (by decide)) ((Ev.pure _).eq ?_)))
      have := (c8g _ _).2 (c9q cap.1 hn (fv names f ws t))
      exact decide_eq_false (by omega)
  refine Ev.else rfl (Ev.bind (FSign_ev hs (by decide)) ?_)
  rw [b2w]
  by_cases hneg : fv names f ws t < 0
  · refine Ev.then (decide_eq_true hneg) (Ev.bind (a := true) (Ev.then rfl (Ev.bind (FSign_ev hcs (by decide)) ((Ev.pure _).eq ?_))) (Ev.pure _))
    unfold capV; rw [if_pos hneg]; rfl
  · refine Ev.else (decide_eq_false hneg) (Ev.bind (a := true) (Ev.then rfl (Ev.bind (b7w hcs (by decide)) ?_)) (Ev.pure _))
    by_cases heq : capV t.Cap (fv names f ws t) = fv names f ws t
    · rw [decide_eq_true heq]
      exact Ev.bind (Ev.then rfl (Ev.pure _)) (Ev.pure _)
    · rw [decide_eq_false heq]
      have hcap : t.Cap ≠ -1 ∧ (t.Cap : Rat) < fv names f ws t := by
        by_cases hcap : t.Cap ≠ -1 ∧ (t.Cap : Rat) < fv names f ws t
        · exact hcap
        · exact absurd (by unfold capV; rw [if_neg hneg, if_neg hcap]) heq
      have e : capV t.Cap (fv names f ws t) = (t.Cap : Rat) := by unfold capV; rw [if_neg hneg, if_pos hcap]
      refine Ev.bind (a := true) (Ev.else rfl (Ev.bind (a := true) (Ev.then (by simpa using hcap.1) (Ev.bind hi (Ev.bind (b4u hcs (by decide) e) (Ev.pure _)))) ?_)) (Ev.pure _)
      refine Ev.bind (a := true) (Ev.then rfl (Ev.bind (FCompare_ev hs hcs (by decide)) ((Ev.pure _).eq ?_))) (Ev.pure _)
      rw [e, c5e hcap.2]; rfl
end Go.Proofs.Ytknpjecpcmajiaa.Fe

/-
  THE CARD OF FeePairs. Printed by wrap5.py.
-/
namespace Go.Proofs.Ytknpjecpcmajiaa.FeePairs
open Go Go.ChangeShapes Go.WideShapes Go.ChangeAt Go.RowKit Rt Wrap
set_option maxRecDepth 100000 in
theorem c6o (H : Type) (enc : TypeId × Value → H) (W : World) (base : Nat) (args : Array Value) (ds gs : List (DataW H)) (before : List MemPlace)
    (hval : ∀ (j : Nat) t v, Try.f3.params[j]? = some t → args[j]? = some v → Value.okWide Try.prog W .any base t v)
    (hW : DataW.Whole enc Try.prog Try.f3.params.toList Rows.feePairsSpec.vars false W args.toList ds gs before) (_hL : laidMetH Try.prog tabs W) :
    Calls Try.prog 3 args W fun e W' => ∃ v, e = .returned v ∧ Rows.feePairsSpec.post enc Try.prog Try.f3 false true false false W args v W' := by
  have hW' := hW
  obtain ⟨p, q, hA0, hV, rfl, hfz, hnd⟩ := hW
  have hA : DataW.TrodAll enc Try.prog W 0 (fun _ => true) true Try.f3.params.toList args.toList ds p := hA0
  rw [Try.params3] at hA hval
  obtain ⟨v0, vs0, d0, ds0, p0, q0, hargs, rfl, rfl, h0, r0⟩ := trodAll_cons hA
  obtain ⟨v1, vs1, d1, ds1, p1, q1, rfl, rfl, rfl, h1, r1⟩ := trodAll_cons r0
  obtain ⟨v2, vs2, d2, ds2, p2, q2, rfl, rfl, rfl, h2, r2⟩ := trodAll_cons r1
  obtain ⟨v3, vs3, d3, ds3, p3, q3, rfl, rfl, rfl, h3, r3⟩ := trodAll_cons r2
  obtain ⟨v4, vs4, d4, ds4, p4, q4, rfl, rfl, rfl, h4, r4⟩ := trodAll_cons r3
  obtain ⟨rfl, rfl, rfl⟩ := trodAll_nil r4
  obtain rfl : args = #[v0, v1, v2, v3, v4] := by cases args; simp_all
  obtain ⟨rfl, rfl⟩ := trodVars_none hV
  obtain ⟨cs0, rfl, hsz0⟩ := okWide_struct Try.underlying26 (hval 0 26 v0 rfl rfl)
  obtain ⟨y0, hr0, ho0⟩ := b6b (c4p W) h0
  obtain ⟨ax0_4, nx0_4, cx0_4, he0, sx0_4⟩ := hr0
  have he0' : cs0.toList = [vs y0.Name, .int .i64 y0.Fee.Op, .int .i64 y0.Fee.N, vs y0.Fee.Name, .slice ax0_4 nx0_4 cx0_4, .int .i64 y0.Cap] := he0
  obtain rfl : cs0 = #[vs y0.Name, .int .i64 y0.Fee.Op, .int .i64 y0.Fee.N, vs y0.Fee.Name, .slice ax0_4 nx0_4 cx0_4, .int .i64 y0.Cap] := by rw [← Array.toArray_toList (xs := cs0), he0']
  obtain ⟨cs1, rfl, hsz1⟩ := okWide_struct Try.underlying26 (hval 1 26 v1 rfl rfl)
  obtain ⟨y1, hr1, ho1⟩ := b6b (c4p W) h1
  obtain ⟨ax1_4, nx1_4, cx1_4, he1, sx1_4⟩ := hr1
  have he1' : cs1.toList = [vs y1.Name, .int .i64 y1.Fee.Op, .int .i64 y1.Fee.N, vs y1.Fee.Name, .slice ax1_4 nx1_4 cx1_4, .int .i64 y1.Cap] := he1
  obtain rfl : cs1 = #[vs y1.Name, .int .i64 y1.Fee.Op, .int .i64 y1.Fee.N, vs y1.Fee.Name, .slice ax1_4 nx1_4 cx1_4, .int .i64 y1.Cap] := by rw [← Array.toArray_toList (xs := cs1), he1']
  obtain ⟨a2, n2, c2, l2, rfl, hl2, ho2⟩ := c4o Try.underlying27 (c9g W) (hval 2 27 v2 rfl rfl) h2
  obtain ⟨cs3, rfl, hsz3⟩ := okWide_struct Try.underlying30 (hval 3 30 v3 rfl rfl)
  obtain ⟨y3, hr3, ho3⟩ := b6b (c9e W) h3
  obtain ⟨ax3_0, nx3_0, cx3_0, he3, sx3_0⟩ := hr3
  have he3' : cs3.toList = [.slice ax3_0 nx3_0 cx3_0, .int .i64 y3.Persons, .int .i64 y3.Flats] := he3
  obtain rfl : cs3 = #[.slice ax3_0 nx3_0 cx3_0, .int .i64 y3.Persons, .int .i64 y3.Flats] := by rw [← Array.toArray_toList (xs := cs3), he3']
  obtain ⟨a4, n4, c4, l4, rfl, hl4, ho4⟩ := c4o Try.underlying31 (c9b W) (hval 4 31 v4 rfl rfl) h4
  obtain ⟨N, hN⟩ := Fe.pairs_ev y0 y1 l2 y3 l4
  refine (M.law36_FeePairs_ok N y0 y1 l2 y3 l4 true (hN N (Nat.le_refl N)) (c8h W) sx0_4 sx1_4 hl2 sx3_0 hl4).mono ?_
  rintro e W' ⟨v, F', O', rfl, hh, rfl, rfl⟩
  refine ⟨_, rfl, c4m laidOut ?_ rfl (by kernel_rfl) Try.underlying4 rfl hW' hh.below⟩
  rw [Try.params3]
  intro t ht
  have ht : t ∈ [26, 26, 27, 30, 31] := ht
  rcases List.mem_cons.1 ht with rfl | ht
  · exact ⟨by kernel_rfl, of_decide_eq_true (by kernel_rfl)⟩
  rcases List.mem_cons.1 ht with rfl | ht
  · exact ⟨by kernel_rfl, of_decide_eq_true (by kernel_rfl)⟩
  rcases List.mem_cons.1 ht with rfl | ht
  · exact ⟨by kernel_rfl, of_decide_eq_true (by kernel_rfl)⟩
  rcases List.mem_cons.1 ht with rfl | ht
  · exact ⟨by kernel_rfl, of_decide_eq_true (by kernel_rfl)⟩
  rcases List.mem_cons.1 ht with rfl | ht
  · exact ⟨by kernel_rfl, of_decide_eq_true (by kernel_rfl)⟩
  exact absurd ht (List.not_mem_nil)
theorem reads (os : Os) {H : Type} (enc : TypeId × Value → H) : ∃ places, DataW.whole enc Try.prog ((b7h os).forCall (fun _ _ => 0) ⟨#[], #[.agg #[.string ⟨#[]⟩, .int .i64 0, .int .i64 0, .string ⟨#[]⟩, .slice none 0 0, .int .i64 0], .agg #[.string ⟨#[]⟩, .int .i64 0, .int .i64 0, .string ⟨#[]⟩, .slice none 0 0, .int .i64 0], .slice none 0 0, .agg #[.slice none 0 0, .int .i64 0, .int .i64 0], .slice none 0 0], []⟩).memory Try.f3.params.toList Rows.feePairsSpec.vars false (#[.agg #[.string ⟨#[]⟩, .int .i64 0, .int .i64 0, .string ⟨#[]⟩, .slice none 0 0, .int .i64 0], .agg #[.string ⟨#[]⟩, .int .i64 0, .int .i64 0, .string ⟨#[]⟩, .slice none 0 0, .int .i64 0], .slice none 0 0, .agg #[.slice none 0 0, .int .i64 0, .int .i64 0], .slice none 0 0] : Array Value).toList 8 = some ([.agg [.lit (.string []), .agg [.lit (.int .i64 0), .lit (.int .i64 0), .lit (.string []), .nil], .lit (.int .i64 0)], .agg [.lit (.string []), .agg [.lit (.int .i64 0), .lit (.int .i64 0), .lit (.string []), .nil], .lit (.int .i64 0)], .nil, .agg [.nil, .lit (.int .i64 0), .lit (.int .i64 0)], .nil], [], places) :=
  ⟨[], by kernel_rfl⟩
set_option maxRecDepth 100000 in
theorem d0m (os : Os) (started : os.Started) (H : Type) (enc : TypeId × Value → H) (F : Stop.Interp) :
    ReturnsInHanded {} Try.checked os 3 .any ((OpenSpec.ofChange Rows.feePairsSpec).preRow enc Try.prog Try.f3 Rows.feePairsRow.domain false Rows.feePairsRow.laid) (((OpenSpec.ofChange Rows.feePairsSpec).at F).post enc Try.prog Try.f3 false true false false) := by
  obtain ⟨places, hx⟩ := reads os enc
  refine returnsInHanded_of_row (C := Try.checked) (s := OpenSpec.ofChange Rows.feePairsSpec) own started (by kernel_rfl) Try.func3
    (witness_row_at (enc := enc) (C := Try.checked) false (b7h os) #[.agg #[.string ⟨#[]⟩, .int .i64 0, .int .i64 0, .string ⟨#[]⟩, .slice none 0 0, .int .i64 0], .agg #[.string ⟨#[]⟩, .int .i64 0, .int .i64 0, .string ⟨#[]⟩, .slice none 0 0, .int .i64 0], .slice none 0 0, .agg #[.slice none 0 0, .int .i64 0, .int .i64 0], .slice none 0 0] rfl (by kernel_rfl) (by kernel_rfl) (by kernel_rfl)
      (OpenSpec.preRow_of_cond 8 hx (by kernel_rfl) (fun k hk => by cases hk) (by kernel_rfl) (c6q os _))) ?_
  intro W base args ds gs before hval hW _ _ _ hL _ _
  exact c6o H enc W base args ds gs before hval hW hL
theorem said : Rows.FeePairsSaid :=
  OpenClaim.holds_of_cond 3 Try.f3 rfl rfl rfl rfl rfl rfl rfl ⟨rfl, rfl, rfl, rfl, rfl⟩ rfl rfl rfl rfl rfl (by kernel_rfl) Try.func3 (by kernel_rfl)
    (of_decide_eq_true (by kernel_rfl)) (by unfold Func.isWrapper; first | (rw [if_pos (by decide +kernel)]; kernel_rfl) | (rw [if_neg (by decide +kernel)]; exact ⟨rfl, rfl⟩))
    (fun os started H enc _ F => by rw [OpenClaim.pre_eq_preRow]; exact d0m os started H enc F)
end Go.Proofs.Ytknpjecpcmajiaa.FeePairs

