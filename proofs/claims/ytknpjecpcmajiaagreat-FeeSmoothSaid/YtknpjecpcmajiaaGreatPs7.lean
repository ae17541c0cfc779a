/- Several texts in one, for FeeSmooth.said: what the theorem leans on. -/
import Derived.Test.YtknpjecpcmajiaaGreatPs6
namespace Go.Proofs.YtknpjecpcmajiaaGreat.D
open Go Rt M
theorem d2o (v : Nat) : ∀ (u : Nat), (dig u).length < 16777216 → (dig v).length < 16777216 → ∃ N, ∀ n, N ≤ n → ∀ (kont : List Int → Option (Big × Int)) m, v < m → a5q n kont m (dig u) (dig v) = kont (dig (Nat.gcd u v)) := by
  induction v using Nat.strongRecOn with
  | ind v ih =>
    intro u hu hv
    by_cases h : v = 0
    · subst h
      refine ⟨0, fun n _ kont m hm => ?_⟩
      obtain ⟨m, rfl⟩ : ∃ m', m = m' + 1 := ⟨m - 1, by omega⟩
      rw [dig_zero, Nat.gcd_zero_right]; rfl
    · have hlt := Nat.mod_lt u (show v > 0 by omega)
      obtain ⟨N1, h1⟩ := c3e u v h (by omega) (by omega)
      obtain ⟨N2, h2⟩ := ih (u % v) hlt v hv (by have := a5o (Nat.le_of_lt hlt); omega)
      refine ⟨max N1 N2, fun n hn kont m hm => ?_⟩
      obtain ⟨m, rfl⟩ : ∃ m', m = m' + 1 := ⟨m - 1, by omega⟩
      have h3 : 0 < (dig v).length := List.length_pos_iff.2 (b3w h)
      unfold a5q
      rw [show decide (0 < ((dig v).length : Int)) = true by simp; omega, cond_true, (show a7l n (dig u) (dig v) = _ from h1 n (by omega)), Option.bind_some]
      show a5q n kont m (dig v) (dig (u % v)) = _
      rw [h2 n (by omega) kont m (by omega), Nat.gcd_comm v, ← Nat.gcd_rec, Nat.gcd_comm]
theorem c9q {x y : Int} {k : Nat} (hx : Sm k x) (hy : Sm k y) (hk : k < 8388608) : Ev (fun n => b1n n (toB x) (toB y)) (toB (Nat.gcd x.natAbs y.natAbs : Nat), 0) := by
  have lx := a2y hx
  have ly := a2y hy
  unfold b1n
  refine Ev.bind (a8y hx (by omega)) ?_
  refine Ev.bind (a := false) (Ev.else rfl (Ev.bind (a8y hy (by omega)) (Ev.pure _))) ?_
  refine Ev.else rfl ?_
  obtain ⟨N, hN⟩ := d2o y.natAbs x.natAbs (by omega) (by omega)
  have lg : (dig (Nat.gcd x.natAbs y.natAbs)).length ≤ k := by
    rcases Nat.eq_zero_or_pos x.natAbs with h | h
    · rw [h, Nat.gcd_zero_left]; exact ly
    · exact Nat.le_trans (a5o (Nat.gcd_le_left _ h)) lx
  refine Ev.from (g := fun n => (a3j n 1 (dig (Nat.gcd x.natAbs y.natAbs))).bind fun v3 => some ((⟨v3.Sign, v3.Digits⟩ : Big), (0 : Int))) (max N (y.natAbs + 1)) (fun n hn => hN n (by omega) _ n (by omega)) ?_
  exact Ev.bind (b1y (by omega) ((Nat.gcd x.natAbs y.natAbs : Nat) : Int) (Int.natAbs_natCast _) (fun h => (a6j (by omega)).symm)) (Ev.pure _)
end Go.Proofs.YtknpjecpcmajiaaGreat.D

namespace Go.Proofs.YtknpjecpcmajiaaGreat.D
open Go Rt M
theorem d2v {s : Int} (hs : s = 1 ∨ s = -1) (u : Nat) : rem (s * u) 1048576 = some (s * ((u % 1048576 : Nat) : Int)) := by
  have h := b7s (x := (u : Int)) (y := 1048576) (by omega) (by decide)
  rcases hs with rfl | rfl
  · rw [Int.one_mul, Int.one_mul, h]; congr 1
  · unfold rem at h ⊢
    rw [if_neg (by decide)] at h ⊢
    have h2 := Option.some.inj h
    rw [show (-1 : Int) * (u : Int) = -(u : Int) by omega, Int.neg_tmod, h2]
    congr 1; omega
theorem d2w {s : Int} (hs : s = 1 ∨ s = -1) {u : Nat} (hu : u ≤ 9223372036854775808) : quo .i64 (s * u) 1048576 = some (s * ((u / 1048576 : Nat) : Int)) := by
  have h : (u : Int).tdiv 1048576 = ((u / 1048576 : Nat) : Int) := by rw [Int.tdiv_eq_ediv_of_nonneg (by omega)]; omega
  unfold quo
  rw [if_neg (by decide)]
  rcases hs with rfl | rfl
  · rw [Int.one_mul, Int.one_mul, h, a5s (by omega) (by omega)]
  · rw [show (-1 : Int) * (u : Int) = -(u : Int) by omega, Int.neg_tdiv, h, a5s (by omega) (by omega)]
    congr 1; omega
theorem d2m (n : Nat) (kont : List Int → Option Big) {s : Int} (hs : s = 1 ∨ s = -1) : ∀ (u m : Nat) (acc : List Int), u ≤ 9223372036854775808 → (dig u).length < m → acc.length + (dig u).length < 1099511627776 → a7c n kont m (s * (u : Int)) acc = kont (acc ++ dig u) := by
  intro u
  induction u using Nat.strongRecOn with
  | ind u ih =>
    intro m acc hu hm ha
    obtain ⟨m, rfl⟩ : ∃ m', m = m' + 1 := ⟨m - 1, by omega⟩
    unfold a7c
    by_cases h : u = 0
    · subst h
      rw [dig_zero, List.append_nil, show (s * ((0 : Nat) : Int) != 0) = false by simp]; rfl
    · have hd := b1o h
      rw [hd] at hm ha
      simp only [List.length_cons] at hm ha
      have hne : (s * (u : Int) != 0) = true := by
        rw [bne_iff_ne]; rcases hs with rfl | rfl <;> omega
      rw [hne, cond_true, d2v hs, Option.bind_some]
      have e1 : (bif decide (s * ((u % 1048576 : Nat) : Int) < 0) then some (IntKind.i64.wrap (0 - s * ((u % 1048576 : Nat) : Int))) else some (s * ((u % 1048576 : Nat) : Int))) = some ((u % 1048576 : Nat) : Int) := by
        have hlt := Nat.mod_lt u (show 1048576 > 0 by decide)
        generalize u % 1048576 = r at *
        by_cases hn : s * (r : Int) < 0
        · rw [decide_eq_true hn, cond_true]
          congr 1
          rcases hs with rfl | rfl
          · omega
          · rw [a5s (by omega) (by omega)]; omega
        · rw [decide_eq_false hn, cond_false]
          congr 1
          rcases hs with rfl | rfl <;> omega
      rw [e1, Option.bind_some, b4z (by simp; omega), Option.bind_some, d2w hs hu, Option.bind_some, ih (u / 1048576) (by omega) m _ (by omega) (by omega) (by simp; omega), hd]
      simp
theorem c9g {x : Int} (h1 : -9223372036854775808 ≤ x) (h2 : x ≤ 9223372036854775807) : Ev (fun n => b1p n x) (toB x) := by
  have hl := c3u (u := x.natAbs) (by omega)
  by_cases h0 : x = 0
  · subst h0
    exact (Ev.pure _).eq toB_zero.symm
  have hm : ∀ s : Int, s = sg x → Ev (fun n => (a3j n s (dig x.natAbs)).bind fun v1 => some (⟨v1.Sign, v1.Digits⟩ : Big)) (toB x) := fun s hs => Ev.bind (b1y (by omega) x rfl (fun _ => hs)) (Ev.pure _)
  refine Ev.from (g := fun n => (a3j n (sg x) (dig x.natAbs)).bind fun v1 => some (⟨v1.Sign, v1.Digits⟩ : Big)) 5 (fun n hn => ?_) (hm _ rfl)
  show b1p n x = _
  unfold b1p
  rw [show (x == 0) = false from beq_false_of_ne h0, cond_false]
  by_cases hx : x < 0
  · rw [decide_eq_true hx, cond_true, Option.bind_some, a6p hx]
    have h3 := d2m n (fun (l2 : List Int) => (a3j n (-1) l2).bind fun v1 => some (⟨v1.Sign, v1.Digits⟩ : Big)) (s := -1) (.inr rfl) x.natAbs n [] (by omega) (by omega) (by simp; omega)
    rw [show (-1 : Int) * (x.natAbs : Int) = x by omega, List.nil_append] at h3
    exact h3
  · rw [decide_eq_false hx, cond_false, Option.bind_some, a6j (by omega)]
    have h3 := d2m n (fun (l2 : List Int) => (a3j n 1 l2).bind fun v1 => some (⟨v1.Sign, v1.Digits⟩ : Big)) (s := 1) (.inl rfl) x.natAbs n [] (by omega) (by omega) (by simp; omega)
    rw [show (1 : Int) * (x.natAbs : Int) = x by omega, List.nil_append] at h3
    exact h3
end Go.Proofs.YtknpjecpcmajiaaGreat.D

namespace Go.Proofs.YtknpjecpcmajiaaGreat.D
open Go Rt M
section
variable {p q : Int} {k : Nat} (hp : Sm k p) (hq : Sm k q) (hk : k < 8388608)
include hp hq hk
theorem c0u (h0 : 0 < q) : Ev (fun n =>
   (b1n n (⟨(toB p).Sign, (toB p).Digits⟩ : Big) (⟨(toB q).Sign, (toB q).Digits⟩ : Big)).bind fun v3 =>
   (a9u n (⟨(toB p).Sign, (toB p).Digits⟩ : Big) (⟨v3.1.Sign, v3.1.Digits⟩ : Big)).bind fun v4 =>
   (a9u n (⟨(toB q).Sign, (toB q).Digits⟩ : Big) (⟨v3.1.Sign, v3.1.Digits⟩ : Big)).bind fun v5 =>
   some ((⟨(⟨v4.1.Sign, v4.1.Digits⟩ : Big), (⟨v5.1.Sign, v5.1.Digits⟩ : Big)⟩ : Frac), (0 : Int))) (toF (Rat.divInt p q), 0) := by
  have hg : 0 < Nat.gcd p.natAbs q.natAbs := Nat.gcd_pos_of_pos_right _ (by omega)
  have hgs := c1r hp hq
  obtain ⟨e1, e2⟩ := b1g (p := p) h0
  refine Ev.bind (c9q hp hq hk) ?_
  refine Ev.bind (c4u hp hgs hk (by omega)) ?_
  refine Ev.bind (c4u hq hgs hk (by omega)) ((Ev.pure _).eq ?_)
  unfold toF
  rw [e1, e2, ← c2t (by omega), ← c2t (by omega)]
theorem c9p (h0 : q ≠ 0) : Ev (fun n => b2m n (toB p) (toB q)) (toF (Rat.divInt p q), 0) := by
  unfold b2m
  refine Ev.bind (a8y hp (by omega)) ?_
  refine Ev.bind (a := false) (Ev.else rfl (Ev.bind (a8y hq (by omega)) (Ev.pure _))) ?_
  refine Ev.else rfl ?_
  refine Ev.else (by show (sg q == 0) = false; rw [b4g]; simpa using h0) ?_
  by_cases hn : q < 0
  · refine Ev.bind (Ev.then (by show decide (sg q < 0) = true; rw [a6p hn]; rfl) (Ev.bind (c4p hp (by omega)) (Ev.bind (c4p hq (by omega)) (Ev.pure _)))) ?_
    rw [b4c]
    exact c0u hp.neg hq.neg hk (by omega)
  · refine Ev.bind (Ev.else (by show decide (sg q < 0) = false; rw [a6j (by omega)]; rfl) (Ev.pure _)) ?_
    exact c0u hp hq hk (by omega)
end
section
variable {a b : Rat} {j k : Nat} (ha : SmF j a) (hb : SmF k b) (hk : j + k < 4000000)
include ha hb hk
end
section
variable {a : Rat} {k : Nat} (ha : SmF k a) (hk : k < 1000000)
include ha hk
end
theorem d2c {x y : Int} (h1 : -9223372036854775808 ≤ x) (h2 : x ≤ 9223372036854775807) (h3 : -9223372036854775808 ≤ y) (h4 : y ≤ 9223372036854775807) (h0 : y ≠ 0) : Ev (fun n => b2e n x y) (toF (Rat.divInt x y), 0) := by
  have s1 : Sm 4 x := a9r (c3u (by omega))
  have s2 : Sm 4 y := a9r (c3u (by omega))
  unfold b2e
  exact Ev.bind (c9g h1 h2) (Ev.bind (c9g h3 h4) (Ev.bind (c9p s1 s2 (by decide) h0) (Ev.pure _)))
theorem b9u {x : Int} (h1 : -9223372036854775808 ≤ x) (h2 : x ≤ 9223372036854775807) : Ev (fun n => a3x n x) (toF (x : Rat)) := by
  unfold a3x
  refine Ev.bind (d2c h1 h2 (y := 1) (by decide) (by decide) (by decide)) ((Ev.pure _).eq ?_)
  rw [c4a]
end Go.Proofs.YtknpjecpcmajiaaGreat.D

namespace Go.Proofs.YtknpjecpcmajiaaGreat.Fe
open Go Rt M Ta Tp D
theorem b2d {x : M.Expr} : ∀ {y : M.Expr}, y ∈ x.Args → cnt y < cnt x ∧ dep y < dep x := by
  obtain ⟨o, n, s, l⟩ := x
  have h1 : cnt ⟨o, n, s, l⟩ = cnts l + 1 := rfl
  have h2 : dep ⟨o, n, s, l⟩ = deps l + 1 := rfl
  have h3 : ∀ (l : List M.Expr) (y : M.Expr), y ∈ l → cnt y ≤ cnts l ∧ dep y ≤ deps l := by
    intro l
    induction l with
    | nil => intro y hy; cases hy
    | cons z l ih =>
      intro y hy
      have e1 : cnts (z :: l) = cnt z + cnts l := rfl
      have e2 : deps (z :: l) = max (dep z) (deps l) := rfl
      rcases List.mem_cons.1 hy with rfl | hy
      · omega
      · have := ih y hy; omega
  intro y hy
  have := h3 l y hy
  omega
theorem a8c {x y : M.Expr} (h : Frm x) (hy : y ∈ x.Args) : Frm y := by
  have h1 := b2d hy
  refine ⟨⟨by have := h.1.1; omega, by have := h.1.2; omega⟩, ?_⟩
  obtain ⟨o, n, s, l⟩ := x
  exact h.2.inv.2.2.2.2 y hy
theorem a8b {x y : M.Expr} (h : Fit x) (hy : y ∈ x.Args) : Fit y := by
  cases h with
  | mk _ h2 => exact h2 y hy
theorem d0k {names : List Rt.Bs} (hn : names.length < 4611686018427387904) (hnm : c7d names = true) {x : M.Expr} (hx : Fit x) (hf : Frm x) {k : Int} (ht : Typ names x k) : Ev (fun n => a7y n x names) (k, 0) := by
  unfold a7y
  refine Ev.bind (c3i hn) (Ev.else (by rw [hnm]; rfl) ?_)
  obtain ⟨b, eb, hb⟩ := c8w hx
  obtain rfl := hb.2 hf
  refine Ev.bind eb (Ev.else rfl ?_)
  obtain ⟨r, er, hr⟩ := c2b hx names hn hf.2
  obtain rfl := hr.2 k ht
  exact Ev.bind er (Ev.pure _)
theorem b9d {p q : Int} (h : wd p q ≠ 2) : p ≠ 2 ∧ q ≠ 2 := by
  unfold wd at h
  constructor
  · intro e; subst e; exact h rfl
  · intro e; subst e; apply h; cases p == 2 <;> rfl
theorem c3p {names : List Rt.Bs} {E E' : Env} (hl : E.lf = E'.lf) (hp : E.pers = E'.pers) (hf : E.flats = E'.flats) {x : M.Expr} {k : Int} (ht : Typ names x k) : k ≠ 2 → vl E x = vl E' x := by
  have v2 : ∀ {o : Int} {a b : M.Expr}, vl E a = vl E' a → vl E b = vl E' b → vl E ⟨o, 0, [], [a, b]⟩ = vl E' ⟨o, 0, [], [a, b]⟩ := by
    intro o a b ha hb
    show c2s E o 0 [] [vl E a, vl E b] = c2s E' o 0 [] [vl E' a, vl E' b]
    rw [ha, hb]; rfl
  induction ht with
  | num => intro _; rfl
  | lifts _ hs => intro _; show ((E.lf _ : Rat), false) = _; rw [hl]; rfl
  | pers => intro _; show ((E.pers : Rat), false) = _; rw [hp]; rfl
  | flats => intro _; show ((E.flats : Rat), false) = _; rw [hf]; rfl
  | wgt _ hs => intro h; exact absurd rfl h
  | ari _ _ _ _ _ ha hb => intro h; exact v2 (ha (b9d h).1) (hb (b9d h).2)
  | mul _ _ _ _ _ ha hb => intro h; exact v2 (ha (b9d h).1) (hb (b9d h).2)
  | div _ _ _ _ ha => intro h; exact v2 (ha h) rfl
  | @ite c a b _ _ _ _ _ _ _ hc ha hb =>
    intro h
    show c2s E 11 0 [] [vl E c, vl E a, vl E b] = c2s E' 11 0 [] [vl E' c, vl E' a, vl E' b]
    rw [hc (by decide), ha (b9d h).1, hb (b9d h).2]; rfl
  | rel _ _ _ ha hb => intro _; exact v2 (ha (by decide)) (hb (by decide))
  | @not a _ ha =>
    intro _
    show c2s E 14 0 [] [vl E a] = c2s E' 14 0 [] [vl E' a]
    rw [ha (by decide)]; rfl
  | bin _ _ _ ha hb => intro _; exact v2 (ha (by decide)) (hb (by decide))
theorem b7f {names : List Rt.Bs} {E E' : Env} (hl : E.lf = E'.lf) (hp : E.pers = E'.pers) (hf : E.flats = E'.flats) {x : M.Expr} {k : Int} (ht : Typ names x k) (hk : k ≠ 2) : num E x = num E' x := by
  unfold num; rw [c3p hl hp hf ht hk]
theorem c6i {names : List Rt.Bs} {E E' : Env} (hl : E.lf = E'.lf) (hp : E.pers = E'.pers) (hf : E.flats = E'.flats) {x : M.Expr} (ht : Typ names x 0) : tru E x = tru E' x := by
  unfold tru; rw [c3p hl hp hf ht (by decide)]
end Go.Proofs.YtknpjecpcmajiaaGreat.Fe

namespace Go.Proofs.YtknpjecpcmajiaaGreat.Fe
open Go Rt M Ta Tp D
def ab (v : Rat) : Rat := if v < -v then -v else v
theorem b7c (v : Rat) : 0 ≤ ab v := by unfold ab; split <;> grind
theorem d1a {v m : Rat} (h1 : v ≤ m) (h2 : -v ≤ m) : ab v ≤ m := by unfold ab; split <;> assumption
theorem d2n (v : Rat) : v ≤ ab v ∧ -v ≤ ab v := by unfold ab; split <;> grind
theorem c1l {k : Nat} {v : Rat} (h : SmF k v) : SmF k (ab v) := by
  unfold ab; split
  · exact h.neg
  · exact h
theorem b3l {k : Nat} {v : Rat} (h : SmF k v) (hk : k < 1000000) : Ev (fun n => a3n n (toF v)) (toF (ab v)) := by
  unfold a3n
  refine Ev.bind (Ev.bind (FNeg_ev h (by omega)) (Ev.bind (FMax_ev h h.neg (by omega)) (Ev.pure _))) ?_
  exact Ev.pure _
theorem b6n {a b c : Rat} (h : a ≤ b) (hc : 0 ≤ c) : a * c ≤ b * c := Rat.mul_le_mul_of_nonneg_right h hc
structure Near (names : List Rt.Bs) (E E' : Env) (m : Rat) : Prop where
  l : E.lf = E'.lf
  p : E.pers = E'.pers
  f : E.flats = E'.flats
  m0 : 0 ≤ m
  w : ∀ s, s ∈ names → E.wf s - E'.wf s ≤ m ∧ E'.wf s - E.wf s ≤ m
def Slp (names : List Rt.Bs) (E : Env) (x : M.Expr) (s : Rat) : Prop := 0 ≤ s ∧ ∀ E' m, Near names E E' m → num E x - num E' x ≤ s * m ∧ num E' x - num E x ≤ s * m
theorem c5b {names : List Rt.Bs} {E : Env} {x : M.Expr} {p : Int} (ht : Typ names x p) (hp : p ≠ 2) : Slp names E x 0 := ⟨Rat.le_refl, fun E' m h => by
  rw [b7f h.l h.p h.f ht hp, Rat.zero_mul]; grind⟩
theorem c3f {names : List Rt.Bs} {E : Env} {x : M.Expr} {s s' : Rat} (h : Slp names E x s) (hs : s ≤ s') : Slp names E x s' := ⟨Rat.le_trans h.1 hs, fun E' m hn => by
  have h1 := h.2 E' m hn
  have h2 := b6n hs hn.m0
  exact ⟨Rat.le_trans h1.1 h2, Rat.le_trans h1.2 h2⟩⟩
theorem c9v {names : List Rt.Bs} {E : Env} {a b : M.Expr} {s u : Rat} (ha : Slp names E a s) (hb : Slp names E b u) {o : Int} (ho : o = 5 ∨ o = 6) : Slp names E ⟨o, 0, [], [a, b]⟩ (s + u) := ⟨Rat.add_nonneg ha.1 hb.1, fun E' m h => by
  have h1 := ha.2 E' m h
  have h2 := hb.2 E' m h
  have e : (s + u) * m = s * m + u * m := Rat.add_mul s u m
  rw [num_two, num_two, e]
  rcases ho with rfl | rfl
  · rw [c4o, c4o]; grind
  · rw [c4y, c4y]; grind⟩
theorem b9c (a b : Rat) : a ≤ (if a < b then b else a) ∧ b ≤ (if a < b then b else a) := by split <;> grind
theorem d0i {names : List Rt.Bs} {E : Env} {a b : M.Expr} {s u : Rat} (ha : Slp names E a s) (hb : Slp names E b u) {o : Int} (ho : o = 9 ∨ o = 10) : Slp names E ⟨o, 0, [], [a, b]⟩ (if s < u then u else s) := by
  have ha := c3f ha (b9c s u).1
  have hb := c3f hb (b9c s u).2
  refine ⟨ha.1, fun E' m h => ?_⟩
  have h1 := ha.2 E' m h
  have h2 := hb.2 E' m h
  rw [num_two, num_two]
  generalize (if s < u then u else s) * m = c at *
  rcases ho with rfl | rfl
  · rw [c1w, c1w]; grind
  · rw [c2p, c2p]; grind
theorem d0s {names : List Rt.Bs} {E : Env} {c a b : M.Expr} {s u : Rat} (tc : Typ names c 0) (ha : Slp names E a s) (hb : Slp names E b u) : Slp names E ⟨11, 0, [], [c, a, b]⟩ (if s < u then u else s) := by
  have ha := c3f ha (b9c s u).1
  have hb := c3f hb (b9c s u).2
  refine ⟨ha.1, fun E' m h => ?_⟩
  rw [num_ite, num_ite, c6i h.l h.p h.f tc]
  cases tru E' c with
  | true => exact ha.2 E' m h
  | false => exact hb.2 E' m h
theorem c6k {names : List Rt.Bs} {E : Env} {a b : M.Expr} {q : Int} {s : Rat} (ha : Slp names E a s) (tb : Typ names b q) (hq : q ≠ 2) : Slp names E ⟨7, 0, [], [a, b]⟩ (s * ab (num E b)) ∧ Slp names E ⟨7, 0, [], [b, a]⟩ (s * ab (num E b)) := by
  have key : ∀ {d e m : Rat}, d ≤ s * m → -d ≤ s * m → d * num E b ≤ s * ab (num E b) * m := by
    intro d e m h1 h2
    have hb := b7c (num E b)
    have h3 := b6n (a := ab d) (b := s * m) (d1a h1 h2) hb
    have h4 : d * num E b ≤ ab d * ab (num E b) := by
      have g1 := Rat.mul_nonneg (b7c d) hb
      rcases Rat.le_total (a := 0) (b := d) with hd | hd <;> rcases Rat.le_total (a := 0) (b := num E b) with hn | hn
      · have e1 : ab d = d := by unfold ab; rw [if_neg (by grind)]
        have e2 : ab (num E b) = num E b := by unfold ab; rw [if_neg (by grind)]
        rw [e1, e2]; exact Rat.le_refl
      · have := Rat.mul_nonneg hd (show (0 : Rat) ≤ -num E b by grind)
        grind
      · have := Rat.mul_nonneg (show (0 : Rat) ≤ -d by grind) hn
        grind
      · have e1 : ab d = -d := by unfold ab; split <;> grind
        have e2 : ab (num E b) = -num E b := by unfold ab; split <;> grind
        rw [e1, e2]; grind
    have e5 : s * m * ab (num E b) = s * ab (num E b) * m := by grind
    rw [e5] at h3
    exact Rat.le_trans h4 h3
  have h0 : 0 ≤ s * ab (num E b) := Rat.mul_nonneg ha.1 (b7c _)
  constructor <;> refine ⟨h0, fun E' m h => ?_⟩
  · have h1 := ha.2 E' m h
    rw [num_two, num_two, c0e, c0e, ← b7f h.l h.p h.f tb hq]
    have k1 := key (d := num E a - num E' a) (e := 0) (m := m) h1.1 (by grind)
    have k2 := key (d := num E' a - num E a) (e := 0) (m := m) h1.2 (by grind)
    grind
  · have h1 := ha.2 E' m h
    rw [num_two, num_two, c0e, c0e, ← b7f h.l h.p h.f tb hq]
    have k1 := key (d := num E a - num E' a) (e := 0) (m := m) h1.1 (by grind)
    have k2 := key (d := num E' a - num E a) (e := 0) (m := m) h1.2 (by grind)
    grind
theorem d0c {names : List Rt.Bs} {E : Env} {a : M.Expr} {i : Int} {s : Rat} (ha : Slp names E a s) (hi : 1 ≤ i) : Slp names E ⟨8, 0, [], [a, ⟨0, i, [], []⟩]⟩ (s / (i : Rat)) := by
  have hp : (0 : Rat) < (i : Rat) := Rat.intCast_pos.2 (by omega)
  have hv : (0 : Rat) ≤ (i : Rat)⁻¹ := Rat.le_of_lt (Rat.inv_pos.2 hp)
  refine ⟨by rw [Rat.div_def]; exact Rat.mul_nonneg ha.1 hv, fun E' m h => ?_⟩
  have h1 := ha.2 E' m h
  rw [num_two, num_two, c6r, c6r, num_num, num_num, Rat.div_def, Rat.div_def, Rat.div_def]
  have k1 := b6n h1.1 hv
  have k2 := b6n h1.2 hv
  generalize (i : Rat)⁻¹ = y at *
  grind
theorem d0t {names : List Rt.Bs} {E : Env} {s : Rt.Bs} (hs : s ∈ names) : Slp names E ⟨4, 0, s, []⟩ ((1 : Int) : Rat) := ⟨by decide, fun E' m h => by
  have h1 := h.w s hs
  rw [num_wgt, num_wgt, show ((1 : Int) : Rat) * m = m from Rat.one_mul m]; exact h1⟩
def b6a (f : Nat → M.Expr → Option Frac) : List M.Expr → List Frac → Prop
  | [], [] => True
  | y :: us, r :: rs => Ev (fun n => f n y) r ∧ b6a f us rs
  | _, _ => False
theorem c5c (x : M.Expr) (names : List Rt.Bs) (f : Facts) (weights : List Frac) (hx : x.Args.length ≤ 3) : ∀ (us : List M.Expr) (rs : List Frac) (i : Nat) (acc : List Frac), x.Args.drop i = us → acc.length = i → b6a (fun n y => law36_slope n y names f weights) us rs →
    ∃ N, ∀ n m kont, N ≤ n → us.length < m → a4n n (law36_slope n) x names f weights kont m (i : Int) acc = kont (acc ++ rs)
  | [], [], i, acc, hd, _, _ => by
    refine ⟨0, fun n m kont _ hm => ?_⟩
    obtain ⟨m, rfl⟩ := left hm
    rw [a9x, a9v hd, List.append_nil]; rfl
  | [], _ :: _, _, _, _, _, h => h.elim
  | _ :: _, [], _, _, _, _, h => h.elim
  | y :: us, r :: rs, i, acc, hd, ha, ⟨⟨N1, e1⟩, h⟩ => by
    obtain ⟨h1, h2, h3⟩ := Rt.drop_cons hd
    obtain ⟨N, ih⟩ := c5c x names f weights hx us rs (i + 1) (acc ++ [r]) h2 (by simp [ha]) h
    refine ⟨max N N1, fun n m kont hn hm => ?_⟩
    obtain ⟨m, rfl, hm2⟩ := pred (by simpa using hm)
    have e1 : law36_slope n y names f weights = some r := e1 n (by omega)
    rw [a9x, a4y hd, cond_true, h1, Option.bind_some, e1, Option.bind_some, c9a (by simp only [List.length_cons, List.length_nil]; omega), Option.bind_some, Rt.inc64 (by omega), ih n m kont (by omega) hm2, List.append_assoc]; rfl
section
variable {names : List Rt.Bs} {f : Facts} {ws : List Rat}
variable (hf : RF names f ws) (hw : ∀ w, w ∈ ws → SmF 4 w) (hn : names.length ≤ 1000000) (hnm : c7d names = true)
include hf hw hn hnm
theorem c8k {x : M.Expr} {k : Int} (ht : Typ names x k) : Fit x → Frm x → ∃ s, Ev (fun n => law36_slope n x names f (ws.map toF)) (toF s) ∧ SmF (4 * cnt x) s ∧ Slp names (mkE names f ws) x s := by
  have nd : ∀ {x : M.Expr} {rs : List Frac} {r : Frac} {kont : Nat → List Frac → Option Frac}, x.Args.length ≤ 3 → b6a (fun n y => law36_slope n y names f (ws.map toF)) x.Args rs → Ev (fun n => kont n rs) r →
      Ev (fun n => a4n n (law36_slope n) x names f (ws.map toF) (kont n) n 0 []) r := by
    intro x rs r kont h3 ha hk
    obtain ⟨N, h⟩ := c5c x names f (ws.map toF) h3 x.Args rs 0 [] rfl rfl ha
    exact Ev.from (N + x.Args.length + 1) (fun n hn => h n n (kont n) (by omega) (by omega)) hk
  have i0 : Ev (fun n => a3x n 0) (toF ((0 : Int) : Rat)) := b9u (x := 0) (by decide) (by decide)
  have i1 : Ev (fun n => a3x n 1) (toF ((1 : Int) : Rat)) := b9u (x := 1) (by decide) (by decide)
  have s0 : ∀ {j : Nat}, 4 ≤ j → SmF j ((0 : Int) : Rat) := fun h => smI (by decide) (by decide) h
  have p2 : ∀ {o : Int} {a b y : M.Expr}, y ∈ (⟨o, 0, [], [a, b]⟩ : M.Expr).Args → y = a ∨ y = b := fun hy => by
    simp only [List.mem_cons, List.not_mem_nil, or_false] at hy; exact hy
  have c2 : ∀ (o n : Int) (s : Rt.Bs) (a b : M.Expr), cnt ⟨o, n, s, [a, b]⟩ = cnt a + cnt b + 1 := fun o n s a b => by show cnt a + (cnt b + 0) + 1 = _; omega
  have zero : ∀ {x : M.Expr} {rs : List Frac} {p : Int}, x.Args.length ≤ 3 → b6a (fun n y => law36_slope n y names f (ws.map toF)) x.Args rs → (x.Op ≤ 3 ∨ 12 ≤ x.Op) → Typ names x p → p ≠ 2 → 1 ≤ cnt x → ∃ s, Ev (fun n => law36_slope n x names f (ws.map toF)) (toF s) ∧ SmF (4 * cnt x) s ∧ Slp names (mkE names f ws) x s := by
    intro x rs p h3 ha ho ht hp hc
    refine ⟨((0 : Int) : Rat), Ev.suc (fun n => a4x n _ _ _ _) (nd h3 ha ?_), s0 (by omega), c5b ht hp⟩
    have e : ∀ k : Int, (4 ≤ k ∧ k ≤ 11) → (x.Op == k) = false := fun k hk => by rw [beq_eq_false_iff_ne]; omega
    refine Ev.bind i0 (Ev.else (e 4 (by decide)) ?_)
    refine Ev.bind (Ev.else (e 5 (by decide)) ((Ev.pure _).eq (e 6 (by decide)))) (Ev.else rfl ?_)
    refine Ev.bind (Ev.else (e 9 (by decide)) ((Ev.pure _).eq (e 10 (by decide)))) (Ev.else rfl ?_)
    exact Ev.else (e 11 (by decide)) (Ev.else (e 8 (by decide)) (Ev.else (e 7 (by decide)) (Ev.pure _)))
  induction ht with
  | num h1 h2 => intro _ _; exact zero (rs := []) (show 0 ≤ 3 by decide) trivial (.inl (show (0 : Int) ≤ 3 by decide)) (.num h1 h2) (by decide) (Nat.le_refl 1)
  | lifts h1 h2 => intro _ _; exact zero (rs := []) (show 0 ≤ 3 by decide) trivial (.inl (show (1 : Int) ≤ 3 by decide)) (.lifts h1 h2) (by decide) (Nat.le_refl 1)
  | pers => intro _ _; exact zero (rs := []) (by decide) trivial (.inl (by decide)) .pers (by decide) (Nat.le_refl 1)
  | flats => intro _ _; exact zero (rs := []) (by decide) trivial (.inl (by decide)) .flats (by decide) (Nat.le_refl 1)
  | @wgt s h1 h2 =>
    intro _ _
    refine ⟨((1 : Int) : Rat), Ev.suc (fun n => a4x n _ _ _ _) (nd (rs := []) (show (0 : Nat) ≤ 3 by decide) trivial ?_), smI (by decide) (by decide) (by show 4 ≤ 4 * 1; decide), d0t h2⟩
    exact Ev.bind i0 (Ev.then rfl (Ev.bind i1 (Ev.pure _)))
  | @ari o a b p q ho ta tb hp hq iha ihb =>
    intro hx hfm
    obtain ⟨s, es, hs, ls⟩ := iha (a8b hx (by simp)) (a8c hfm (by simp))
    obtain ⟨u, eu, hu, lu⟩ := ihb (a8b hx (by simp)) (a8c hfm (by simp))
    have hca := (b2d (x := ⟨o, 0, [], [a, b]⟩) (y := a) (by simp)).1
    have hcb := (b2d (x := ⟨o, 0, [], [a, b]⟩) (y := b) (by simp)).1
    have hcx := hfm.1.2
    have hall : b6a (fun n y => law36_slope n y names f (ws.map toF)) [a, b] [toF s, toF u] := ⟨es, eu, trivial⟩
    by_cases ho2 : o = 5 ∨ o = 6
    · refine ⟨s + u, Ev.suc (fun n => a4x n _ _ _ _) (nd (rs := [toF s, toF u]) (show (2 : Nat) ≤ 3 by decide) hall ?_), (hs.add hu).mono (by rw [c2]; omega), c9v ls lu ho2⟩
      refine Ev.bind i0 (Ev.else (by rw [beq_eq_false_iff_ne]; show o ≠ 4; omega) ?_)
      refine Ev.bind (a := true) ?_ (Ev.then rfl ?_)
      · rcases ho2 with rfl | rfl
        · exact Ev.then rfl (Ev.pure _)
        · exact Ev.else rfl (Ev.pure _)
      · exact Ev.step (a := toF s) rfl (Ev.step (a := toF u) rfl (Ev.bind (FAdd_ev hs hu (by omega)) (Ev.pure _)))
    · have ho3 : o = 9 ∨ o = 10 := by omega
      refine ⟨if s < u then u else s, Ev.suc (fun n => a4x n _ _ _ _) (nd (rs := [toF s, toF u]) (show (2 : Nat) ≤ 3 by decide) hall ?_), ?_, d0i ls lu ho3⟩
      · refine Ev.bind i0 (Ev.else (by rw [beq_eq_false_iff_ne]; show o ≠ 4; omega) ?_)
        refine Ev.bind (a := false) (Ev.else (by rw [beq_eq_false_iff_ne]; show o ≠ 5; omega) ((Ev.pure _).eq (by rw [beq_eq_false_iff_ne]; show o ≠ 6; omega))) (Ev.else rfl ?_)
        refine Ev.bind (a := true) ?_ (Ev.then rfl ?_)
        · rcases ho3 with rfl | rfl
          · exact Ev.then rfl (Ev.pure _)
          · exact Ev.else rfl (Ev.pure _)
        · exact Ev.step (a := toF s) rfl (Ev.step (a := toF u) rfl (Ev.bind (FMax_ev hs hu (by omega)) (Ev.pure _)))
      · split
        · exact hu.mono (by omega)
        · exact hs.mono (by omega)
  | @mul a b p q ta tb hp hq h5 iha ihb =>
    intro hx hfm
    obtain ⟨s, es, hs, ls⟩ := iha (a8b hx (by simp)) (a8c hfm (by simp))
    obtain ⟨u, eu, hu, lu⟩ := ihb (a8b hx (by simp)) (a8c hfm (by simp))
    have hca := (b2d (x := ⟨7, 0, [], [a, b]⟩) (y := a) (by simp)).1
    have hcb := (b2d (x := ⟨7, 0, [], [a, b]⟩) (y := b) (by simp)).1
    have hcx := hfm.1.2
    have hall : b6a (fun n y => law36_slope n y names f (ws.map toF)) [a, b] [toF s, toF u] := ⟨es, eu, trivial⟩
    have ety := d0k (show names.length < _ by omega) hnm (a8b (y := a) hx (by simp)) (a8c (y := a) hfm (by simp)) ta
    have val : ∀ {y : M.Expr} {r : Int}, y ∈ (⟨7, 0, [], [a, b]⟩ : M.Expr).Args → Typ names y r → r ≠ 0 → Ev (fun n => a4q n ⟨[97], y, -1⟩ names f (ws.map toF)) (toF (num (mkE names f ws) y), 0) ∧ SmF (4 * cnt y) (num (mkE names f ws) y) := by
      intro y r hy ty hr
      have hc : Chk names ⟨[97], y, -1⟩ := ⟨hnm, ⟨show Lx.name [97] = true by decide, a8c hfm hy, show (-1 : Int) ≤ -1 by decide, show (-1 : Int) ≤ 1099511627776 by decide⟩, r, hr, ty⟩
      have hcy := (b2d hy).1
      exact ⟨(c7n (t := ⟨[97], y, -1⟩) (a8b hx hy) (show names.length < _ by omega) hw (by decide) (by decide) hn hc hf).1, b7e hf (by decide) (by decide) hw (show names.length < _ by omega) ty hr (by omega)⟩
    by_cases hp2 : p = 2
    · have hq2 : q ≠ 2 := fun h => h5 ⟨hp2, h⟩
      obtain ⟨ev, hv⟩ := val (y := b) (by simp) tb hq
      refine ⟨s * ab (num (mkE names f ws) b), Ev.suc (fun n => a4x n _ _ _ _) (nd (rs := [toF s, toF u]) (show (2 : Nat) ≤ 3 by decide) hall ?_), (hs.mul (c1l hv)).mono (by rw [c2]; omega), (c6k ls tb hq2).1⟩
      refine Ev.bind i0 (Ev.else rfl (Ev.bind (a := false) (Ev.else rfl (Ev.pure _)) (Ev.else rfl (Ev.bind (a := false) (Ev.else rfl (Ev.pure _)) (Ev.else rfl (Ev.else rfl (Ev.else rfl (Ev.then rfl ?_))))))))
      refine Ev.step (a := a) rfl (Ev.bind ety (Ev.bind (a := 1) (Ev.then (by rw [hp2]; rfl) (Ev.pure _)) ?_))
      refine Ev.bind (Ev.step (a := b) rfl (Ev.bind ev (Ev.pure _))) ?_
      exact Ev.step (a := toF s) rfl (Ev.bind (b3l hv (by omega)) (Ev.bind (FMul_ev hs (c1l hv) (by omega)) (Ev.pure _)))
    · obtain ⟨ev, hv⟩ := val (y := a) (by simp) ta hp
      refine ⟨u * ab (num (mkE names f ws) a), Ev.suc (fun n => a4x n _ _ _ _) (nd (rs := [toF s, toF u]) (show (2 : Nat) ≤ 3 by decide) hall ?_), (hu.mul (c1l hv)).mono (by rw [c2]; omega), (c6k lu ta hp2).2⟩
      refine Ev.bind i0 (Ev.else rfl (Ev.bind (a := false) (Ev.else rfl (Ev.pure _)) (Ev.else rfl (Ev.bind (a := false) (Ev.else rfl (Ev.pure _)) (Ev.else rfl (Ev.else rfl (Ev.else rfl (Ev.then rfl ?_))))))))
      refine Ev.step (a := a) rfl (Ev.bind ety (Ev.bind (a := 0) (Ev.else (by simpa using hp2) (Ev.pure _)) ?_))
      refine Ev.bind (Ev.step (a := a) rfl (Ev.bind ev (Ev.pure _))) ?_
      exact Ev.step (a := toF u) rfl (Ev.bind (b3l hv (by omega)) (Ev.bind (FMul_ev hu (c1l hv) (by omega)) (Ev.pure _)))
  | @div a m p ta hp h1 h2 iha =>
    intro hx hfm
    obtain ⟨s, es, hs, ls⟩ := iha (a8b hx (by simp)) (a8c hfm (by simp))
    have hca := (b2d (x := ⟨8, 0, [], [a, ⟨0, m, [], []⟩]⟩) (y := a) (by simp)).1
    have hcx := hfm.1.2
    obtain ⟨u, eu, _, _⟩ := zero (x := ⟨0, m, [], []⟩) (rs := []) (show 0 ≤ 3 by decide) trivial (.inl (show (0 : Int) ≤ 3 by decide)) (Typ.num (names := names) (by omega) h2) (by decide) (Nat.le_refl 1)
    have hall : b6a (fun n y => law36_slope n y names f (ws.map toF)) [a, ⟨0, m, [], []⟩] [toF s, toF u] := ⟨es, eu, trivial⟩
    have sm : SmF 4 (m : Rat) := smI (by omega) (by omega) (by decide)
    have hm0 : ((m : Rat)).num ≠ 0 := by rw [Rat.num_intCast]; omega
    have c1 : cnt ⟨0, m, [], []⟩ = 1 := rfl
    refine ⟨s / (m : Rat), Ev.suc (fun n => a4x n _ _ _ _) (nd (rs := [toF s, toF u]) (show (2 : Nat) ≤ 3 by decide) hall ?_), (d1y hs sm hm0).mono (by rw [c2]; omega), d0c ls h1⟩
    refine Ev.bind i0 (Ev.else rfl (Ev.bind (a := false) (Ev.else rfl (Ev.pure _)) (Ev.else rfl (Ev.bind (a := false) (Ev.else rfl (Ev.pure _)) (Ev.else rfl (Ev.else rfl (Ev.then rfl ?_)))))))
    refine Ev.step (a := toF s) rfl (Ev.step (a := ⟨0, m, [], []⟩) rfl (Ev.bind (b9u (x := m) (by omega) (by omega)) ?_))
    exact Ev.bind (c6g hs sm (by omega) hm0) (Ev.pure _)
  | @ite c a b p q tc ta tb hp hq ihc iha ihb =>
    intro hx hfm
    obtain ⟨v, ev, _, _⟩ := ihc (a8b hx (by simp)) (a8c hfm (by simp))
    obtain ⟨s, es, hs, ls⟩ := iha (a8b hx (by simp)) (a8c hfm (by simp))
    obtain ⟨u, eu, hu, lu⟩ := ihb (a8b hx (by simp)) (a8c hfm (by simp))
    have hca := (b2d (x := ⟨11, 0, [], [c, a, b]⟩) (y := a) (by simp)).1
    have hcb := (b2d (x := ⟨11, 0, [], [c, a, b]⟩) (y := b) (by simp)).1
    have hcx := hfm.1.2
    have hall : b6a (fun n y => law36_slope n y names f (ws.map toF)) [c, a, b] [toF v, toF s, toF u] := ⟨ev, es, eu, trivial⟩
    refine ⟨if s < u then u else s, Ev.suc (fun n => a4x n _ _ _ _) (nd (rs := [toF v, toF s, toF u]) (show (3 : Nat) ≤ 3 by decide) hall ?_), ?_, d0s tc ls lu⟩
    · refine Ev.bind i0 (Ev.else rfl (Ev.bind (a := false) (Ev.else rfl (Ev.pure _)) (Ev.else rfl (Ev.bind (a := false) (Ev.else rfl (Ev.pure _)) (Ev.else rfl (Ev.then rfl ?_))))))
      exact Ev.step (a := toF s) rfl (Ev.step (a := toF u) rfl (Ev.bind (FMax_ev hs hu (by omega)) (Ev.pure _)))
    · split
      · exact hu.mono (by omega)
      · exact hs.mono (by omega)
  | @rel o a b ho ta tb iha ihb =>
    intro hx hfm
    obtain ⟨s, es, _, _⟩ := iha (a8b hx (by simp)) (a8c hfm (by simp))
    obtain ⟨u, eu, _, _⟩ := ihb (a8b hx (by simp)) (a8c hfm (by simp))
    exact zero (rs := [toF s, toF u]) (show 2 ≤ 3 by decide) ⟨es, eu, trivial⟩ (.inr (by show 12 ≤ o; omega)) (.rel ho ta tb) (by decide) (by rw [c2]; omega)
  | @not a ta iha =>
    intro hx hfm
    obtain ⟨s, es, _, _⟩ := iha (a8b hx (by simp)) (a8c hfm (by simp))
    exact zero (rs := [toF s]) (show 1 ≤ 3 by decide) ⟨es, trivial⟩ (.inr (by show (12 : Int) ≤ 14; decide)) (.not ta) (by decide) (by show 1 ≤ cnt a + 0 + 1; omega)
  | @bin o a b ho ta tb iha ihb =>
    intro hx hfm
    obtain ⟨s, es, _, _⟩ := iha (a8b hx (by simp)) (a8c hfm (by simp))
    obtain ⟨u, eu, _, _⟩ := ihb (a8b hx (by simp)) (a8c hfm (by simp))
    exact zero (rs := [toF s, toF u]) (show 2 ≤ 3 by decide) ⟨es, eu, trivial⟩ (.inr (by show 12 ≤ o; omega)) (.bin ho ta tb) (by decide) (by rw [c2]; omega)
end
def most (m : Rat) : List Rat → List Rat → Rat
  | w :: ws, v :: vs => most (if m < ab (w - v) then ab (w - v) else m) ws vs
  | _, _ => m
theorem c2n (m : Rat) : ∀ (ws vs : List Rat), m ≤ most m ws vs
  | [], _ => Rat.le_refl
  | _ :: _, [] => Rat.le_refl
  | w :: ws, v :: vs => Rat.le_trans (b9c m (ab (w - v))).1 (c2n _ ws vs)
theorem most_at : ∀ (m : Rat) (ws vs : List Rat) (i : Nat) (w v : Rat), ws[i]? = some w → vs[i]? = some v → ab (w - v) ≤ most m ws vs
  | m, [], _, _, _, _, h, _ => by cases h
  | m, _ :: _, [], _, _, _, _, h => by cases h
  | m, a :: ws, b :: vs, 0, w, v, h, h2 => by
    cases h; cases h2
    exact Rat.le_trans (b9c m (ab (a - b))).2 (c2n _ ws vs)
  | m, a :: ws, b :: vs, i + 1, w, v, h, h2 => most_at _ ws vs i w v (by simpa using h) (by simpa using h2)
theorem c5n {ws us : List Rat} {i : Nat} {w : Rat} (h : ws.drop i = w :: us) : ix (ws.map toF) (i : Int) = some (toF w) := by
  have := (Rt.drop_cons h).1
  rw [b2l] at this ⊢
  rw [List.getElem?_map, this]; rfl
theorem c1h {m0 w v : Rat} (hs : SmF 9 m0) (sw : SmF 4 w) (sv : SmF 4 v) : SmF 9 (if m0 < ab (w - v) then ab (w - v) else m0) := by
  have s2 : SmF 9 (w - v) := (sw.sub sv).mono (by omega)
  split
  · exact c1l s2
  · exact hs
theorem c9m (us : List Rat) : ∀ (ys : List Rat) (m0 : Rat), (∀ w, w ∈ us → SmF 4 w) → (∀ w, w ∈ ys → SmF 4 w) → SmF 9 m0 → SmF 9 (most m0 us ys) := by
  induction us with
  | nil => intro ys m0 _ _ h; exact h
  | cons w us ih =>
    intro ys m0 hw hv h
    cases ys with
    | nil => exact h
    | cons v ys => exact ih ys _ (fun x hx => hw x (by simp [hx])) (fun x hx => hv x (by simp [hx])) (c1h h (hw w (by simp)) (hv v (by simp)))
theorem c1y {ws vs us ys : List Rat} {w v m0 : Rat} {i : Nat} (hl : ws.length ≤ 1000) (hd : ws.drop i = w :: us) (hd' : vs.drop i = v :: ys) (sw : SmF 4 w) (sv : SmF 4 v) (hs : SmF 9 m0) :
    ∃ N, ∀ n m kont, N ≤ n → a3h n (ws.map toF) (vs.map toF) kont (m + 1) (i : Int) (toF m0).P.Sign (toF m0).P.Digits (toF m0).Q.Sign (toF m0).Q.Digits =
      a3h n (ws.map toF) (vs.map toF) kont m ((i + 1 : Nat) : Int) (toF (if m0 < ab (w - v) then ab (w - v) else m0)).P.Sign (toF (if m0 < ab (w - v) then ab (w - v) else m0)).P.Digits (toF (if m0 < ab (w - v) then ab (w - v) else m0)).Q.Sign (toF (if m0 < ab (w - v) then ab (w - v) else m0)).Q.Digits := by
  obtain ⟨h1, h2, h3⟩ := Rt.drop_cons hd
  have iw := c5n hd
  have iv := c5n hd'
  obtain ⟨N1, e1⟩ := FSub_ev sw sv (by decide)
  have s2 : SmF 9 (w - v) := (sw.sub sv).mono (by omega)
  obtain ⟨N2, e2⟩ := b3l s2 (by decide)
  obtain ⟨N3, e3⟩ := FMax_ev hs (c1l s2) (by decide)
  refine ⟨max N1 (max N2 N3), fun n m kont hn => ?_⟩
  have e1 : a7w n (toF w) (toF v) = some (toF (w - v), 0) := e1 n (by omega)
  have e2 : a3n n (toF (w - v)) = some (toF (ab (w - v))) := e2 n (by omega)
  have e3 : a5x n (toF m0) (toF (ab (w - v))) = some (toF (if m0 < ab (w - v) then ab (w - v) else m0), 0) := e3 n (by omega)
  generalize (if m0 < ab (w - v) then ab (w - v) else m0) = z at *
  have hd2 : (ws.map toF).drop i = toF w :: us.map toF := by rw [← List.map_drop, hd]; rfl
  rw [a7r, a4y hd2, cond_true, iw, Option.bind_some, iv, Option.bind_some, e1, Option.bind_some, Option.bind_some]
  show ((a3n n (toF (w - v))).bind fun v25 => (a5x n (toF m0) v25).bind fun v26 => _) = _
  rw [e2, Option.bind_some, e3, Option.bind_some, Rt.inc64 (by omega)]
theorem c7h {ws vs : List Rat} (hw : ∀ w, w ∈ ws → SmF 4 w) (hv : ∀ w, w ∈ vs → SmF 4 w) (hl : ws.length ≤ 1000) (us : List Rat) : ∀ (ys : List Rat) (i : Nat) (m0 : Rat), ws.drop i = us → vs.drop i = ys → us.length = ys.length → SmF 9 m0 →
    ∃ N, ∀ n m kont, N ≤ n → us.length < m → a3h n (ws.map toF) (vs.map toF) kont m (i : Int) (toF m0).P.Sign (toF m0).P.Digits (toF m0).Q.Sign (toF m0).Q.Digits =
      kont (toF (most m0 us ys)).P.Sign (toF (most m0 us ys)).P.Digits (toF (most m0 us ys)).Q.Sign (toF (most m0 us ys)).Q.Digits := by
  induction us with
  | nil =>
    intro ys i m0 hd _ _ hs
    refine ⟨0, fun n m kont _ hm => ?_⟩
    obtain ⟨m, rfl⟩ := left hm
    have hd2 : (ws.map toF).drop i = [] := by rw [← List.map_drop, hd]; rfl
    rw [a7r, a9v hd2]; rfl
  | cons w us ih =>
    intro ys i m0 hd hd' hl2 hs
    cases ys with
    | nil => simp at hl2
    | cons v ys =>
      have sw := hw w (List.mem_of_mem_drop (by rw [hd]; simp))
      have sv := hv v (List.mem_of_mem_drop (by rw [hd']; simp))
      obtain ⟨N1, step⟩ := c1y hl hd hd' sw sv hs
      obtain ⟨N, ih⟩ := ih ys (i + 1) _ (Rt.drop_cons hd).2.1 (Rt.drop_cons hd').2.1 (by simpa using hl2) (c1h hs sw sv)
      refine ⟨max N N1, fun n m kont hn hm => ?_⟩
      obtain ⟨m, rfl, hm2⟩ := pred (by simpa using hm)
      rw [step n m kont (by omega)]
      exact ih n m kont (by omega) hm2
theorem c7y {c : Int} (hc : -1 ≤ c) {a b d : Rat} (h1 : a - b ≤ d) (h2 : b - a ≤ d) : capV c a - capV c b ≤ d ∧ capV c b - capV c a ≤ d := by
  unfold capV
  by_cases hn : c = -1
  · have e : ∀ v : Rat, ¬(c ≠ -1 ∧ (c : Rat) < v) := fun v h => h.1 hn
    rw [if_neg (e a), if_neg (e b)]
    split <;> split <;> grind
  · have h0 : (0 : Rat) ≤ (c : Rat) := Rat.intCast_le_intCast.2 (show (0 : Int) ≤ c by omega)
    simp only [ne_eq, hn, not_false_eq_true, true_and]
    generalize (c : Rat) = z at *
    split <;> split <;> grind
theorem smooth_ev (t : Tariff) (names : List Rt.Bs) (f : Facts) (weights others : List Frac) : Ev (fun n => a8q n t names f weights others) true := by
  unfold a8q
  refine Ev.bind small36 ?_
  have T : ∀ {x : Nat → Option Bool}, Ev (fun n => bif true then some true else x n) true := fun {x} => Ev.then rfl (Ev.pure _)
  obtain ⟨b, hb, hq⟩ := d1o t names f weights
  refine Ev.bind hb ?_
  cases b with
  | false => exact Ev.bind T T
  | true =>
  obtain ⟨b, hb2, hq2⟩ := d1o t names f others
  refine Ev.bind (a := !b) (Ev.else rfl (Ev.bind hb2 (Ev.pure _))) ?_
  cases b with
  | false => exact T
  | true =>
  refine Ev.else rfl ?_
  have s1 := hq rfl
  have s2 := hq2 rfl
  have n8 := s1.nl
  have l8 := s1.ll
  obtain ⟨r, er, hr⟩ := c5h s1.fit (show names.length < _ by omega) s1.lim (by decide) (by decide) (by omega) (by have := s1.wl; omega) (f := f)
  refine Ev.bind er ?_
  obtain ⟨r2, er2, hr2⟩ := c5h s2.fit (show names.length < _ by omega) s2.lim (by decide) (by decide) (by omega) (by have := s2.wl; omega) (f := f)
  refine Ev.bind er2 ?_
  have capt : ∀ {weights : List Frac} {r : Frac × Int}, Ev (fun n => a4q n t names f weights) r → ((r.2 = 0 ∧ Chk names t ∧ ∃ ws : List Rat, weights = ws.map toF ∧ RF names f ws ∧ (∀ w, w ∈ ws → SmF 4 w) ∧ SmF 3000 (fv names f ws t) ∧ r.1 = toF (fv names f ws t)) ∨ (r.2 ≠ 0 ∧ r.1 = zeroF)) →
      ∃ c, Ev (fun n => a6l n t names f weights) c ∧ (r.2 = 0 → ∀ v, SmF 3000 v → r.1 = toF v → c = (toF (capV t.Cap v), 0)) := by
    intro weights r er hr
    obtain ⟨r1, r0⟩ := r
    rcases hr with ⟨h0, hc, ws, _, _, _, hs, hv⟩ | ⟨hne, hz⟩
    · dsimp only at h0 hv
      subst h0 hv
      refine ⟨_, c6a hc.2.1.2.2 hs er, fun _ v _ hv => ?_⟩
      rw [d0x hv]
    · dsimp only at hne hz
      subst hz
      exact ⟨_, c4f hne er, fun h => absurd h hne⟩
  obtain ⟨c1, ec1, hc1⟩ := capt er hr
  obtain ⟨c2, ec2, hc2⟩ := capt er2 hr2
  refine Ev.bind ec1 (Ev.bind ec2 ?_)
  rcases hr with ⟨h0, hc, ws, rfl, hrf, hsm, hs, hv⟩ | ⟨hne, hz⟩
  rotate_left
  · exact Ev.bind (Ev.then (by simpa using hne) (Ev.pure _)) T
  refine Ev.bind (a := r2.2 != 0) (Ev.else (by rw [h0]; rfl) (Ev.pure _)) ?_
  rcases hr2 with ⟨h02, _, vs, rfl, hrf2, hsm2, hs2, hv2⟩ | ⟨hne2, _⟩
  rotate_left
  · exact Ev.then (by simpa using hne2) (Ev.pure _)
  refine Ev.else (by rw [h02]; rfl) ?_
  obtain rfl := hc1 h0 _ hs hv
  obtain rfl := hc2 h02 _ hs2 hv2
  obtain ⟨r1, r0⟩ := r
  obtain ⟨q1, q0⟩ := r2
  dsimp only at h0 hv h02 hv2
  subst h0 h02 hv hv2
  have hlw := hrf.hw
  have hlv := hrf2.hw
  refine Ev.bind (a := false) (Ev.else rfl (Ev.pure _)) (Ev.bind (a := false) (Ev.else rfl ((Ev.pure _).eq ?_)) (Ev.else rfl ?_))
  · rw [List.length_map, List.length_map, hlw, hlv]; exact bne_self_eq_false _
  refine Ev.bind (b9u (x := 0) (by decide) (by decide)) ?_
  have h9 : SmF 9 ((0 : Int) : Rat) := smI (by decide) (by decide) (by decide)
  have hm9 := c9m ws vs _ hsm hsm2 h9
  obtain ⟨N, hL⟩ := c7h hsm hsm2 (by omega) ws vs 0 _ rfl rfl (by omega) h9
  refine Ev.from (N + ws.length + 1) (fun n hn => hL n n _ (by omega) (by omega)) ?_
  have hm0 : (0 : Rat) ≤ most ((0 : Int) : Rat) ws vs := c2n _ ws vs
  obtain ⟨j, hj, ht⟩ := hc.2.2
  have hfrm := hc.2.1.2.1
  have hcn := hfrm.1.2
  obtain ⟨s, es, hss, hsl⟩ := c8k hrf hsm (show names.length ≤ _ by omega) hc.1 ht s1.fit hfrm
  have hss : SmF 400 s := hss.mono (by omega)
  have hsM := hss.mul hm9
  refine Ev.bind es (Ev.bind (FMul_ev hss hm9 (by decide)) (Ev.bind (FSub_ev hs hs2 (by decide)) ?_))
  have cap := hc.2.1.2.2
  have capsm : ∀ {v : Rat}, SmF 3000 v → SmF 3000 (capV t.Cap v) := by
    intro v hv
    unfold capV
    split
    · exact smI (x := 0) (by decide) (by decide) (by decide)
    · split
      · exact smI (by omega) (by omega) (by decide)
      · exact hv
  have k1 := capsm hs
  have k2 := capsm hs2
  refine Ev.bind (FSub_ev k1 k2 (by decide)) ?_
  have d1 := hs.sub hs2
  have d2 := k1.sub k2
  have a1 := c1l d1
  have a2 := c1l d2
  have near : Near names (mkE names f ws) (mkE names f vs) (most ((0 : Int) : Rat) ws vs) := by
    refine ⟨rfl, rfl, rfl, hm0, fun x hx => ?_⟩
    have hlt := List.idxOf_lt_length_of_mem hx
    have g1 : ws[names.idxOf x]? = some (look names ws 0 x) := by unfold look; rw [List.getElem?_eq_getElem (by omega)]; rfl
    have g2 : vs[names.idxOf x]? = some (look names vs 0 x) := by unfold look; rw [List.getElem?_eq_getElem (by omega)]; rfl
    have g3 := most_at ((0 : Int) : Rat) ws vs _ _ _ g1 g2
    have g4 := d2n (look names ws 0 x - look names vs 0 x)
    show look names ws 0 x - look names vs 0 x ≤ _ ∧ look names vs 0 x - look names ws 0 x ≤ _
    constructor
    · exact Rat.le_trans g4.1 g3
    · exact Rat.le_trans (by grind) g3
  obtain ⟨b1, b2⟩ := hsl.2 _ _ near
  have hab : ab (fv names f ws t - fv names f vs t) ≤ s * most ((0 : Int) : Rat) ws vs := d1a b1 (by show -(num _ _ - num _ _) ≤ _; grind)
  have hcab : ab (capV t.Cap (fv names f ws t) - capV t.Cap (fv names f vs t)) ≤ ab (fv names f ws t - fv names f vs t) := by
    have g := d2n (fv names f ws t - fv names f vs t)
    obtain ⟨c1, c2⟩ := c7y cap.1 (a := fv names f ws t) (b := fv names f vs t) g.1 (by grind)
    exact d1a c1 (by grind)
  refine Ev.bind (a := true) (Ev.then rfl (Ev.bind (a4j hsM (by decide)) (Ev.pure _))) ?_
  refine Ev.bind (a := true) (Ev.then rfl (Ev.bind (b3l d1 (by decide)) (Ev.bind (FCompare_ev a1 hsM (by decide)) ((Ev.pure _).eq (decide_eq_true ((c5t _ _).2 hab)))))) ?_
  exact Ev.bind (a := true) (Ev.then rfl (Ev.bind (b3l d2 (by decide)) (Ev.bind (b3l d1 (by decide)) (Ev.bind (FCompare_ev a2 a1 (by decide)) ((Ev.pure _).eq (decide_eq_true ((c5t _ _).2 hcab))))))) (Ev.pure _)
end Go.Proofs.YtknpjecpcmajiaaGreat.Fe

namespace Go.Proofs.YtknpjecpcmajiaaGreat.FeeSmooth
open Go Go.ChangeShapes Go.WideShapes Go.ChangeAt Go.RowKit Rt Wrap
set_option maxRecDepth 100000 in
theorem c8f (H : Type) (enc : TypeId × Value → H) (W : World) (base : Nat) (args : Array Value) (ds gs : List (DataW H)) (before : List MemPlace)
    (hval : ∀ (j : Nat) t v, Tryz.f5.params[j]? = some t → args[j]? = some v → Value.okWide Tryz.prog W .any base t v)
    (hW : DataW.Whole enc Tryz.prog Tryz.f5.params.toList Rows.feeSmoothSpec.vars false W args.toList ds gs before) (_hL : laidMetH Tryz.prog tabs W) :
    Calls Tryz.prog 5 args W fun e W' => ∃ v, e = .returned v ∧ Rows.feeSmoothSpec.post enc Tryz.prog Tryz.f5 false true false false W args v W' := by
  have hW' := hW
  obtain ⟨p, q, hA0, hV, rfl, hfz, hnd⟩ := hW
  have hA : DataW.TrodAll enc Tryz.prog W 0 (fun _ => true) true Tryz.f5.params.toList args.toList ds p := hA0
  rw [Tryz.params5] at hA hval
  obtain ⟨v0, vs0, d0, ds0, p0, q0, hargs, rfl, rfl, h0, r0⟩ := trodAll_cons hA
  obtain ⟨v1, vs1, d1, ds1, p1, q1, rfl, rfl, rfl, h1, r1⟩ := trodAll_cons r0
  obtain ⟨v2, vs2, d2, ds2, p2, q2, rfl, rfl, rfl, h2, r2⟩ := trodAll_cons r1
  obtain ⟨v3, vs3, d3, ds3, p3, q3, rfl, rfl, rfl, h3, r3⟩ := trodAll_cons r2
  obtain ⟨v4, vs4, d4, ds4, p4, q4, rfl, rfl, rfl, h4, r4⟩ := trodAll_cons r3
  obtain ⟨rfl, rfl, rfl⟩ := trodAll_nil r4
  obtain rfl : args = #[v0, v1, v2, v3, v4] := by cases args; simp_all
  obtain ⟨rfl, rfl⟩ := trodVars_none hV
  obtain ⟨cs0, rfl, hsz0⟩ := okWide_struct Tryz.underlying26 (hval 0 26 v0 rfl rfl)
  obtain ⟨y0, hr0, ho0⟩ := b9w (d0w W) h0
  obtain ⟨ax0_4, nx0_4, cx0_4, he0, sx0_4⟩ := hr0
  have he0' : cs0.toList = [vs y0.Name, .int .i64 y0.Fee.Op, .int .i64 y0.Fee.N, vs y0.Fee.Name, .slice ax0_4 nx0_4 cx0_4, .int .i64 y0.Cap] := he0
  obtain rfl : cs0 = #[vs y0.Name, .int .i64 y0.Fee.Op, .int .i64 y0.Fee.N, vs y0.Fee.Name, .slice ax0_4 nx0_4 cx0_4, .int .i64 y0.Cap] := by rw [← Array.toArray_toList (xs := cs0), he0']
  obtain ⟨a1, n1, c1, l1, rfl, hl1, ho1⟩ := c2j Tryz.underlying27 (d0r W) (hval 1 27 v1 rfl rfl) h1
  obtain ⟨cs2, rfl, hsz2⟩ := okWide_struct Tryz.underlying30 (hval 2 30 v2 rfl rfl)
  obtain ⟨y2, hr2, ho2⟩ := b9w (d0d W) h2
  obtain ⟨ax2_0, nx2_0, cx2_0, he2, sx2_0⟩ := hr2
  have he2' : cs2.toList = [.slice ax2_0 nx2_0 cx2_0, .int .i64 y2.Persons, .int .i64 y2.Flats] := he2
  obtain rfl : cs2 = #[.slice ax2_0 nx2_0 cx2_0, .int .i64 y2.Persons, .int .i64 y2.Flats] := by rw [← Array.toArray_toList (xs := cs2), he2']
  obtain ⟨a3, n3, c3, l3, rfl, hl3, ho3⟩ := c2j Tryz.underlying31 (c4m W) (hval 3 31 v3 rfl rfl) h3
  obtain ⟨a4, n4, c4, l4, rfl, hl4, ho4⟩ := c2j Tryz.underlying31 (c4m W) (hval 4 31 v4 rfl rfl) h4
  obtain ⟨N, hN⟩ := Fe.smooth_ev y0 l1 y2 l3 l4
  refine (M.law36_FeeSmooth_ok N y0 l1 y2 l3 l4 true (hN N (Nat.le_refl N)) (d0j W) sx0_4 hl1 sx2_0 hl3 hl4).mono ?_
  rintro e W' ⟨v, F', O', rfl, hh, rfl, rfl⟩
  refine ⟨_, rfl, c5g laidOut ?_ rfl (by kernel_rfl) Tryz.underlying4 rfl hW' hh.below⟩
  rw [Tryz.params5]
  intro t ht
  have ht : t ∈ [26, 27, 30, 31, 31] := ht
  rcases List.mem_cons.1 ht with rfl | ht
  · exact ⟨by kernel_rfl, of_decide_eq_true (by kernel_rfl)⟩
  rcases List.mem_cons.1 ht with rfl | ht
  · exact ⟨by kernel_rfl, of_decide_eq_true (by kernel_rfl)⟩
  rcases List.mem_cons.1 ht with rfl | ht
  · exact ⟨by kernel_rfl, of_decide_eq_true (by kernel_rfl)⟩
  rcases List.mem_cons.1 ht with rfl | ht
  · exact ⟨by kernel_rfl, of_decide_eq_true (by kernel_rfl)⟩
  rcases List.mem_cons.1 ht with rfl | ht
  · exact ⟨by kernel_rfl, of_decide_eq_true (by kernel_rfl)⟩
  exact absurd ht (List.not_mem_nil)
theorem reads (os : Os) {H : Type} (enc : TypeId × Value → H) : ∃ places, DataW.whole enc Tryz.prog ((b7l os).forCall (fun _ _ => 0) ⟨#[], #[.agg #[.string ⟨#[]⟩, .int .i64 0, .int .i64 0, .string ⟨#[]⟩, .slice none 0 0, .int .i64 0], .slice none 0 0, .agg #[.slice none 0 0, .int .i64 0, .int .i64 0], .slice none 0 0, .slice none 0 0], []⟩).memory Tryz.f5.params.toList Rows.feeSmoothSpec.vars false (#[.agg #[.string ⟨#[]⟩, .int .i64 0, .int .i64 0, .string ⟨#[]⟩, .slice none 0 0, .int .i64 0], .slice none 0 0, .agg #[.slice none 0 0, .int .i64 0, .int .i64 0], .slice none 0 0, .slice none 0 0] : Array Value).toList 8 = some ([.agg [.lit (.string []), .agg [.lit (.int .i64 0), .lit (.int .i64 0), .lit (.string []), .nil], .lit (.int .i64 0)], .nil, .agg [.nil, .lit (.int .i64 0), .lit (.int .i64 0)], .nil, .nil], [], places) :=
  ⟨[], by kernel_rfl⟩
set_option maxRecDepth 100000 in
theorem d2p (os : Os) (started : os.Started) (H : Type) (enc : TypeId × Value → H) (F : Stop.Interp) :
    ReturnsInHanded {} Tryz.checked os 5 .any ((OpenSpec.ofChange Rows.feeSmoothSpec).preRow enc Tryz.prog Tryz.f5 Rows.feeSmoothRow.domain false Rows.feeSmoothRow.laid) (((OpenSpec.ofChange Rows.feeSmoothSpec).at F).post enc Tryz.prog Tryz.f5 false true false false) := by
  obtain ⟨places, hx⟩ := reads os enc
  refine returnsInHanded_of_row (C := Tryz.checked) (s := OpenSpec.ofChange Rows.feeSmoothSpec) own started (by kernel_rfl) Tryz.func5
    (witness_row_at (enc := enc) (C := Tryz.checked) false (b7l os) #[.agg #[.string ⟨#[]⟩, .int .i64 0, .int .i64 0, .string ⟨#[]⟩, .slice none 0 0, .int .i64 0], .slice none 0 0, .agg #[.slice none 0 0, .int .i64 0, .int .i64 0], .slice none 0 0, .slice none 0 0] rfl (by kernel_rfl) (by kernel_rfl) (by kernel_rfl)
      (OpenSpec.preRow_of_cond 8 hx (by kernel_rfl) (fun k hk => by cases hk) (by kernel_rfl) (c7u os _))) ?_
  intro W base args ds gs before hval hW _ _ _ hL _ _
  exact c8f H enc W base args ds gs before hval hW hL
theorem said : Rows.FeeSmoothSaid :=
  OpenClaim.holds_of_cond 5 Tryz.f5 rfl rfl rfl rfl rfl rfl rfl ⟨rfl, rfl, rfl, rfl, rfl⟩ rfl rfl rfl rfl rfl (by kernel_rfl) Tryz.func5 (by kernel_rfl)
    (of_decide_eq_true (by kernel_rfl)) (by unfold Func.isWrapper; first | (rw [if_pos (by decide +kernel)]; kernel_rfl) | (rw [if_neg (by decide +kernel)]; exact ⟨rfl, rfl⟩))
    (fun os started H enc _ F => by rw [OpenClaim.pre_eq_preRow]; exact d2p os started H enc F)
end Go.Proofs.YtknpjecpcmajiaaGreat.FeeSmooth

