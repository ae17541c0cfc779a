/- Several texts in one. -/
import Derived.Test.YtaanocaobllohaaGreatDoorBigAll
import Derived.Test.YtaanocaobllohaaGreatDoorMirR
/-
  THE REFERENCE's FUNCTIONS, as arithmetic, first part: trimming, digits, what is right, order, sums, differences.
-/
namespace Go.Proofs.YtaanocaobllohaaGreatDoor.D
open Go Rt M
theorem c8y (n : Nat) (l : List Int) (kont : Int → Option (List Int)) (hl : l.length < 1099511627776) : ∀ (r : Nat) (c : List Int) (m : Nat), c.getLast? ≠ some 0 → l = c ++ List.replicate r 0 → ∀ k, k ≤ r → k < m →
    a4x n l kont m ((c.length + k : Nat) : Int) = kont (c.length : Int) := by
  intro r c m hc hlc k
  induction k generalizing m with
  | zero =>
    intro _ hm
    obtain ⟨m, rfl⟩ : ∃ m', m = m' + 1 := ⟨m - 1, by omega⟩
    unfold a4x
    rcases List.eq_nil_or_concat c with rfl | ⟨p, d, rfl⟩
    · rfl
    · rw [List.concat_eq_append] at *
      have hd : (d == 0) = false := by simpa using hc
      have e0 : isub .i64 (((p ++ [d]).length + 0 : Nat) : Int) 1 = (p.length : Int) := by rw [a2g (by simp <;> omega) (by rw [hlc] at hl; simp at hl ⊢; try omega)]; simp
      have e1 : decide ((0 : Int) < (((p ++ [d]).length + 0 : Nat) : Int)) = true := by simp <;> omega
      have e2 : ix l (p.length : Int) = some d := by rw [hlc, List.append_assoc]; exact a5x p d _ rfl
      rw [e1, e0, e2, cond_true, Option.bind_some, Option.bind_some, hd, cond_false]; rfl
  | succ k ih =>
    intro hk hm
    obtain ⟨m, rfl⟩ : ∃ m', m = m' + 1 := ⟨m - 1, by omega⟩
    have hlen : l.length = c.length + r := by rw [hlc]; simp
    unfold a4x
    have e0 : isub .i64 ((c.length + (k + 1) : Nat) : Int) 1 = ((c.length + k : Nat) : Int) := by rw [a2g (by omega) (by omega)]; omega
    have e1 : decide ((0 : Int) < ((c.length + (k + 1) : Nat) : Int)) = true := by simp; omega
    have e2 : ix l ((c.length + k : Nat) : Int) = some 0 := by
      rw [b2z, hlc, List.getElem?_append_right (by omega), show c.length + k - c.length = k by omega, List.getElem?_replicate, if_pos (by omega)]
    rw [e1, e0, e2, cond_true, Option.bind_some, Option.bind_some, show ((0 : Int) == 0) = true from rfl, cond_true]
    exact ih m (by omega) (by omega)
theorem b0l {l : List Int} (hl : InR l) (hlen : l.length < 1099511627776) {n : Nat} (hn : l.length < n) : a1o n l = some (dig (val l).toNat) := by
  obtain ⟨r, hr⟩ := split_dig hl
  have h1 : l.length = (dig (val l).toNat).length + r := by conv => lhs; rw [hr]
                                                            simp
  unfold a1o
  have h2 := c8y n l (fun (nx2 : Int) => (lsl l 0 nx2).bind fun l2 => (app 8 [] l2).bind fun l3 => some l3) hlen r (dig (val l).toNat) n (b4x _) hr r (Nat.le_refl _) (by omega)
  rw [← h1] at h2
  rw [h2]
  have h3 := c4b (l := l) (p := 0) (q := (dig (val l).toNat).length) (by omega) (by omega)
  rw [show ((0 : Nat) : Int) = 0 from rfl] at h3
  rw [h3, Option.bind_some, List.drop_zero]
  have h4 : ∀ c : List Int, l = c ++ List.replicate r 0 → l.take c.length = c := fun c hc => by rw [hc]; exact List.take_left
  rw [h4 _ hr, b4w (by simp; omega)]; rfl
theorem d0u {l : List Int} (s : Int) (hl : InR l) (hlen : l.length < 1099511627776) {n : Nat} (hn : l.length < n) : a1t n s l = some (if (val l).toNat = 0 then ⟨0, []⟩ else ⟨s, dig (val l).toNat⟩) := by
  unfold a1t
  rw [b0l hl hlen hn, Option.bind_some]
  by_cases h : (val l).toNat = 0
  · rw [h, dig_zero, if_pos rfl]; rfl
  · have := List.length_pos_iff.2 (b1n h)
    rw [if_neg h, show (((dig (val l).toNat).length : Int) == 0) = false from beq_false_of_ne (by omega), cond_false]
theorem b5g (n : Nat) (l : List Int) (i : Nat) : a2r n l (i : Int) = some ((l.drop i).headD 0) := by
  unfold a2r
  by_cases h : i < l.length
  · rw [show decide ((i : Int) < (l.length : Int)) = true by simpa using h, cond_true, b2z, List.getElem?_eq_getElem h, Option.bind_some, List.drop_eq_getElem_cons h]; rfl
  · rw [show decide ((i : Int) < (l.length : Int)) = false by simpa using h, cond_false, List.drop_of_length_le (by omega)]; rfl
/- what is right -/
theorem c3g (n : Nat) (a : Big) (kont : Option Bool) (hl : a.Digits.length < 1099511627776) : ∀ (us : List Int) (i m : Nat), a.Digits.drop i = us → us.length < m → a4i n a kont m (i : Int) = bif us.all okd then kont else some false
  | [], i, m + 1, hd, _ => by
    unfold a4i
    have := a5j hd
    rw [show decide ((i : Int) < (a.Digits.length : Int)) = false by simp; omega]; rfl
  | x :: xs, i, m + 1, hd, hm => by
    unfold a4i
    obtain ⟨f1, f2, f3⟩ := a2z hd
    rw [show decide ((i : Int) < (a.Digits.length : Int)) = true by simp; omega, cond_true, f1, Option.bind_some]
    have e1 : ((bif decide (x < 0) then some true else (some x).bind fun ex3 => some (decide (1048576 ≤ ex3))) : Option Bool) = some (!okd x) := by
      unfold okd
      by_cases h : x < 0
      · rw [show decide (x < 0) = true by simpa using h, show decide (0 ≤ x) = false by simp; omega]; rfl
      · rw [show decide (x < 0) = false by simpa using h, show decide (0 ≤ x) = true by simp; omega, cond_false, Option.bind_some]
        by_cases h2 : x < 1048576
        · rw [show decide (1048576 ≤ x) = false by simp; omega, show decide (x < 1048576) = true by simpa using h2]; rfl
        · rw [show decide (1048576 ≤ x) = true by simp; omega, show decide (x < 1048576) = false by simpa using h2]; rfl
    rw [e1, Option.bind_some, List.all_cons]
    cases h : okd x with
    | false => rfl
    | true =>
      rw [b2m (by omega)]
      have := c3g n a kont hl xs (i + 1) m f2 (by simpa using hm)
      simpa using this
  | _, _, 0, _, h => by omega
theorem c6f {a : Big} (hl : a.Digits.length < 1099511627776) {n : Nat} (hn : a.Digits.length < n) : a2i n a = some (a7i a) := by
  unfold a2i
  have h := fun kont => c3g n a kont hl a.Digits 0 n rfl hn
  rw [show ((0 : Nat) : Int) = 0 from rfl] at h
  rw [h]
  unfold a7i
  cases ha : a.Digits.all okd with
  | false => rfl
  | true =>
    rw [cond_true, Bool.true_and]
    rcases List.eq_nil_or_concat a.Digits with h0 | ⟨p, d, h0⟩
    · rw [h0]
      by_cases hs : a.Sign = 0
      · rw [hs]; rfl
      · have : (a.Sign == 0) = false := by simpa using hs
        rw [if_pos rfl, this]
        cases decide (a.Sign < -1) <;> cases decide (1 < a.Sign) <;> rfl
    · rw [List.concat_eq_append] at h0
      have hne : a.Digits ≠ [] := by rw [h0]; simp
      have e1 : ((a.Digits.length : Int) == 0) = false := by rw [h0]; simp; omega
      have e2 : isub .i64 (a.Digits.length : Int) 1 = (p.length : Int) := by rw [a2g (by omega) (by omega), h0]; simp
      have e3 : ix a.Digits (p.length : Int) = some d := by rw [h0]; exact a5x p d [] rfl
      rw [e1, cond_false, if_neg hne, e2, e3]
      have e4 : a.Digits.getLast?.getD 0 = d := by rw [h0]; simp
      rw [e4]
      by_cases h1 : a.Sign < -1
      · rw [show decide (a.Sign < -1) = true by simpa using h1, show (a.Sign == 1) = false by simp; omega, show (a.Sign == -1) = false by simp; omega]; rfl
      · rw [show decide (a.Sign < -1) = false by simpa using h1]
        by_cases h2 : 1 < a.Sign
        · rw [show decide (1 < a.Sign) = true by simpa using h2, show (a.Sign == 1) = false by simp; omega, show (a.Sign == -1) = false by simp; omega]; rfl
        · rw [show decide (1 < a.Sign) = false by simpa using h2]
          have : a.Sign = -1 ∨ a.Sign = 0 ∨ a.Sign = 1 := by omega
          rcases this with h | h | h <;> rw [h] <;> rfl
end Go.Proofs.YtaanocaobllohaaGreatDoor.D

/-
  THE REFERENCE's FUNCTIONS, as arithmetic, second part: order, sums, differences.
-/
namespace Go.Proofs.YtaanocaobllohaaGreatDoor.D
open Go Rt M
theorem a8v (l : List Int) (i : Nat) : val (l.drop i) = (l.drop i).headD 0 + 1048576 * val (l.drop (i + 1)) := by
  rw [← List.drop_drop]
  cases l.drop i with
  | nil => rfl
  | cons d l => rfl
theorem a9j {l : List Int} {i : Nat} (h : l.length ≤ i) : val (l.drop i) = 0 := by rw [List.drop_of_length_le h]; rfl
/- order -/
theorem c4e {a b : List Int} (ha : InR a) (hb : InR b) (i : Nat) (h : val (a.drop i) < val (b.drop i)) : val a < val b := by
  induction i with
  | zero => simpa using h
  | succ i ih =>
    apply ih
    rw [a8v a i, a8v b i]
    have h1 := (InR.drop ha i).headD
    have h2 := (InR.drop hb i).headD
    omega
theorem c7o (n : Nat) (a b : List Int) (ha : InR a) (hb : InR b) (hla : a.length < 1099511627776) (hlb : b.length < 1099511627776) : ∀ (i m : Nat), i < 1099511627776 → i < m → val (a.drop i) = val (b.drop i) →
    a4y n a b (some false) m ((i : Int) - 1) = some (decide (val a < val b))
  | 0, m + 1, _, _, h => by
    unfold a4y
    rw [show decide ((0 : Int) ≤ ((0 : Nat) : Int) - 1) = false by decide, cond_false]
    simp only [List.drop_zero] at h
    rw [h]; simp
  | i + 1, m + 1, hi, hm, h => by
    unfold a4y
    rw [show ((i + 1 : Nat) : Int) - 1 = (i : Int) by omega, show decide (0 ≤ (i : Int)) = true by simp, cond_true, b5g, b5g, Option.bind_some, Option.bind_some]
    have e1 := a8v a i
    have e2 := a8v b i
    by_cases hd : (a.drop i).headD 0 = (b.drop i).headD 0
    · rw [show ((a.drop i).headD 0 != (b.drop i).headD 0) = false by simpa using hd, cond_false, a2g (by omega) (by omega)]
      exact c7o n a b ha hb hla hlb i m (by omega) (by omega) (by rw [e1, e2, hd, h])
    · rw [show ((a.drop i).headD 0 != (b.drop i).headD 0) = true by simpa using hd, cond_true, Option.bind_some, Option.bind_some]
      congr 1
      by_cases hlt : (a.drop i).headD 0 < (b.drop i).headD 0
      · have := c4e ha hb i (by omega)
        rw [decide_eq_true hlt, decide_eq_true this]
      · have := c4e hb ha i (by omega)
        have h3 : ¬ val a < val b := by omega
        rw [decide_eq_false hlt, decide_eq_false h3]
  | _, 0, _, hm, _ => by omega
theorem c7v {a b : List Int} (ha : InR a) (hb : InR b) (hla : a.length < 1099511627776) (hlb : b.length < 1099511627776) {n : Nat} (hn : max a.length b.length < n) : a5d n a b = some (decide (val a < val b)) := by
  unfold a5d
  have e : isub .i64 (imax (a.length : Int) (b.length : Int)) 1 = ((max a.length b.length : Nat) : Int) - 1 := by
    have : imax (a.length : Int) (b.length : Int) = ((max a.length b.length : Nat) : Int) := by unfold imax; split <;> omega
    rw [this, a2g (by omega) (by omega)]
  rw [e]
  exact c7o n a b ha hb hla hlb _ n (by omega) hn (by rw [a9j (by omega), a9j (by omega)])
/- sums -/
theorem c5t (n : Nat) (a b : List Int) (kont : List Int → Option (List Int)) (ha : InR a) (hb : InR b) (hla : a.length < 1073741824) (hlb : b.length < 1073741824) (V : Int) : ∀ (m i : Nat) (c : Int) (pre : List Int),
    pre.length = i → InR pre → 0 ≤ c → c ≤ 1 → val pre + pw i * (c + val (a.drop i) + val (b.drop i)) = V → (i ≤ max a.length b.length ∨ (i = max a.length b.length + 1 ∧ c = 0)) → max a.length b.length + 2 ≤ i + m →
    ∃ out, a5m n a b kont m c (i : Int) pre = kont out ∧ InR out ∧ val out = V ∧ out.length ≤ max a.length b.length + 1
  | 0, i, _, _, _, _, _, _, _, h, h2 => by omega
  | m + 1, i, c, pre, hp, hpr, h0, h1, hv, hi, hm => by
    unfold a5m
    have xr := (InR.drop ha i).headD
    have yr := (InR.drop hb i).headD
    have ea := a8v a i
    have eb := a8v b i
    by_cases hgo : i < a.length ∨ i < b.length ∨ 0 < c
    · have e1 : (((bif decide ((i : Int) < (a.length : Int)) then some true else some (decide ((i : Int) < (b.length : Int)))) : Option Bool).bind fun v2 => (bif v2 then some true else some (decide (0 < c)) : Option Bool)) = some true := by
        by_cases g1 : i < a.length
        · rw [show decide ((i : Int) < (a.length : Int)) = true by simpa using g1]; rfl
        · rw [show decide ((i : Int) < (a.length : Int)) = false by simpa using g1]
          by_cases g2 : i < b.length
          · rw [show decide ((i : Int) < (b.length : Int)) = true by simpa using g2]; rfl
          · rw [show decide ((i : Int) < (b.length : Int)) = false by simpa using g2, show decide (0 < c) = true by simp; omega]; rfl
      have es : iadd .i64 (iadd .i64 ((a.drop i).headD 0) ((b.drop i).headD 0)) c = (a.drop i).headD 0 + (b.drop i).headD 0 + c := by rw [a2q (x := (a.drop i).headD 0) (y := (b.drop i).headD 0) (by omega) (by omega), a2q (by omega) (by omega)]
      generalize hx : (a.drop i).headD 0 = x at *
      generalize hy : (b.drop i).headD 0 = y at *
      have hnext := c5t n a b kont ha hb hla hlb V m (i + 1) ((x + y + c) / 1048576) (pre ++ [(x + y + c) % 1048576]) (by simp [hp]) (hpr.append (InR.cons (by omega) (by omega) InR.nil)) (by omega) (by omega)
        (by
          rw [val_append, hp]
          have e3 : val [(x + y + c) % 1048576] = (x + y + c) % 1048576 := by simp [val]
          rw [e3, show pw (i + 1) = 1048576 * pw i from rfl, ← hv, ea, eb]
          have hdm : x + y + c = (x + y + c) % 1048576 + 1048576 * ((x + y + c) / 1048576) := by omega
          generalize (x + y + c) % 1048576 = r at *
          generalize (x + y + c) / 1048576 = q at *
          generalize val (a.drop (i + 1)) = A at *
          generalize val (b.drop (i + 1)) = B at *
          generalize pw i = p at *
          have hc : c = r + 1048576 * q - x - y := by omega
          subst hc
          grind) (by
          by_cases g : i < max a.length b.length
          · left; omega
          · right
            rw [List.drop_of_length_le (by omega)] at hx hy
            simp at hx hy
            omega) (by omega)
      obtain ⟨out, h3, h4, h5, h6⟩ := hnext
      refine ⟨out, ?_, h4, h5, h6⟩
      rw [← h3]
      rw [← Option.bind_assoc, e1, Option.bind_some, cond_true, b5g, b5g, Option.bind_some, Option.bind_some, hx, hy, es, b5m (by omega) (by decide), Option.bind_some, b4w (by simp; omega), Option.bind_some, b5p (by omega) (by omega) (by decide), Option.bind_some, b2m (by omega)]
    · refine ⟨pre, ?_, hpr, ?_, by omega⟩
      · rw [show decide ((i : Int) < (a.length : Int)) = false by simp; omega, show decide ((i : Int) < (b.length : Int)) = false by simp; omega, show decide (0 < c) = false by simp; omega]; rfl
      · rw [a9j (by omega), a9j (by omega)] at hv
        rw [← hv, show c = 0 by omega]; simp
theorem c8s {a b : List Int} (ha : InR a) (hb : InR b) (hla : a.length < 1073741824) (hlb : b.length < 1073741824) : Ev (fun n => a4m n a b) (dig (val a + val b).toNat) := by
  refine ⟨max a.length b.length + 3, fun n hn => ?_⟩
  show a4m n a b = _
  unfold a4m
  obtain ⟨out, h1, h2, h3, h4⟩ := c5t n a b (fun (l2 : List Int) => (a1o n l2).bind fun v1 => some v1) ha hb hla hlb (val a + val b) n 0 0 [] rfl InR.nil (by decide) (by decide) (by simp [val, pw]) (.inl (by omega)) (by omega)
  refine Eq.trans h1 ?_
  show (a1o n out).bind _ = _
  rw [b0l h2 (by omega) (by omega), h3]; rfl
end Go.Proofs.YtaanocaobllohaaGreatDoor.D

/-
  THE REFERENCE's FUNCTIONS, as arithmetic, third part: differences, products.
-/
namespace Go.Proofs.YtaanocaobllohaaGreatDoor.D
open Go Rt M
theorem c2c (n : Nat) (a b : List Int) (kont : List Int → Option (List Int)) (ha : InR a) (hb : InR b) (hla : a.length < 1073741824) (hlb : b.length ≤ a.length) (V : Int) (hV : 0 ≤ V) : ∀ (us : List Int) (m i : Nat) (c : Int) (pre : List Int),
    a.drop i = us → us.length < m → pre.length = i → InR pre → 0 ≤ c → c ≤ 1 → val pre + pw i * (val us - val (b.drop i) - c) = V →
    ∃ out, a3x n a b kont m c (i : Int) pre = kont out ∧ InR out ∧ val out = V ∧ out.length ≤ max a.length i
  | [], m + 1, i, c, pre, hd, _, hp, hpr, h0, h1, hv => by
    have hi := a5j hd
    refine ⟨pre, ?_, hpr, ?_, by omega⟩
    · unfold a3x
      rw [show decide ((i : Int) < (a.length : Int)) = false by simp; omega]; rfl
    · rw [a9j (by omega)] at hv
      have h2 := val_lt hpr
      rw [hp] at h2
      have hc : c = 0 := by
        rcases (show c = 0 ∨ c = 1 by omega) with h | h
        · exact h
        · subst h; simp only [val] at hv; exfalso
          have : pw i * (0 - 0 - 1) = -pw i := by grind
          omega
      rw [← hv, hc]; simp [val]
  | x :: us, m + 1, i, c, pre, hd, hm, hp, hpr, h0, h1, hv => by
    obtain ⟨f1, f2, f3⟩ := a2z hd
    have xr := (show InR (x :: us) by rw [← hd]; exact InR.drop ha i).head
    have yr := (InR.drop hb i).headD
    have eb := a8v b i
    unfold a3x
    rw [show decide ((i : Int) < (a.length : Int)) = true by simpa using f3, cond_true, f1, Option.bind_some, b5g, Option.bind_some]
    generalize hy : (b.drop i).headD 0 = y at *
    have es : isub .i64 (isub .i64 x y) c = x - y - c := by rw [a2g (x := x) (y := y) (by omega) (by omega), a2g (by omega) (by omega)]
    rw [es]
    have key : ∀ (q r : Int), x - y - c = r - 1048576 * q → 0 ≤ q → q ≤ 1 → 0 ≤ r → r < 1048576 → ∃ out, ((app 8 pre [r]).bind fun l3 => a3x n a b kont m q (iadd .i64 (i : Int) 1) l3) = kont out ∧ InR out ∧ val out = V ∧ out.length ≤ max a.length i := by
      intro q r hqr hq0 hq1 hr0 hr1
      obtain ⟨out, h3, h4, h5, h6⟩ := c2c n a b kont ha hb hla hlb V hV us m (i + 1) q (pre ++ [r]) f2 (by simpa using hm) (by simp [hp]) (hpr.append (InR.cons hr0 hr1 InR.nil)) hq0 hq1 (by
        rw [val_append, hp]
        have e3 : val [r] = r := by simp [val]
        rw [e3, show pw (i + 1) = 1048576 * pw i from rfl, ← hv, eb]
        simp only [val]
        generalize val us = A at *
        generalize val (b.drop (i + 1)) = B at *
        generalize pw i = p at *
        have hc : c = x - y - r + 1048576 * q := by omega
        subst hc
        grind)
      exact ⟨out, by rw [b4w (by simp; omega), Option.bind_some, b2m (by omega), h3], h4, h5, by omega⟩
    by_cases hn : x - y - c < 0
    · rw [show decide (x - y - c < 0) = true by simpa using hn, cond_true, Option.bind_some, a2q (by omega) (by omega)]
      exact key 1 (x - y - c + 1048576) (by omega) (by omega) (by omega) (by omega) (by omega)
    · rw [show decide (x - y - c < 0) = false by simpa using hn, cond_false, Option.bind_some]
      exact key 0 (x - y - c) (by omega) (by omega) (by omega) (by omega) (by omega)
  | _, 0, _, _, _, _, h, _, _, _, _, _ => by omega
theorem c6l {a b : List Int} (ha : InR a) (hb : InR b) (hla : a.length < 1073741824) (hlb : b.length ≤ a.length) (h : val b ≤ val a) : Ev (fun n => a2w n a b) (dig (val a - val b).toNat) := by
  refine ⟨a.length + 2, fun n hn => ?_⟩
  show a2w n a b = _
  unfold a2w
  obtain ⟨out, h1, h2, h3, h4⟩ := c2c n a b (fun (l2 : List Int) => (a1o n l2).bind fun v1 => some v1) ha hb hla hlb (val a - val b) (by omega) a n 0 0 [] rfl (by omega) rfl InR.nil (by decide) (by decide) (by simp [val, pw])
  refine Eq.trans h1 ?_
  show (a1o n out).bind _ = _
  rw [b0l h2 (by omega) (by omega), h3]; rfl
/- products -/
theorem c4y (P : List Int) (z : Int) (S : List Int) : val (P ++ z :: S) = val P + pw P.length * (z + 1048576 * val S) := by rw [val_append]; rfl
theorem c2s (n : Nat) (a b : List Int) (i : Nat) (x : Int) (kont : List Int → Option (List Int)) (hx : ix a (i : Int) = some x) (hxr : 0 ≤ x ∧ x < 1048576) (hb : InR b) (hla : a.length < 1073741824) (hlb : b.length < 1073741824) (W : Int) (hi : i < a.length)
    (hW : W < pw (i + b.length + 1)) : ∀ (m k : Nat) (c : Int) (l : List Int), InR l → l.length = a.length + b.length → 0 ≤ c → c < 1048576 → val l + pw (i + k) * (c + x * val (b.drop k)) = W → (k ≤ b.length ∨ (k = b.length + 1 ∧ c = 0)) → b.length + 2 ≤ k + m →
    ∃ l', a4h n a b (i : Int) kont m c (k : Int) l = kont l' ∧ InR l' ∧ l'.length = a.length + b.length ∧ val l' = W
  | 0, k, _, _, _, _, _, _, _, h, h2 => by omega
  | m + 1, k, c, l, hl, hlen, h0, h1, hv, hk, hm => by
    unfold a4h
    have yr := (InR.drop hb k).headD
    have eb := a8v b k
    by_cases hgo : k < b.length ∨ 0 < c
    · have e1 : ((bif decide ((k : Int) < (b.length : Int)) then some true else some (decide (0 < c))) : Option Bool) = some true := by
        by_cases g1 : k < b.length
        · rw [show decide ((k : Int) < (b.length : Int)) = true by simpa using g1]; rfl
        · rw [show decide ((k : Int) < (b.length : Int)) = false by simpa using g1, show decide (0 < c) = true by simp; omega]; rfl
      have hj : i + k < l.length := by omega
      have ej : iadd .i64 (i : Int) (k : Int) = ((i + k : Nat) : Int) := by rw [a2q (by omega) (by omega)]; omega
      have hsp : l = l.take (i + k) ++ l[i + k] :: l.drop (i + k + 1) := by rw [← List.drop_eq_getElem_cons hj, List.take_append_drop]
      have hPl : (l.take (i + k)).length = i + k := by simp; omega
      have hzr := hl l[i + k] (List.getElem_mem hj)
      have hPr := InR.take hl (i + k)
      have hSr := InR.drop hl (i + k + 1)
      have hlen2 := congrArg List.length hsp
      simp only [List.length_append, List.length_cons] at hlen2
      generalize l[i + k] = z at *
      generalize l.take (i + k) = P at *
      generalize l.drop (i + k + 1) = S at *
      generalize hy : (b.drop k).headD 0 = y at *
      have hmul := b4j (g := x) hxr.1 yr.1 yr.2
      have em : imul .i64 x y = x * y := a6k (by omega) (by omega)
      have es : iadd .i64 (iadd .i64 z (imul .i64 x y)) c = z + x * y + c := by rw [em, a2q (x := z) (y := x * y) (by omega) (by omega), a2q (by omega) (by omega)]
      have hc' : (z + x * y + c) / 1048576 < 1048576 := by omega
      have hnv : val (P ++ (z + x * y + c) % 1048576 :: S) + pw (i + (k + 1)) * ((z + x * y + c) / 1048576 + x * val (b.drop (k + 1))) = W := by
        rw [hsp, c4y, hPl] at hv
        rw [c4y, hPl, show i + (k + 1) = (i + k) + 1 by omega, show pw (i + k + 1) = 1048576 * pw (i + k) from rfl, ← hv, eb]
        have hdm : z + x * y + c = (z + x * y + c) % 1048576 + 1048576 * ((z + x * y + c) / 1048576) := by omega
        generalize (z + x * y + c) % 1048576 = r at *
        generalize (z + x * y + c) / 1048576 = q at *
        generalize val (b.drop (k + 1)) = B at *
        generalize pw (i + k) = p at *
        generalize val P = vP at *
        generalize val S = vS at *
        have hc : c = r + 1048576 * q - z - x * y := by omega
        subst hc
        grind
      have hir : InR (P ++ (z + x * y + c) % 1048576 :: S) := hPr.append (InR.cons (by omega) (by omega) hSr)
      obtain ⟨l', h3, h4, h5, h6⟩ := c2s n a b i x kont hx hxr hb hla hlb W hi hW m (k + 1) ((z + x * y + c) / 1048576) (P ++ (z + x * y + c) % 1048576 :: S) hir (by simp only [List.length_append, List.length_cons]; omega) (by omega) hc' hnv (by
        by_cases g : k < b.length
        · left; omega
        · right
          refine ⟨by omega, ?_⟩
          have hk2 : k = b.length := by omega
          rw [a9j (l := b) (by omega), Int.mul_zero, Int.add_zero] at hnv
          have hnn := val_nonneg hir
          have hp2 := pw_pos (i + (k + 1))
          rw [show i + b.length + 1 = i + (k + 1) by omega] at hW
          generalize val (P ++ (z + x * y + c) % 1048576 :: S) = vv at *
          have hq0 : 0 ≤ (z + x * y + c) / 1048576 := by omega
          generalize (z + x * y + c) / 1048576 = q at *
          rcases (show q = 0 ∨ 1 ≤ q by omega) with h | h
          · exact h
          · exfalso
            have := Int.mul_le_mul_of_nonneg_left h (Int.le_of_lt hp2)
            rw [Int.mul_one] at this
            omega) (by omega)
      refine ⟨l', ?_, h4, h5, h6⟩
      rw [e1, Option.bind_some, cond_true, ej]
      have g1 : ix l ((i + k : Nat) : Int) = some z := by rw [hsp]; exact a5x _ _ _ (by omega)
      have g2 : lset l ((i + k : Nat) : Int) ((z + x * y + c) % 1048576) = some (P ++ (z + x * y + c) % 1048576 :: S) := by rw [hsp]; exact a6n _ _ _ _ (by omega)
      rw [g1, Option.bind_some, hx, Option.bind_some, b5g, Option.bind_some, hy, es, b5m (by omega) (by decide), Option.bind_some, Option.bind_some, g2, Option.bind_some, b5p (by omega) (by omega) (by decide), Option.bind_some, b2m (by omega)]
      exact h3
    · refine ⟨l, ?_, hl, hlen, ?_⟩
      · rw [show decide ((k : Int) < (b.length : Int)) = false by simp; omega, show decide (0 < c) = false by simp; omega]; rfl
      · rw [a9j (by omega)] at hv
        rw [← hv, show c = 0 by omega]; simp
end Go.Proofs.YtaanocaobllohaaGreatDoor.D

/-
  THE REFERENCE's FUNCTIONS, as arithmetic, fourth part: products, long division.
-/
namespace Go.Proofs.YtaanocaobllohaaGreatDoor.D
open Go Rt M
theorem c3d (n : Nat) (a b : List Int) (kont : List Int → Option (List Int)) (ha : InR a) (hb : InR b) (hla : a.length < 1073741824) (hlb : b.length < 1073741824) (hn : b.length + 2 ≤ n) (T : Int) : ∀ (us : List Int) (i m : Nat) (l : List Int),
    a.drop i = us → us.length < m → InR l → l.length = a.length + b.length → val l < pw (i + b.length) → val l + pw i * (val us * val b) = T →
    ∃ l', a3b n a b kont m (i : Int) l = kont l' ∧ InR l' ∧ l'.length = a.length + b.length ∧ val l' = T
  | [], i, m + 1, l, hd, _, hl, hlen, _, hv => by
    refine ⟨l, ?_, hl, hlen, ?_⟩
    · unfold a3b
      have := a5j hd
      rw [show decide ((i : Int) < (a.length : Int)) = false by simp; omega]; rfl
    · rw [← hv]; simp [val]
  | x :: us, i, m + 1, l, hd, hm, hl, hlen, hlt, hv => by
    obtain ⟨f1, f2, f3⟩ := a2z hd
    have xr := (show InR (x :: us) by rw [← hd]; exact InR.drop ha i).head
    unfold a3b
    rw [show decide ((i : Int) < (a.length : Int)) = true by simpa using f3, cond_true]
    have hbv := val_lt hb
    have hb0 := val_nonneg hb
    have hpi := pw_pos i
    have hW : val l + pw i * (x * val b) < pw (i + b.length + 1) := by
      have h1 : x * val b ≤ 1048575 * pw b.length := Int.le_trans (Int.mul_le_mul_of_nonneg_right (show x ≤ 1048575 by omega) hb0) (Int.mul_le_mul_of_nonneg_left (Int.le_of_lt hbv) (by decide))
      have h2 := Int.mul_le_mul_of_nonneg_left h1 (Int.le_of_lt hpi)
      rw [c2n] at hlt
      rw [show pw (i + b.length + 1) = 1048576 * pw (i + b.length) from rfl, c2n]
      have h3 : pw i * (1048575 * pw b.length) = 1048575 * (pw i * pw b.length) := by grind
      omega
    obtain ⟨l', h1, h2, h3, h4⟩ := c2s n a b i x (fun (l5 : List Int) => a3b n a b kont m (iadd .i64 (i : Int) 1) l5) f1 xr hb hla hlb (val l + pw i * (x * val b)) f3 hW n 0 0 l hl hlen (by decide) (by decide) (by simp) (.inl (by omega)) (by omega)
    obtain ⟨l2, h5, h6, h7, h8⟩ := c3d n a b kont ha hb hla hlb hn T us (i + 1) m l' f2 (by simpa using hm) h2 h3 (by rw [h4, show i + 1 + b.length = i + b.length + 1 by omega]; exact hW) (by
      rw [h4, ← hv, show pw (i + 1) = 1048576 * pw i from rfl]
      simp only [val]
      grind)
    refine ⟨l2, ?_, h6, h7, h8⟩
    refine Eq.trans h1 ?_
    show a3b n a b kont m (iadd .i64 (i : Int) 1) l' = _
    rw [b2m (by omega)]; exact h5
  | _, _, 0, _, _, h, _, _, _, _ => by omega
theorem val_zeros : ∀ k, val (List.replicate k (0 : Int)) = 0
  | 0 => rfl
  | k + 1 => by rw [List.replicate_succ]; simp only [val, val_zeros k]; rfl
theorem c5h (k : Nat) : InR (List.replicate k (0 : Int)) := fun e he => by rw [(List.mem_replicate.1 he).2]; decide
theorem c6a {a b : List Int} (ha : InR a) (hb : InR b) (hla : a.length < 536870912) (hlb : b.length < 536870912) {n : Nat} (hn : a.length + b.length + 2 < n) : a2v n a b = some (dig (val a * val b).toNat) := by
  unfold a2v
  obtain ⟨l', h1, h2, h3, h4⟩ := c3d n a b (fun (l3 : List Int) => (a1o n l3).bind fun v1 => some v1) ha hb (by omega) (by omega) (by omega) (val a * val b) a 0 n (List.replicate (a.length + b.length) 0) rfl (by omega) (c5h _) (by simp) (by rw [val_zeros]; exact pw_pos _) (by rw [val_zeros]; simp [pw])
  rw [show iadd .i64 (a.length : Int) (b.length : Int) = ((a.length + b.length : Nat) : Int) by rw [a2q (by omega) (by omega)]; omega, b8o (by omega), Option.bind_some]
  refine Eq.trans h1 ?_
  show (a1o n l').bind _ = _
  rw [b0l h2 (by omega) (by omega), h4]; rfl
theorem b7h {u v n : Nat} (hu : (dig u).length < 536870912) (hv : (dig v).length < 536870912) (hn : (dig u).length + (dig v).length + 2 < n) : a2v n (dig u) (dig v) = some (dig (u * v)) := by
  rw [c6a (a2p u) (a2p v) hu hv hn, a2c, a2c, ← Int.natCast_mul, Int.toNat_natCast]
/- long division: the digit of the quotient is searched by halves -/
theorem c1u (n : Nat) (b r : Nat) (kont : Int → Option (List Int × List Int)) (hb : 0 < b) (hlb : (dig b).length < 536870900) (hlr : (dig r).length < 536870900) (hn : (dig b).length + (dig r).length + 8 < n) : ∀ (m : Nat) (lo hi : Nat),
    hi - lo < m → lo < hi → hi ≤ 1048576 → lo * b ≤ r → r < hi * b → a4b n (dig b) (dig r) kont m (lo : Int) (hi : Int) = kont ((r / b : Nat) : Int)
  | 0, _, _, h, _, _, _, _ => by omega
  | m + 1, lo, hi, hm, hlt, hh, h1, h2 => by
    unfold a4b
    rw [a2g (by omega) (by omega)]
    by_cases hg : 1 < hi - lo
    · rw [show decide (1 < (hi : Int) - (lo : Int)) = true by simp; omega, cond_true, a2q (by omega) (by omega), b5p (by omega) (by omega) (by decide), Option.bind_some]
      have e1 : ((lo : Int) + (hi : Int)) / 2 = (((lo + hi) / 2 : Nat) : Int) := by omega
      rw [e1]
      generalize hmid : (lo + hi) / 2 = mid at *
      have e2 : a2v n (dig b) [(mid : Int)] = some (dig (b * mid)) := by
        rw [c6a (a2p b) (InR.cons (by omega) (by omega) InR.nil) (by omega) (by simp) (by simp; omega), a2c]
        have : val [(mid : Int)] = mid := by simp [val]
        rw [this, ← Int.natCast_mul, Int.toNat_natCast]
      have hbm : (dig (b * mid)).length ≤ (dig b).length + 1 := by
        have hs1 : Sm (dig b).length (b : Int) := a3g (by rw [Int.natAbs_natCast]; exact Nat.le_refl _)
        have hs2 : Sm 1 (mid : Int) := by unfold Sm; rw [Int.natAbs_natCast, show pw 1 = 1048576 by decide]; omega
        have := a1u (hs1.mul hs2)
        rwa [← Int.natCast_mul, Int.natAbs_natCast] at this
      rw [e2, Option.bind_some, c7v (a2p r) (a2p (b * mid)) (by omega) (by omega) (by omega), Option.bind_some, a2c, a2c]
      by_cases hl : r < b * mid
      · rw [show decide ((r : Int) < ((b * mid : Nat) : Int)) = true by rw [decide_eq_true_eq]; omega, cond_true]
        exact c1u n b r kont hb hlb hlr hn m lo mid (by omega) (by omega) (by omega) h1 (by rw [Nat.mul_comm]; exact hl)
      · rw [show decide ((r : Int) < ((b * mid : Nat) : Int)) = false by rw [decide_eq_false_iff_not]; omega, cond_false]
        exact c1u n b r kont hb hlb hlr hn m mid hi (by omega) (by omega) hh (by rw [Nat.mul_comm]; omega) h2
    · rw [show decide (1 < (hi : Int) - (lo : Int)) = false by simp; omega, cond_false]
      have : hi = lo + 1 := by omega
      subst this
      have : r / b = lo := by
        apply Nat.div_eq_of_lt_le
        · exact h1
        · exact h2
      rw [this]
end Go.Proofs.YtaanocaobllohaaGreatDoor.D

/-
  THE REFERENCE's FUNCTIONS, as arithmetic, fifth part: long division, in full.
-/
namespace Go.Proofs.YtaanocaobllohaaGreatDoor.D
open Go Rt M
theorem c9q {a b : List Int} (ha : InR a) (hb : InR b) (hla : a.length < 1073741824) (hlb : b.length ≤ a.length) (h : val b ≤ val a) {n : Nat} (hn : a.length + 2 ≤ n) : a2w n a b = some (dig (val a - val b).toNat) := by
  unfold a2w
  obtain ⟨out, h1, h2, h3, h4⟩ := c2c n a b (fun (l2 : List Int) => (a1o n l2).bind fun v1 => some v1) ha hb hla hlb (val a - val b) (by omega) a n 0 0 [] rfl (by omega) rfl InR.nil (by decide) (by decide) (by simp [val, pw])
  refine Eq.trans h1 ?_
  show (a1o n out).bind _ = _
  rw [b0l h2 (by omega) (by omega), h3]; rfl
theorem d0s {a b : List Int} (ha : InR a) (hb : InR b) (hla : a.length < 1073741824) (hlb : b.length < 1073741824) {n : Nat} (hn : max a.length b.length + 3 ≤ n) : a4m n a b = some (dig (val a + val b).toNat) := by
  unfold a4m
  obtain ⟨out, h1, h2, h3, h4⟩ := c5t n a b (fun (l2 : List Int) => (a1o n l2).bind fun v1 => some v1) ha hb hla hlb (val a + val b) n 0 0 [] rfl InR.nil (by decide) (by decide) (by simp [val, pw]) (.inl (by omega)) (by omega)
  refine Eq.trans h1 ?_
  show (a1o n out).bind _ = _
  rw [b0l h2 (by omega) (by omega), h3]; rfl
theorem c0q {x H b : Nat} (hb : 0 < b) : (x + 1048576 * H) / b = 1048576 * (H / b) + (x + 1048576 * (H % b)) / b ∧ (x + 1048576 * H) % b = (x + 1048576 * (H % b)) % b := by
  have h1 := Nat.div_add_mod H b
  have e : x + 1048576 * H = (x + 1048576 * (H % b)) + b * (1048576 * (H / b)) := by
    generalize H / b = q at *
    generalize H % b = r at *
    rw [← h1]
    grind
  rw [e, Nat.add_mul_div_left _ _ hb, Nat.add_mul_mod_self_left]
  omega
theorem b9e {v : Nat} (h : v < 1048576) : (dig v).length ≤ 1 := by
  have h1 : Sm 1 (v : Int) := by unfold Sm; rw [Int.natAbs_natCast, show pw 1 = 1048576 by decide]; omega
  have := a1u h1
  rwa [Int.natAbs_natCast] at this
theorem c4j (n : Nat) (a : List Int) (b : Nat) (kont : List Int → List Int → Option (List Int × List Int)) (ha : InR a) (hb : 0 < b) (hla : a.length < 536870800) (hlb : (dig b).length < 536870800) (hn : a.length + 2 * (dig b).length + 1048600 < n) : ∀ (i m : Nat) (H : Nat) (qs : List Int),
    i ≤ a.length → i < m → val (a.drop i) = H → InR qs → qs.length = a.length - i → val qs = ((H / b : Nat) : Int) →
    ∃ out, a4a n a (dig b) kont m (dig (H % b)) ((i : Int) - 1) (List.replicate i 0 ++ qs) = kont (dig ((val a).toNat % b)) out ∧ InR out ∧ out.length = a.length ∧ val out = (((val a).toNat / b : Nat) : Int)
  | 0, m + 1, H, qs, _, _, hH, hq, hql, hqv => by
    refine ⟨qs, ?_, hq, by omega, ?_⟩
    · unfold a4a
      rw [show decide ((0 : Int) ≤ ((0 : Nat) : Int) - 1) = false by decide, cond_false]
      rw [List.drop_zero] at hH
      rw [hH]; rfl
    · rw [List.drop_zero] at hH
      rw [hqv, hH]; rfl
  | i + 1, m + 1, H, qs, hi, hm, hH, hq, hql, hqv => by
    unfold a4a
    have hia : i < a.length := by omega
    have hxr := ha a[i] (List.getElem_mem hia)
    have hvd := a8v a i
    rw [List.drop_eq_getElem_cons hia] at hvd
    simp only [List.headD_cons] at hvd
    rw [← List.drop_eq_getElem_cons hia] at hvd
    rw [show ((i + 1 : Nat) : Int) - 1 = (i : Int) by omega, show decide (0 ≤ (i : Int)) = true by simp, cond_true, b2z, List.getElem?_eq_getElem hia, Option.bind_some]
    generalize a[i] = x at *
    obtain ⟨X, rfl⟩ := Int.eq_ofNat_of_zero_le hxr.1
    have hmod := Nat.mod_lt H hb
    have hlr := a3e (Nat.le_of_lt hmod)
    obtain ⟨s1, s2⟩ := c0q (x := X) (H := H) hb
    have hr' : X + 1048576 * (H % b) < 1048576 * b := by omega
    have hvl : val ((X : Int) :: dig (H % b)) = ((X + 1048576 * (H % b) : Nat) : Int) := by simp only [val, a2c]; omega
    rw [b4w (by simp; omega), Option.bind_some, List.singleton_append, b0l (InR.cons hxr.1 hxr.2 (a2p _)) (by simp; omega) (by simp; omega), Option.bind_some, hvl, Int.toNat_natCast]
    have hlr' : (dig (X + 1048576 * (H % b))).length ≤ (dig b).length + 1 := by
      have h1 := b5t (l := (X : Int) :: dig (H % b)) (InR.cons hxr.1 hxr.2 (a2p _))
      rw [hvl, Int.toNat_natCast] at h1
      simp only [List.length_cons] at h1
      omega
    generalize hR : X + 1048576 * (H % b) = R at *
    have hlo : R / b < 1048576 := by rw [Nat.div_lt_iff_lt_mul hb]; omega
    have hlob : b * (R / b) ≤ R := Nat.mul_div_le R b
    have h2 := c1u n b R (fun (lo2 : Int) =>
        (ix (List.replicate (i + 1) 0 ++ qs) (i : Int)).bind fun _ =>
        (lset (List.replicate (i + 1) 0 ++ qs) (i : Int) lo2).bind fun l5 =>
        (a1o n [lo2]).bind fun v3 =>
        (a2v n (dig b) v3).bind fun v4 =>
        (a2w n (dig R) v4).bind fun v5 =>
        a4a n a (dig b) kont m v5 (isub .i64 (i : Int) 1) l5) hb (by omega) (by omega) (by omega) n 0 1048576 (by omega) (by omega) (by omega) (by omega) (by omega)
    generalize hL : R / b = L at *
    have e1 : List.replicate (i + 1) (0 : Int) ++ qs = List.replicate i 0 ++ 0 :: qs := by rw [List.replicate_succ', List.append_assoc]; rfl
    have e2 : ix (List.replicate (i + 1) (0 : Int) ++ qs) (i : Int) = some 0 := by rw [e1]; exact a5x _ _ _ (by simp)
    have e3 : lset (List.replicate (i + 1) (0 : Int) ++ qs) (i : Int) ((L : Nat) : Int) = some (List.replicate i 0 ++ ((L : Nat) : Int) :: qs) := by rw [e1]; exact a6n _ _ _ _ (by simp)
    have e4 : a1o n [((L : Nat) : Int)] = some (dig (L)) := by
      rw [b0l (InR.cons (by omega) (by omega) InR.nil) (by simp) (by simp; omega)]
      simp [val]
    have hl1 := b9e hlo
    have e5 : a2v n (dig b) (dig (L)) = some (dig (b * (L))) := b7h (by omega) (by omega) (by omega)
    have e6 : a2w n (dig R) (dig (b * (L))) = some (dig (R % b)) := by
      have h3 := a3e hlob
      rw [c9q (a2p _) (a2p _) (by omega) h3 (by rw [a2c, a2c]; omega) (by omega), a2c, a2c]
      congr 2
      have := Nat.div_add_mod R b
      rw [hL] at this
      omega
    have hnext := c4j n a b kont ha hb hla hlb hn i m (X + 1048576 * H) (((L : Nat) : Int) :: qs) (by omega) (by omega) (by rw [hvd, hH]; omega) (InR.cons (by omega) (by omega) hq) (by simp; omega) (by
      rw [s1]; simp only [val]; rw [hqv]; omega)
    obtain ⟨out, h4, h5, h6, h7⟩ := hnext
    refine ⟨out, ?_, h5, h6, h7⟩
    refine Eq.trans h2 ?_
    show (ix (List.replicate (i + 1) 0 ++ qs) (i : Int)).bind _ = _
    rw [e2, Option.bind_some, e3, Option.bind_some, e4, Option.bind_some, e5, Option.bind_some, e6, Option.bind_some, a2g (by omega) (by omega), ← h4, s2]
  | _, 0, _, _, _, h, _, _, _, _ => by omega
theorem d0v {A b : Nat} (hb : 0 < b) (hla : (dig A).length < 536870800) (hlb : (dig b).length < 536870800) {n : Nat} (hn : (dig A).length + 2 * (dig b).length + 1048600 < n) : a7f n (dig A) (dig b) = some (dig (A / b), dig (A % b)) := by
  unfold a7f
  obtain ⟨out, h1, h2, h3, h4⟩ := c4j n (dig A) b (fun (rx2 : List Int) (l3 : List Int) => (a1o n l3).bind fun v1 => some (v1, rx2)) (a2p A) hb hla hlb hn (dig A).length n 0 [] (Nat.le_refl _) (by omega) (by rw [a9j (Nat.le_refl _)]; rfl) InR.nil (by simp) (by rw [Nat.zero_div]; rfl)
  rw [Nat.zero_mod, dig_zero, List.append_nil] at h1
  rw [b8o (by omega), Option.bind_some, a2g (by omega) (by omega)]
  refine Eq.trans h1 ?_
  show (a1o n out).bind _ = _
  rw [b0l h2 (by omega) (by omega), h4, a2c, Int.toNat_natCast, Int.toNat_natCast]; rfl
end Go.Proofs.YtaanocaobllohaaGreatDoor.D

/-
  THE REFERENCE's FUNCTIONS, as arithmetic, sixth part: what is exported, at right big integers.
-/
namespace Go.Proofs.YtaanocaobllohaaGreatDoor.D
open Go Rt M
theorem b4q {a : Big} (hl : a.Digits.length < 1099511627776) : Ev (fun n => a2i n a) (a7i a) := ⟨a.Digits.length + 1, fun _ hn => c6f hl hn⟩
theorem a3s {x : Int} {k : Nat} (h : Sm k x) (hk : k < 1099511627776) : Ev (fun n => a2i n (toB x)) true := by
  have := a1u h
  exact (b4q (a := toB x) (by simp only [toB]; omega)).eq (b3o x)
theorem c8u (s : Int) {v : Nat} (h : (dig v).length < 1099511627776) : Ev (fun n => a1t n s (dig v)) (if v = 0 then ⟨0, []⟩ else ⟨s, dig v⟩) := by
  refine ⟨(dig v).length + 1, fun n hn => ?_⟩
  have h1 := d0u s (a2p v) h (n := n) (by omega)
  rw [a2c, Int.toNat_natCast] at h1
  exact h1
theorem a7g {s : Int} {v : Nat} (h : (dig v).length < 1099511627776) (z : Int) (hz : z.natAbs = v) (hs : v ≠ 0 → s = sg z) : Ev (fun n => a1t n s (dig v)) (toB z) := (c8u s h).eq (a4f z hz hs)
theorem c2y (u v : Nat) (hu : (dig u).length < 1073741824) (hv : (dig v).length < 1073741824) : Ev (fun n => a4m n (dig u) (dig v)) (dig (u + v)) :=
  (c8s (a2p u) (a2p v) hu hv).eq (by rw [a2c, a2c, ← Int.natCast_add, Int.toNat_natCast])
theorem b7a (u v : Nat) (hu : (dig u).length < 1073741824) (h : v ≤ u) : Ev (fun n => a2w n (dig u) (dig v)) (dig (u - v)) :=
  (c6l (a2p u) (a2p v) hu (a3e h) (by rw [a2c, a2c]; omega)).eq (by rw [a2c, a2c]; congr 1; omega)
theorem c3f (u v : Nat) (hu : (dig u).length < 1099511627776) (hv : (dig v).length < 1099511627776) : Ev (fun n => a5d n (dig u) (dig v)) (decide (u < v)) :=
  ⟨max (dig u).length (dig v).length + 1, fun n hn => by
    show a5d n (dig u) (dig v) = _
    rw [c7v (a2p u) (a2p v) hu hv (by omega), a2c, a2c]
    congr 1
    by_cases h : u < v <;> simp [h]⟩
theorem c5m (u v : Nat) (hu : (dig u).length < 536870912) (hv : (dig v).length < 536870912) : Ev (fun n => a2v n (dig u) (dig v)) (dig (u * v)) :=
  ⟨(dig u).length + (dig v).length + 3, fun n hn => b7h hu hv (by omega)⟩
theorem c2q (u v : Nat) (h : v ≠ 0) (hu : (dig u).length < 536870800) (hv : (dig v).length < 536870800) : Ev (fun n => a7f n (dig u) (dig v)) (dig (u / v), dig (u % v)) :=
  ⟨(dig u).length + 2 * (dig v).length + 1048601, fun n hn => d0v (by omega) hu hv (by omega)⟩
theorem b9p {x : Int} {k : Nat} (h : Sm k x) (hk : k < 1073741824) : Ev (fun n => a9a n (toB x)) (toB (-x)) := by
  have hl := a1u h
  unfold a9a
  refine Ev.bind (a3s h (by omega)) ?_
  refine Ev.else rfl ?_
  refine Ev.bind (a7g (v := x.natAbs) (by omega) (-x) (by omega) (fun hne => ?_)) (Ev.pure _)
  show IntKind.i64.wrap (0 - sg x) = sg (-x)
  rcases a1s x with ⟨a, b⟩ | ⟨a, b⟩ | ⟨a, b⟩ <;> rw [b]
  · rw [a3p (by omega)]; decide
  · omega
  · rw [a3z (by omega)]; decide
theorem c0e {x y : Int} {k : Nat} (hx : Sm k x) (hy : Sm k y) (hk : k < 268435456) : Ev (fun n => a3u n (toB x) (toB y)) (toB (x * y), 0) := by
  have lx := a1u hx
  have ly := a1u hy
  unfold a3u
  refine Ev.bind (a3s hx (by omega)) ?_
  refine Ev.bind (a := false) (Ev.else rfl (Ev.bind (a3s hy (by omega)) (Ev.pure _))) ?_
  refine Ev.else rfl ?_
  refine Ev.bind (c5m x.natAbs y.natAbs (by omega) (by omega)) ?_
  have lm : (dig (x.natAbs * y.natAbs)).length ≤ k + k := by
    have := a1u (hx.mul hy)
    rwa [Int.natAbs_mul] at this
  refine Ev.bind (a7g (by omega) (x * y) (Int.natAbs_mul x y) (fun _ => ?_)) (Ev.pure _)
  exact b2q x y
theorem c4f {x y : Int} {k : Nat} (hx : Sm k x) (hy : Sm k y) (hk : k < 536870912) : Ev (fun n => b1l n (toB x) (toB y)) (toB (x + y), 0) := by
  have lx := a1u hx
  have ly := a1u hy
  unfold b1l
  refine Ev.bind (a3s hx (by omega)) ?_
  refine Ev.bind (a := false) (Ev.else rfl (Ev.bind (a3s hy (by omega)) (Ev.pure _))) ?_
  refine Ev.else rfl ?_
  have hplus : ∀ s, (x.natAbs + y.natAbs ≠ 0 → s = sg (x + y)) → (x + y).natAbs = x.natAbs + y.natAbs → Ev (fun n => (a4m n (dig x.natAbs) (dig y.natAbs)).bind fun v5 => (a1t n s v5).bind fun v6 => some ((⟨v6.Sign, v6.Digits⟩ : Big), (0 : Int))) (toB (x + y), 0) := by
    intro s hs hz
    have lp : (dig (x.natAbs + y.natAbs)).length ≤ k + 1 := by
      have := a1u (hx.add hy)
      rwa [hz] at this
    refine Ev.bind (c2y x.natAbs y.natAbs (by omega) (by omega)) ?_
    exact Ev.bind (a7g (by omega) (x + y) hz hs) (Ev.pure _)
  have hless : (0 < x ∧ y < 0) ∨ (x < 0 ∧ 0 < y) → Ev (fun n => (a5d n (dig x.natAbs) (dig y.natAbs)).bind fun v7 =>
      bif v7 then
        (a2w n (dig y.natAbs) (dig x.natAbs)).bind fun v8 =>
        (a1t n (sg y) v8).bind fun v9 =>
        some ((⟨v9.Sign, v9.Digits⟩ : Big), (0 : Int))
      else
        (a2w n (dig x.natAbs) (dig y.natAbs)).bind fun v10 =>
        (a1t n (sg x) v10).bind fun v11 =>
        some ((⟨v11.Sign, v11.Digits⟩ : Big), 0)) (toB (x + y), 0) := by
    intro hs
    refine Ev.bind (c3f x.natAbs y.natAbs (by omega) (by omega)) ?_
    by_cases hl : x.natAbs < y.natAbs
    · have l1 := a3e (Nat.sub_le y.natAbs x.natAbs)
      refine Ev.then (by simpa using hl) ?_
      refine Ev.bind (b7a y.natAbs x.natAbs (by omega) (by omega)) ?_
      refine Ev.bind (a7g (by omega) (x + y) (by omega) (fun _ => ?_)) (Ev.pure _)
      rcases hs with ⟨h1, h2⟩ | ⟨h1, h2⟩
      · rw [a3z h2, a3z (by omega)]
      · rw [a3p h2, a3p (by omega)]
    · have l1 := a3e (Nat.sub_le x.natAbs y.natAbs)
      refine Ev.else (by simpa using hl) ?_
      refine Ev.bind (b7a x.natAbs y.natAbs (by omega) (by omega)) ?_
      refine Ev.bind (a7g (by omega) (x + y) (by omega) (fun hne => ?_)) (Ev.pure _)
      rcases hs with ⟨h1, h2⟩ | ⟨h1, h2⟩
      · rw [a3p h1, a3p (by omega)]
      · rw [a3z h1, a3z (by omega)]
  rcases a1s x with ⟨a, b⟩ | ⟨a, b⟩ | ⟨a, b⟩ <;> rcases a1s y with ⟨c, d⟩ | ⟨c, d⟩ | ⟨c, d⟩
  · refine Ev.bind (a := false) (Ev.else (by show (sg x == 0) = false; rw [b]; rfl) ((Ev.pure _).eq (by show (sg y == 0) = false; rw [d]; rfl))) ?_
    refine Ev.bind (a := true) (Ev.else rfl ((Ev.pure _).eq (by show (sg x == sg y) = true; rw [b, d]; rfl))) ?_
    exact Ev.then rfl (hplus _ (fun _ => by show ior .i64 (sg x) (sg y) = _; rw [b, d, a3z (by omega)]; decide) (by omega))
  · refine Ev.bind (a := true) (Ev.else (by show (sg x == 0) = false; rw [b]; rfl) ((Ev.pure _).eq (by show (sg y == 0) = true; rw [d]; rfl))) ?_
    refine Ev.bind (a := true) (Ev.then rfl (Ev.pure _)) ?_
    exact Ev.then rfl (hplus _ (fun _ => by show ior .i64 (sg x) (sg y) = _; rw [b, d, a3z (by omega)]; decide) (by omega))
  · refine Ev.bind (a := false) (Ev.else (by show (sg x == 0) = false; rw [b]; rfl) ((Ev.pure _).eq (by show (sg y == 0) = false; rw [d]; rfl))) ?_
    refine Ev.bind (a := false) (Ev.else rfl ((Ev.pure _).eq (by show (sg x == sg y) = false; rw [b, d]; rfl))) ?_
    exact Ev.else rfl (hless (.inr ⟨a, c⟩))
  · refine Ev.bind (a := true) (Ev.then (by show (sg x == 0) = true; rw [b]; rfl) (Ev.pure _)) ?_
    refine Ev.bind (a := true) (Ev.then rfl (Ev.pure _)) ?_
    exact Ev.then rfl (hplus _ (fun _ => by show ior .i64 (sg x) (sg y) = _; rw [b, d, a3z (by omega)]; decide) (by omega))
  · refine Ev.bind (a := true) (Ev.then (by show (sg x == 0) = true; rw [b]; rfl) (Ev.pure _)) ?_
    refine Ev.bind (a := true) (Ev.then rfl (Ev.pure _)) ?_
    exact Ev.then rfl (hplus _ (fun h => by omega) (by omega))
  · refine Ev.bind (a := true) (Ev.then (by show (sg x == 0) = true; rw [b]; rfl) (Ev.pure _)) ?_
    refine Ev.bind (a := true) (Ev.then rfl (Ev.pure _)) ?_
    exact Ev.then rfl (hplus _ (fun _ => by show ior .i64 (sg x) (sg y) = _; rw [b, d, a3p (by omega)]; decide) (by omega))
  · refine Ev.bind (a := false) (Ev.else (by show (sg x == 0) = false; rw [b]; rfl) ((Ev.pure _).eq (by show (sg y == 0) = false; rw [d]; rfl))) ?_
    refine Ev.bind (a := false) (Ev.else rfl ((Ev.pure _).eq (by show (sg x == sg y) = false; rw [b, d]; rfl))) ?_
    exact Ev.else rfl (hless (.inl ⟨a, c⟩))
  · refine Ev.bind (a := true) (Ev.else (by show (sg x == 0) = false; rw [b]; rfl) ((Ev.pure _).eq (by show (sg y == 0) = true; rw [d]; rfl))) ?_
    refine Ev.bind (a := true) (Ev.then rfl (Ev.pure _)) ?_
    exact Ev.then rfl (hplus _ (fun _ => by show ior .i64 (sg x) (sg y) = _; rw [b, d, a3p (by omega)]; decide) (by omega))
  · refine Ev.bind (a := false) (Ev.else (by show (sg x == 0) = false; rw [b]; rfl) ((Ev.pure _).eq (by show (sg y == 0) = false; rw [d]; rfl))) ?_
    refine Ev.bind (a := true) (Ev.else rfl ((Ev.pure _).eq (by show (sg x == sg y) = true; rw [b, d]; rfl))) ?_
    exact Ev.then rfl (hplus _ (fun _ => by show ior .i64 (sg x) (sg y) = _; rw [b, d, a3p (by omega)]; decide) (by omega))
theorem c8v {x y : Int} {k : Nat} (hx : Sm k x) (hy : Sm k y) (hk : k < 536870912) : Ev (fun n => b2x n (toB x) (toB y)) (toB (x - y), 0) := by
  unfold b2x
  refine Ev.bind (a3s hy (by omega)) ?_
  refine Ev.else rfl ?_
  refine Ev.bind (Ev.bind (b9p hy (by omega)) (Ev.bind (c4f hx hy.neg hk) (Ev.pure _))) ((Ev.pure _).eq ?_)
  rw [Int.sub_eq_add_neg]
theorem c1v {x y : Int} {k : Nat} (hx : Sm k x) (hy : Sm k y) (hk : k < 8388608) (hy0 : y ≠ 0) : Ev (fun n => a8a n (toB x) (toB y)) (toB (dq x y), toB (dr x y), 0) := by
  have lx := a1u hx
  have ly := a1u hy
  have hyn : y.natAbs ≠ 0 := by omega
  have hmod := Nat.mod_lt x.natAbs (show y.natAbs > 0 by omega)
  have hdivle : x.natAbs / y.natAbs ≤ x.natAbs := Nat.div_le_self _ _
  have lq := a3e hdivle
  have lr := a3e (Nat.le_of_lt hmod)
  have lq1 : (dig (x.natAbs / y.natAbs + 1)).length ≤ k + 1 := by
    have h : Sm (k + 1) ((x.natAbs / y.natAbs + 1 : Nat) : Int) := by
      generalize x.natAbs / y.natAbs = q at *
      unfold Sm at *
      rw [Int.natAbs_natCast]
      simp only [pw]; have := pw_pos k; omega
    have := a1u h
    rwa [Int.natAbs_natCast] at this
  have ls := a3e (show y.natAbs - x.natAbs % y.natAbs ≤ y.natAbs by omega)
  unfold a8a
  refine Ev.bind (a3s hx (by omega)) ?_
  refine Ev.bind (a := false) (Ev.else rfl (Ev.bind (a3s hy (by omega)) (Ev.pure _))) ?_
  refine Ev.else rfl ?_
  refine Ev.else (by show (sg y == 0) = false; rcases a1s y with h | h | h <;> first | (rw [h.2]; rfl) | omega) ?_
  refine Ev.bind (c2q x.natAbs y.natAbs hyn (by omega) (by omega)) ?_
  refine Ev.step (a := !odd x y) (by
    show (bif decide (0 ≤ imul .i64 (sg x) (sg y)) then some true else some (((dig (x.natAbs % y.natAbs)).length : Int) == 0)) = _
    rw [b2q]
    unfold odd
    have e1 : decide (0 ≤ sg (x * y)) = !decide (x * y < 0) := by
      rcases a1s (x * y) with ⟨h1, h2⟩ | ⟨h1, h2⟩ | ⟨h1, h2⟩ <;> rw [h2] <;> simp <;> omega
    have e2 : (((dig (x.natAbs % y.natAbs)).length : Int) == 0) = !decide (x.natAbs % y.natAbs ≠ 0) := by
      by_cases h : x.natAbs % y.natAbs = 0
      · rw [h, dig_zero]; rfl
      · have := b1n h
        have h3 : 0 < (dig (x.natAbs % y.natAbs)).length := List.length_pos_iff.2 this
        rw [beq_false_of_ne (by omega), decide_eq_true h]; rfl
    rw [e1, e2]
    cases decide (x * y < 0) <;> rfl) ?_
  by_cases ho : odd x y = true
  · refine Ev.else (by rw [ho]; rfl) ?_
    refine Ev.bind (a := dig (x.natAbs / y.natAbs + 1)) (by
      have := c2y (x.natAbs / y.natAbs) 1 (by omega) (by rw [dig_one]; simp)
      rwa [dig_one] at this) ?_
    refine Ev.bind (a7g (by omega) (dq x y) (c2z ho).1 (fun _ => (c2z ho).2.symm)) ?_
    refine Ev.bind (b7a y.natAbs (x.natAbs % y.natAbs) (by omega) (by omega)) ?_
    exact Ev.bind (a7g (by omega) (dr x y) (c2t hy0 ho).1 (fun _ => (c2t hy0 ho).2.symm)) (Ev.pure _)
  · refine Ev.then (by simpa using ho) ?_
    refine Ev.bind (a7g (by omega) (dq x y) (c0f hy0 ho).1 (fun h => by show imul .i64 (sg x) (sg y) = _; rw [b2q]; exact (c0f hy0 ho).2 h)) ?_
    exact Ev.bind (a7g (by omega) (dr x y) (c0h ho).1 (c0h ho).2) (Ev.pure _)
end Go.Proofs.YtaanocaobllohaaGreatDoor.D

/-
  THE REFERENCE's COMPARING of big integers.
-/
namespace Go.Proofs.YtaanocaobllohaaGreatDoor.D
open Go Rt M
theorem c4c (n : Nat) (a b : Big) (kont : Option Bool) (hl : a.Digits.length = b.Digits.length) (hla : a.Digits.length < 1099511627776) : ∀ (us : List Int) (i m : Nat), a.Digits.drop i = us → us.length < m → a6e n a b kont m (i : Int) = bif decide (us = b.Digits.drop i) then kont else some false
  | [], i, m + 1, hd, _ => by
    rw [a9u]
    have := a5j hd
    have hb : b.Digits.drop i = [] := List.drop_eq_nil_of_le (by omega)
    rw [show decide ((i : Int) < (a.Digits.length : Int)) = false by simp; omega, hb]; rfl
  | x :: xs, i, m + 1, hd, hm => by
    rw [a9u]
    obtain ⟨f1, f2, f3⟩ := a2z hd
    have hdb : b.Digits.drop i = b.Digits[i] :: b.Digits.drop (i + 1) := List.drop_eq_getElem_cons (by omega)
    rw [show decide ((i : Int) < (a.Digits.length : Int)) = true by simp; omega, cond_true, f1, Option.bind_some, (a2z hdb).1, Option.bind_some, hdb]
    by_cases h : x = b.Digits[i]
    · rw [show (x != b.Digits[i]) = false by simp [h], cond_false, b2m (by omega), c4c n a b kont hl hla xs (i + 1) m f2 (by simpa using hm), c3x, show decide (x = b.Digits[i]) = true by simpa using h, Bool.true_and]
    · rw [show (x != b.Digits[i]) = true by simpa using h, cond_true, c3x, show decide (x = b.Digits[i]) = false by simpa using h]; rfl
  | _, _, 0, _, h => by omega
theorem c7i {a b : Big} (hl : a.Digits.length < 1099511627776) : Ev (fun n => a9n n a b) (decide (a = b)) := by
  unfold a9n
  obtain ⟨s, l⟩ := a
  obtain ⟨t, k⟩ := b
  by_cases h : s = t
  · subst h
    by_cases hlen : l.length = k.length
    · refine Ev.step (a := false) (by simp [hlen]) ?_
      refine Ev.else rfl ⟨l.length + 1, fun n hn => ?_⟩
      have h1 := c4c n ⟨s, l⟩ ⟨s, k⟩ (some true) hlen hl l 0 n rfl (by omega)
      rw [show ((0 : Nat) : Int) = 0 from rfl, List.drop_zero] at h1
      dsimp only at h1 ⊢
      rw [h1]
      by_cases h2 : l = k
      · simp [h2]
      · simp [h2]
    · refine Ev.step (a := true) (by simp; omega) ?_
      have : l ≠ k := fun e => hlen (by rw [e])
      exact Ev.then rfl ((Ev.pure _).eq (by simp [this]))
  · refine Ev.step (a := true) (by rw [show (s != t) = true by simpa using h, cond_true]) ?_
    exact Ev.then rfl ((Ev.pure _).eq (by simp [h]))
theorem c4i {x y : Int} {k : Nat} (h : Sm k x) (hk : k < 1099511627776) : Ev (fun n => a9n n (toB x) (toB y)) (decide (x = y)) := by
  have h1 := c7i (a := toB x) (b := toB y) (by have := a1u h; simp only [toB]; omega)
  refine h1.eq ?_
  by_cases hxy : x = y
  · simp [hxy]
  · have : toB x ≠ toB y := fun e => hxy (c9d e)
    simp [hxy, this]
end Go.Proofs.YtaanocaobllohaaGreatDoor.D

/-
  THE REFERENCE's FUNCTIONS, as arithmetic, seventh part: the greatest common divisor, the order, ints.
-/
namespace Go.Proofs.YtaanocaobllohaaGreatDoor.D
open Go Rt M
theorem d0i (v : Nat) : ∀ (u : Nat), (dig u).length < 16777216 → (dig v).length < 16777216 → ∃ N, ∀ n, N ≤ n → ∀ (kont : List Int → Option (Big × Int)) m, v < m → a5l n kont m (dig u) (dig v) = kont (dig (Nat.gcd u v)) := by
  induction v using Nat.strongRecOn with
  | ind v ih =>
    intro u hu hv
    by_cases h : v = 0
    · subst h
      refine ⟨0, fun n _ kont m hm => ?_⟩
      obtain ⟨m, rfl⟩ : ∃ m', m = m' + 1 := ⟨m - 1, by omega⟩
      rw [dig_zero, Nat.gcd_zero_right]; rfl
    · have hlt := Nat.mod_lt u (show v > 0 by omega)
      obtain ⟨N1, h1⟩ := c2q u v h (by omega) (by omega)
      obtain ⟨N2, h2⟩ := ih (u % v) hlt v hv (by have := a3e (Nat.le_of_lt hlt); omega)
      refine ⟨max N1 N2, fun n hn kont m hm => ?_⟩
      obtain ⟨m, rfl⟩ : ∃ m', m = m' + 1 := ⟨m - 1, by omega⟩
      have h3 : 0 < (dig v).length := List.length_pos_iff.2 (b1n h)
      unfold a5l
      rw [show decide (0 < ((dig v).length : Int)) = true by simp; omega, cond_true, (show a7f n (dig u) (dig v) = _ from h1 n (by omega)), Option.bind_some]
      show a5l n kont m (dig v) (dig (u % v)) = _
      rw [h2 n (by omega) kont m (by omega), Nat.gcd_comm v, ← Nat.gcd_rec, Nat.gcd_comm]
theorem c5l {x y : Int} {k : Nat} (hx : Sm k x) (hy : Sm k y) (hk : k < 8388608) : Ev (fun n => b0i n (toB x) (toB y)) (toB (Nat.gcd x.natAbs y.natAbs : Nat), 0) := by
  have lx := a1u hx
  have ly := a1u hy
  unfold b0i
  refine Ev.bind (a3s hx (by omega)) ?_
  refine Ev.bind (a := false) (Ev.else rfl (Ev.bind (a3s hy (by omega)) (Ev.pure _))) ?_
  refine Ev.else rfl ?_
  obtain ⟨N, hN⟩ := d0i y.natAbs x.natAbs (by omega) (by omega)
  have lg : (dig (Nat.gcd x.natAbs y.natAbs)).length ≤ k := by
    rcases Nat.eq_zero_or_pos x.natAbs with h | h
    · rw [h, Nat.gcd_zero_left]; exact ly
    · exact Nat.le_trans (a3e (Nat.gcd_le_left _ h)) lx
  refine Ev.from (g := fun n => (a1t n 1 (dig (Nat.gcd x.natAbs y.natAbs))).bind fun v3 => some ((⟨v3.Sign, v3.Digits⟩ : Big), (0 : Int))) (max N (y.natAbs + 1)) (fun n hn => hN n (by omega) _ n (by omega)) ?_
  exact Ev.bind (a7g (by omega) ((Nat.gcd x.natAbs y.natAbs : Nat) : Int) (Int.natAbs_natCast _) (fun h => (a3p (by omega)).symm)) (Ev.pure _)
theorem b7j {x y : Int} {k : Nat} (hx : Sm k x) (hy : Sm k y) (hk : k < 536870912) : Ev (fun n => a7c n (toB x) (toB y)) (sg (x - y)) := by
  have lx := a1u hx
  have ly := a1u hy
  unfold a7c
  refine Ev.bind (a3s hx (by omega)) ?_
  refine Ev.bind (a := false) (Ev.else rfl (Ev.bind (a3s hy (by omega)) (Ev.pure _))) ?_
  refine Ev.bind (Ev.else rfl (Ev.bind (c4i (y := y) hx (by omega)) (Ev.pure _))) ?_
  by_cases hxy : x = y
  · exact Ev.then (by simpa using hxy) ((Ev.pure _).eq (by rw [hxy, Int.sub_self]; rfl))
  refine Ev.else (by simpa using hxy) ?_
  show Ev (fun n => bif sg x != sg y then (bif decide (sg x < sg y) then some (-1) else some 1) else (a5d n (dig x.natAbs) (dig y.natAbs)).bind fun v4 => bif v4 == decide (0 < sg x) then some (-1) else some 1) (sg (x - y))
  have hless := c3f x.natAbs y.natAbs (by omega) (by omega)
  rcases a1s x with ⟨a, b⟩ | ⟨a, b⟩ | ⟨a, b⟩ <;> rcases a1s y with ⟨c, d⟩ | ⟨c, d⟩ | ⟨c, d⟩ <;> rw [b, d]
  · refine Ev.else rfl (Ev.bind hless ?_)
    by_cases h : x.natAbs < y.natAbs
    · rw [decide_eq_true h, a3p (by omega)]; exact Ev.pure _
    · rw [decide_eq_false h, a3z (by omega)]; exact Ev.pure _
  · rw [a3z (by omega)]; exact Ev.pure _
  · rw [a3z (by omega)]; exact Ev.pure _
  · rw [a3p (by omega)]; exact Ev.pure _
  · omega
  · rw [a3z (by omega)]; exact Ev.pure _
  · rw [a3p (by omega)]; exact Ev.pure _
  · rw [a3p (by omega)]; exact Ev.pure _
  · refine Ev.else rfl (Ev.bind hless ?_)
    by_cases h : x.natAbs < y.natAbs
    · rw [decide_eq_true h, a3z (by omega)]; exact Ev.pure _
    · rw [decide_eq_false h, a3p (by omega)]; exact Ev.pure _
end Go.Proofs.YtaanocaobllohaaGreatDoor.D

/-
  THE REFERENCE's FUNCTIONS, as arithmetic, eighth part: ints.
-/
namespace Go.Proofs.YtaanocaobllohaaGreatDoor.D
open Go Rt M
theorem d1p {s : Int} (hs : s = 1 ∨ s = -1) (u : Nat) : rem (s * u) 1048576 = some (s * ((u % 1048576 : Nat) : Int)) := by
  have h := b5m (x := (u : Int)) (y := 1048576) (by omega) (by decide)
  rcases hs with rfl | rfl
  · rw [Int.one_mul, Int.one_mul, h]; congr 1
  · unfold rem at h ⊢
    rw [if_neg (by decide)] at h ⊢
    have h2 := Option.some.inj h
    rw [show (-1 : Int) * (u : Int) = -(u : Int) by omega, Int.neg_tmod, h2]
    congr 1; omega
theorem d1l {s : Int} (hs : s = 1 ∨ s = -1) {u : Nat} (hu : u ≤ 9223372036854775808) : quo .i64 (s * u) 1048576 = some (s * ((u / 1048576 : Nat) : Int)) := by
  have h : (u : Int).tdiv 1048576 = ((u / 1048576 : Nat) : Int) := by rw [Int.tdiv_eq_ediv_of_nonneg (by omega)]; omega
  unfold quo
  rw [if_neg (by decide)]
  rcases hs with rfl | rfl
  · rw [Int.one_mul, Int.one_mul, h, a5k (by omega) (by omega)]
  · rw [show (-1 : Int) * (u : Int) = -(u : Int) by omega, Int.neg_tdiv, h, a5k (by omega) (by omega)]
    congr 1; omega
theorem d1a (n : Nat) (kont : List Int → Option Big) {s : Int} (hs : s = 1 ∨ s = -1) : ∀ (u m : Nat) (acc : List Int), u ≤ 9223372036854775808 → (dig u).length < m → acc.length + (dig u).length < 1099511627776 → a6r n kont m (s * (u : Int)) acc = kont (acc ++ dig u) := by
  intro u
  induction u using Nat.strongRecOn with
  | ind u ih =>
    intro m acc hu hm ha
    obtain ⟨m, rfl⟩ : ∃ m', m = m' + 1 := ⟨m - 1, by omega⟩
    unfold a6r
    by_cases h : u = 0
    · subst h
      rw [dig_zero, List.append_nil, show (s * ((0 : Nat) : Int) != 0) = false by simp]; rfl
    · have hd := b1g h
      rw [hd] at hm ha
      simp only [List.length_cons] at hm ha
      have hne : (s * (u : Int) != 0) = true := by
        rw [bne_iff_ne]; rcases hs with rfl | rfl <;> omega
      rw [hne, cond_true, d1p hs, Option.bind_some]
      have e1 : (bif decide (s * ((u % 1048576 : Nat) : Int) < 0) then some (IntKind.i64.wrap (0 - s * ((u % 1048576 : Nat) : Int))) else some (s * ((u % 1048576 : Nat) : Int))) = some ((u % 1048576 : Nat) : Int) := by
        have hlt := Nat.mod_lt u (show 1048576 > 0 by decide)
        generalize u % 1048576 = r at *
        by_cases hn : s * (r : Int) < 0
        · rw [decide_eq_true hn, cond_true]
          congr 1
          rcases hs with rfl | rfl
          · omega
          · rw [a5k (by omega) (by omega)]; omega
        · rw [decide_eq_false hn, cond_false]
          congr 1
          rcases hs with rfl | rfl <;> omega
      rw [e1, Option.bind_some, b4w (by simp; omega), Option.bind_some, d1l hs hu, Option.bind_some, ih (u / 1048576) (by omega) m _ (by omega) (by omega) (by simp; omega), hd]
      simp
theorem c1g {x : Int} (h1 : -9223372036854775808 ≤ x) (h2 : x ≤ 9223372036854775807) : Ev (fun n => b0z n x) (toB x) := by
  have hl := b6c (u := x.natAbs) (by omega)
  by_cases h0 : x = 0
  · subst h0
    exact (Ev.pure _).eq toB_zero.symm
  have hm : ∀ s : Int, s = sg x → Ev (fun n => (a1t n s (dig x.natAbs)).bind fun v1 => some (⟨v1.Sign, v1.Digits⟩ : Big)) (toB x) := fun s hs => Ev.bind (a7g (by omega) x rfl (fun _ => hs)) (Ev.pure _)
  refine Ev.from (g := fun n => (a1t n (sg x) (dig x.natAbs)).bind fun v1 => some (⟨v1.Sign, v1.Digits⟩ : Big)) 5 (fun n hn => ?_) (hm _ rfl)
  show b0z n x = _
  unfold b0z
  rw [show (x == 0) = false from beq_false_of_ne h0, cond_false]
  by_cases hx : x < 0
  · rw [decide_eq_true hx, cond_true, Option.bind_some, a3z hx]
    have h3 := d1a n (fun (l2 : List Int) => (a1t n (-1) l2).bind fun v1 => some (⟨v1.Sign, v1.Digits⟩ : Big)) (s := -1) (.inr rfl) x.natAbs n [] (by omega) (by omega) (by simp; omega)
    rw [show (-1 : Int) * (x.natAbs : Int) = x by omega, List.nil_append] at h3
    exact h3
  · rw [decide_eq_false hx, cond_false, Option.bind_some, a3p (by omega)]
    have h3 := d1a n (fun (l2 : List Int) => (a1t n 1 l2).bind fun v1 => some (⟨v1.Sign, v1.Digits⟩ : Big)) (s := 1) (.inl rfl) x.natAbs n [] (by omega) (by omega) (by simp; omega)
    rw [show (1 : Int) * (x.natAbs : Int) = x by omega, List.nil_append] at h3
    exact h3
end Go.Proofs.YtaanocaobllohaaGreatDoor.D

/-
  THE REFERENCE's FUNCTIONS, as arithmetic, ninth part: the text.
-/
namespace Go.Proofs.YtaanocaobllohaaGreatDoor.D
open Go Rt M
theorem c5a {r X : Nat} (hr : r < 10) (hX : X < 1048576) : iadd .i64 (imul .i64 (r : Int) 1048576) (X : Int) = ((X + 1048576 * r : Nat) : Int) := by
  have h1 : imul .i64 (r : Int) 1048576 = (r : Int) * 1048576 := a6k (by omega) (by omega)
  rw [h1]
  have h2 : iadd .i64 ((r : Int) * 1048576) (X : Int) = (r : Int) * 1048576 + (X : Int) := a2q (by omega) (by omega)
  rw [h2]; omega
theorem c6r {r X : Nat} (hr : r < 10) (hX : X < 1048576) : X + 1048576 * r < 10485760 := by omega
theorem c5o {R : Nat} (h : R < 10485760) : R / 10 < 1048576 := by omega
theorem c5f (n : Nat) (l : List Int) (kont : Int → List Int → Option (List Int × Int)) (hl : InR l) (hla : l.length < 536870800) : ∀ (i m : Nat) (H : Nat) (qs : List Int),
    i ≤ l.length → i < m → val (l.drop i) = H → InR qs → qs.length = l.length - i → val qs = ((H / 10 : Nat) : Int) →
    ∃ out, a4j n l kont m ((H % 10 : Nat) : Int) ((i : Int) - 1) (List.replicate i 0 ++ qs) = kont (((val l).toNat % 10 : Nat) : Int) out ∧ InR out ∧ out.length = l.length ∧ val out = (((val l).toNat / 10 : Nat) : Int)
  | 0, m + 1, H, qs, _, _, hH, hq, hql, hqv => by
    refine ⟨qs, ?_, hq, by omega, ?_⟩
    · unfold a4j
      rw [show decide ((0 : Int) ≤ ((0 : Nat) : Int) - 1) = false by decide, cond_false]
      rw [List.drop_zero] at hH
      rw [hH]; rfl
    · rw [List.drop_zero] at hH
      rw [hqv, hH]; rfl
  | i + 1, m + 1, H, qs, hi, hm, hH, hq, hql, hqv => by
    unfold a4j
    have hia : i < l.length := by omega
    have hxr := hl l[i] (List.getElem_mem hia)
    have hvd := a8v l i
    rw [List.drop_eq_getElem_cons hia] at hvd
    simp only [List.headD_cons] at hvd
    rw [← List.drop_eq_getElem_cons hia] at hvd
    rw [show ((i + 1 : Nat) : Int) - 1 = (i : Int) by omega, show decide (0 ≤ (i : Int)) = true by simp, cond_true, b2z, List.getElem?_eq_getElem hia, Option.bind_some]
    generalize l[i] = x at *
    obtain ⟨X, rfl⟩ := Int.eq_ofNat_of_zero_le hxr.1
    have hX : X < 1048576 := Int.ofNat_lt.1 hxr.2
    have hmod := Nat.mod_lt H (show 10 > 0 by decide)
    have hR : X + 1048576 * (H % 10) < 10485760 := c6r hmod hX
    obtain ⟨s1, s2⟩ := c0q (x := X) (H := H) (b := 10) (by decide)
    have ev := c5a (r := H % 10) (X := X) hmod hX
    have e1 : List.replicate (i + 1) (0 : Int) ++ qs = List.replicate i 0 ++ 0 :: qs := by rw [List.replicate_succ', List.append_assoc]; rfl
    have hq10 : (X + 1048576 * (H % 10)) / 10 < 1048576 := c5o hR
    have hv2 : val (l.drop i) = ((X + 1048576 * H : Nat) : Int) := by rw [hvd, hH]; clear s1 s2 hq10; omega
    have hv3 : val ((((X + 1048576 * (H % 10)) / 10 : Nat) : Int) :: qs) = (((X + 1048576 * H) / 10 : Nat) : Int) := by
      rw [s1]; simp only [val]; rw [hqv]; clear s1 s2 hvd hH; generalize (X + 1048576 * (H % 10)) / 10 = u at *; generalize H / 10 = v at *; omega
    have hlq : ((((X + 1048576 * (H % 10)) / 10 : Nat) : Int) :: qs).length = l.length - i := by rw [List.length_cons, hql]; clear s1 s2 hvd hH; omega
    have hnext := c5f n l kont hl hla i m (X + 1048576 * H) ((((X + 1048576 * (H % 10)) / 10 : Nat) : Int) :: qs) (by clear s1 s2 hvd hH; omega) (by clear s1 s2 hvd hH; omega) hv2 (InR.cons (Int.natCast_nonneg _) (Int.ofNat_lt.2 hq10) hq) hlq hv3
    obtain ⟨out, h4, h5, h6, h7⟩ := hnext
    refine ⟨out, ?_, h5, h6, h7⟩
    rw [s2] at h4
    rw [ev]
    clear s1 s2 hvd hH hv2 hv3 hq10 hlq ev hmod
    generalize X + 1048576 * (H % 10) = R at *
    have e2 : ix (List.replicate (i + 1) (0 : Int) ++ qs) (i : Int) = some 0 := by rw [e1]; exact a5x _ _ _ (by simp)
    have e3 : lset (List.replicate (i + 1) (0 : Int) ++ qs) (i : Int) ((R / 10 : Nat) : Int) = some (List.replicate i 0 ++ ((R / 10 : Nat) : Int) :: qs) := by rw [e1]; exact a6n _ _ _ _ (by simp)
    have q1 : quo .i64 (R : Int) 10 = some ((R / 10 : Nat) : Int) := by rw [b5p (by omega) (by omega) (by decide)]; congr 1
    have q2 : rem (R : Int) 10 = some ((R % 10 : Nat) : Int) := by rw [b5m (by omega) (by decide)]; congr 1
    rw [q1, Option.bind_some, e2, Option.bind_some, e3, Option.bind_some, q2, Option.bind_some, a2g (by omega) (by omega)]
    exact h4
  | _, 0, _, _, _, h, _, _, _, _ => by omega
theorem c8e {v n : Nat} (hl : (dig v).length < 536870800) (hn : (dig v).length + 2 < n) : a8q n (dig v) = some (dig (v / 10), ((v % 10 : Nat) : Int)) := by
  unfold a8q
  obtain ⟨out, h1, h2, h3, h4⟩ := c5f n (dig v) (fun (rx2 : Int) (l4 : List Int) => (a1o n l4).bind fun v1 => some (v1, rx2)) (a2p v) hl (dig v).length n 0 [] (Nat.le_refl _) (by omega) (by rw [a9j (Nat.le_refl _)]; rfl) InR.nil (by simp) (by rw [Nat.zero_div]; rfl)
  rw [List.append_nil] at h1
  rw [b8o (by omega), Option.bind_some, a2g (by omega) (by omega)]
  refine Eq.trans h1 ?_
  show (a1o n out).bind _ = _
  rw [b0l h2 (by omega) (by omega), h4, a2c, Int.toNat_natCast, Int.toNat_natCast]; rfl
theorem c5y (r : Nat) (h : r < 10) : ssl [48, 49, 50, 51, 52, 53, 54, 55, 56, 57] (r : Int) (iadd .i64 (r : Int) 1) = some [c8 r] := by
  rw [a2q (by omega) (by omega)]
  match r, h with
  | 0, _ => rfl
  | 1, _ => rfl
  | 2, _ => rfl
  | 3, _ => rfl
  | 4, _ => rfl
  | 5, _ => rfl
  | 6, _ => rfl
  | 7, _ => rfl
  | 8, _ => rfl
  | 9, _ => rfl
  | r + 10, h => omega
/-- the decimal digits, none for 0 -/
def dcs (v : Nat) : Bs := if v = 0 then [] else Lib.decDigits v
theorem c6z {v : Nat} (h : v ≠ 0) : dcs v = dcs (v / 10) ++ [c8 v] := by
  unfold dcs
  rw [if_neg h]
  by_cases h1 : v < 10
  · rw [if_pos (by omega), a7h h1]; rfl
  · rw [if_neg (by omega), a6o (v := v) (by omega)]
theorem c9f (n : Nat) (kont : Bs → Option Bs) (v : Nat) : ∀ (m : Nat) (s : Bs), (dig v).length < 536870800 → (dig v).length + 2 < n → (dcs v).length < m → (dcs v).length + s.length < 1099511627776 →
    a4g n kont m s (dig v) = kont (dcs v ++ s) := by
  induction v using Nat.strongRecOn with
  | ind v ih =>
    intro m s h1 h2 h3 h4
    obtain ⟨m, rfl⟩ : ∃ m', m = m' + 1 := ⟨m - 1, by omega⟩
    unfold a4g
    by_cases h : v = 0
    · subst h
      rw [dig_zero]; rfl
    · have hc := c6z h
      rw [hc] at h3 h4 ⊢
      simp only [List.length_append, List.length_singleton] at h3 h4
      have hlv : 0 < (dig v).length := List.length_pos_iff.2 (b1n h)
      have hm := a3e (Nat.div_le_self v 10)
      have e8 : c8 (v % 10) = c8 v := by unfold c8; congr 2; omega
      rw [show decide (0 < ((dig v).length : Int)) = true by simp; omega, cond_true, c8e h1 h2, Option.bind_some]
      show (ssl [48, 49, 50, 51, 52, 53, 54, 55, 56, 57] ((v % 10 : Nat) : Int) (iadd .i64 ((v % 10 : Nat) : Int) 1)).bind _ = _
      rw [c5y _ (Nat.mod_lt _ (by decide)), Option.bind_some, e8]
      unfold scat
      rw [if_pos (by simp; omega), Option.bind_some]
      show a4g n kont m _ (dig (v / 10)) = _
      rw [ih (v / 10) (by omega) m _ (by omega) (by omega) (by omega) (by simp; omega)]
      simp
theorem c2o {x : Int} {k : Nat} (h : Sm k x) (hk : k < 1000000) : Ev (fun n => a9o n (toB x)) (txt x) := by
  have hl := a1u h
  have ht := b5l h
  unfold a9o
  refine Ev.bind (a3s h (by omega)) ?_
  refine Ev.else rfl ?_
  by_cases h0 : x = 0
  · subst h0
    refine Ev.then rfl ((Ev.pure _).eq ?_)
    unfold txt
    rw [if_neg (by omega), show (0 : Int).natAbs = 0 from rfl, a7h (by decide)]; rfl
  refine Ev.else (by show (sg x == 0) = false; rcases a1s x with ⟨a, b⟩ | ⟨a, b⟩ | ⟨a, b⟩ <;> rw [b] <;> first | rfl | exact absurd a h0) ?_
  have hd : dcs x.natAbs = Lib.decDigits x.natAbs := by unfold dcs; rw [if_neg (by omega)]
  have hdl : (Lib.decDigits x.natAbs).length ≤ 7 * k + 2 := by unfold txt at ht; split at ht <;> (try simp only [List.length_cons] at ht) <;> omega
  refine Ev.from (g := fun _ => some (txt x)) (7 * k + 10) (fun n hn => ?_) (Ev.pure _)
  show a4g n _ n [] (dig x.natAbs) = _
  rw [c9f n _ x.natAbs n [] (by omega) (by omega) (by rw [hd]; omega) (by rw [hd]; simp; omega), List.append_nil, hd]
  show (bif decide (sg x < 0) then _ else _) = _
  unfold txt
  by_cases hx : x < 0
  · rw [if_pos hx, a3z hx]
    unfold scat
    rw [show decide ((-1 : Int) < 0) = true from rfl, cond_true, if_pos (by simp; omega)]; rfl
  · rw [if_neg hx, a3p (by omega)]; rfl
end Go.Proofs.YtaanocaobllohaaGreatDoor.D

/-
  THE REFERENCE's FUNCTIONS, as arithmetic, tenth part: Read.
-/
namespace Go.Proofs.YtaanocaobllohaaGreatDoor.D
open Go Rt M
theorem b6v {t : Bs} {i : Nat} {b : UInt8} {us : Bs} (h : t.drop i = b :: us) : sidx t (i : Int) = some (b.toNat : Int) ∧ t.drop (i + 1) = us ∧ i < t.length := by
  obtain ⟨h1, h2, h3⟩ := a2z h
  refine ⟨?_, h2, h3⟩
  rw [b2z] at h1
  unfold sidx
  rw [if_pos (by omega), Int.toNat_natCast, h1]; rfl
theorem c8w {b : UInt8} : (decide ((b.toNat : Int) < 48) = true ∨ decide (57 < (b.toNat : Int)) = true) ↔ isd b = false := by
  unfold isd
  simp only [decide_eq_true_eq, Bool.and_eq_false_iff, decide_eq_false_iff_not]
  omega
theorem b9s (n : Nat) (t : Bs) (kont : Option (Big × Int)) (hlt : t.length < 1099511627776) : ∀ (us : Bs) (i m : Nat), t.drop i = us → us.length < m →
    a4t n t kont m (i : Int) = bif us.all isd then kont else some (⟨0, []⟩, 2)
  | [], i, m + 1, hd, _ => by
    have hi := a5j hd
    rw [a9z, show decide ((i : Int) < (t.length : Int)) = false by simp; omega]; rfl
  | b :: us, i, m + 1, hd, hm => by
    obtain ⟨h1, h2, h3⟩ := b6v hd
    rw [a9z, show decide ((i : Int) < (t.length : Int)) = true by simp; omega, cond_true, h1, Option.bind_some, Option.bind_some]
    have ih := b9s n t kont hlt us (i + 1) m h2 (by simp only [List.length_cons] at hm; omega)
    have e : (bif decide ((b.toNat : Int) < 48) then some true else some (decide (57 < (b.toNat : Int)))) = some (!isd b) := by
      by_cases hb : isd b = true
      · have hr := b7s hb
        rw [decide_eq_false (by omega), decide_eq_false (by omega), hb]; rfl
      · have hb' : isd b = false := by simpa using hb
        rw [hb']
        rcases c8w.2 hb' with h | h
        · rw [h]; rfl
        · rw [h]; cases decide ((b.toNat : Int) < 48) <;> rfl
    rw [e, Option.bind_some, List.all_cons]
    cases hb : isd b with
    | true => rw [Bool.not_true, cond_false, Bool.true_and, ← ih, show iadd .i64 (i : Int) 1 = ((i + 1 : Nat) : Int) by rw [a2q (by omega) (by omega)]; omega]
    | false => rfl
theorem c9k {d : Nat} (h : d < 1048576) (n : Nat) (hn : 2 < n) : a1o n [(d : Int)] = some (dig d) := by
  have hR : InR [(d : Int)] := by intro e he; rw [List.mem_singleton] at he; subst he; omega
  have := b0l hR (by simp) (n := n) (by simp; omega)
  rwa [show (val [(d : Int)]).toNat = d by simp [val]] at this
theorem c7j (t : Bs) (ht : t.all isd = true) (hlt : t.length < 1099511627776) (n L : Nat) (hL : L < 536870900) (hn : 2 * L + 20 < n) (kont : List Int → Option (Big × Int)) : ∀ (us : Bs) (i v m : Nat), t.drop i = us → (dig (dv v us)).length ≤ L → us.length < m →
    a3m n t kont m (dig v) (i : Int) = kont (dig (dv v us)) := by
  intro us
  induction us with
  | nil =>
    intro i v m hd _ hm
    obtain ⟨m, rfl⟩ : ∃ m', m = m' + 1 := ⟨m - 1, by omega⟩
    have hi := a5j hd
    rw [b0o, show decide ((i : Int) < (t.length : Int)) = false by simp; omega, cond_false, c2r]
  | cons b us ih =>
    intro i v m hd hl hm
    obtain ⟨m, rfl⟩ : ∃ m', m = m' + 1 := ⟨m - 1, by omega⟩
    rw [b5i] at hl
    obtain ⟨h1, h2, h3⟩ := b6v hd
    have hb : isd b = true := List.all_eq_true.1 ht b (List.mem_of_mem_drop (by rw [hd]; simp : b ∈ t.drop i))
    have hbr := b7s hb
    have hle := a3e (d0r us (ten1 v b))
    have hten : ten1 v b = v * 10 + (b.toNat - 48) := by unfold ten1; omega
    have h10 := a3e (show v * 10 ≤ ten1 v b by omega)
    have hv := a3e (show v ≤ ten1 v b by omega)
    have hbl := b9e (v := b.toNat - 48) (by omega)
    have e2 : IntKind.i64.wrap (isub .u8 (b.toNat : Int) 48) = ((b.toNat - 48 : Nat) : Int) := by
      rw [show isub .u8 (b.toNat : Int) 48 = ((b.toNat - 48 : Nat) : Int) by unfold isub; rw [c7n]; omega, a5k (by omega) (by omega)]
    have t1 : a2v n (dig v) [10] = some (dig (v * 10)) := by
      have := b7h (u := v) (v := 10) (n := n) (by omega) (by rw [dig_ten]; decide) (by rw [dig_ten]; simp only [List.length_singleton]; omega)
      rwa [dig_ten] at this
    have t3 : a4m n (dig (v * 10)) (dig (b.toNat - 48)) = some (dig (ten1 v b)) := by
      have := d0s (a2p (v * 10)) (a2p (b.toNat - 48)) (by omega) (by omega) (n := n) (by omega)
      rwa [a2c, a2c, show (((v * 10 : Nat) : Int) + ((b.toNat - 48 : Nat) : Int)).toNat = ten1 v b by omega] at this
    rw [b0o, show decide ((i : Int) < (t.length : Int)) = true by simp; omega, cond_true, h1, Option.bind_some, t1, Option.bind_some, e2, c9k (by omega) n (by omega), Option.bind_some, t3, Option.bind_some, show iadd .i64 (i : Int) 1 = ((i + 1 : Nat) : Int) by rw [a2q (by omega) (by omega)]; omega, ih (i + 1) (ten1 v b) m h2 hl (by simp only [List.length_cons] at hm; omega), b5i]
theorem c3q (n : Nat) (s : Bs) (hl : s.length ≤ 500) : a3r n s =
    (bif (cut s).1 == [] then some true
      else (sidx (cut s).1 0).bind fun c4 => (bif c4 == 48 then some (!(s == [48])) else some false).bind fun v8 => some v8).bind fun v2 =>
    bif v2 then some ((⟨0, []⟩ : Big), 2)
    else a4t n (cut s).1 (a3m n (cut s).1 (fun (l2 : (List Int)) => (a1t n (if (cut s).2 then -1 else 1) l2).bind fun v3 => some ((⟨v3.Sign, v3.Digits⟩ : Big), 0)) n [] 0) n 0 := by
  unfold a3r
  rcases s with _ | ⟨b, s⟩
  · rfl
  · have e1 : sidx (b :: s) 0 = some (b.toNat : Int) := rfl
    rw [show decide (0 < ((b :: s).length : Int)) = true by simp, cond_true, e1, Option.bind_some, Option.bind_some]
    by_cases hb : b = 45
    · subst hb
      have e2 : ssl (45 :: s) 1 ((45 : UInt8) :: s).length = some s := by unfold ssl; rw [if_pos ⟨by omega, by simp; omega, by omega⟩]; simp
      rw [show (((45 : UInt8).toNat : Int) == 45) = true from rfl, cond_true, e2]
      rfl
    · have e3 : ((b.toNat : Int) == 45) = false := by
        rw [beq_eq_false_iff_ne]; intro h
        exact hb (UInt8.toNat_inj.1 (by show b.toNat = 45; omega))
      rw [e3, cond_false, c9t hb]
      rfl
theorem c2j {s : Bs} (hl : s.length ≤ 500) : Ev (fun n => a3r n s) (b2i s) := by
  have hc := c0c s
  by_cases hs : s = [48]
  · subst hs
    refine ⟨600, fun n hn => ?_⟩
    obtain ⟨m, rfl⟩ := Nat.le.dest hn
    rw [Nat.add_comm]
    exact (show a3r (m + 600) [48] = some (⟨0, []⟩, 0) by kernel_rfl)
  have hs' : (s == [48]) = false := beq_false_of_ne hs
  unfold b2i
  rw [if_neg hs]
  have hop := fun n => c3q n s hl
  generalize hT : (cut s).1 = T at *
  generalize (cut s).2 = ng at *
  rcases T with _ | ⟨b, t⟩
  · rw [if_neg (by decide)]
    refine ⟨0, fun n _ => ?_⟩
    show a3r n s = _
    rw [hop n]; rfl
  have hev : ∀ n, a3r n s = bif b == 48 then some ((⟨0, []⟩ : Big), 2)
      else a4t n (b :: t) (a3m n (b :: t) (fun (l2 : (List Int)) => (a1t n (if ng then -1 else 1) l2).bind fun v3 => some ((⟨v3.Sign, v3.Digits⟩ : Big), 0)) n [] 0) n 0 := by
    intro n
    have e1 : sidx (b :: t) 0 = some (b.toNat : Int) := rfl
    have e2 : ((b.toNat : Int) == 48) = (b == 48) := by
      by_cases h : b = 48
      · subst h; rfl
      · have : b.toNat ≠ 48 := fun e => h (UInt8.toNat_inj.1 e)
        rw [show (b == 48) = false by simpa using h]; simp; omega
    rw [hop n, show ((b :: t : Bs) == []) = false from rfl, cond_false, e1, Option.bind_some, e2, hs']
    cases b == 48 <;> rfl
  by_cases hb : b = 48
  · subst hb
    rw [if_neg (by simp [good])]
    exact ⟨0, fun n _ => by show a3r n s = _; rw [hev n]; rfl⟩
  by_cases ha : List.all (b :: t) isd = true
  · rw [if_pos (c9g hb ha)]
    have hsm := c8p ha (by omega)
    have hlen := a1u hsm
    rw [Int.natAbs_natCast] at hlen
    have hfin : Ev (fun n => (a1t n (if ng then -1 else 1) (dig (dv 0 (b :: t)))).bind fun v3 => some ((⟨v3.Sign, v3.Digits⟩ : Big), (0 : Int))) (toB (if ng then -((dv 0 (b :: t) : Nat) : Int) else ((dv 0 (b :: t) : Nat) : Int)), 0) := by
      generalize dv 0 (b :: t) = V at *
      cases ng with
      | true => exact Ev.bind (a7g (s := -1) (v := V) (by omega) (-(V : Int)) (by omega) (fun h => (a3z (by omega)).symm)) (Ev.pure _)
      | false => exact Ev.bind (a7g (s := 1) (v := V) (by omega) (V : Int) (by omega) (fun h => (a3p (by omega)).symm)) (Ev.pure _)
    refine Ev.from 800 (fun n hn => ?_) hfin
    show a3r n s = _
    rw [hev n, show (b == 48) = false by simpa using hb, cond_false]
    have h1 := b9s n (b :: t) (a3m n (b :: t) (fun (l2 : (List Int)) => (a1t n (if ng then -1 else 1) l2).bind fun v3 => some ((⟨v3.Sign, v3.Digits⟩ : Big), 0)) n [] 0) (by omega) (b :: t) 0 n rfl (by omega)
    have h2 := c7j (b :: t) ha (by omega) n 100 (by decide) (by omega) (fun (l2 : (List Int)) => (a1t n (if ng then -1 else 1) l2).bind fun v3 => some ((⟨v3.Sign, v3.Digits⟩ : Big), (0 : Int))) (b :: t) 0 0 n rfl hlen (by omega)
    rw [dig_zero] at h2
    rw [ha] at h1
    exact h1.trans h2
  · have ha' : List.all (b :: t) isd = false := by simpa using ha
    rw [if_neg (by unfold good; rw [ha']; simp)]
    refine ⟨501, fun n hn => ?_⟩
    show a3r n s = _
    rw [hev n, show (b == 48) = false by simpa using hb, cond_false]
    have h1 := b9s n (b :: t) (a3m n (b :: t) (fun (l2 : (List Int)) => (a1t n (if ng then -1 else 1) l2).bind fun v3 => some ((⟨v3.Sign, v3.Digits⟩ : Big), 0)) n [] 0) (by omega) (b :: t) 0 n rfl (by omega)
    rw [ha'] at h1
    exact h1
end Go.Proofs.YtaanocaobllohaaGreatDoor.D
