/- Several texts in one, for FeeNames.said: what the theorem leans on. -/
import Derived.Test.YtknpjecpcmajiaaPn6
namespace Go.Proofs.Ytknpjecpcmajiaa.D
open Go Rt M
theorem a9m (l : List Int) (i : Nat) : val (l.drop i) = (l.drop i).headD 0 + 1048576 * val (l.drop (i + 1)) := by
  rw [← List.drop_drop]
  cases l.drop i with
  | nil => rfl
  | cons d l => rfl
theorem b0c {l : List Int} {i : Nat} (h : l.length ≤ i) : val (l.drop i) = 0 := by rw [List.drop_of_length_le h]; rfl
theorem c3o {a b : List Int} (ha : InR a) (hb : InR b) (i : Nat) (h : val (a.drop i) < val (b.drop i)) : val a < val b := by
  induction i with
  | zero => simpa using h
  | succ i ih =>
    apply ih
    rw [a9m a i, a9m b i]
    have h1 := (InR.drop ha i).headD
    have h2 := (InR.drop hb i).headD
    omega
theorem c7r (n : Nat) (a b : List Int) (ha : InR a) (hb : InR b) (hla : a.length < 1099511627776) (hlb : b.length < 1099511627776) : ∀ (i m : Nat), i < 1099511627776 → i < m → val (a.drop i) = val (b.drop i) →
    a4t n a b (some false) m ((i : Int) - 1) = some (decide (val a < val b))
  | 0, m + 1, _, _, h => by
    unfold a4t
    rw [show decide ((0 : Int) ≤ ((0 : Nat) : Int) - 1) = false by decide, cond_false]
    simp only [List.drop_zero] at h
    rw [h]; simp
  | i + 1, m + 1, hi, hm, h => by
    unfold a4t
    rw [show ((i + 1 : Nat) : Int) - 1 = (i : Int) by omega, show decide (0 ≤ (i : Int)) = true by simp, cond_true, b4k, b4k, Option.bind_some, Option.bind_some]
    have e1 := a9m a i
    have e2 := a9m b i
    by_cases hd : (a.drop i).headD 0 = (b.drop i).headD 0
    · rw [show ((a.drop i).headD 0 != (b.drop i).headD 0) = false by simpa using hd, cond_false, a2k (by omega) (by omega)]
      exact c7r n a b ha hb hla hlb i m (by omega) (by omega) (by rw [e1, e2, hd, h])
    · rw [show ((a.drop i).headD 0 != (b.drop i).headD 0) = true by simpa using hd, cond_true, Option.bind_some, Option.bind_some]
      congr 1
      by_cases hlt : (a.drop i).headD 0 < (b.drop i).headD 0
      · have := c3o ha hb i (by omega)
        rw [decide_eq_true hlt, decide_eq_true this]
      · have := c3o hb ha i (by omega)
        have h3 : ¬ val a < val b := by omega
        rw [decide_eq_false hlt, decide_eq_false h3]
  | _, 0, _, hm, _ => by omega
theorem d0f {a b : List Int} (ha : InR a) (hb : InR b) (hla : a.length < 1099511627776) (hlb : b.length < 1099511627776) {n : Nat} (hn : max a.length b.length < n) : a9n n a b = some (decide (val a < val b)) := by
  unfold a9n
  have e : isub .i64 (imax (a.length : Int) (b.length : Int)) 1 = ((max a.length b.length : Nat) : Int) - 1 := by
    have : imax (a.length : Int) (b.length : Int) = ((max a.length b.length : Nat) : Int) := by unfold imax; split <;> omega
    rw [this, a2k (by omega) (by omega)]
  rw [e]
  exact c7r n a b ha hb hla hlb _ n (by omega) hn (by rw [b0c (by omega), b0c (by omega)])
theorem c7n (n : Nat) (a b : List Int) (kont : List Int → Option (List Int)) (ha : InR a) (hb : InR b) (hla : a.length < 1073741824) (hlb : b.length < 1073741824) (V : Int) : ∀ (m i : Nat) (c : Int) (pre : List Int),
    pre.length = i → InR pre → 0 ≤ c → c ≤ 1 → val pre + pw i * (c + val (a.drop i) + val (b.drop i)) = V → (i ≤ max a.length b.length ∨ (i = max a.length b.length + 1 ∧ c = 0)) → max a.length b.length + 2 ≤ i + m →
    ∃ out, a5m n a b kont m c (i : Int) pre = kont out ∧ InR out ∧ val out = V ∧ out.length ≤ max a.length b.length + 1
  | 0, i, _, _, _, _, _, _, _, h, h2 => by omega
  | m + 1, i, c, pre, hp, hpr, h0, h1, hv, hi, hm => by
    unfold a5m
    have xr := (InR.drop ha i).headD
    have yr := (InR.drop hb i).headD
    have ea := a9m a i
    have eb := a9m b i
    by_cases hgo : i < a.length ∨ i < b.length ∨ 0 < c
    · have e1 : (((bif decide ((i : Int) < (a.length : Int)) then some true else some (decide ((i : Int) < (b.length : Int)))) : Option Bool).bind fun v2 => (bif v2 then some true else some (decide (0 < c)) : Option Bool)) = some true := by
        by_cases g1 : i < a.length
        · rw [show decide ((i : Int) < (a.length : Int)) = true by simpa using g1]; rfl
        · rw [show decide ((i : Int) < (a.length : Int)) = false by simpa using g1]
          by_cases g2 : i < b.length
          · rw [show decide ((i : Int) < (b.length : Int)) = true by simpa using g2]; rfl
          · rw [show decide ((i : Int) < (b.length : Int)) = false by simpa using g2, show decide (0 < c) = true by simp; omega]; rfl
      have es : iadd .i64 (iadd .i64 ((a.drop i).headD 0) ((b.drop i).headD 0)) c = (a.drop i).headD 0 + (b.drop i).headD 0 + c := by rw [a3q (x := (a.drop i).headD 0) (y := (b.drop i).headD 0) (by omega) (by omega), a3q (by omega) (by omega)]
      generalize hx : (a.drop i).headD 0 = x at *
      generalize hy : (b.drop i).headD 0 = y at *
      have hnext := c7n n a b kont ha hb hla hlb V m (i + 1) ((x + y + c) / 1048576) (pre ++ [(x + y + c) % 1048576]) (by simp [hp]) (hpr.append (InR.cons (by omega) (by omega) InR.nil)) (by omega) (by omega)
        (by
          rw [val_append, hp]
          have e3 : val [(x + y + c) % 1048576] = (x + y + c) % 1048576 := by simp [val]
          rw [e3, show pw (i + 1) = 1048576 * pw i from rfl, ← hv, ea, eb]
          have hdm : x + y + c = (x + y + c) % 1048576 + 1048576 * ((x + y + c) / 1048576) := by omega
          generalize (x + y + c) % 1048576 = r at *
          generalize (x + y + c) / 1048576 = q at *
          generalize val (a.drop (i + 1)) = A at *
          generalize val (b.drop (i + 1)) = B at *
          generalize pw i = p at *
          have hc : c = r + 1048576 * q - x - y := by omega
          subst hc
          grind) (by
          by_cases g : i < max a.length b.length
          · left; omega
          · right
            rw [List.drop_of_length_le (by omega)] at hx hy
            simp at hx hy
            omega) (by omega)
      obtain ⟨out, h3, h4, h5, h6⟩ := hnext
      refine ⟨out, ?_, h4, h5, h6⟩
      rw [← h3]
      rw [← Option.bind_assoc, e1, Option.bind_some, cond_true, b4k, b4k, Option.bind_some, Option.bind_some, hx, hy, es, b4h (by omega) (by decide), Option.bind_some, b3u (by simp; omega), Option.bind_some, b5z (by omega) (by omega) (by decide), Option.bind_some, inc64 (by omega)]
    · refine ⟨pre, ?_, hpr, ?_, by omega⟩
      · rw [show decide ((i : Int) < (a.length : Int)) = false by simp; omega, show decide ((i : Int) < (b.length : Int)) = false by simp; omega, show decide (0 < c) = false by simp; omega]; rfl
      · rw [b0c (by omega), b0c (by omega)] at hv
        rw [← hv, show c = 0 by omega]; simp
theorem c9s {a b : List Int} (ha : InR a) (hb : InR b) (hla : a.length < 1073741824) (hlb : b.length < 1073741824) : Ev (fun n => a8r n a b) (dig (val a + val b).toNat) := by
  refine ⟨max a.length b.length + 3, fun n hn => ?_⟩
  show a8r n a b = _
  unfold a8r
  obtain ⟨out, h1, h2, h3, h4⟩ := c7n n a b (fun (l2 : List Int) => (a2e n l2).bind fun v1 => some v1) ha hb hla hlb (val a + val b) n 0 0 [] rfl InR.nil (by decide) (by decide) (by simp [val, pw]) (.inl (by omega)) (by omega)
  refine Eq.trans h1 ?_
  show (a2e n out).bind _ = _
  rw [b2k h2 (by omega) (by omega), h3]; rfl
end Go.Proofs.Ytknpjecpcmajiaa.D

namespace Go.Proofs.Ytknpjecpcmajiaa.D
open Go Rt M
theorem c1l (n : Nat) (a b : List Int) (kont : List Int → Option (List Int)) (ha : InR a) (hb : InR b) (hla : a.length < 1073741824) (hlb : b.length ≤ a.length) (V : Int) (hV : 0 ≤ V) : ∀ (us : List Int) (m i : Nat) (c : Int) (pre : List Int),
    a.drop i = us → us.length < m → pre.length = i → InR pre → 0 ≤ c → c ≤ 1 → val pre + pw i * (val us - val (b.drop i) - c) = V →
    ∃ out, a3v n a b kont m c (i : Int) pre = kont out ∧ InR out ∧ val out = V ∧ out.length ≤ max a.length i
  | [], m + 1, i, c, pre, hd, _, hp, hpr, h0, h1, hv => by
    have hi := drop_nil hd
    refine ⟨pre, ?_, hpr, ?_, by omega⟩
    · unfold a3v
      rw [show decide ((i : Int) < (a.length : Int)) = false by simp; omega]; rfl
    · rw [b0c (by omega)] at hv
      have h2 := val_lt hpr
      rw [hp] at h2
      have hc : c = 0 := by
        rcases (show c = 0 ∨ c = 1 by omega) with h | h
        · exact h
        · subst h; simp only [val] at hv; exfalso
          have : pw i * (0 - 0 - 1) = -pw i := by grind
          omega
      rw [← hv, hc]; simp [val]
  | x :: us, m + 1, i, c, pre, hd, hm, hp, hpr, h0, h1, hv => by
    obtain ⟨f1, f2, f3⟩ := drop_cons hd
    have xr := (show InR (x :: us) by rw [← hd]; exact InR.drop ha i).head
    have yr := (InR.drop hb i).headD
    have eb := a9m b i
    unfold a3v
    rw [show decide ((i : Int) < (a.length : Int)) = true by simpa using f3, cond_true, f1, Option.bind_some, b4k, Option.bind_some]
    generalize hy : (b.drop i).headD 0 = y at *
    have es : isub .i64 (isub .i64 x y) c = x - y - c := by rw [a2k (x := x) (y := y) (by omega) (by omega), a2k (by omega) (by omega)]
    rw [es]
    have key : ∀ (q r : Int), x - y - c = r - 1048576 * q → 0 ≤ q → q ≤ 1 → 0 ≤ r → r < 1048576 → ∃ out, ((app 8 pre [r]).bind fun l3 => a3v n a b kont m q (iadd .i64 (i : Int) 1) l3) = kont out ∧ InR out ∧ val out = V ∧ out.length ≤ max a.length i := by
      intro q r hqr hq0 hq1 hr0 hr1
      obtain ⟨out, h3, h4, h5, h6⟩ := c1l n a b kont ha hb hla hlb V hV us m (i + 1) q (pre ++ [r]) f2 (by simpa using hm) (by simp [hp]) (hpr.append (InR.cons hr0 hr1 InR.nil)) hq0 hq1 (by
        rw [val_append, hp]
        have e3 : val [r] = r := by simp [val]
        rw [e3, show pw (i + 1) = 1048576 * pw i from rfl, ← hv, eb]
        simp only [val]
        generalize val us = A at *
        generalize val (b.drop (i + 1)) = B at *
        generalize pw i = p at *
        have hc : c = x - y - r + 1048576 * q := by omega
        subst hc
        grind)
      exact ⟨out, by rw [b3u (by simp; omega), Option.bind_some, inc64 (by omega), h3], h4, h5, by omega⟩
    by_cases hn : x - y - c < 0
    · rw [show decide (x - y - c < 0) = true by simpa using hn, cond_true, Option.bind_some, a3q (by omega) (by omega)]
      exact key 1 (x - y - c + 1048576) (by omega) (by omega) (by omega) (by omega) (by omega)
    · rw [show decide (x - y - c < 0) = false by simpa using hn, cond_false, Option.bind_some]
      exact key 0 (x - y - c) (by omega) (by omega) (by omega) (by omega) (by omega)
  | _, 0, _, _, _, _, h, _, _, _, _, _ => by omega
theorem c7i {a b : List Int} (ha : InR a) (hb : InR b) (hla : a.length < 1073741824) (hlb : b.length ≤ a.length) (h : val b ≤ val a) : Ev (fun n => a3z n a b) (dig (val a - val b).toNat) := by
  refine ⟨a.length + 2, fun n hn => ?_⟩
  show a3z n a b = _
  unfold a3z
  obtain ⟨out, h1, h2, h3, h4⟩ := c1l n a b (fun (l2 : List Int) => (a2e n l2).bind fun v1 => some v1) ha hb hla hlb (val a - val b) (by omega) a n 0 0 [] rfl (by omega) rfl InR.nil (by decide) (by decide) (by simp [val, pw])
  refine Eq.trans h1 ?_
  show (a2e n out).bind _ = _
  rw [b2k h2 (by omega) (by omega), h3]; rfl
theorem c5g (P : List Int) (z : Int) (S : List Int) : val (P ++ z :: S) = val P + pw P.length * (z + 1048576 * val S) := by rw [val_append]; rfl
theorem c2f (n : Nat) (a b : List Int) (i : Nat) (x : Int) (kont : List Int → Option (List Int)) (hx : ix a (i : Int) = some x) (hxr : 0 ≤ x ∧ x < 1048576) (hb : InR b) (hla : a.length < 1073741824) (hlb : b.length < 1073741824) (W : Int) (hi : i < a.length)
    (hW : W < pw (i + b.length + 1)) : ∀ (m k : Nat) (c : Int) (l : List Int), InR l → l.length = a.length + b.length → 0 ≤ c → c < 1048576 → val l + pw (i + k) * (c + x * val (b.drop k)) = W → (k ≤ b.length ∨ (k = b.length + 1 ∧ c = 0)) → b.length + 2 ≤ k + m →
    ∃ l', a4f n a b (i : Int) kont m c (k : Int) l = kont l' ∧ InR l' ∧ l'.length = a.length + b.length ∧ val l' = W
  | 0, k, _, _, _, _, _, _, _, h, h2 => by omega
  | m + 1, k, c, l, hl, hlen, h0, h1, hv, hk, hm => by
    unfold a4f
    have yr := (InR.drop hb k).headD
    have eb := a9m b k
    by_cases hgo : k < b.length ∨ 0 < c
    · have e1 : ((bif decide ((k : Int) < (b.length : Int)) then some true else some (decide (0 < c))) : Option Bool) = some true := by
        by_cases g1 : k < b.length
        · rw [show decide ((k : Int) < (b.length : Int)) = true by simpa using g1]; rfl
        · rw [show decide ((k : Int) < (b.length : Int)) = false by simpa using g1, show decide (0 < c) = true by simp; omega]; rfl
      have hj : i + k < l.length := by omega
      have ej : iadd .i64 (i : Int) (k : Int) = ((i + k : Nat) : Int) := by rw [a3q (by omega) (by omega)]; omega
      have hsp : l = l.take (i + k) ++ l[i + k] :: l.drop (i + k + 1) := by rw [← List.drop_eq_getElem_cons hj, List.take_append_drop]
      have hPl : (l.take (i + k)).length = i + k := by simp; omega
      have hzr := hl l[i + k] (List.getElem_mem hj)
      have hPr := InR.take hl (i + k)
      have hSr := InR.drop hl (i + k + 1)
      have hlen2 := congrArg List.length hsp
      simp only [List.length_append, List.length_cons] at hlen2
      generalize l[i + k] = z at *
      generalize l.take (i + k) = P at *
      generalize l.drop (i + k + 1) = S at *
      generalize hy : (b.drop k).headD 0 = y at *
      have hmul := b3i (g := x) hxr.1 yr.1 yr.2
      have em : imul .i64 x y = x * y := a7d (by omega) (by omega)
      have es : iadd .i64 (iadd .i64 z (imul .i64 x y)) c = z + x * y + c := by rw [em, a3q (x := z) (y := x * y) (by omega) (by omega), a3q (by omega) (by omega)]
      have hc' : (z + x * y + c) / 1048576 < 1048576 := by omega
      have hnv : val (P ++ (z + x * y + c) % 1048576 :: S) + pw (i + (k + 1)) * ((z + x * y + c) / 1048576 + x * val (b.drop (k + 1))) = W := by
        rw [hsp, c5g, hPl] at hv
        rw [c5g, hPl, show i + (k + 1) = (i + k) + 1 by omega, show pw (i + k + 1) = 1048576 * pw (i + k) from rfl, ← hv, eb]
        have hdm : z + x * y + c = (z + x * y + c) % 1048576 + 1048576 * ((z + x * y + c) / 1048576) := by omega
        generalize (z + x * y + c) % 1048576 = r at *
        generalize (z + x * y + c) / 1048576 = q at *
        generalize val (b.drop (k + 1)) = B at *
        generalize pw (i + k) = p at *
        generalize val P = vP at *
        generalize val S = vS at *
        have hc : c = r + 1048576 * q - z - x * y := by omega
        subst hc
        grind
      have hir : InR (P ++ (z + x * y + c) % 1048576 :: S) := hPr.append (InR.cons (by omega) (by omega) hSr)
      obtain ⟨l', h3, h4, h5, h6⟩ := c2f n a b i x kont hx hxr hb hla hlb W hi hW m (k + 1) ((z + x * y + c) / 1048576) (P ++ (z + x * y + c) % 1048576 :: S) hir (by simp only [List.length_append, List.length_cons]; omega) (by omega) hc' hnv (by
        by_cases g : k < b.length
        · left; omega
        · right
          refine ⟨by omega, ?_⟩
          have hk2 : k = b.length := by omega
          rw [b0c (l := b) (by omega), Int.mul_zero, Int.add_zero] at hnv
          have hnn := val_nonneg hir
          have hp2 := pw_pos (i + (k + 1))
          rw [show i + b.length + 1 = i + (k + 1) by omega] at hW
          generalize val (P ++ (z + x * y + c) % 1048576 :: S) = vv at *
          have hq0 : 0 ≤ (z + x * y + c) / 1048576 := by omega
          generalize (z + x * y + c) / 1048576 = q at *
          rcases (show q = 0 ∨ 1 ≤ q by omega) with h | h
          · exact h
          · exfalso
            have := Int.mul_le_mul_of_nonneg_left h (Int.le_of_lt hp2)
            rw [Int.mul_one] at this
            omega) (by omega)
      refine ⟨l', ?_, h4, h5, h6⟩
      rw [e1, Option.bind_some, cond_true, ej]
      have g1 : ix l ((i + k : Nat) : Int) = some z := by rw [hsp]; exact a7n _ _ _ (by omega)
      have g2 : lset l ((i + k : Nat) : Int) ((z + x * y + c) % 1048576) = some (P ++ (z + x * y + c) % 1048576 :: S) := by rw [hsp]; exact a8l _ _ _ _ (by omega)
      rw [g1, Option.bind_some, hx, Option.bind_some, b4k, Option.bind_some, hy, es, b4h (by omega) (by decide), Option.bind_some, Option.bind_some, g2, Option.bind_some, b5z (by omega) (by omega) (by decide), Option.bind_some, inc64 (by omega)]
      exact h3
    · refine ⟨l, ?_, hl, hlen, ?_⟩
      · rw [show decide ((k : Int) < (b.length : Int)) = false by simp; omega, show decide (0 < c) = false by simp; omega]; rfl
      · rw [b0c (by omega)] at hv
        rw [← hv, show c = 0 by omega]; simp
end Go.Proofs.Ytknpjecpcmajiaa.D

namespace Go.Proofs.Ytknpjecpcmajiaa.D
open Go Rt M
theorem c2p (n : Nat) (a b : List Int) (kont : List Int → Option (List Int)) (ha : InR a) (hb : InR b) (hla : a.length < 1073741824) (hlb : b.length < 1073741824) (hn : b.length + 2 ≤ n) (T : Int) : ∀ (us : List Int) (i m : Nat) (l : List Int),
    a.drop i = us → us.length < m → InR l → l.length = a.length + b.length → val l < pw (i + b.length) → val l + pw i * (val us * val b) = T →
    ∃ l', a3m n a b kont m (i : Int) l = kont l' ∧ InR l' ∧ l'.length = a.length + b.length ∧ val l' = T
  | [], i, m + 1, l, hd, _, hl, hlen, _, hv => by
    refine ⟨l, ?_, hl, hlen, ?_⟩
    · unfold a3m
      have := drop_nil hd
      rw [show decide ((i : Int) < (a.length : Int)) = false by simp; omega]; rfl
    · rw [← hv]; simp [val]
  | x :: us, i, m + 1, l, hd, hm, hl, hlen, hlt, hv => by
    obtain ⟨f1, f2, f3⟩ := drop_cons hd
    have xr := (show InR (x :: us) by rw [← hd]; exact InR.drop ha i).head
    unfold a3m
    rw [show decide ((i : Int) < (a.length : Int)) = true by simpa using f3, cond_true]
    have hbv := val_lt hb
    have hb0 := val_nonneg hb
    have hpi := pw_pos i
    have hW : val l + pw i * (x * val b) < pw (i + b.length + 1) := by
      have h1 : x * val b ≤ 1048575 * pw b.length := Int.le_trans (Int.mul_le_mul_of_nonneg_right (show x ≤ 1048575 by omega) hb0) (Int.mul_le_mul_of_nonneg_left (Int.le_of_lt hbv) (by decide))
      have h2 := Int.mul_le_mul_of_nonneg_left h1 (Int.le_of_lt hpi)
      rw [c2a] at hlt
      rw [show pw (i + b.length + 1) = 1048576 * pw (i + b.length) from rfl, c2a]
      have h3 : pw i * (1048575 * pw b.length) = 1048575 * (pw i * pw b.length) := by grind
      omega
    obtain ⟨l', h1, h2, h3, h4⟩ := c2f n a b i x (fun (l5 : List Int) => a3m n a b kont m (iadd .i64 (i : Int) 1) l5) f1 xr hb hla hlb (val l + pw i * (x * val b)) f3 hW n 0 0 l hl hlen (by decide) (by decide) (by simp) (.inl (by omega)) (by omega)
    obtain ⟨l2, h5, h6, h7, h8⟩ := c2p n a b kont ha hb hla hlb hn T us (i + 1) m l' f2 (by simpa using hm) h2 h3 (by rw [h4, show i + 1 + b.length = i + b.length + 1 by omega]; exact hW) (by
      rw [h4, ← hv, show pw (i + 1) = 1048576 * pw i from rfl]
      simp only [val]
      grind)
    refine ⟨l2, ?_, h6, h7, h8⟩
    refine Eq.trans h1 ?_
    show a3m n a b kont m (iadd .i64 (i : Int) 1) l' = _
    rw [inc64 (by omega)]; exact h5
  | _, _, 0, _, _, h, _, _, _, _ => by omega
theorem val_zeros : ∀ k, val (List.replicate k (0 : Int)) = 0
  | 0 => rfl
  | k + 1 => by rw [List.replicate_succ]; simp only [val, val_zeros k]; rfl
theorem c3r (k : Nat) : InR (List.replicate k (0 : Int)) := fun e he => by rw [(List.mem_replicate.1 he).2]; decide
theorem c4o {a b : List Int} (ha : InR a) (hb : InR b) (hla : a.length < 536870912) (hlb : b.length < 536870912) {n : Nat} (hn : a.length + b.length + 2 < n) : a4c n a b = some (dig (val a * val b).toNat) := by
  unfold a4c
  obtain ⟨l', h1, h2, h3, h4⟩ := c2p n a b (fun (l3 : List Int) => (a2e n l3).bind fun v1 => some v1) ha hb (by omega) (by omega) (by omega) (val a * val b) a 0 n (List.replicate (a.length + b.length) 0) rfl (by omega) (c3r _) (by simp) (by rw [val_zeros]; exact pw_pos _) (by rw [val_zeros]; simp [pw])
  rw [show iadd .i64 (a.length : Int) (b.length : Int) = ((a.length + b.length : Nat) : Int) by rw [a3q (by omega) (by omega)]; omega, b8f (by omega), Option.bind_some]
  refine Eq.trans h1 ?_
  show (a2e n l').bind _ = _
  rw [b2k h2 (by omega) (by omega), h4]; rfl
theorem c5u {u v n : Nat} (hu : (dig u).length < 536870912) (hv : (dig v).length < 536870912) (hn : (dig u).length + (dig v).length + 2 < n) : a4c n (dig u) (dig v) = some (dig (u * v)) := by
  rw [c4o (a3b u) (a3b v) hu hv hn, a2n, a2n, ← Int.natCast_mul, Int.toNat_natCast]
theorem c1s (n : Nat) (b r : Nat) (kont : Int → Option (List Int × List Int)) (hb : 0 < b) (hlb : (dig b).length < 536870900) (hlr : (dig r).length < 536870900) (hn : (dig b).length + (dig r).length + 8 < n) : ∀ (m : Nat) (lo hi : Nat),
    hi - lo < m → lo < hi → hi ≤ 1048576 → lo * b ≤ r → r < hi * b → a3x n (dig b) (dig r) kont m (lo : Int) (hi : Int) = kont ((r / b : Nat) : Int)
  | 0, _, _, h, _, _, _, _ => by omega
  | m + 1, lo, hi, hm, hlt, hh, h1, h2 => by
    unfold a3x
    rw [a2k (by omega) (by omega)]
    by_cases hg : 1 < hi - lo
    · rw [show decide (1 < (hi : Int) - (lo : Int)) = true by simp; omega, cond_true, a3q (by omega) (by omega), b5z (by omega) (by omega) (by decide), Option.bind_some]
      have e1 : ((lo : Int) + (hi : Int)) / 2 = (((lo + hi) / 2 : Nat) : Int) := by omega
      rw [e1]
      generalize hmid : (lo + hi) / 2 = mid at *
      have e2 : a4c n (dig b) [(mid : Int)] = some (dig (b * mid)) := by
        rw [c4o (a3b b) (InR.cons (by omega) (by omega) InR.nil) (by omega) (by simp) (by simp; omega), a2n]
        have : val [(mid : Int)] = mid := by simp [val]
        rw [this, ← Int.natCast_mul, Int.toNat_natCast]
      have hbm : (dig (b * mid)).length ≤ (dig b).length + 1 := by
        have hs1 : Sm (dig b).length (b : Int) := a9c (by rw [Int.natAbs_natCast]; exact Nat.le_refl _)
        have hs2 : Sm 1 (mid : Int) := by unfold Sm; rw [Int.natAbs_natCast, show pw 1 = 1048576 by decide]; omega
        have := a2y (hs1.mul hs2)
        rwa [← Int.natCast_mul, Int.natAbs_natCast] at this
      rw [e2, Option.bind_some, d0f (a3b r) (a3b (b * mid)) (by omega) (by omega) (by omega), Option.bind_some, a2n, a2n]
      by_cases hl : r < b * mid
      · rw [show decide ((r : Int) < ((b * mid : Nat) : Int)) = true by rw [decide_eq_true_eq]; omega, cond_true]
        exact c1s n b r kont hb hlb hlr hn m lo mid (by omega) (by omega) (by omega) h1 (by rw [Nat.mul_comm]; exact hl)
      · rw [show decide ((r : Int) < ((b * mid : Nat) : Int)) = false by rw [decide_eq_false_iff_not]; omega, cond_false]
        exact c1s n b r kont hb hlb hlr hn m mid hi (by omega) (by omega) hh (by rw [Nat.mul_comm]; omega) h2
    · rw [show decide (1 < (hi : Int) - (lo : Int)) = false by simp; omega, cond_false]
      have : hi = lo + 1 := by omega
      subst this
      have : r / b = lo := by
        apply Nat.div_eq_of_lt_le
        · exact h1
        · exact h2
      rw [this]
end Go.Proofs.Ytknpjecpcmajiaa.D

namespace Go.Proofs.Ytknpjecpcmajiaa.D
open Go Rt M
theorem c8i {a b : List Int} (ha : InR a) (hb : InR b) (hla : a.length < 1073741824) (hlb : b.length ≤ a.length) (h : val b ≤ val a) {n : Nat} (hn : a.length + 2 ≤ n) : a3z n a b = some (dig (val a - val b).toNat) := by
  unfold a3z
  obtain ⟨out, h1, h2, h3, h4⟩ := c1l n a b (fun (l2 : List Int) => (a2e n l2).bind fun v1 => some v1) ha hb hla hlb (val a - val b) (by omega) a n 0 0 [] rfl (by omega) rfl InR.nil (by decide) (by decide) (by simp [val, pw])
  refine Eq.trans h1 ?_
  show (a2e n out).bind _ = _
  rw [b2k h2 (by omega) (by omega), h3]; rfl
theorem c4n {x H b : Nat} (hb : 0 < b) : (x + 1048576 * H) / b = 1048576 * (H / b) + (x + 1048576 * (H % b)) / b ∧ (x + 1048576 * H) % b = (x + 1048576 * (H % b)) % b := by
  have h1 := Nat.div_add_mod H b
  have e : x + 1048576 * H = (x + 1048576 * (H % b)) + b * (1048576 * (H / b)) := by
    generalize H / b = q at *
    generalize H % b = r at *
    rw [← h1]
    grind
  rw [e, Nat.add_mul_div_left _ _ hb, Nat.add_mul_mod_self_left]
  omega
theorem c3e {v : Nat} (h : v < 1048576) : (dig v).length ≤ 1 := by
  have h1 : Sm 1 (v : Int) := by unfold Sm; rw [Int.natAbs_natCast, show pw 1 = 1048576 by decide]; omega
  have := a2y h1
  rwa [Int.natAbs_natCast] at this
theorem c5e (n : Nat) (a : List Int) (b : Nat) (kont : List Int → List Int → Option (List Int × List Int)) (ha : InR a) (hb : 0 < b) (hla : a.length < 536870800) (hlb : (dig b).length < 536870800) (hn : a.length + 2 * (dig b).length + 1048600 < n) : ∀ (i m : Nat) (H : Nat) (qs : List Int),
    i ≤ a.length → i < m → val (a.drop i) = H → InR qs → qs.length = a.length - i → val qs = ((H / b : Nat) : Int) →
    ∃ out, a3w n a (dig b) kont m (dig (H % b)) ((i : Int) - 1) (List.replicate i 0 ++ qs) = kont (dig ((val a).toNat % b)) out ∧ InR out ∧ out.length = a.length ∧ val out = (((val a).toNat / b : Nat) : Int)
  | 0, m + 1, H, qs, _, _, hH, hq, hql, hqv => by
    refine ⟨qs, ?_, hq, by omega, ?_⟩
    · unfold a3w
      rw [show decide ((0 : Int) ≤ ((0 : Nat) : Int) - 1) = false by decide, cond_false]
      rw [List.drop_zero] at hH
      rw [hH]; rfl
    · rw [List.drop_zero] at hH
      rw [hqv, hH]; rfl
  | i + 1, m + 1, H, qs, hi, hm, hH, hq, hql, hqv => by
    unfold a3w
    have hia : i < a.length := by omega
    have hxr := ha a[i] (List.getElem_mem hia)
    have hvd := a9m a i
    rw [List.drop_eq_getElem_cons hia] at hvd
    simp only [List.headD_cons] at hvd
    rw [← List.drop_eq_getElem_cons hia] at hvd
    rw [show ((i + 1 : Nat) : Int) - 1 = (i : Int) by omega, show decide (0 ≤ (i : Int)) = true by simp, cond_true, b3d, List.getElem?_eq_getElem hia, Option.bind_some]
    generalize a[i] = x at *
    obtain ⟨X, rfl⟩ := Int.eq_ofNat_of_zero_le hxr.1
    have hmod := Nat.mod_lt H hb
    have hlr := a5o (Nat.le_of_lt hmod)
    obtain ⟨s1, s2⟩ := c4n (x := X) (H := H) hb
    have hr' : X + 1048576 * (H % b) < 1048576 * b := by omega
    have hvl : val ((X : Int) :: dig (H % b)) = ((X + 1048576 * (H % b) : Nat) : Int) := by simp only [val, a2n]; omega
    rw [b3u (by simp; omega), Option.bind_some, List.singleton_append, b2k (InR.cons hxr.1 hxr.2 (a3b _)) (by simp; omega) (by simp; omega), Option.bind_some, hvl, Int.toNat_natCast]
    have hlr' : (dig (X + 1048576 * (H % b))).length ≤ (dig b).length + 1 := by
      have h1 := b4i (l := (X : Int) :: dig (H % b)) (InR.cons hxr.1 hxr.2 (a3b _))
      rw [hvl, Int.toNat_natCast] at h1
      simp only [List.length_cons] at h1
      omega
    generalize hR : X + 1048576 * (H % b) = R at *
    have hlo : R / b < 1048576 := by rw [Nat.div_lt_iff_lt_mul hb]; omega
    have hlob : b * (R / b) ≤ R := Nat.mul_div_le R b
    have h2 := c1s n b R (fun (lo2 : Int) =>
        (ix (List.replicate (i + 1) 0 ++ qs) (i : Int)).bind fun _ =>
        (lset (List.replicate (i + 1) 0 ++ qs) (i : Int) lo2).bind fun l5 =>
        (a2e n [lo2]).bind fun v3 =>
        (a4c n (dig b) v3).bind fun v4 =>
        (a3z n (dig R) v4).bind fun v5 =>
        a3w n a (dig b) kont m v5 (isub .i64 (i : Int) 1) l5) hb (by omega) (by omega) (by omega) n 0 1048576 (by omega) (by omega) (by omega) (by omega) (by omega)
    generalize hL : R / b = L at *
    have e1 : List.replicate (i + 1) (0 : Int) ++ qs = List.replicate i 0 ++ 0 :: qs := by rw [List.replicate_succ', List.append_assoc]; rfl
    have e2 : ix (List.replicate (i + 1) (0 : Int) ++ qs) (i : Int) = some 0 := by rw [e1]; exact a7n _ _ _ (by simp)
    have e3 : lset (List.replicate (i + 1) (0 : Int) ++ qs) (i : Int) ((L : Nat) : Int) = some (List.replicate i 0 ++ ((L : Nat) : Int) :: qs) := by rw [e1]; exact a8l _ _ _ _ (by simp)
    have e4 : a2e n [((L : Nat) : Int)] = some (dig (L)) := by
      rw [b2k (InR.cons (by omega) (by omega) InR.nil) (by simp) (by simp; omega)]
      simp [val]
    have hl1 := c3e hlo
    have e5 : a4c n (dig b) (dig (L)) = some (dig (b * (L))) := c5u (by omega) (by omega) (by omega)
    have e6 : a3z n (dig R) (dig (b * (L))) = some (dig (R % b)) := by
      have h3 := a5o hlob
      rw [c8i (a3b _) (a3b _) (by omega) h3 (by rw [a2n, a2n]; omega) (by omega), a2n, a2n]
      congr 2
      have := Nat.div_add_mod R b
      rw [hL] at this
      omega
    have hnext := c5e n a b kont ha hb hla hlb hn i m (X + 1048576 * H) (((L : Nat) : Int) :: qs) (by omega) (by omega) (by rw [hvd, hH]; omega) (InR.cons (by omega) (by omega) hq) (by simp; omega) (by
      rw [s1]; simp only [val]; rw [hqv]; omega)
    obtain ⟨out, h4, h5, h6, h7⟩ := hnext
    refine ⟨out, ?_, h5, h6, h7⟩
    refine Eq.trans h2 ?_
    show (ix (List.replicate (i + 1) 0 ++ qs) (i : Int)).bind _ = _
    rw [e2, Option.bind_some, e3, Option.bind_some, e4, Option.bind_some, e5, Option.bind_some, e6, Option.bind_some, a2k (by omega) (by omega), ← h4, s2]
  | _, 0, _, _, _, h, _, _, _, _ => by omega
theorem d0s {A b : Nat} (hb : 0 < b) (hla : (dig A).length < 536870800) (hlb : (dig b).length < 536870800) {n : Nat} (hn : (dig A).length + 2 * (dig b).length + 1048600 < n) : a7j n (dig A) (dig b) = some (dig (A / b), dig (A % b)) := by
  unfold a7j
  obtain ⟨out, h1, h2, h3, h4⟩ := c5e n (dig A) b (fun (rx2 : List Int) (l3 : List Int) => (a2e n l3).bind fun v1 => some (v1, rx2)) (a3b A) hb hla hlb hn (dig A).length n 0 [] (Nat.le_refl _) (by omega) (by rw [b0c (Nat.le_refl _)]; rfl) InR.nil (by simp) (by rw [Nat.zero_div]; rfl)
  rw [Nat.zero_mod, dig_zero, List.append_nil] at h1
  rw [b8f (by omega), Option.bind_some, a2k (by omega) (by omega)]
  refine Eq.trans h1 ?_
  show (a2e n out).bind _ = _
  rw [b2k h2 (by omega) (by omega), h4, a2n, Int.toNat_natCast, Int.toNat_natCast]; rfl
end Go.Proofs.Ytknpjecpcmajiaa.D

namespace Go.Proofs.Ytknpjecpcmajiaa.D
open Go Rt M
theorem c4y {a : Big} (hl : a.Digits.length < 1099511627776) : Ev (fun n => a4d n a) (a9u a) := ⟨a.Digits.length + 1, fun _ hn => c7j hl hn⟩
theorem a8s {x : Int} {k : Nat} (h : Sm k x) (hk : k < 1099511627776) : Ev (fun n => a4d n (toB x)) true := by
  have := a2y h
  exact (c4y (a := toB x) (by simp only [toB]; omega)).eq (b2u x)
theorem c8p (s : Int) {v : Nat} (h : (dig v).length < 1099511627776) : Ev (fun n => a3i n s (dig v)) (if v = 0 then ⟨0, []⟩ else ⟨s, dig v⟩) := by
  refine ⟨(dig v).length + 1, fun n hn => ?_⟩
  have h1 := d1f s (a3b v) h (n := n) (by omega)
  rw [a2n, Int.toNat_natCast] at h1
  exact h1
theorem b1c {s : Int} {v : Nat} (h : (dig v).length < 1099511627776) (z : Int) (hz : z.natAbs = v) (hs : v ≠ 0 → s = sg z) : Ev (fun n => a3i n s (dig v)) (toB z) := (c8p s h).eq (a5b z hz hs)
theorem c6q (u v : Nat) (hu : (dig u).length < 1073741824) (hv : (dig v).length < 1073741824) : Ev (fun n => a8r n (dig u) (dig v)) (dig (u + v)) :=
  (c9s (a3b u) (a3b v) hu hv).eq (by rw [a2n, a2n, ← Int.natCast_add, Int.toNat_natCast])
theorem c3v (u v : Nat) (hu : (dig u).length < 1073741824) (h : v ≤ u) : Ev (fun n => a3z n (dig u) (dig v)) (dig (u - v)) :=
  (c7i (a3b u) (a3b v) hu (a5o h) (by rw [a2n, a2n]; omega)).eq (by rw [a2n, a2n]; congr 1; omega)
theorem c2g (u v : Nat) (h : v ≠ 0) (hu : (dig u).length < 536870800) (hv : (dig v).length < 536870800) : Ev (fun n => a7j n (dig u) (dig v)) (dig (u / v), dig (u % v)) :=
  ⟨(dig u).length + 2 * (dig v).length + 1048601, fun n hn => d0s (by omega) hu hv (by omega)⟩
theorem c5k {x : Int} {k : Nat} (h : Sm k x) (hk : k < 1073741824) : Ev (fun n => b0m n (toB x)) (toB (-x)) := by
  have hl := a2y h
  unfold b0m
  refine Ev.bind (a8s h (by omega)) ?_
  refine Ev.else rfl ?_
  refine Ev.bind (b1c (v := x.natAbs) (by omega) (-x) (by omega) (fun hne => ?_)) (Ev.pure _)
  show IntKind.i64.wrap (0 - sg x) = sg (-x)
  rcases a2d x with ⟨a, b⟩ | ⟨a, b⟩ | ⟨a, b⟩ <;> rw [b]
  · rw [a6e (by omega)]; decide
  · omega
  · rw [a6i (by omega)]; decide
theorem c4l {x y : Int} {k : Nat} (hx : Sm k x) (hy : Sm k y) (hk : k < 8388608) (hy0 : y ≠ 0) : Ev (fun n => a9f n (toB x) (toB y)) (toB (dq x y), toB (dr x y), 0) := by
  have lx := a2y hx
  have ly := a2y hy
  have hyn : y.natAbs ≠ 0 := by omega
  have hmod := Nat.mod_lt x.natAbs (show y.natAbs > 0 by omega)
  have hdivle : x.natAbs / y.natAbs ≤ x.natAbs := Nat.div_le_self _ _
  have lq := a5o hdivle
  have lr := a5o (Nat.le_of_lt hmod)
  have lq1 : (dig (x.natAbs / y.natAbs + 1)).length ≤ k + 1 := by
    have h : Sm (k + 1) ((x.natAbs / y.natAbs + 1 : Nat) : Int) := by
      generalize x.natAbs / y.natAbs = q at *
      unfold Sm at *
      rw [Int.natAbs_natCast]
      simp only [pw]; have := pw_pos k; omega
    have := a2y h
    rwa [Int.natAbs_natCast] at this
  have ls := a5o (show y.natAbs - x.natAbs % y.natAbs ≤ y.natAbs by omega)
  unfold a9f
  refine Ev.bind (a8s hx (by omega)) ?_
  refine Ev.bind (a := false) (Ev.else rfl (Ev.bind (a8s hy (by omega)) (Ev.pure _))) ?_
  refine Ev.else rfl ?_
  refine Ev.else (by show (sg y == 0) = false; rcases a2d y with h | h | h <;> first | (rw [h.2]; rfl) | omega) ?_
  refine Ev.bind (c2g x.natAbs y.natAbs hyn (by omega) (by omega)) ?_
  refine Ev.step (a := !odd x y) (by
    show (bif decide (0 ≤ imul .i64 (sg x) (sg y)) then some true else some (((dig (x.natAbs % y.natAbs)).length : Int) == 0)) = _
    rw [b3h]
    unfold odd
    have e1 : decide (0 ≤ sg (x * y)) = !decide (x * y < 0) := by
      rcases a2d (x * y) with ⟨h1, h2⟩ | ⟨h1, h2⟩ | ⟨h1, h2⟩ <;> rw [h2] <;> simp <;> omega
    have e2 : (((dig (x.natAbs % y.natAbs)).length : Int) == 0) = !decide (x.natAbs % y.natAbs ≠ 0) := by
      by_cases h : x.natAbs % y.natAbs = 0
      · rw [h, dig_zero]; rfl
      · have := b2y h
        have h3 : 0 < (dig (x.natAbs % y.natAbs)).length := List.length_pos_iff.2 this
        rw [beq_false_of_ne (by omega), decide_eq_true h]; rfl
    rw [e1, e2]
    cases decide (x * y < 0) <;> rfl) ?_
  by_cases ho : odd x y = true
  · refine Ev.else (by rw [ho]; rfl) ?_
    refine Ev.bind (a := dig (x.natAbs / y.natAbs + 1)) (by
      have := c6q (x.natAbs / y.natAbs) 1 (by omega) (by rw [dig_one]; simp)
      rwa [dig_one] at this) ?_
    refine Ev.bind (b1c (by omega) (dq x y) (c2c ho).1 (fun _ => (c2c ho).2.symm)) ?_
    refine Ev.bind (c3v y.natAbs (x.natAbs % y.natAbs) (by omega) (by omega)) ?_
    exact Ev.bind (b1c (by omega) (dr x y) (c2r hy0 ho).1 (fun _ => (c2r hy0 ho).2.symm)) (Ev.pure _)
  · refine Ev.then (by simpa using ho) ?_
    refine Ev.bind (b1c (by omega) (dq x y) (b9a hy0 ho).1 (fun h => by show imul .i64 (sg x) (sg y) = _; rw [b3h]; exact (b9a hy0 ho).2 h)) ?_
    exact Ev.bind (b1c (by omega) (dr x y) (b9k ho).1 (b9k ho).2) (Ev.pure _)
end Go.Proofs.Ytknpjecpcmajiaa.D

namespace Go.Proofs.Ytknpjecpcmajiaa.D
open Go Rt M
theorem d0z (v : Nat) : ∀ (u : Nat), (dig u).length < 16777216 → (dig v).length < 16777216 → ∃ N, ∀ n, N ≤ n → ∀ (kont : List Int → Option (Big × Int)) m, v < m → a5j n kont m (dig u) (dig v) = kont (dig (Nat.gcd u v)) := by
  induction v using Nat.strongRecOn with
  | ind v ih =>
    intro u hu hv
    by_cases h : v = 0
    · subst h
      refine ⟨0, fun n _ kont m hm => ?_⟩
      obtain ⟨m, rfl⟩ : ∃ m', m = m' + 1 := ⟨m - 1, by omega⟩
      rw [dig_zero, Nat.gcd_zero_right]; rfl
    · have hlt := Nat.mod_lt u (show v > 0 by omega)
      obtain ⟨N1, h1⟩ := c2g u v h (by omega) (by omega)
      obtain ⟨N2, h2⟩ := ih (u % v) hlt v hv (by have := a5o (Nat.le_of_lt hlt); omega)
      refine ⟨max N1 N2, fun n hn kont m hm => ?_⟩
      obtain ⟨m, rfl⟩ : ∃ m', m = m' + 1 := ⟨m - 1, by omega⟩
      have h3 : 0 < (dig v).length := List.length_pos_iff.2 (b2y h)
      unfold a5j
      rw [show decide (0 < ((dig v).length : Int)) = true by simp; omega, cond_true, (show a7j n (dig u) (dig v) = _ from h1 n (by omega)), Option.bind_some]
      show a5j n kont m (dig v) (dig (u % v)) = _
      rw [h2 n (by omega) kont m (by omega), Nat.gcd_comm v, ← Nat.gcd_rec, Nat.gcd_comm]
theorem c8w {x y : Int} {k : Nat} (hx : Sm k x) (hy : Sm k y) (hk : k < 8388608) : Ev (fun n => b0o n (toB x) (toB y)) (toB (Nat.gcd x.natAbs y.natAbs : Nat), 0) := by
  have lx := a2y hx
  have ly := a2y hy
  unfold b0o
  refine Ev.bind (a8s hx (by omega)) ?_
  refine Ev.bind (a := false) (Ev.else rfl (Ev.bind (a8s hy (by omega)) (Ev.pure _))) ?_
  refine Ev.else rfl ?_
  obtain ⟨N, hN⟩ := d0z y.natAbs x.natAbs (by omega) (by omega)
  have lg : (dig (Nat.gcd x.natAbs y.natAbs)).length ≤ k := by
    rcases Nat.eq_zero_or_pos x.natAbs with h | h
    · rw [h, Nat.gcd_zero_left]; exact ly
    · exact Nat.le_trans (a5o (Nat.gcd_le_left _ h)) lx
  refine Ev.from (g := fun n => (a3i n 1 (dig (Nat.gcd x.natAbs y.natAbs))).bind fun v3 => some ((⟨v3.Sign, v3.Digits⟩ : Big), (0 : Int))) (max N (y.natAbs + 1)) (fun n hn => hN n (by omega) _ n (by omega)) ?_
  exact Ev.bind (b1c (by omega) ((Nat.gcd x.natAbs y.natAbs : Nat) : Int) (Int.natAbs_natCast _) (fun h => (a6e (by omega)).symm)) (Ev.pure _)
end Go.Proofs.Ytknpjecpcmajiaa.D

namespace Go.Proofs.Ytknpjecpcmajiaa.D
open Go Rt M
theorem d1z {s : Int} (hs : s = 1 ∨ s = -1) (u : Nat) : rem (s * u) 1048576 = some (s * ((u % 1048576 : Nat) : Int)) := by
  have h := b4h (x := (u : Int)) (y := 1048576) (by omega) (by decide)
  rcases hs with rfl | rfl
  · rw [Int.one_mul, Int.one_mul, h]; congr 1
  · unfold rem at h ⊢
    rw [if_neg (by decide)] at h ⊢
    have h2 := Option.some.inj h
    rw [show (-1 : Int) * (u : Int) = -(u : Int) by omega, Int.neg_tmod, h2]
    congr 1; omega
theorem d1o {s : Int} (hs : s = 1 ∨ s = -1) {u : Nat} (hu : u ≤ 9223372036854775808) : quo .i64 (s * u) 1048576 = some (s * ((u / 1048576 : Nat) : Int)) := by
  have h : (u : Int).tdiv 1048576 = ((u / 1048576 : Nat) : Int) := by rw [Int.tdiv_eq_ediv_of_nonneg (by omega)]; omega
  unfold quo
  rw [if_neg (by decide)]
  rcases hs with rfl | rfl
  · rw [Int.one_mul, Int.one_mul, h, a5g (by omega) (by omega)]
  · rw [show (-1 : Int) * (u : Int) = -(u : Int) by omega, Int.neg_tdiv, h, a5g (by omega) (by omega)]
    congr 1; omega
theorem d1j (n : Nat) (kont : List Int → Option Big) {s : Int} (hs : s = 1 ∨ s = -1) : ∀ (u m : Nat) (acc : List Int), u ≤ 9223372036854775808 → (dig u).length < m → acc.length + (dig u).length < 1099511627776 → a6n n kont m (s * (u : Int)) acc = kont (acc ++ dig u) := by
  intro u
  induction u using Nat.strongRecOn with
  | ind u ih =>
    intro m acc hu hm ha
    obtain ⟨m, rfl⟩ : ∃ m', m = m' + 1 := ⟨m - 1, by omega⟩
    unfold a6n
    by_cases h : u = 0
    · subst h
      rw [dig_zero, List.append_nil, show (s * ((0 : Nat) : Int) != 0) = false by simp]; rfl
    · have hd := b1j h
      rw [hd] at hm ha
      simp only [List.length_cons] at hm ha
      have hne : (s * (u : Int) != 0) = true := by
        rw [bne_iff_ne]; rcases hs with rfl | rfl <;> omega
      rw [hne, cond_true, d1z hs, Option.bind_some]
      have e1 : (bif decide (s * ((u % 1048576 : Nat) : Int) < 0) then some (IntKind.i64.wrap (0 - s * ((u % 1048576 : Nat) : Int))) else some (s * ((u % 1048576 : Nat) : Int))) = some ((u % 1048576 : Nat) : Int) := by
        have hlt := Nat.mod_lt u (show 1048576 > 0 by decide)
        generalize u % 1048576 = r at *
        by_cases hn : s * (r : Int) < 0
        · rw [decide_eq_true hn, cond_true]
          congr 1
          rcases hs with rfl | rfl
          · omega
          · rw [a5g (by omega) (by omega)]; omega
        · rw [decide_eq_false hn, cond_false]
          congr 1
          rcases hs with rfl | rfl <;> omega
      rw [e1, Option.bind_some, b3u (by simp; omega), Option.bind_some, d1o hs hu, Option.bind_some, ih (u / 1048576) (by omega) m _ (by omega) (by omega) (by simp; omega), hd]
      simp
theorem c7l {x : Int} (h1 : -9223372036854775808 ≤ x) (h2 : x ≤ 9223372036854775807) : Ev (fun n => b0u n x) (toB x) := by
  have hl := c2v (u := x.natAbs) (by omega)
  by_cases h0 : x = 0
  · subst h0
    exact (Ev.pure _).eq toB_zero.symm
  have hm : ∀ s : Int, s = sg x → Ev (fun n => (a3i n s (dig x.natAbs)).bind fun v1 => some (⟨v1.Sign, v1.Digits⟩ : Big)) (toB x) := fun s hs => Ev.bind (b1c (by omega) x rfl (fun _ => hs)) (Ev.pure _)
  refine Ev.from (g := fun n => (a3i n (sg x) (dig x.natAbs)).bind fun v1 => some (⟨v1.Sign, v1.Digits⟩ : Big)) 5 (fun n hn => ?_) (hm _ rfl)
  show b0u n x = _
  unfold b0u
  rw [show (x == 0) = false from beq_false_of_ne h0, cond_false]
  by_cases hx : x < 0
  · rw [decide_eq_true hx, cond_true, Option.bind_some, a6i hx]
    have h3 := d1j n (fun (l2 : List Int) => (a3i n (-1) l2).bind fun v1 => some (⟨v1.Sign, v1.Digits⟩ : Big)) (s := -1) (.inr rfl) x.natAbs n [] (by omega) (by omega) (by simp; omega)
    rw [show (-1 : Int) * (x.natAbs : Int) = x by omega, List.nil_append] at h3
    exact h3
  · rw [decide_eq_false hx, cond_false, Option.bind_some, a6e (by omega)]
    have h3 := d1j n (fun (l2 : List Int) => (a3i n 1 l2).bind fun v1 => some (⟨v1.Sign, v1.Digits⟩ : Big)) (s := 1) (.inl rfl) x.natAbs n [] (by omega) (by omega) (by simp; omega)
    rw [show (1 : Int) * (x.natAbs : Int) = x by omega, List.nil_append] at h3
    exact h3
end Go.Proofs.Ytknpjecpcmajiaa.D

namespace Go.Proofs.Ytknpjecpcmajiaa.D
open Go Rt M
section
variable {p q : Int} {k : Nat} (hp : Sm k p) (hq : Sm k q) (hk : k < 8388608)
include hp hq hk
theorem b9o (h0 : 0 < q) : Ev (fun n =>
   (b0o n (⟨(toB p).Sign, (toB p).Digits⟩ : Big) (⟨(toB q).Sign, (toB q).Digits⟩ : Big)).bind fun v3 =>
   (a9f n (⟨(toB p).Sign, (toB p).Digits⟩ : Big) (⟨v3.1.Sign, v3.1.Digits⟩ : Big)).bind fun v4 =>
   (a9f n (⟨(toB q).Sign, (toB q).Digits⟩ : Big) (⟨v3.1.Sign, v3.1.Digits⟩ : Big)).bind fun v5 =>
   some ((⟨(⟨v4.1.Sign, v4.1.Digits⟩ : Big), (⟨v5.1.Sign, v5.1.Digits⟩ : Big)⟩ : Frac), (0 : Int))) (toF (Rat.divInt p q), 0) := by
  have hg : 0 < Nat.gcd p.natAbs q.natAbs := Nat.gcd_pos_of_pos_right _ (by omega)
  have hgs := c0w hp hq
  obtain ⟨e1, e2⟩ := b0t (p := p) h0
  refine Ev.bind (c8w hp hq hk) ?_
  refine Ev.bind (c4l hp hgs hk (by omega)) ?_
  refine Ev.bind (c4l hq hgs hk (by omega)) ((Ev.pure _).eq ?_)
  unfold toF
  rw [e1, e2, ← c2o (by omega), ← c2o (by omega)]
theorem c9j (h0 : q ≠ 0) : Ev (fun n => b2b n (toB p) (toB q)) (toF (Rat.divInt p q), 0) := by
  unfold b2b
  refine Ev.bind (a8s hp (by omega)) ?_
  refine Ev.bind (a := false) (Ev.else rfl (Ev.bind (a8s hq (by omega)) (Ev.pure _))) ?_
  refine Ev.else rfl ?_
  refine Ev.else (by show (sg q == 0) = false; rw [b3n]; simpa using h0) ?_
  by_cases hn : q < 0
  · refine Ev.bind (Ev.then (by show decide (sg q < 0) = true; rw [a6i hn]; rfl) (Ev.bind (c5k hp (by omega)) (Ev.bind (c5k hq (by omega)) (Ev.pure _)))) ?_
    rw [b3f]
    exact b9o hp.neg hq.neg hk (by omega)
  · refine Ev.bind (Ev.else (by show decide (sg q < 0) = false; rw [a6e (by omega)]; rfl) (Ev.pure _)) ?_
    exact b9o hp hq hk (by omega)
end
section
variable {a b : Rat} {j k : Nat} (ha : SmF j a) (hb : SmF k b) (hk : j + k < 4000000)
include ha hb hk
end
section
variable {a : Rat} {k : Nat} (ha : SmF k a) (hk : k < 1000000)
include ha hk
end
theorem d0a {x y : Int} (h1 : -9223372036854775808 ≤ x) (h2 : x ≤ 9223372036854775807) (h3 : -9223372036854775808 ≤ y) (h4 : y ≤ 9223372036854775807) (h0 : y ≠ 0) : Ev (fun n => b1h n x y) (toF (Rat.divInt x y), 0) := by
  have s1 : Sm 4 x := a9c (c2v (by omega))
  have s2 : Sm 4 y := a9c (c2v (by omega))
  unfold b1h
  exact Ev.bind (c7l h1 h2) (Ev.bind (c7l h3 h4) (Ev.bind (c9j s1 s2 (by decide) h0) (Ev.pure _)))
theorem c8o {x : Int} (h1 : -9223372036854775808 ≤ x) (h2 : x ≤ 9223372036854775807) : Ev (fun n => a8k n x) (toF (x : Rat)) := by
  unfold a8k
  refine Ev.bind (d0a h1 h2 (y := 1) (by decide) (by decide) (by decide)) ((Ev.pure _).eq ?_)
  rw [c3f]
end Go.Proofs.Ytknpjecpcmajiaa.D

namespace Go.Proofs.Ytknpjecpcmajiaa.Fe
open Go Rt M Ta Tp D
theorem b9m {α : Type} {l : List α} {k : Nat} (h : k ≤ l.length) : lsl l (k : Int) (l.length : Int) = some (l.drop k) := by
  rw [b7s h (Nat.le_refl _), List.take_length]
theorem b8k {α : Type} {l : List α} {k : Nat} (h : k ≤ l.length) : lsl l 0 (k : Int) = some (l.take k) := by
  have := b7s (l := l) (p := 0) (q := k) (by omega) h
  simpa using this
theorem c7a (t : Tariff) (names : List Rt.Bs) (f : Facts) (weights : List Frac) (first : Int) (more : Rt.Bs) (hf0 : 0 ≤ first) (hf1 : first ≤ 255) : Ev (fun n => a7s n t names f weights first more) true := by
  unfold a7s
  refine Ev.bind small36 ?_
  obtain ⟨b, hb, hq⟩ := d1u t names f weights
  refine Ev.bind hb ?_
  cases b with
  | false => exact Ev.bind (Ev.then rfl (Ev.pure _)) (Ev.bind (Ev.then rfl (Ev.pure _)) (Ev.then rfl (Ev.pure _)))
  | true =>
  have s1 := hq rfl
  have hn8 := s1.nl
  refine Ev.bind (a := decide (30 < (more.length : Int))) (Ev.else rfl (Ev.pure _)) ?_
  cases decide (30 < (more.length : Int)) with
  | true => exact Ev.bind (Ev.then rfl (Ev.pure _)) (Ev.then rfl (Ev.pure _))
  | false =>
  refine Ev.bind (a := (names.length : Int) == 0) (Ev.else rfl (Ev.pure _)) ?_
  by_cases hlen : names.length = 0
  · exact Ev.then (by rw [hlen]; rfl) (Ev.pure _)
  refine Ev.else (by rw [beq_eq_false_iff_ne]; omega) ?_
  obtain ⟨r, er, hr⟩ := c9o s1.fit (show names.length < _ by omega) s1.lim (by decide) (by decide) (by have := s1.ll; omega) (by have := s1.wl; omega) (f := f)
  refine Ev.bind er ?_
  rcases hr with ⟨h0, hc, ws, rfl, hrf, hsm, hs, hv⟩ | ⟨hne, hz⟩
  rotate_left
  · exact Ev.then (by simpa using hne) (Ev.pure _)
  obtain ⟨r1, r0⟩ := r
  dsimp only at h0 hv
  subst h0 hv
  refine Ev.else rfl ?_
  have hll := hrf.hl
  have hwl := hrf.hw
  obtain ⟨k, hk, hkl⟩ : ∃ k : Nat, first % (names.length : Int) = (k : Int) ∧ k < names.length := by
    have h1 := Int.emod_nonneg first (show (names.length : Int) ≠ 0 by omega)
    have h2 := Int.emod_lt_of_pos first (show (0 : Int) < (names.length : Int) by omega)
    obtain ⟨k, hk⟩ := Int.eq_ofNat_of_zero_le h1
    exact ⟨k, hk, by omega⟩
  refine Ev.step (a := (k : Int)) (by rw [a5g (by omega) (by omega), b4h hf0 (by omega), hk]) ?_
  refine Ev.step (b9m (by omega)) (Ev.step (b8k (by omega)) ?_)
  have e0 : ∀ {α : Type} {b : Nat} (l : List α), l.length * b ≤ 140737488355328 → app b [] l = some l := fun {α b} l h => by
    rw [b5a (by simpa using h)]; rfl
  have dl : ∀ {α : Type} (l : List α) (j : Nat), (l.drop j).length ≤ l.length := fun l j => by rw [List.length_drop]; omega
  have tl : ∀ {α : Type} (l : List α) (j : Nat), (l.take j).length ≤ l.length := fun l j => by rw [List.length_take]; omega
  have dL := dl f.Lifts k
  have tL := tl f.Lifts k
  have dN := dl names k
  have tN := tl names k
  have hW : (ws.map toF).length = ws.length := List.length_map ..
  have dW := dl (ws.map toF) k
  have tW := tl (ws.map toF) k
  refine Ev.step (e0 _ (by omega)) (Ev.step (b5a (by omega)) ?_)
  have hcap := hc.2.1.2.2
  obtain ⟨j, hj, hty⟩ := hc.2.2
  obtain ⟨nm1, nm2, nm3⟩ := (c0n names).1 hc.1
  have hsplit : names.take k ++ names.drop k = names := List.take_append_drop k names
  have hmem : ∀ s, s ∈ names.drop k ++ names.take k ↔ s ∈ names := by
    intro s
    rw [List.mem_append]
    constructor
    · rintro (h | h)
      · exact List.mem_of_mem_drop h
      · exact List.mem_of_mem_take h
    · intro h
      rw [← hsplit, List.mem_append] at h
      exact h.symm
  have hrot : RF (names.drop k ++ names.take k) ⟨f.Lifts.drop k ++ f.Lifts.take k, f.Persons, f.Flats⟩ (ws.drop k ++ ws.take k) := by
    refine ⟨?_, ?_, hrf.p1, hrf.p2, hrf.f1, hrf.f2, fun n hn => ?_, fun w hw => ?_⟩
    · simp only [List.length_append, List.length_drop, List.length_take]; omega
    · simp only [List.length_append, List.length_drop, List.length_take]; omega
    · rcases List.mem_append.1 hn with h | h
      · exact hrf.l1 n (List.mem_of_mem_drop h)
      · exact hrf.l1 n (List.mem_of_mem_take h)
    · rcases List.mem_append.1 hw with h | h
      · exact hrf.w1 w (List.mem_of_mem_drop h)
      · exact hrf.w1 w (List.mem_of_mem_take h)
  have hsmr : ∀ w, w ∈ ws.drop k ++ ws.take k → SmF 4 w := fun w hw => by
    rcases List.mem_append.1 hw with h | h
    · exact hsm w (List.mem_of_mem_drop h)
    · exact hsm w (List.mem_of_mem_take h)
  have hcr : Chk (names.drop k ++ names.take k) t := by
    refine ⟨(c0n _).2 ⟨fun s hs => nm1 s ((hmem s).1 hs), ?_, ?_⟩, hc.2.1, j, hj, c4t (fun s hs => (hmem s).2 hs) hty⟩
    · rw [← hsplit, List.nodup_append] at nm2
      exact List.nodup_append.2 ⟨nm2.2.1, nm2.1, fun a ha b hb h => nm2.2.2 b hb a ha h.symm⟩
    · simp only [List.length_append, List.length_drop, List.length_take]; omega
  have hrl : (names.drop k ++ names.take k).length ≤ 1000000 := by simp only [List.length_append, List.length_drop, List.length_take]; omega
  have hev := (c2l s1.fit (show (names.drop k ++ names.take k).length < _ by omega) hsmr (by decide) (by decide) hrl hcr hrot).1
  have hmap : (ws.drop k ++ ws.take k).map toF = (ws.map toF).drop k ++ (ws.map toF).take k := by rw [List.map_append, List.map_drop, List.map_take]
  rw [hmap] at hev
  have hfv : fv (names.drop k ++ names.take k) ⟨f.Lifts.drop k ++ f.Lifts.take k, f.Persons, f.Flats⟩ (ws.drop k ++ ws.take k) t = fv names f ws t := by
    have hl1 : (names.take k).length = (f.Lifts.take k).length := by simp only [List.length_take]; omega
    have hl2 : (names.drop k).length = (f.Lifts.drop k).length := by simp only [List.length_drop]; omega
    have hw1 : (names.take k).length = (ws.take k).length := by simp only [List.length_take]; omega
    have hw2 : (names.drop k).length = (ws.drop k).length := by simp only [List.length_drop]; omega
    unfold fv num
    congr 1
    refine c1x (fun s hs => ?_) (fun s hs => ?_) (by rfl) (by rfl) hty
    · have := c0e (p := names.take k) (q := names.drop k) (p' := f.Lifts.take k) (q' := f.Lifts.drop k) (0 : Int) (s := s) (by rw [hsplit]; exact hs) (by rw [hsplit]; exact nm2) hl1 hl2
      rw [hsplit, List.take_append_drop] at this
      exact this
    · have := c0e (p := names.take k) (q := names.drop k) (p' := ws.take k) (q' := ws.drop k) (0 : Rat) (s := s) (by rw [hsplit]; exact hs) (by rw [hsplit]; exact nm2) hw1 hw2
      rw [hsplit, List.take_append_drop] at this
      exact this
  rw [hfv] at hev
  refine Ev.bind (a := ((toF (fv names f ws t)).P.Sign, (toF (fv names f ws t)).P.Digits, (toF (fv names f ws t)).Q.Sign, (toF (fv names f ws t)).Q.Digits, 0)) ?_ ?_
  · refine Ev.step (b9m (by omega)) (Ev.step (b8k (by omega)) (Ev.step (b9m (by omega)) (Ev.step (b8k (by omega)) ?_)))
    refine Ev.step (e0 _ (by omega)) (Ev.step (b5a (by omega)) (Ev.step (e0 _ (by omega)) (Ev.step (b5a (by omega)) ?_)))
    exact Ev.bind hev (Ev.pure _)
  have same : ∀ v : Rat, v = fv names f ws t → Ev (fun n => a5c n (toF (fv names f ws t)) (toF v)) true := fun v h => c3h hs (by decide) h.symm
  refine Ev.bind (a := false) (Ev.else rfl (Ev.bind (same _ rfl) (Ev.pure _))) ?_
  refine Ev.else rfl ?_
  refine Ev.step (e0 _ (by omega)) (Ev.step (b5a (by simp only [List.length_singleton]; omega)) ?_)
  have hln : (names ++ [more]).length = names.length + 1 := by simp
  obtain ⟨e, he, hq⟩ := c1w s1.fit (names ++ [more]) (show (names ++ [more]).length < _ by omega)
  refine Ev.bind he ?_
  by_cases hez : e = 0
  rotate_left
  · exact Ev.then (by simpa using hez) (Ev.pure _)
  subst hez
  refine Ev.else rfl ?_
  have hcl := hq.1 rfl
  refine Ev.step (e0 _ (by omega)) (Ev.step (b5a (by simp only [List.length_singleton]; omega)) ?_)
  have hmore : RF (names ++ [more]) ⟨f.Lifts ++ [1], f.Persons, f.Flats⟩ (ws ++ [5]) := by
    refine ⟨?_, ?_, hrf.p1, hrf.p2, hrf.f1, hrf.f2, fun n hn => ?_, fun w hw => ?_⟩
    · simp only [List.length_append, List.length_singleton]; omega
    · simp only [List.length_append, List.length_singleton]; omega
    · rcases List.mem_append.1 hn with h | h
      · exact hrf.l1 n h
      · rw [List.mem_singleton] at h; subst h; decide
    · rcases List.mem_append.1 hw with h | h
      · exact hrf.w1 w h
      · rw [List.mem_singleton] at h; subst h; decide
  have hsmm : ∀ w, w ∈ ws ++ [5] → SmF 4 w := fun w hw => by
    rcases List.mem_append.1 hw with h | h
    · exact hsm w h
    · rw [List.mem_singleton] at h; subst h; exact smI (x := 5) (by decide) (by decide) (by decide)
  have hev2 := (c2l s1.fit (show (names ++ [more]).length < _ by omega) hsmm (by decide) (by decide) (by omega) hcl hmore).1
  have hfv2 : fv (names ++ [more]) ⟨f.Lifts ++ [1], f.Persons, f.Flats⟩ (ws ++ [5]) t = fv names f ws t := by
    unfold fv num
    congr 1
    exact c1x (fun s hs => c0t (0 : Int) 1 hs hll.symm) (fun s hs => c0t (0 : Rat) 5 hs hwl.symm) (by rfl) (by rfl) hty
  rw [hfv2, List.map_append] at hev2
  refine Ev.bind (a := ((toF (fv names f ws t)).P.Sign, (toF (fv names f ws t)).P.Digits, (toF (fv names f ws t)).Q.Sign, (toF (fv names f ws t)).Q.Digits, 0)) ?_ ?_
  · refine Ev.step (e0 _ (by omega)) (Ev.bind (c8o (x := 5) (by decide) (by decide)) (Ev.step (b5a (by simp only [List.length_singleton]; omega)) ?_))
    exact Ev.bind hev2 (Ev.pure _)
  refine Ev.bind (a := true) (Ev.then rfl (Ev.pure _)) ?_
  exact Ev.bind (Ev.then rfl (Ev.bind (same _ rfl) (Ev.pure _))) (Ev.pure _)
theorem names_ev' (t : Tariff) (names : List Rt.Bs) (f : Facts) (weights : List Frac) (first : Int) (more : Rt.Bs) (h : (Lit.int .u8 first).wf = true) : Ev (fun n => a7s n t names f weights first more) true := by
  have h2 : IntKind.u8.min ≤ first ∧ first ≤ IntKind.u8.max := by simpa [Lit.wf] using h
  have e1 : IntKind.u8.min = 0 := rfl
  have e2 : IntKind.u8.max = 255 := rfl
  exact c7a t names f weights first more (by omega) (by omega)
end Go.Proofs.Ytknpjecpcmajiaa.Fe

namespace Go.Proofs.Ytknpjecpcmajiaa.FeeNames
open Go Go.ChangeShapes Go.WideShapes Go.ChangeAt Go.RowKit Rt Wrap
set_option maxRecDepth 100000 in
theorem c7b (H : Type) (enc : TypeId × Value → H) (W : World) (base : Nat) (args : Array Value) (ds gs : List (DataW H)) (before : List MemPlace)
    (hval : ∀ (j : Nat) t v, Try.f4.params[j]? = some t → args[j]? = some v → Value.okWide Try.prog W .any base t v)
    (hW : DataW.Whole enc Try.prog Try.f4.params.toList Rows.feeNamesSpec.vars false W args.toList ds gs before) (_hL : laidMetH Try.prog tabs W) :
    Calls Try.prog 4 args W fun e W' => ∃ v, e = .returned v ∧ Rows.feeNamesSpec.post enc Try.prog Try.f4 false true false false W args v W' := by
  have hW' := hW
  obtain ⟨p, q, hA0, hV, rfl, hfz, hnd⟩ := hW
  have hA : DataW.TrodAll enc Try.prog W 0 (fun _ => true) true Try.f4.params.toList args.toList ds p := hA0
  rw [Try.params4] at hA hval
  obtain ⟨v0, vs0, d0, ds0, p0, q0, hargs, rfl, rfl, h0, r0⟩ := trodAll_cons hA
  obtain ⟨v1, vs1, d1, ds1, p1, q1, rfl, rfl, rfl, h1, r1⟩ := trodAll_cons r0
  obtain ⟨v2, vs2, d2, ds2, p2, q2, rfl, rfl, rfl, h2, r2⟩ := trodAll_cons r1
  obtain ⟨v3, vs3, d3, ds3, p3, q3, rfl, rfl, rfl, h3, r3⟩ := trodAll_cons r2
  obtain ⟨v4, vs4, d4, ds4, p4, q4, rfl, rfl, rfl, h4, r4⟩ := trodAll_cons r3
  obtain ⟨v5, vs5, d5, ds5, p5, q5, rfl, rfl, rfl, h5, r5⟩ := trodAll_cons r4
  obtain ⟨rfl, rfl, rfl⟩ := trodAll_nil r5
  obtain rfl : args = #[v0, v1, v2, v3, v4, v5] := by cases args; simp_all
  obtain ⟨rfl, rfl⟩ := trodVars_none hV
  obtain ⟨cs0, rfl, hsz0⟩ := okWide_struct Try.underlying26 (hval 0 26 v0 rfl rfl)
  obtain ⟨y0, hr0, ho0⟩ := b8v (c8j W) h0
  obtain ⟨ax0_4, nx0_4, cx0_4, he0, sx0_4⟩ := hr0
  have he0' : cs0.toList = [vs y0.Name, .int .i64 y0.Fee.Op, .int .i64 y0.Fee.N, vs y0.Fee.Name, .slice ax0_4 nx0_4 cx0_4, .int .i64 y0.Cap] := he0
  obtain rfl : cs0 = #[vs y0.Name, .int .i64 y0.Fee.Op, .int .i64 y0.Fee.N, vs y0.Fee.Name, .slice ax0_4 nx0_4 cx0_4, .int .i64 y0.Cap] := by rw [← Array.toArray_toList (xs := cs0), he0']
  obtain ⟨a1, n1, c1, l1, rfl, hl1, ho1⟩ := c4k Try.underlying27 (c8n W) (hval 1 27 v1 rfl rfl) h1
  obtain ⟨cs2, rfl, hsz2⟩ := okWide_struct Try.underlying30 (hval 2 30 v2 rfl rfl)
  obtain ⟨y2, hr2, ho2⟩ := b8v (c8q W) h2
  obtain ⟨ax2_0, nx2_0, cx2_0, he2, sx2_0⟩ := hr2
  have he2' : cs2.toList = [.slice ax2_0 nx2_0 cx2_0, .int .i64 y2.Persons, .int .i64 y2.Flats] := he2
  obtain rfl : cs2 = #[.slice ax2_0 nx2_0 cx2_0, .int .i64 y2.Persons, .int .i64 y2.Flats] := by rw [← Array.toArray_toList (xs := cs2), he2']
  obtain ⟨a3, n3, c3, l3, rfl, hl3, ho3⟩ := c4k Try.underlying31 (c8e W) (hval 3 31 v3 rfl rfl) h3
  obtain ⟨i4, rfl, rfl, rfl, hi4⟩ := open_int Try.underlying5 (hval 4 5 v4 rfl rfl) h4
  obtain ⟨s5, rfl, rfl, rfl, hs5⟩ := Go.ChangeMaps.open_string Try.underlying9 (hval 5 9 v5 rfl rfl) h5
  have e : #[Value.agg #[vs y0.Name, .int .i64 y0.Fee.Op, .int .i64 y0.Fee.N, vs y0.Fee.Name, .slice ax0_4 nx0_4 cx0_4, .int .i64 y0.Cap], Value.slice a1 n1 c1, Value.agg #[.slice ax2_0 nx2_0 cx2_0, .int .i64 y2.Persons, .int .i64 y2.Flats], Value.slice a3 n3 c3, Value.int .u8 i4, Value.string s5] = (#[Value.agg #[vs y0.Name, .int .i64 y0.Fee.Op, .int .i64 y0.Fee.N, vs y0.Fee.Name, .slice ax0_4 nx0_4 cx0_4, .int .i64 y0.Cap], Value.slice a1 n1 c1, Value.agg #[.slice ax2_0 nx2_0 cx2_0, .int .i64 y2.Persons, .int .i64 y2.Flats], Value.slice a3 n3 c3, Value.int .u8 i4, vs s5.data.toList] : Array Value) := by simp only [c8u]
  rw [e] at hW' ⊢
  obtain ⟨N, hN⟩ := Fe.names_ev' y0 l1 y2 l3 i4 s5.data.toList hi4
  refine (M.law36_FeeNames_ok N y0 l1 y2 l3 i4 s5.data.toList true (hN N (Nat.le_refl N)) (c9n W) sx0_4 hl1 sx2_0 hl3).mono ?_
  rintro e W' ⟨v, F', O', rfl, hh, rfl, rfl⟩
  refine ⟨_, rfl, c5j laidOut ?_ rfl (by kernel_rfl) Try.underlying4 rfl hW' hh.below⟩
  rw [Try.params4]
  intro t ht
  have ht : t ∈ [26, 27, 30, 31, 5, 9] := ht
  rcases List.mem_cons.1 ht with rfl | ht
  · exact ⟨by kernel_rfl, of_decide_eq_true (by kernel_rfl)⟩
  rcases List.mem_cons.1 ht with rfl | ht
  · exact ⟨by kernel_rfl, of_decide_eq_true (by kernel_rfl)⟩
  rcases List.mem_cons.1 ht with rfl | ht
  · exact ⟨by kernel_rfl, of_decide_eq_true (by kernel_rfl)⟩
  rcases List.mem_cons.1 ht with rfl | ht
  · exact ⟨by kernel_rfl, of_decide_eq_true (by kernel_rfl)⟩
  rcases List.mem_cons.1 ht with rfl | ht
  · exact ⟨by kernel_rfl, of_decide_eq_true (by kernel_rfl)⟩
  rcases List.mem_cons.1 ht with rfl | ht
  · exact ⟨by kernel_rfl, of_decide_eq_true (by kernel_rfl)⟩
  exact absurd ht (List.not_mem_nil)
theorem reads (os : Os) {H : Type} (enc : TypeId × Value → H) : ∃ places, DataW.whole enc Try.prog ((b6s os).forCall (fun _ _ => 0) ⟨#[], #[.agg #[.string ⟨#[]⟩, .int .i64 0, .int .i64 0, .string ⟨#[]⟩, .slice none 0 0, .int .i64 0], .slice none 0 0, .agg #[.slice none 0 0, .int .i64 0, .int .i64 0], .slice none 0 0, .int .u8 0, .string ⟨#[]⟩], []⟩).memory Try.f4.params.toList Rows.feeNamesSpec.vars false (#[.agg #[.string ⟨#[]⟩, .int .i64 0, .int .i64 0, .string ⟨#[]⟩, .slice none 0 0, .int .i64 0], .slice none 0 0, .agg #[.slice none 0 0, .int .i64 0, .int .i64 0], .slice none 0 0, .int .u8 0, .string ⟨#[]⟩] : Array Value).toList 8 = some ([.agg [.lit (.string []), .agg [.lit (.int .i64 0), .lit (.int .i64 0), .lit (.string []), .nil], .lit (.int .i64 0)], .nil, .agg [.nil, .lit (.int .i64 0), .lit (.int .i64 0)], .nil, .lit (.int .u8 0), .lit (.string [])], [], places) :=
  ⟨[], by kernel_rfl⟩
set_option maxRecDepth 100000 in
theorem d0w (os : Os) (started : os.Started) (H : Type) (enc : TypeId × Value → H) (F : Stop.Interp) :
    ReturnsInHanded {} Try.checked os 4 .any ((OpenSpec.ofChange Rows.feeNamesSpec).preRow enc Try.prog Try.f4 Rows.feeNamesRow.domain false Rows.feeNamesRow.laid) (((OpenSpec.ofChange Rows.feeNamesSpec).at F).post enc Try.prog Try.f4 false true false false) := by
  obtain ⟨places, hx⟩ := reads os enc
  refine returnsInHanded_of_row (C := Try.checked) (s := OpenSpec.ofChange Rows.feeNamesSpec) own started (by kernel_rfl) Try.func4
    (witness_row_at (enc := enc) (C := Try.checked) false (b6s os) #[.agg #[.string ⟨#[]⟩, .int .i64 0, .int .i64 0, .string ⟨#[]⟩, .slice none 0 0, .int .i64 0], .slice none 0 0, .agg #[.slice none 0 0, .int .i64 0, .int .i64 0], .slice none 0 0, .int .u8 0, .string ⟨#[]⟩] rfl (by kernel_rfl) (by kernel_rfl) (by kernel_rfl)
      (OpenSpec.preRow_of_cond 8 hx (by kernel_rfl) (fun k hk => by cases hk) (by kernel_rfl) (c7c os _))) ?_
  intro W base args ds gs before hval hW _ _ _ hL _ _
  exact c7b H enc W base args ds gs before hval hW hL
theorem said : Rows.FeeNamesSaid :=
  OpenClaim.holds_of_cond 4 Try.f4 rfl rfl rfl rfl rfl rfl rfl ⟨rfl, rfl, rfl, rfl, rfl⟩ rfl rfl rfl rfl rfl (by kernel_rfl) Try.func4 (by kernel_rfl)
    (of_decide_eq_true (by kernel_rfl)) (by unfold Func.isWrapper; first | (rw [if_pos (by decide +kernel)]; kernel_rfl) | (rw [if_neg (by decide +kernel)]; exact ⟨rfl, rfl⟩))
    (fun os started H enc _ F => by rw [OpenClaim.pre_eq_preRow]; exact d0w os started H enc F)
end Go.Proofs.Ytknpjecpcmajiaa.FeeNames

