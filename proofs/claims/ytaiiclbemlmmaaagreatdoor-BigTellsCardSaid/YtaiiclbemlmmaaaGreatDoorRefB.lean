/-
  THE REFERENCE's FUNCTIONS, as arithmetic, second part: order, sums, differences.
-/
import Derived.Test.YtaiiclbemlmmaaaGreatDoorRefA
namespace Go.Proofs.YtaiiclbemlmmaaaGreatDoor.D
open Go Rt M

theorem val_drop (l : List Int) (i : Nat) : val (l.drop i) = (l.drop i).headD 0 + 1048576 * val (l.drop (i + 1)) := by
  rw [← List.drop_drop]
  cases l.drop i with
  | nil => rfl
  | cons d l => rfl
theorem val_split (l : List Int) (i : Nat) (h : i ≤ l.length) : val l = val (l.take i) + pw i * val (l.drop i) := by
  conv => lhs; rw [← List.take_append_drop i l]
  rw [val_append, List.length_take, Nat.min_eq_left h]
theorem val_past {l : List Int} {i : Nat} (h : l.length ≤ i) : val (l.drop i) = 0 := by rw [List.drop_of_length_le h]; rfl

/- order -/
theorem lt_drop {a b : List Int} (ha : InR a) (hb : InR b) (i : Nat) (h : val (a.drop i) < val (b.drop i)) : val a < val b := by
  induction i with
  | zero => simpa using h
  | succ i ih =>
    apply ih
    rw [val_drop a i, val_drop b i]
    have h1 := (InR.drop ha i).headD
    have h2 := (InR.drop hb i).headD
    omega
theorem less_L (n : Nat) (a b : List Int) (ha : InR a) (hb : InR b) (hla : a.length < 1099511627776) (hlb : b.length < 1099511627776) : ∀ (i m : Nat), i < 1099511627776 → i < m → val (a.drop i) = val (b.drop i) →
    ref04_less_L1 n a b (some false) m ((i : Int) - 1) = some (decide (val a < val b))
  | 0, m + 1, _, _, h => by
    unfold ref04_less_L1
    rw [show decide ((0 : Int) ≤ ((0 : Nat) : Int) - 1) = false by decide, cond_false]
    simp only [List.drop_zero] at h
    rw [h]; simp
  | i + 1, m + 1, hi, hm, h => by
    unfold ref04_less_L1
    rw [show ((i + 1 : Nat) : Int) - 1 = (i : Int) by omega, show decide (0 ≤ (i : Int)) = true by simp, cond_true, digit_n, digit_n, Option.bind_some, Option.bind_some]
    have e1 := val_drop a i
    have e2 := val_drop b i
    by_cases hd : (a.drop i).headD 0 = (b.drop i).headD 0
    · rw [show ((a.drop i).headD 0 != (b.drop i).headD 0) = false by simpa using hd, cond_false, isub_i64 (by omega) (by omega)]
      exact less_L n a b ha hb hla hlb i m (by omega) (by omega) (by rw [e1, e2, hd, h])
    · rw [show ((a.drop i).headD 0 != (b.drop i).headD 0) = true by simpa using hd, cond_true, Option.bind_some, Option.bind_some]
      congr 1
      by_cases hlt : (a.drop i).headD 0 < (b.drop i).headD 0
      · have := lt_drop ha hb i (by omega)
        rw [decide_eq_true hlt, decide_eq_true this]
      · have := lt_drop hb ha i (by omega)
        have h3 : ¬ val a < val b := by omega
        rw [decide_eq_false hlt, decide_eq_false h3]
  | _, 0, _, hm, _ => by omega
theorem less_n {a b : List Int} (ha : InR a) (hb : InR b) (hla : a.length < 1099511627776) (hlb : b.length < 1099511627776) {n : Nat} (hn : max a.length b.length < n) : ref04_less n a b = some (decide (val a < val b)) := by
  unfold ref04_less
  have e : isub .i64 (imax (a.length : Int) (b.length : Int)) 1 = ((max a.length b.length : Nat) : Int) - 1 := by
    have : imax (a.length : Int) (b.length : Int) = ((max a.length b.length : Nat) : Int) := by unfold imax; split <;> omega
    rw [this, isub_i64 (by omega) (by omega)]
  rw [e]
  exact less_L n a b ha hb hla hlb _ n (by omega) hn (by rw [val_past (by omega), val_past (by omega)])

/- sums -/
theorem plus_L (n : Nat) (a b : List Int) (kont : List Int → Option (List Int)) (ha : InR a) (hb : InR b) (hla : a.length < 1073741824) (hlb : b.length < 1073741824) (V : Int) : ∀ (m i : Nat) (c : Int) (pre : List Int),
    pre.length = i → InR pre → 0 ≤ c → c ≤ 1 → val pre + pw i * (c + val (a.drop i) + val (b.drop i)) = V → (i ≤ max a.length b.length ∨ (i = max a.length b.length + 1 ∧ c = 0)) → max a.length b.length + 2 ≤ i + m →
    ∃ out, ref04_plus_L1 n a b kont m c (i : Int) pre = kont out ∧ InR out ∧ val out = V ∧ out.length ≤ max a.length b.length + 1
  | 0, i, _, _, _, _, _, _, _, h, h2 => by omega
  | m + 1, i, c, pre, hp, hpr, h0, h1, hv, hi, hm => by
    unfold ref04_plus_L1
    have xr := (InR.drop ha i).headD
    have yr := (InR.drop hb i).headD
    have ea := val_drop a i
    have eb := val_drop b i
    by_cases hgo : i < a.length ∨ i < b.length ∨ 0 < c
    · have e1 : (((bif decide ((i : Int) < (a.length : Int)) then some true else some (decide ((i : Int) < (b.length : Int)))) : Option Bool).bind fun v2 => (bif v2 then some true else some (decide (0 < c)) : Option Bool)) = some true := by
        by_cases g1 : i < a.length
        · rw [show decide ((i : Int) < (a.length : Int)) = true by simpa using g1]; rfl
        · rw [show decide ((i : Int) < (a.length : Int)) = false by simpa using g1]
          by_cases g2 : i < b.length
          · rw [show decide ((i : Int) < (b.length : Int)) = true by simpa using g2]; rfl
          · rw [show decide ((i : Int) < (b.length : Int)) = false by simpa using g2, show decide (0 < c) = true by simp; omega]; rfl
      have es : iadd .i64 (iadd .i64 ((a.drop i).headD 0) ((b.drop i).headD 0)) c = (a.drop i).headD 0 + (b.drop i).headD 0 + c := by rw [iadd_i64 (x := (a.drop i).headD 0) (y := (b.drop i).headD 0) (by omega) (by omega), iadd_i64 (by omega) (by omega)]
      generalize hx : (a.drop i).headD 0 = x at *
      generalize hy : (b.drop i).headD 0 = y at *
      have hnext := plus_L n a b kont ha hb hla hlb V m (i + 1) ((x + y + c) / 1048576) (pre ++ [(x + y + c) % 1048576]) (by simp [hp]) (hpr.append (InR.cons (by omega) (by omega) InR.nil)) (by omega) (by omega)
        (by
          rw [val_append, hp]
          have e3 : val [(x + y + c) % 1048576] = (x + y + c) % 1048576 := by simp [val]
          rw [e3, show pw (i + 1) = 1048576 * pw i from rfl, ← hv, ea, eb]
          have hdm : x + y + c = (x + y + c) % 1048576 + 1048576 * ((x + y + c) / 1048576) := by omega
          generalize (x + y + c) % 1048576 = r at *
          generalize (x + y + c) / 1048576 = q at *
          generalize val (a.drop (i + 1)) = A at *
          generalize val (b.drop (i + 1)) = B at *
          generalize pw i = p at *
          have hc : c = r + 1048576 * q - x - y := by omega
          subst hc
          grind) (by
          by_cases g : i < max a.length b.length
          · left; omega
          · right
            rw [List.drop_of_length_le (by omega)] at hx hy
            simp at hx hy
            omega) (by omega)
      obtain ⟨out, h3, h4, h5, h6⟩ := hnext
      refine ⟨out, ?_, h4, h5, h6⟩
      rw [← h3]
      rw [← Option.bind_assoc, e1, Option.bind_some, cond_true, digit_n, digit_n, Option.bind_some, Option.bind_some, hx, hy, es, rem_pos (by omega) (by decide), Option.bind_some, app_eq (by simp; omega), Option.bind_some, quo_i64 (by omega) (by omega) (by decide), Option.bind_some, inc64 (by omega)]
    · refine ⟨pre, ?_, hpr, ?_, by omega⟩
      · rw [show decide ((i : Int) < (a.length : Int)) = false by simp; omega, show decide ((i : Int) < (b.length : Int)) = false by simp; omega, show decide (0 < c) = false by simp; omega]; rfl
      · rw [val_past (by omega), val_past (by omega)] at hv
        rw [← hv, show c = 0 by omega]; simp
theorem plus_ev {a b : List Int} (ha : InR a) (hb : InR b) (hla : a.length < 1073741824) (hlb : b.length < 1073741824) : Ev (fun n => ref04_plus n a b) (dig (val a + val b).toNat) := by
  refine ⟨max a.length b.length + 3, fun n hn => ?_⟩
  show ref04_plus n a b = _
  unfold ref04_plus
  obtain ⟨out, h1, h2, h3, h4⟩ := plus_L n a b (fun (l2 : List Int) => (ref04_trim n l2).bind fun v1 => some v1) ha hb hla hlb (val a + val b) n 0 0 [] rfl InR.nil (by decide) (by decide) (by simp [val, pw]) (.inl (by omega)) (by omega)
  refine Eq.trans h1 ?_
  show (ref04_trim n out).bind _ = _
  rw [rtrim_n h2 (by omega) (by omega), h3]; rfl
end Go.Proofs.YtaiiclbemlmmaaaGreatDoor.D
