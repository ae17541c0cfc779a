/-
  THE REFERENCE's FUNCTIONS, as arithmetic, third part: differences, products.
-/
import Derived.Test.YtaiiclbemlmmaaaGreatDoorRefB
namespace Go.Proofs.YtaiiclbemlmmaaaGreatDoor.D
open Go Rt M

theorem minus_L (n : Nat) (a b : List Int) (kont : List Int → Option (List Int)) (ha : InR a) (hb : InR b) (hla : a.length < 1073741824) (hlb : b.length ≤ a.length) (V : Int) (hV : 0 ≤ V) : ∀ (us : List Int) (m i : Nat) (c : Int) (pre : List Int),
    a.drop i = us → us.length < m → pre.length = i → InR pre → 0 ≤ c → c ≤ 1 → val pre + pw i * (val us - val (b.drop i) - c) = V →
    ∃ out, ref04_minus_L1 n a b kont m c (i : Int) pre = kont out ∧ InR out ∧ val out = V ∧ out.length ≤ max a.length i
  | [], m + 1, i, c, pre, hd, _, hp, hpr, h0, h1, hv => by
    have hi := drop_nil hd
    refine ⟨pre, ?_, hpr, ?_, by omega⟩
    · unfold ref04_minus_L1
      rw [show decide ((i : Int) < (a.length : Int)) = false by simp; omega]; rfl
    · rw [val_past (by omega)] at hv
      have h2 := val_lt hpr
      rw [hp] at h2
      have hc : c = 0 := by
        rcases (show c = 0 ∨ c = 1 by omega) with h | h
        · exact h
        · subst h; simp only [val] at hv; exfalso
          have : pw i * (0 - 0 - 1) = -pw i := by grind
          omega
      rw [← hv, hc]; simp [val]
  | x :: us, m + 1, i, c, pre, hd, hm, hp, hpr, h0, h1, hv => by
    obtain ⟨f1, f2, f3⟩ := drop_cons hd
    have xr := (show InR (x :: us) by rw [← hd]; exact InR.drop ha i).head
    have yr := (InR.drop hb i).headD
    have eb := val_drop b i
    unfold ref04_minus_L1
    rw [show decide ((i : Int) < (a.length : Int)) = true by simpa using f3, cond_true, f1, Option.bind_some, digit_n, Option.bind_some]
    generalize hy : (b.drop i).headD 0 = y at *
    have es : isub .i64 (isub .i64 x y) c = x - y - c := by rw [isub_i64 (x := x) (y := y) (by omega) (by omega), isub_i64 (by omega) (by omega)]
    rw [es]
    have key : ∀ (q r : Int), x - y - c = r - 1048576 * q → 0 ≤ q → q ≤ 1 → 0 ≤ r → r < 1048576 → ∃ out, ((app 8 pre [r]).bind fun l3 => ref04_minus_L1 n a b kont m q (iadd .i64 (i : Int) 1) l3) = kont out ∧ InR out ∧ val out = V ∧ out.length ≤ max a.length i := by
      intro q r hqr hq0 hq1 hr0 hr1
      obtain ⟨out, h3, h4, h5, h6⟩ := minus_L n a b kont ha hb hla hlb V hV us m (i + 1) q (pre ++ [r]) f2 (by simpa using hm) (by simp [hp]) (hpr.append (InR.cons hr0 hr1 InR.nil)) hq0 hq1 (by
        rw [val_append, hp]
        have e3 : val [r] = r := by simp [val]
        rw [e3, show pw (i + 1) = 1048576 * pw i from rfl, ← hv, eb]
        simp only [val]
        generalize val us = A at *
        generalize val (b.drop (i + 1)) = B at *
        generalize pw i = p at *
        have hc : c = x - y - r + 1048576 * q := by omega
        subst hc
        grind)
      exact ⟨out, by rw [app_eq (by simp; omega), Option.bind_some, inc64 (by omega), h3], h4, h5, by omega⟩
    by_cases hn : x - y - c < 0
    · rw [show decide (x - y - c < 0) = true by simpa using hn, cond_true, Option.bind_some, iadd_i64 (by omega) (by omega)]
      exact key 1 (x - y - c + 1048576) (by omega) (by omega) (by omega) (by omega) (by omega)
    · rw [show decide (x - y - c < 0) = false by simpa using hn, cond_false, Option.bind_some]
      exact key 0 (x - y - c) (by omega) (by omega) (by omega) (by omega) (by omega)
  | _, 0, _, _, _, _, h, _, _, _, _, _ => by omega
theorem minus_ev {a b : List Int} (ha : InR a) (hb : InR b) (hla : a.length < 1073741824) (hlb : b.length ≤ a.length) (h : val b ≤ val a) : Ev (fun n => ref04_minus n a b) (dig (val a - val b).toNat) := by
  refine ⟨a.length + 2, fun n hn => ?_⟩
  show ref04_minus n a b = _
  unfold ref04_minus
  obtain ⟨out, h1, h2, h3, h4⟩ := minus_L n a b (fun (l2 : List Int) => (ref04_trim n l2).bind fun v1 => some v1) ha hb hla hlb (val a - val b) (by omega) a n 0 0 [] rfl (by omega) rfl InR.nil (by decide) (by decide) (by simp [val, pw])
  refine Eq.trans h1 ?_
  show (ref04_trim n out).bind _ = _
  rw [rtrim_n h2 (by omega) (by omega), h3]; rfl

/- products -/
theorem val_mid (P : List Int) (z : Int) (S : List Int) : val (P ++ z :: S) = val P + pw P.length * (z + 1048576 * val S) := by rw [val_append]; rfl
theorem times_L2 (n : Nat) (a b : List Int) (i : Nat) (x : Int) (kont : List Int → Option (List Int)) (hx : ix a (i : Int) = some x) (hxr : 0 ≤ x ∧ x < 1048576) (hb : InR b) (hla : a.length < 1073741824) (hlb : b.length < 1073741824) (W : Int) (hi : i < a.length)
    (hW : W < pw (i + b.length + 1)) : ∀ (m k : Nat) (c : Int) (l : List Int), InR l → l.length = a.length + b.length → 0 ≤ c → c < 1048576 → val l + pw (i + k) * (c + x * val (b.drop k)) = W → (k ≤ b.length ∨ (k = b.length + 1 ∧ c = 0)) → b.length + 2 ≤ k + m →
    ∃ l', ref04_times_L2 n a b (i : Int) kont m c (k : Int) l = kont l' ∧ InR l' ∧ l'.length = a.length + b.length ∧ val l' = W
  | 0, k, _, _, _, _, _, _, _, h, h2 => by omega
  | m + 1, k, c, l, hl, hlen, h0, h1, hv, hk, hm => by
    unfold ref04_times_L2
    have yr := (InR.drop hb k).headD
    have eb := val_drop b k
    by_cases hgo : k < b.length ∨ 0 < c
    · have e1 : ((bif decide ((k : Int) < (b.length : Int)) then some true else some (decide (0 < c))) : Option Bool) = some true := by
        by_cases g1 : k < b.length
        · rw [show decide ((k : Int) < (b.length : Int)) = true by simpa using g1]; rfl
        · rw [show decide ((k : Int) < (b.length : Int)) = false by simpa using g1, show decide (0 < c) = true by simp; omega]; rfl
      have hj : i + k < l.length := by omega
      have ej : iadd .i64 (i : Int) (k : Int) = ((i + k : Nat) : Int) := by rw [iadd_i64 (by omega) (by omega)]; omega
      have hsp : l = l.take (i + k) ++ l[i + k] :: l.drop (i + k + 1) := by rw [← List.drop_eq_getElem_cons hj, List.take_append_drop]
      have hPl : (l.take (i + k)).length = i + k := by simp; omega
      have hzr := hl l[i + k] (List.getElem_mem hj)
      have hPr := InR.take hl (i + k)
      have hSr := InR.drop hl (i + k + 1)
      have hlen2 := congrArg List.length hsp
      simp only [List.length_append, List.length_cons] at hlen2
      generalize l[i + k] = z at *
      generalize l.take (i + k) = P at *
      generalize l.drop (i + k + 1) = S at *
      generalize hy : (b.drop k).headD 0 = y at *
      have hmul := mul_dig (g := x) hxr.1 yr.1 yr.2
      have em : imul .i64 x y = x * y := imul_i64 (by omega) (by omega)
      have es : iadd .i64 (iadd .i64 z (imul .i64 x y)) c = z + x * y + c := by rw [em, iadd_i64 (x := z) (y := x * y) (by omega) (by omega), iadd_i64 (by omega) (by omega)]
      have hc' : (z + x * y + c) / 1048576 < 1048576 := by omega
      have hnv : val (P ++ (z + x * y + c) % 1048576 :: S) + pw (i + (k + 1)) * ((z + x * y + c) / 1048576 + x * val (b.drop (k + 1))) = W := by
        rw [hsp, val_mid, hPl] at hv
        rw [val_mid, hPl, show i + (k + 1) = (i + k) + 1 by omega, show pw (i + k + 1) = 1048576 * pw (i + k) from rfl, ← hv, eb]
        have hdm : z + x * y + c = (z + x * y + c) % 1048576 + 1048576 * ((z + x * y + c) / 1048576) := by omega
        generalize (z + x * y + c) % 1048576 = r at *
        generalize (z + x * y + c) / 1048576 = q at *
        generalize val (b.drop (k + 1)) = B at *
        generalize pw (i + k) = p at *
        generalize val P = vP at *
        generalize val S = vS at *
        have hc : c = r + 1048576 * q - z - x * y := by omega
        subst hc
        grind
      have hir : InR (P ++ (z + x * y + c) % 1048576 :: S) := hPr.append (InR.cons (by omega) (by omega) hSr)
      obtain ⟨l', h3, h4, h5, h6⟩ := times_L2 n a b i x kont hx hxr hb hla hlb W hi hW m (k + 1) ((z + x * y + c) / 1048576) (P ++ (z + x * y + c) % 1048576 :: S) hir (by simp only [List.length_append, List.length_cons]; omega) (by omega) hc' hnv (by
        by_cases g : k < b.length
        · left; omega
        · right
          refine ⟨by omega, ?_⟩
          have hk2 : k = b.length := by omega
          rw [val_past (l := b) (by omega), Int.mul_zero, Int.add_zero] at hnv
          have hnn := val_nonneg hir
          have hp2 := pw_pos (i + (k + 1))
          rw [show i + b.length + 1 = i + (k + 1) by omega] at hW
          generalize val (P ++ (z + x * y + c) % 1048576 :: S) = vv at *
          have hq0 : 0 ≤ (z + x * y + c) / 1048576 := by omega
          generalize (z + x * y + c) / 1048576 = q at *
          rcases (show q = 0 ∨ 1 ≤ q by omega) with h | h
          · exact h
          · exfalso
            have := Int.mul_le_mul_of_nonneg_left h (Int.le_of_lt hp2)
            rw [Int.mul_one] at this
            omega) (by omega)
      refine ⟨l', ?_, h4, h5, h6⟩
      rw [e1, Option.bind_some, cond_true, ej]
      have g1 : ix l ((i + k : Nat) : Int) = some z := by rw [hsp]; exact ix_mid _ _ _ (by omega)
      have g2 : lset l ((i + k : Nat) : Int) ((z + x * y + c) % 1048576) = some (P ++ (z + x * y + c) % 1048576 :: S) := by rw [hsp]; exact lset_mid _ _ _ _ (by omega)
      rw [g1, Option.bind_some, hx, Option.bind_some, digit_n, Option.bind_some, hy, es, rem_pos (by omega) (by decide), Option.bind_some, Option.bind_some, g2, Option.bind_some, quo_i64 (by omega) (by omega) (by decide), Option.bind_some, inc64 (by omega)]
      exact h3
    · refine ⟨l, ?_, hl, hlen, ?_⟩
      · rw [show decide ((k : Int) < (b.length : Int)) = false by simp; omega, show decide (0 < c) = false by simp; omega]; rfl
      · rw [val_past (by omega)] at hv
        rw [← hv, show c = 0 by omega]; simp
end Go.Proofs.YtaiiclbemlmmaaaGreatDoor.D
