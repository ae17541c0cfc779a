/-
  THE REFERENCE's FUNCTIONS, as arithmetic, fifth part: long division, in full.
-/
import Derived.Test.YtaiiclbemlmmaaaGreatDoorRefD
namespace Go.Proofs.YtaiiclbemlmmaaaGreatDoor.D
open Go Rt M

theorem minus_n {a b : List Int} (ha : InR a) (hb : InR b) (hla : a.length < 1073741824) (hlb : b.length ≤ a.length) (h : val b ≤ val a) {n : Nat} (hn : a.length + 2 ≤ n) : ref04_minus n a b = some (dig (val a - val b).toNat) := by
  unfold ref04_minus
  obtain ⟨out, h1, h2, h3, h4⟩ := minus_L n a b (fun (l2 : List Int) => (ref04_trim n l2).bind fun v1 => some v1) ha hb hla hlb (val a - val b) (by omega) a n 0 0 [] rfl (by omega) rfl InR.nil (by decide) (by decide) (by simp [val, pw])
  refine Eq.trans h1 ?_
  show (ref04_trim n out).bind _ = _
  rw [rtrim_n h2 (by omega) (by omega), h3]; rfl
theorem plus_n {a b : List Int} (ha : InR a) (hb : InR b) (hla : a.length < 1073741824) (hlb : b.length < 1073741824) {n : Nat} (hn : max a.length b.length + 3 ≤ n) : ref04_plus n a b = some (dig (val a + val b).toNat) := by
  unfold ref04_plus
  obtain ⟨out, h1, h2, h3, h4⟩ := plus_L n a b (fun (l2 : List Int) => (ref04_trim n l2).bind fun v1 => some v1) ha hb hla hlb (val a + val b) n 0 0 [] rfl InR.nil (by decide) (by decide) (by simp [val, pw]) (.inl (by omega)) (by omega)
  refine Eq.trans h1 ?_
  show (ref04_trim n out).bind _ = _
  rw [rtrim_n h2 (by omega) (by omega), h3]; rfl

theorem over_step {x H b : Nat} (hb : 0 < b) : (x + 1048576 * H) / b = 1048576 * (H / b) + (x + 1048576 * (H % b)) / b ∧ (x + 1048576 * H) % b = (x + 1048576 * (H % b)) % b := by
  have h1 := Nat.div_add_mod H b
  have e : x + 1048576 * H = (x + 1048576 * (H % b)) + b * (1048576 * (H / b)) := by
    generalize H / b = q at *
    generalize H % b = r at *
    rw [← h1]
    grind
  rw [e, Nat.add_mul_div_left _ _ hb, Nat.add_mul_mod_self_left]
  omega
theorem dig_le_one {v : Nat} (h : v < 1048576) : (dig v).length ≤ 1 := by
  have h1 : Sm 1 (v : Int) := by unfold Sm; rw [Int.natAbs_natCast, show pw 1 = 1048576 by decide]; omega
  have := len_of_sm h1
  rwa [Int.natAbs_natCast] at this
theorem over_L1 (n : Nat) (a : List Int) (b : Nat) (kont : List Int → List Int → Option (List Int × List Int)) (ha : InR a) (hb : 0 < b) (hla : a.length < 536870800) (hlb : (dig b).length < 536870800) (hn : a.length + 2 * (dig b).length + 1048600 < n) : ∀ (i m : Nat) (H : Nat) (qs : List Int),
    i ≤ a.length → i < m → val (a.drop i) = H → InR qs → qs.length = a.length - i → val qs = ((H / b : Nat) : Int) →
    ∃ out, ref04_over_L1 n a (dig b) kont m (dig (H % b)) ((i : Int) - 1) (List.replicate i 0 ++ qs) = kont (dig ((val a).toNat % b)) out ∧ InR out ∧ out.length = a.length ∧ val out = (((val a).toNat / b : Nat) : Int)
  | 0, m + 1, H, qs, _, _, hH, hq, hql, hqv => by
    refine ⟨qs, ?_, hq, by omega, ?_⟩
    · unfold ref04_over_L1
      rw [show decide ((0 : Int) ≤ ((0 : Nat) : Int) - 1) = false by decide, cond_false]
      rw [List.drop_zero] at hH
      rw [hH]; rfl
    · rw [List.drop_zero] at hH
      rw [hqv, hH]; rfl
  | i + 1, m + 1, H, qs, hi, hm, hH, hq, hql, hqv => by
    unfold ref04_over_L1
    have hia : i < a.length := by omega
    have hxr := ha a[i] (List.getElem_mem hia)
    have hvd := val_drop a i
    rw [List.drop_eq_getElem_cons hia] at hvd
    simp only [List.headD_cons] at hvd
    rw [← List.drop_eq_getElem_cons hia] at hvd
    rw [show ((i + 1 : Nat) : Int) - 1 = (i : Int) by omega, show decide (0 ≤ (i : Int)) = true by simp, cond_true, ix_nat, List.getElem?_eq_getElem hia, Option.bind_some]
    generalize a[i] = x at *
    obtain ⟨X, rfl⟩ := Int.eq_ofNat_of_zero_le hxr.1
    have hmod := Nat.mod_lt H hb
    have hlr := len_mono (Nat.le_of_lt hmod)
    obtain ⟨s1, s2⟩ := over_step (x := X) (H := H) hb
    have hr' : X + 1048576 * (H % b) < 1048576 * b := by omega
    have hvl : val ((X : Int) :: dig (H % b)) = ((X + 1048576 * (H % b) : Nat) : Int) := by simp only [val, val_dig]; omega
    rw [app_eq (by simp; omega), Option.bind_some, List.singleton_append, rtrim_n (InR.cons hxr.1 hxr.2 (InR_dig _)) (by simp; omega) (by simp; omega), Option.bind_some, hvl, Int.toNat_natCast]
    have hlr' : (dig (X + 1048576 * (H % b))).length ≤ (dig b).length + 1 := by
      have h1 := len_dig_le (l := (X : Int) :: dig (H % b)) (InR.cons hxr.1 hxr.2 (InR_dig _))
      rw [hvl, Int.toNat_natCast] at h1
      simp only [List.length_cons] at h1
      omega
    generalize hR : X + 1048576 * (H % b) = R at *
    have hlo : R / b < 1048576 := by rw [Nat.div_lt_iff_lt_mul hb]; omega
    have hlob : b * (R / b) ≤ R := Nat.mul_div_le R b
    have h2 := over_L2 n b R (fun (lo2 : Int) =>
        (ix (List.replicate (i + 1) 0 ++ qs) (i : Int)).bind fun _ =>
        (lset (List.replicate (i + 1) 0 ++ qs) (i : Int) lo2).bind fun l5 =>
        (ref04_trim n [lo2]).bind fun v3 =>
        (ref04_times n (dig b) v3).bind fun v4 =>
        (ref04_minus n (dig R) v4).bind fun v5 =>
        ref04_over_L1 n a (dig b) kont m v5 (isub .i64 (i : Int) 1) l5) hb (by omega) (by omega) (by omega) n 0 1048576 (by omega) (by omega) (by omega) (by omega) (by omega)
    generalize hL : R / b = L at *
    have e1 : List.replicate (i + 1) (0 : Int) ++ qs = List.replicate i 0 ++ 0 :: qs := by rw [List.replicate_succ', List.append_assoc]; rfl
    have e2 : ix (List.replicate (i + 1) (0 : Int) ++ qs) (i : Int) = some 0 := by rw [e1]; exact ix_mid _ _ _ (by simp)
    have e3 : lset (List.replicate (i + 1) (0 : Int) ++ qs) (i : Int) ((L : Nat) : Int) = some (List.replicate i 0 ++ ((L : Nat) : Int) :: qs) := by rw [e1]; exact lset_mid _ _ _ _ (by simp)
    have e4 : ref04_trim n [((L : Nat) : Int)] = some (dig (L)) := by
      rw [rtrim_n (InR.cons (by omega) (by omega) InR.nil) (by simp) (by simp; omega)]
      simp [val]
    have hl1 := dig_le_one hlo
    have e5 : ref04_times n (dig b) (dig (L)) = some (dig (b * (L))) := times_dig (by omega) (by omega) (by omega)
    have e6 : ref04_minus n (dig R) (dig (b * (L))) = some (dig (R % b)) := by
      have h3 := len_mono hlob
      rw [minus_n (InR_dig _) (InR_dig _) (by omega) h3 (by rw [val_dig, val_dig]; omega) (by omega), val_dig, val_dig]
      congr 2
      have := Nat.div_add_mod R b
      rw [hL] at this
      omega
    have hnext := over_L1 n a b kont ha hb hla hlb hn i m (X + 1048576 * H) (((L : Nat) : Int) :: qs) (by omega) (by omega) (by rw [hvd, hH]; omega) (InR.cons (by omega) (by omega) hq) (by simp; omega) (by
      rw [s1]; simp only [val]; rw [hqv]; omega)
    obtain ⟨out, h4, h5, h6, h7⟩ := hnext
    refine ⟨out, ?_, h5, h6, h7⟩
    refine Eq.trans h2 ?_
    show (ix (List.replicate (i + 1) 0 ++ qs) (i : Int)).bind _ = _
    rw [e2, Option.bind_some, e3, Option.bind_some, e4, Option.bind_some, e5, Option.bind_some, e6, Option.bind_some, isub_i64 (by omega) (by omega), ← h4, s2]
  | _, 0, _, _, _, h, _, _, _, _ => by omega
theorem over_n {A b : Nat} (hb : 0 < b) (hla : (dig A).length < 536870800) (hlb : (dig b).length < 536870800) {n : Nat} (hn : (dig A).length + 2 * (dig b).length + 1048600 < n) : ref04_over n (dig A) (dig b) = some (dig (A / b), dig (A % b)) := by
  unfold ref04_over
  obtain ⟨out, h1, h2, h3, h4⟩ := over_L1 n (dig A) b (fun (rx2 : List Int) (l3 : List Int) => (ref04_trim n l3).bind fun v1 => some (v1, rx2)) (InR_dig A) hb hla hlb hn (dig A).length n 0 [] (Nat.le_refl _) (by omega) (by rw [val_past (Nat.le_refl _)]; rfl) InR.nil (by simp) (by rw [Nat.zero_div]; rfl)
  rw [Nat.zero_mod, dig_zero, List.append_nil] at h1
  rw [mks_eq (by omega), Option.bind_some, isub_i64 (by omega) (by omega)]
  refine Eq.trans h1 ?_
  show (ref04_trim n out).bind _ = _
  rw [rtrim_n h2 (by omega) (by omega), h4, val_dig, Int.toNat_natCast, Int.toNat_natCast]; rfl
end Go.Proofs.YtaiiclbemlmmaaaGreatDoor.D
