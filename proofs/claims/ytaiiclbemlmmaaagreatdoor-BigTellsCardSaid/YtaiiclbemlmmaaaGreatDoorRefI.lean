/-
  THE REFERENCE's FUNCTIONS, as arithmetic, ninth part: the text.
-/
import Derived.Test.YtaiiclbemlmmaaaGreatDoorRefH
import Derived.Test.YtaiiclbemlmmaaaGreatDoorBigY
namespace Go.Proofs.YtaiiclbemlmmaaaGreatDoor.D
open Go Rt M

theorem tenth_acc {r X : Nat} (hr : r < 10) (hX : X < 1048576) : iadd .i64 (imul .i64 (r : Int) 1048576) (X : Int) = ((X + 1048576 * r : Nat) : Int) := by
  have h1 : imul .i64 (r : Int) 1048576 = (r : Int) * 1048576 := imul_i64 (by omega) (by omega)
  rw [h1]
  have h2 : iadd .i64 ((r : Int) * 1048576) (X : Int) = (r : Int) * 1048576 + (X : Int) := iadd_i64 (by omega) (by omega)
  rw [h2]; omega
theorem tenth_lt {r X : Nat} (hr : r < 10) (hX : X < 1048576) : X + 1048576 * r < 10485760 := by omega
theorem tenth_quo {R : Nat} (h : R < 10485760) : R / 10 < 1048576 := by omega
theorem tenth_L (n : Nat) (l : List Int) (kont : Int → List Int → Option (List Int × Int)) (hl : InR l) (hla : l.length < 536870800) : ∀ (i m : Nat) (H : Nat) (qs : List Int),
    i ≤ l.length → i < m → val (l.drop i) = H → InR qs → qs.length = l.length - i → val qs = ((H / 10 : Nat) : Int) →
    ∃ out, ref04_tenth_L1 n l kont m ((H % 10 : Nat) : Int) ((i : Int) - 1) (List.replicate i 0 ++ qs) = kont (((val l).toNat % 10 : Nat) : Int) out ∧ InR out ∧ out.length = l.length ∧ val out = (((val l).toNat / 10 : Nat) : Int)
  | 0, m + 1, H, qs, _, _, hH, hq, hql, hqv => by
    refine ⟨qs, ?_, hq, by omega, ?_⟩
    · unfold ref04_tenth_L1
      rw [show decide ((0 : Int) ≤ ((0 : Nat) : Int) - 1) = false by decide, cond_false]
      rw [List.drop_zero] at hH
      rw [hH]; rfl
    · rw [List.drop_zero] at hH
      rw [hqv, hH]; rfl
  | i + 1, m + 1, H, qs, hi, hm, hH, hq, hql, hqv => by
    unfold ref04_tenth_L1
    have hia : i < l.length := by omega
    have hxr := hl l[i] (List.getElem_mem hia)
    have hvd := val_drop l i
    rw [List.drop_eq_getElem_cons hia] at hvd
    simp only [List.headD_cons] at hvd
    rw [← List.drop_eq_getElem_cons hia] at hvd
    rw [show ((i + 1 : Nat) : Int) - 1 = (i : Int) by omega, show decide (0 ≤ (i : Int)) = true by simp, cond_true, ix_nat, List.getElem?_eq_getElem hia, Option.bind_some]
    generalize l[i] = x at *
    obtain ⟨X, rfl⟩ := Int.eq_ofNat_of_zero_le hxr.1
    have hX : X < 1048576 := Int.ofNat_lt.1 hxr.2
    have hmod := Nat.mod_lt H (show 10 > 0 by decide)
    have hR : X + 1048576 * (H % 10) < 10485760 := tenth_lt hmod hX
    obtain ⟨s1, s2⟩ := over_step (x := X) (H := H) (b := 10) (by decide)
    have ev := tenth_acc (r := H % 10) (X := X) hmod hX
    have e1 : List.replicate (i + 1) (0 : Int) ++ qs = List.replicate i 0 ++ 0 :: qs := by rw [List.replicate_succ', List.append_assoc]; rfl
    have hq10 : (X + 1048576 * (H % 10)) / 10 < 1048576 := tenth_quo hR
    have hv2 : val (l.drop i) = ((X + 1048576 * H : Nat) : Int) := by rw [hvd, hH]; clear s1 s2 hq10; omega
    have hv3 : val ((((X + 1048576 * (H % 10)) / 10 : Nat) : Int) :: qs) = (((X + 1048576 * H) / 10 : Nat) : Int) := by
      rw [s1]; simp only [val]; rw [hqv]; clear s1 s2 hvd hH; generalize (X + 1048576 * (H % 10)) / 10 = u at *; generalize H / 10 = v at *; omega
    have hlq : ((((X + 1048576 * (H % 10)) / 10 : Nat) : Int) :: qs).length = l.length - i := by rw [List.length_cons, hql]; clear s1 s2 hvd hH; omega
    have hnext := tenth_L n l kont hl hla i m (X + 1048576 * H) ((((X + 1048576 * (H % 10)) / 10 : Nat) : Int) :: qs) (by clear s1 s2 hvd hH; omega) (by clear s1 s2 hvd hH; omega) hv2 (InR.cons (Int.natCast_nonneg _) (Int.ofNat_lt.2 hq10) hq) hlq hv3
    obtain ⟨out, h4, h5, h6, h7⟩ := hnext
    refine ⟨out, ?_, h5, h6, h7⟩
    rw [s2] at h4
    rw [ev]
    clear s1 s2 hvd hH hv2 hv3 hq10 hlq ev hmod
    generalize X + 1048576 * (H % 10) = R at *
    have e2 : ix (List.replicate (i + 1) (0 : Int) ++ qs) (i : Int) = some 0 := by rw [e1]; exact ix_mid _ _ _ (by simp)
    have e3 : lset (List.replicate (i + 1) (0 : Int) ++ qs) (i : Int) ((R / 10 : Nat) : Int) = some (List.replicate i 0 ++ ((R / 10 : Nat) : Int) :: qs) := by rw [e1]; exact lset_mid _ _ _ _ (by simp)
    have q1 : quo .i64 (R : Int) 10 = some ((R / 10 : Nat) : Int) := by rw [quo_i64 (by omega) (by omega) (by decide)]; congr 1
    have q2 : rem (R : Int) 10 = some ((R % 10 : Nat) : Int) := by rw [rem_pos (by omega) (by decide)]; congr 1
    rw [q1, Option.bind_some, e2, Option.bind_some, e3, Option.bind_some, q2, Option.bind_some, isub_i64 (by omega) (by omega)]
    exact h4
  | _, 0, _, _, _, h, _, _, _, _ => by omega
theorem tenth_n {v n : Nat} (hl : (dig v).length < 536870800) (hn : (dig v).length + 2 < n) : ref04_tenth n (dig v) = some (dig (v / 10), ((v % 10 : Nat) : Int)) := by
  unfold ref04_tenth
  obtain ⟨out, h1, h2, h3, h4⟩ := tenth_L n (dig v) (fun (rx2 : Int) (l4 : List Int) => (ref04_trim n l4).bind fun v1 => some (v1, rx2)) (InR_dig v) hl (dig v).length n 0 [] (Nat.le_refl _) (by omega) (by rw [val_past (Nat.le_refl _)]; rfl) InR.nil (by simp) (by rw [Nat.zero_div]; rfl)
  rw [List.append_nil] at h1
  rw [mks_eq (by omega), Option.bind_some, isub_i64 (by omega) (by omega)]
  refine Eq.trans h1 ?_
  show (ref04_trim n out).bind _ = _
  rw [rtrim_n h2 (by omega) (by omega), h4, val_dig, Int.toNat_natCast, Int.toNat_natCast]; rfl
theorem one_digit (r : Nat) (h : r < 10) : ssl [48, 49, 50, 51, 52, 53, 54, 55, 56, 57] (r : Int) (iadd .i64 (r : Int) 1) = some [c8 r] := by
  rw [iadd_i64 (by omega) (by omega)]
  match r, h with
  | 0, _ => rfl
  | 1, _ => rfl
  | 2, _ => rfl
  | 3, _ => rfl
  | 4, _ => rfl
  | 5, _ => rfl
  | 6, _ => rfl
  | 7, _ => rfl
  | 8, _ => rfl
  | 9, _ => rfl
  | r + 10, h => omega
/-- the decimal digits, none for 0 -/
def dcs (v : Nat) : Bs := if v = 0 then [] else Lib.decDigits v
theorem dcs_step {v : Nat} (h : v ≠ 0) : dcs v = dcs (v / 10) ++ [c8 v] := by
  unfold dcs
  rw [if_neg h]
  by_cases h1 : v < 10
  · rw [if_pos (by omega), dec_small h1]; rfl
  · rw [if_neg (by omega), dec_big (v := v) (by omega)]
theorem RText_L (n : Nat) (kont : Bs → Option Bs) (v : Nat) : ∀ (m : Nat) (s : Bs), (dig v).length < 536870800 → (dig v).length + 2 < n → (dcs v).length < m → (dcs v).length + s.length < 1099511627776 →
    ref04_Text_L1 n kont m s (dig v) = kont (dcs v ++ s) := by
  induction v using Nat.strongRecOn with
  | ind v ih =>
    intro m s h1 h2 h3 h4
    obtain ⟨m, rfl⟩ : ∃ m', m = m' + 1 := ⟨m - 1, by omega⟩
    unfold ref04_Text_L1
    by_cases h : v = 0
    · subst h
      rw [dig_zero]; rfl
    · have hc := dcs_step h
      rw [hc] at h3 h4 ⊢
      simp only [List.length_append, List.length_singleton] at h3 h4
      have hlv : 0 < (dig v).length := List.length_pos_iff.2 (dig_ne h)
      have hm := len_mono (Nat.div_le_self v 10)
      have e8 : c8 (v % 10) = c8 v := by unfold c8; congr 2; omega
      rw [show decide (0 < ((dig v).length : Int)) = true by simp; omega, cond_true, tenth_n h1 h2, Option.bind_some]
      show (ssl [48, 49, 50, 51, 52, 53, 54, 55, 56, 57] ((v % 10 : Nat) : Int) (iadd .i64 ((v % 10 : Nat) : Int) 1)).bind _ = _
      rw [one_digit _ (Nat.mod_lt _ (by decide)), Option.bind_some, e8]
      unfold scat
      rw [if_pos (by simp; omega), Option.bind_some]
      show ref04_Text_L1 n kont m _ (dig (v / 10)) = _
      rw [ih (v / 10) (by omega) m _ (by omega) (by omega) (by omega) (by simp; omega)]
      simp
theorem RText_ev {x : Int} {k : Nat} (h : Sm k x) (hk : k < 1000000) : Ev (fun n => ref04_Text n (toB x)) (txt x) := by
  have hl := len_of_sm h
  have ht := txt_len h
  unfold ref04_Text
  refine Ev.bind (RRight_toB h (by omega)) ?_
  refine Ev.else rfl ?_
  by_cases h0 : x = 0
  · subst h0
    refine Ev.then rfl ((Ev.pure _).eq ?_)
    unfold txt
    rw [if_neg (by omega), show (0 : Int).natAbs = 0 from rfl, dec_small (by decide)]; rfl
  refine Ev.else (by show (sg x == 0) = false; rcases sg_cases x with ⟨a, b⟩ | ⟨a, b⟩ | ⟨a, b⟩ <;> rw [b] <;> first | rfl | exact absurd a h0) ?_
  have hd : dcs x.natAbs = Lib.decDigits x.natAbs := by unfold dcs; rw [if_neg (by omega)]
  have hdl : (Lib.decDigits x.natAbs).length ≤ 7 * k + 2 := by unfold txt at ht; split at ht <;> (try simp only [List.length_cons] at ht) <;> omega
  refine Ev.from (g := fun _ => some (txt x)) (7 * k + 10) (fun n hn => ?_) (Ev.pure _)
  show ref04_Text_L1 n _ n [] (dig x.natAbs) = _
  rw [RText_L n _ x.natAbs n [] (by omega) (by omega) (by rw [hd]; omega) (by rw [hd]; simp; omega), List.append_nil, hd]
  show (bif decide (sg x < 0) then _ else _) = _
  unfold txt
  by_cases hx : x < 0
  · rw [if_pos hx, sg_neg hx]
    unfold scat
    rw [show decide ((-1 : Int) < 0) = true from rfl, cond_true, if_pos (by simp; omega)]; rfl
  · rw [if_neg hx, sg_pos (by omega)]; rfl
end Go.Proofs.YtaiiclbemlmmaaaGreatDoor.D
