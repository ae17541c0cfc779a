/-
  THE BIG INTEGERS' FUNCTIONS, as arithmetic, fifth part: what is read.
-/
import Derived.Test.YtaanocaobllohaaGreatDoorBigY
namespace Go.Proofs.YtaanocaobllohaaGreatDoor.D
open Go Rt M

def tens : Bs := [48, 49, 50, 51, 52, 53, 54, 55, 56, 57]
theorem tens_isd (b : UInt8) : tens.contains b = isd b := by
  have h : ∀ n, n < 256 → tens.contains (UInt8.ofNat n) = isd (UInt8.ofNat n) := by decide +kernel
  have := h b.toNat (UInt8.toNat_lt b)
  rwa [UInt8.ofNat_toNat] at this
theorem asc (n : Nat) (b : UInt8) : asciiSet_contains n tens (b.toNat : Int) = some (isd b) := by
  unfold asciiSet_contains
  have := UInt8.toNat_lt b
  rw [if_pos ⟨by omega, by omega⟩, Int.toNat_natCast, UInt8.ofNat_toNat, tens_isd]
theorem trimR_L (n : Nat) (kont : Bs → Option Bs) : ∀ (k : Nat) (s : Bs) (m : Nat), s.length ≤ k → k < m → s.length < 1099511627776 →
    ∃ s', MT.strings_trimRightASCII_L1 n tens kont m s = kont s' ∧ s'.all isd = s.all isd ∧ (s.all isd = true → s' = []) ∧ s'.length ≤ s.length := by
  intro k
  induction k with
  | zero =>
    intro s m h1 h2 h3
    obtain ⟨m, rfl⟩ : ∃ m', m = m' + 1 := ⟨m - 1, by omega⟩
    obtain rfl : s = [] := List.length_eq_zero_iff.1 (by omega)
    exact ⟨[], rfl, rfl, fun _ => rfl, by omega⟩
  | succ k ih =>
    intro s m h1 h2 h3
    obtain ⟨m, rfl⟩ : ∃ m', m = m' + 1 := ⟨m - 1, by omega⟩
    rcases List.eq_nil_or_concat s with rfl | ⟨p, b, rfl⟩
    · exact ⟨[], rfl, rfl, fun _ => rfl, by omega⟩
    rw [List.concat_eq_append] at *
    simp only [List.length_append, List.length_singleton] at h1 h3
    unfold MT.strings_trimRightASCII_L1
    rw [show decide (0 < ((p ++ [b]).length : Int)) = true by simp <;> omega, cond_true, isub_i64 (by simp <;> omega) (by simp <;> omega), show ((p ++ [b]).length : Int) - 1 = (p.length : Int) by simp]
    have e1 : sidx (p ++ [b]) (p.length : Int) = some (b.toNat : Int) := by unfold sidx; rw [if_pos (by omega)]; simp
    rw [e1, Option.bind_some, asc, Option.bind_some]
    cases hb : isd b with
    | false => exact ⟨p ++ [b], rfl, rfl, fun h => by simp [hb] at h, by omega⟩
    | true =>
      have e2 : ssl (p ++ [b]) 0 (p.length : Int) = some p := by unfold ssl; rw [if_pos ⟨by omega, by omega, by simp <;> omega⟩]; simp
      rw [show (bif !true then kont (p ++ [b]) else (ssl (p ++ [b]) 0 (p.length : Int)).bind fun t1 => MT.strings_trimRightASCII_L1 n tens kont m t1) = MT.strings_trimRightASCII_L1 n tens kont m p by rw [e2]; rfl]
      obtain ⟨s', h4, h5, h6, h7⟩ := ih p m (by omega) (by omega) (by omega)
      have e3 : (p ++ [b]).all isd = p.all isd := by rw [List.all_append]; simp [hb]
      exact ⟨s', h4, by rw [e3, h5], by rw [e3]; exact h6, by simp; omega⟩
theorem trimL_L (n : Nat) (kont : Bs → Option Bs) : ∀ (s : Bs) (m : Nat), s.length < m →
    ∃ s', MT.strings_trimLeftASCII_L1 n tens kont m s = kont s' ∧ (s' == []) = s.all isd
  | [], m + 1, _ => ⟨[], rfl, rfl⟩
  | b :: s, m + 1, h => by
    unfold MT.strings_trimLeftASCII_L1
    rw [show decide (0 < ((b :: s).length : Int)) = true by simp <;> omega, cond_true]
    have e1 : sidx (b :: s) 0 = some (b.toNat : Int) := by unfold sidx; rw [if_pos (by omega)]; simp
    rw [e1, Option.bind_some, asc, Option.bind_some]
    cases hb : isd b with
    | false => exact ⟨b :: s, rfl, by simp [hb]⟩
    | true =>
      have e2 : ssl (b :: s) 1 ((b :: s).length : Int) = some s := by unfold ssl; rw [if_pos ⟨by omega, by simp; omega, by omega⟩]; simp
      rw [show (bif !true then kont (b :: s) else (ssl (b :: s) 1 ((b :: s).length : Int)).bind fun t1 => MT.strings_trimLeftASCII_L1 n tens kont m t1) = MT.strings_trimLeftASCII_L1 n tens kont m s by rw [e2]; rfl]
      obtain ⟨s', h4, h5⟩ := trimL_L n kont s m (by simp at h; omega)
      exact ⟨s', h4, by rw [h5]; simp [hb]⟩
theorem Trim_n {t : Bs} (ht : t ≠ []) (hl : t.length < 1099511627776) {n : Nat} (hn : t.length < n) : ∃ r, strings_Trim n t tens = some r ∧ (r == []) = t.all isd := by
  obtain ⟨s1, h1, h2, h3, h4⟩ := trimR_L n (fun s3 => some s3) t.length t n (by omega) hn hl
  obtain ⟨s2, h5, h6⟩ := trimL_L n (fun s3 => some s3) s1 n (by omega)
  refine ⟨s2, ?_, by rw [h6, h2]⟩
  unfold strings_Trim
  have e0 : (decide (2 ≤ tens.length) && (decide (tens.length < 4294967281) && tens.all fun b => decide (b.toNat < 128))) = true := by decide +kernel
  have e3 : (t == []) = false := by cases t with
    | nil => exact absurd rfl ht
    | cons b t => rfl
  have e1 : MT.strings_trimRightASCII n t tens = some s1 := by unfold MT.strings_trimRightASCII; exact h1
  have e2 : MT.strings_trimLeftASCII n s1 tens = some s2 := by unfold MT.strings_trimLeftASCII; exact h5
  rw [e3, e0, e1]
  show (MT.strings_trimLeftASCII n s1 tens).bind _ = _
  rw [e2]; rfl

/- what digits are worth -/
def ten1 (v : Nat) (b : UInt8) : Nat := 10 * v + (b.toNat - 48)
def dv (v : Nat) (l : Bs) : Nat := l.foldl ten1 v
theorem dv_nil (v : Nat) : dv v [] = v := rfl
theorem dv_cons (v : Nat) (b : UInt8) (l : Bs) : dv v (b :: l) = dv (ten1 v b) l := by unfold dv; rw [List.foldl_cons]
theorem dv_append (l m : Bs) (v : Nat) : dv v (l ++ m) = dv (dv v l) m := by unfold dv; rw [List.foldl_append]
theorem dv_dec (u : Nat) : dv 0 (Lib.decDigits u) = u := by
  induction u using Nat.strongRecOn with
  | ind u ih =>
    have e := c8_nat u
    by_cases h : u < 10
    · rw [dec_small h, dv_cons, dv_nil]; unfold ten1; omega
    · rw [dec_big (v := u) (by omega), dv_append, ih (u / 10) (by omega), dv_cons, dv_nil]; unfold ten1; omega
theorem dv_le (l : Bs) : ∀ (v : Nat), v ≤ dv v l := by
  induction l with
  | nil => intro v; rw [dv_nil]; exact Nat.le_refl v
  | cons b l ih => intro v; rw [dv_cons]; have := ih (ten1 v b); unfold ten1 at *; omega
theorem dv_lt (l : Bs) : ∀ (v : Nat), l.all isd = true → dv v l < (v + 1) * 16 ^ l.length := by
  induction l with
  | nil => intro v _; rw [dv_nil, List.length_nil, Nat.pow_zero]; omega
  | cons b l ih =>
    intro v h
    simp only [List.all_cons, Bool.and_eq_true] at h
    have h1 := ih (ten1 v b) h.2
    have h2 : b.toNat ≤ 57 := by have := h.1; simp only [isd, Bool.and_eq_true, decide_eq_true_eq] at this; exact this.2
    have h3 : (ten1 v b + 1) * 16 ^ l.length ≤ ((v + 1) * 16) * 16 ^ l.length := Nat.mul_le_mul_right _ (by unfold ten1; omega)
    rw [dv_cons, List.length_cons, Nat.pow_succ, Nat.mul_comm (16 ^ l.length) 16, ← Nat.mul_assoc]
    exact Nat.lt_of_lt_of_le h1 h3
theorem dec_dv (b : UInt8) (hb : isd b = true) (hb0 : b ≠ 48) : ∀ (k : Nat) (l : Bs), l.length ≤ k → l.all isd = true → Lib.decDigits (dv 0 (b :: l)) = b :: l := by
  have hbn : 48 ≤ b.toNat ∧ b.toNat ≤ 57 := by simpa [isd] using hb
  have hbz : b.toNat ≠ 48 := fun e => hb0 (UInt8.toNat_inj.1 e)
  have hc : ∀ (c : UInt8) (v : Nat), isd c = true → c8 (ten1 v c) = c := by
    intro c v h
    have h1 : 48 ≤ c.toNat ∧ c.toNat ≤ 57 := by simpa [isd] using h
    apply UInt8.toNat_inj.1
    rw [c8_nat]; unfold ten1; omega
  intro k
  induction k with
  | zero =>
    intro l h1 _
    obtain rfl : l = [] := List.length_eq_zero_iff.1 (by omega)
    rw [dv_cons, dv_nil]
    rw [dec_small (by unfold ten1; omega), hc b 0 hb]
  | succ k ih =>
    intro l h1 h2
    rcases List.eq_nil_or_concat l with rfl | ⟨p, c, rfl⟩
    · exact ih [] (by simp) rfl
    rw [List.concat_eq_append] at *
    rw [List.all_append, Bool.and_eq_true] at h2
    have h3 : isd c = true := by simpa using h2.2
    have h4 := ih p (by simp at h1; omega) h2.1
    have h5 : dv 0 (b :: (p ++ [c])) = ten1 (dv 0 (b :: p)) c := by rw [← List.cons_append, dv_append, dv_cons, dv_nil]
    have h6 : 1 ≤ dv 0 (b :: p) := by
      have := dv_le p (ten1 0 b)
      rw [dv_cons]
      unfold ten1 at *
      omega
    have hcn : 48 ≤ c.toNat ∧ c.toNat ≤ 57 := by simpa [isd] using h3
    rw [h5, dec_big (v := ten1 (dv 0 (b :: p)) c) (by unfold ten1; omega), hc c _ h3, show (ten1 (dv 0 (b :: p)) c) / 10 = dv 0 (b :: p) by unfold ten1; omega, h4]
    rfl
end Go.Proofs.YtaanocaobllohaaGreatDoor.D
