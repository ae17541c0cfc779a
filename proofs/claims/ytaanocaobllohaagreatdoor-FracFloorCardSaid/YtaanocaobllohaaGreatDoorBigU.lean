/-
  THE BIG INTEGERS' FUNCTIONS, as arithmetic, third part: ints to and fro.
-/
import Derived.Test.YtaanocaobllohaaGreatDoorBigT
namespace Go.Proofs.YtaanocaobllohaaGreatDoor.D
open Go Rt M

theorem Of_L (n : Nat) (kont : List Int → Option Big) : ∀ (u m : Nat) (acc : List Int), u < 18446744073709551616 → (dig u).length < m → acc.length + (dig u).length < 1099511627776 → big_Of_L1 n kont m (u : Int) acc = kont (acc ++ dig u) := by
  intro u
  induction u using Nat.strongRecOn with
  | ind u ih =>
    intro m acc hu hm ha
    obtain ⟨m, rfl⟩ : ∃ m', m = m' + 1 := ⟨m - 1, by omega⟩
    rw [big_Of_L1_s]
    by_cases h : u = 0
    · subst h
      rw [dig_zero, List.append_nil]; rfl
    · have hd := dig_pos h
      rw [hd] at hm ha
      simp only [List.length_cons] at hm ha
      rw [show decide (0 < (u : Int)) = true by simp; omega, cond_true, iand_masku (by omega) (by omega), wrap_i64 (by omega) (by omega), app_eq (by simp; omega), Option.bind_some, shr_u64, Option.bind_some]
      have e1 : (u : Int) / 1048576 = ((u / 1048576 : Nat) : Int) := by omega
      have e2 : (u : Int) % 1048576 = ((u % 1048576 : Nat) : Int) := by omega
      rw [e1, e2, ih (u / 1048576) (by omega) m _ (by omega) (by omega) (by simp; omega), hd]
      simp
theorem len64 {u : Nat} (h : u < 18446744073709551616) : (dig u).length ≤ 4 := by
  have h1 : Sm 4 (u : Int) := by unfold Sm; rw [Int.natAbs_natCast, show pw 4 = 1208925819614629174706176 by decide]; omega
  have h2 := len_of_sm h1
  rwa [Int.natAbs_natCast] at h2
theorem Of_ev {x : Int} (h1 : -9223372036854775808 ≤ x) (h2 : x ≤ 9223372036854775807) : Ev (fun n => big_Of n x) (toB x) := by
  have hl := len64 (u := x.natAbs) (by omega)
  have hs : ∀ s : Int, Ev (fun n => (big_signed n s (dig x.natAbs)).bind fun v1 => some (⟨v1.Sign, v1.Digits⟩ : Big)) (if x.natAbs = 0 then ⟨0, []⟩ else ⟨s, dig x.natAbs⟩) := fun s =>
    Ev.bind (signed_ev s (by omega)) (Ev.pure _)
  by_cases hx : x < 0
  · refine Ev.from (g := fun n => (big_signed n (-1) (dig x.natAbs)).bind fun v1 => some (⟨v1.Sign, v1.Digits⟩ : Big)) 5 (fun n hn => ?_) ((hs (-1)).eq (signed_toB x rfl (fun _ => (sg_neg hx).symm)))
    unfold big_Of
    rw [show decide (x < 0) = true by simpa using hx, cond_true, Option.bind_some]
    have e : IntKind.u64.wrap (0 - IntKind.u64.wrap x) = (x.natAbs : Int) := by rw [wrapu64, wrapu64]; omega
    show big_Of_L1 n _ n (IntKind.u64.wrap (0 - IntKind.u64.wrap x)) [] = _
    rw [e, Of_L n _ x.natAbs n [] (by omega) (by omega) (by simp; omega), List.nil_append]
  · refine Ev.from (g := fun n => (big_signed n 1 (dig x.natAbs)).bind fun v1 => some (⟨v1.Sign, v1.Digits⟩ : Big)) 5 (fun n hn => ?_) ((hs 1).eq (signed_toB x rfl (fun h => (sg_pos (by omega)).symm)))
    unfold big_Of
    rw [show decide (x < 0) = false by simpa using hx, cond_false, Option.bind_some]
    have e : IntKind.u64.wrap x = (x.natAbs : Int) := by rw [wrapu64]; omega
    show big_Of_L1 n _ n (IntKind.u64.wrap x) [] = _
    rw [e, Of_L n _ x.natAbs n [] (by omega) (by omega) (by simp; omega), List.nil_append]

/- Int -/
theorem shl_u64 {x : Int} {i : Nat} (hi : i ≤ 60) (h0 : 0 ≤ x) (h1 : x * 2 ^ i < 18446744073709551616) : shl .u64 x (i : Int) = some (x * 2 ^ i) := by
  unfold shl
  have h3 : 0 ≤ x * 2 ^ i := Int.mul_nonneg h0 (Int.le_of_lt (Int.pow_pos (by decide)))
  rw [if_neg (by omega), show min (i : Int).toNat IntKind.u64.bits = i by simp [IntKind.bits]; omega, wrapu64]
  congr 1
  omega
theorem ior_u64 {x y : Int} {i : Nat} (h0 : 0 ≤ x) (h1 : x < 2 ^ i) (h2 : 0 ≤ y) (h3 : x + y * 2 ^ i < 18446744073709551616) : ior .u64 x (y * 2 ^ i) = x + y * 2 ^ i := by
  obtain ⟨p, rfl⟩ := Int.eq_ofNat_of_zero_le h0
  obtain ⟨q, rfl⟩ := Int.eq_ofNat_of_zero_le h2
  have h1' : p < 2 ^ i := by have : ((p : Nat) : Int) < ((2 ^ i : Nat) : Int) := by simpa using h1
                             exact Int.ofNat_lt.1 this
  have e : (q : Int) * 2 ^ i = ((2 ^ i * q : Nat) : Int) := by rw [Int.natCast_mul, Int.mul_comm]; simp
  rw [e] at h3 ⊢
  unfold ior
  rw [BitVec.toNat_or, BitVec.toNat_ofInt, BitVec.toNat_ofInt, show IntKind.u64.bits = 64 from rfl]
  have e1 : ((p : Int) % ((2 ^ 64 : Nat) : Int)).toNat = p := by omega
  have e2 : (((2 ^ i * q : Nat) : Int) % ((2 ^ 64 : Nat) : Int)).toNat = 2 ^ i * q := by omega
  rw [e1, e2, Nat.or_comm, ← Nat.two_pow_add_eq_or_of_lt h1', wrapu64]
  omega
theorem pw_two : ∀ i, pw i = 2 ^ (20 * i)
  | 0 => rfl
  | i + 1 => by rw [pw, pw_two i, Nat.mul_add, Int.pow_add, Int.mul_comm]; rfl
theorem Int_L (n : Nat) (a : Big) (kont : Int → Option (Int × Bool)) (hr : InR a.Digits) (h4 : a.Digits.length ≤ 4) : ∀ (us : List Int) (i m : Nat) (u : Int), a.Digits.drop i = us → us.length < m → 0 ≤ u → u < pw i → u < 10376293541461622784 →
    big_Int_L1 n a kont m u (i : Int) = if u + pw i * val us < 10376293541461622784 then kont (u + pw i * val us) else some (0, false)
  | [], i, m + 1, u, hd, _, h0, h1, h2 => by
    have hi : a.Digits.length ≤ i := by simpa using hd
    rw [big_Int_L1_s, show decide ((i : Int) < (a.Digits.length : Int)) = false by simp; omega, cond_false]
    simp only [val, Int.mul_zero, Int.add_zero]
    rw [if_pos h2]
  | d :: us, i, m + 1, u, hd, hm, h0, h1, h2 => by
    obtain ⟨hix, hdt, hi⟩ := drop_cons hd
    have hdr := hr d (List.mem_of_mem_drop (by rw [hd]; simp : d ∈ a.Digits.drop i))
    have hir : InR us := fun e he => hr e (by rw [← List.take_append_drop (i + 1) a.Digits, hdt]; exact List.mem_append_right _ he)
    rw [big_Int_L1_s, show decide ((i : Int) < (a.Digits.length : Int)) = true by simp; omega, cond_true, hix, Option.bind_some]
    have hp := pw_pos i
    have hval : u + pw i * val (d :: us) = (u + d * pw i) + pw (i + 1) * val us := by simp only [val, pw]; grind
    have hvus : 0 ≤ pw (i + 1) * val us := Int.mul_nonneg (Int.le_of_lt (pw_pos _)) (val_nonneg hir)
    have hpi : pw i ≤ pw 3 := pw_mono (by omega)
    rw [show pw 3 = 1152921504606846976 by decide] at hpi
    by_cases h8 : i = 3 ∧ 8 < d
    · obtain ⟨rfl, h8⟩ := h8
      rw [show ((((3 : Nat) : Int)) == 3) = true from rfl, cond_true, Option.bind_some, show decide (8 < d) = true by simpa using h8, cond_true, hval, if_neg]
      rw [show pw 3 = 1152921504606846976 by decide]
      omega
    · have e1 : (bif ((i : Int) == 3) then some (decide (8 < d)) else some false) = some false := by
        by_cases h3 : i = 3
        · subst h3
          rw [show ((((3 : Nat) : Int)) == 3) = true from rfl, cond_true, show decide (8 < d) = false by simp; omega]
        · rw [show ((i : Int) == 3) = false by simp; omega, cond_false]
      rw [e1, Option.bind_some, cond_false]
      have hq : u + d * pw i < 10376293541461622784 := by
        rcases Nat.lt_or_ge i 3 with h3 | h3
        · have h5 : pw (i + 1) ≤ pw 3 := pw_mono (by omega)
          rw [show pw 3 = 1152921504606846976 by decide] at h5
          have h6 : (d + 1) * pw i ≤ 1048576 * pw i := Int.mul_le_mul_of_nonneg_right (by omega) (Int.le_of_lt hp)
          simp only [pw] at h5
          rw [Int.add_mul, Int.one_mul] at h6
          omega
        · have : i = 3 := by omega
          subst this
          rw [show pw 3 = 1152921504606846976 by decide] at h1 ⊢
          omega
      have hq1 : u + d * pw i < pw (i + 1) := by
        have h6 : (d + 1) * pw i ≤ 1048576 * pw i := Int.mul_le_mul_of_nonneg_right (by omega) (Int.le_of_lt hp)
        simp only [pw]
        rw [Int.add_mul, Int.one_mul] at h6
        omega
      have hq0 : 0 ≤ d * pw i := Int.mul_nonneg hdr.1 (Int.le_of_lt hp)
      have e2 : imul .i64 20 (i : Int) = ((20 * i : Nat) : Int) := by rw [imul_i64 (by omega) (by omega)]; omega
      have e3 : IntKind.u64.wrap d = d := by rw [wrapu64]; omega
      rw [e2, e3, shl_u64 (by omega) hdr.1 (by rw [← pw_two]; omega), Option.bind_some, ior_u64 h0 (by rw [← pw_two]; exact h1) hdr.1 (by rw [← pw_two]; omega), ← pw_two]
      have e4 : iadd .i64 (i : Int) 1 = ((i + 1 : Nat) : Int) := by rw [iadd_i64 (by omega) (by omega)]; omega
      rw [e4, Int_L n a kont hr h4 us (i + 1) m (u + d * pw i) hdt (by simp only [List.length_cons] at hm; omega) (by omega) hq1 hq, hval]
theorem Int_ev {x : Int} {k : Nat} (h : Sm k x) (hk : k < 1099511627776) : Ev (fun n => big_Int n (toB x)) (if -9223372036854775808 ≤ x ∧ x ≤ 9223372036854775807 then (x, true) else (0, false)) := by
  unfold big_Int
  refine Ev.bind (Right_toB h hk) ?_
  by_cases hl : (dig x.natAbs).length ≤ 4
  · refine Ev.bind (a := false) (Ev.else rfl ((Ev.pure _).eq (by show decide (4 < ((dig x.natAbs).length : Int)) = false; simp; omega))) ?_
    refine Ev.else rfl ?_
    refine Ev.from (g := fun _ => some (if -9223372036854775808 ≤ x ∧ x ≤ 9223372036854775807 then (x, true) else (0, false))) 5 (fun n hn => ?_) (Ev.pure _)
    have h1 := Int_L n (toB x) (fun (u2 : Int) =>
      (bif decide ((toB x).Sign < 0) then
        some (decide (u2 ≤ 9223372036854775808))
      else
        some false).bind fun v3 =>
      bif v3 then
        some (IntKind.i64.wrap (IntKind.u64.wrap (0 - u2)), true)
      else
        (bif decide (0 ≤ (toB x).Sign) then
          some (decide (u2 < 9223372036854775808))
        else
          some false).bind fun v4 =>
        bif v4 then
          some (IntKind.i64.wrap u2, true)
        else
          some (0, false)) (InR_dig x.natAbs) hl (dig x.natAbs) 0 n 0 rfl (by omega) (by decide) (by decide) (by decide)
    refine h1.trans ?_
    rw [val_dig, show pw 0 = 1 from rfl, Int.one_mul, Int.zero_add]
    by_cases hb : (x.natAbs : Int) < 10376293541461622784
    · rw [if_pos hb]
      have hsx : (toB x).Sign = sg x := rfl
      rw [hsx]
      rcases sg_cases x with ⟨a, b⟩ | ⟨a, b⟩ | ⟨a, b⟩ <;> rw [b]
      · rw [show decide ((-1 : Int) < 0) = true from rfl, cond_true, Option.bind_some]
        by_cases hc : (x.natAbs : Int) ≤ 9223372036854775808
        · rw [show decide ((x.natAbs : Int) ≤ 9223372036854775808) = true by simpa using hc, cond_true, if_pos (by omega)]
          congr 2
          rw [wrap64, wrapu64]; split <;> omega
        · rw [show decide ((x.natAbs : Int) ≤ 9223372036854775808) = false by simpa using hc, cond_false, if_neg (by omega)]; rfl
      · subst a; rfl
      · rw [show decide ((1 : Int) < 0) = false from rfl, cond_false, Option.bind_some, cond_false, show decide ((0 : Int) ≤ 1) = true from rfl, cond_true, Option.bind_some]
        by_cases hc : (x.natAbs : Int) < 9223372036854775808
        · rw [show decide ((x.natAbs : Int) < 9223372036854775808) = true by simpa using hc, cond_true, if_pos (by omega)]
          congr 2
          rw [wrap_i64 (by omega) (by omega)]; omega
        · rw [show decide ((x.natAbs : Int) < 9223372036854775808) = false by simpa using hc, cond_false, if_neg (by omega)]
    · rw [if_neg hb, if_neg (by omega)]
  · refine Ev.bind (a := true) (Ev.else rfl ((Ev.pure _).eq (by show decide (4 < ((dig x.natAbs).length : Int)) = true; simp; omega))) ?_
    refine Ev.then rfl ((Ev.pure _).eq ?_)
    rw [if_neg]
    intro hx
    exact hl (len64 (by omega))
end Go.Proofs.YtaanocaobllohaaGreatDoor.D
