/-
  THE REFERENCE's FUNCTIONS, as arithmetic, first part: trimming, digits, what is right, order, sums, differences.
-/
import Derived.Test.YtaiiclbemlmmaaaGreatDoorBigS
import Derived.Test.YtaiiclbemlmmaaaGreatDoorMirR
namespace Go.Proofs.YtaiiclbemlmmaaaGreatDoor.D
open Go Rt M

theorem rtrim_L (n : Nat) (l : List Int) (kont : Int → Option (List Int)) (hl : l.length < 1099511627776) : ∀ (r : Nat) (c : List Int) (m : Nat), c.getLast? ≠ some 0 → l = c ++ List.replicate r 0 → ∀ k, k ≤ r → k < m →
    ref04_trim_L1 n l kont m ((c.length + k : Nat) : Int) = kont (c.length : Int) := by
  intro r c m hc hlc k
  induction k generalizing m with
  | zero =>
    intro _ hm
    obtain ⟨m, rfl⟩ : ∃ m', m = m' + 1 := ⟨m - 1, by omega⟩
    unfold ref04_trim_L1
    rcases List.eq_nil_or_concat c with rfl | ⟨p, d, rfl⟩
    · rfl
    · rw [List.concat_eq_append] at *
      have hd : (d == 0) = false := by simpa using hc
      have e0 : isub .i64 (((p ++ [d]).length + 0 : Nat) : Int) 1 = (p.length : Int) := by rw [isub_i64 (by simp <;> omega) (by rw [hlc] at hl; simp at hl ⊢; try omega)]; simp
      have e1 : decide ((0 : Int) < (((p ++ [d]).length + 0 : Nat) : Int)) = true := by simp <;> omega
      have e2 : ix l (p.length : Int) = some d := by rw [hlc, List.append_assoc]; exact ix_mid p d _ rfl
      rw [e1, e0, e2, cond_true, Option.bind_some, Option.bind_some, hd, cond_false]; rfl
  | succ k ih =>
    intro hk hm
    obtain ⟨m, rfl⟩ : ∃ m', m = m' + 1 := ⟨m - 1, by omega⟩
    have hlen : l.length = c.length + r := by rw [hlc]; simp
    unfold ref04_trim_L1
    have e0 : isub .i64 ((c.length + (k + 1) : Nat) : Int) 1 = ((c.length + k : Nat) : Int) := by rw [isub_i64 (by omega) (by omega)]; omega
    have e1 : decide ((0 : Int) < ((c.length + (k + 1) : Nat) : Int)) = true := by simp; omega
    have e2 : ix l ((c.length + k : Nat) : Int) = some 0 := by
      rw [ix_nat, hlc, List.getElem?_append_right (by omega), show c.length + k - c.length = k by omega, List.getElem?_replicate, if_pos (by omega)]
    rw [e1, e0, e2, cond_true, Option.bind_some, Option.bind_some, show ((0 : Int) == 0) = true from rfl, cond_true]
    exact ih m (by omega) (by omega)
theorem rtrim_n {l : List Int} (hl : InR l) (hlen : l.length < 1099511627776) {n : Nat} (hn : l.length < n) : ref04_trim n l = some (dig (val l).toNat) := by
  obtain ⟨r, hr⟩ := split_dig hl
  have h1 : l.length = (dig (val l).toNat).length + r := by conv => lhs; rw [hr]
                                                            simp
  unfold ref04_trim
  have h2 := rtrim_L n l (fun (nx2 : Int) => (lsl l 0 nx2).bind fun l2 => (app 8 [] l2).bind fun l3 => some l3) hlen r (dig (val l).toNat) n (dig_last _) hr r (Nat.le_refl _) (by omega)
  rw [← h1] at h2
  rw [h2]
  have h3 := lsl_eq (l := l) (p := 0) (q := (dig (val l).toNat).length) (by omega) (by omega)
  rw [show ((0 : Nat) : Int) = 0 from rfl] at h3
  rw [h3, Option.bind_some, List.drop_zero]
  have h4 : ∀ c : List Int, l = c ++ List.replicate r 0 → l.take c.length = c := fun c hc => by rw [hc]; exact List.take_left
  rw [h4 _ hr, app_eq (by simp; omega)]; rfl
theorem made_n {l : List Int} (s : Int) (hl : InR l) (hlen : l.length < 1099511627776) {n : Nat} (hn : l.length < n) : ref04_made n s l = some (if (val l).toNat = 0 then ⟨0, []⟩ else ⟨s, dig (val l).toNat⟩) := by
  unfold ref04_made
  rw [rtrim_n hl hlen hn, Option.bind_some]
  by_cases h : (val l).toNat = 0
  · rw [h, dig_zero, if_pos rfl]; rfl
  · have := List.length_pos_iff.2 (dig_ne h)
    rw [if_neg h, show (((dig (val l).toNat).length : Int) == 0) = false from beq_false_of_ne (by omega), cond_false]
theorem digit_n (n : Nat) (l : List Int) (i : Nat) : ref04_digit n l (i : Int) = some ((l.drop i).headD 0) := by
  unfold ref04_digit
  by_cases h : i < l.length
  · rw [show decide ((i : Int) < (l.length : Int)) = true by simpa using h, cond_true, ix_nat, List.getElem?_eq_getElem h, Option.bind_some, List.drop_eq_getElem_cons h]; rfl
  · rw [show decide ((i : Int) < (l.length : Int)) = false by simpa using h, cond_false, List.drop_of_length_le (by omega)]; rfl

/- what is right -/
theorem RRight_L (n : Nat) (a : Big) (kont : Option Bool) (hl : a.Digits.length < 1099511627776) : ∀ (us : List Int) (i m : Nat), a.Digits.drop i = us → us.length < m → ref04_Right_L1 n a kont m (i : Int) = bif us.all okd then kont else some false
  | [], i, m + 1, hd, _ => by
    unfold ref04_Right_L1
    have := drop_nil hd
    rw [show decide ((i : Int) < (a.Digits.length : Int)) = false by simp; omega]; rfl
  | x :: xs, i, m + 1, hd, hm => by
    unfold ref04_Right_L1
    obtain ⟨f1, f2, f3⟩ := drop_cons hd
    rw [show decide ((i : Int) < (a.Digits.length : Int)) = true by simp; omega, cond_true, f1, Option.bind_some]
    have e1 : ((bif decide (x < 0) then some true else (some x).bind fun ex3 => some (decide (1048576 ≤ ex3))) : Option Bool) = some (!okd x) := by
      unfold okd
      by_cases h : x < 0
      · rw [show decide (x < 0) = true by simpa using h, show decide (0 ≤ x) = false by simp; omega]; rfl
      · rw [show decide (x < 0) = false by simpa using h, show decide (0 ≤ x) = true by simp; omega, cond_false, Option.bind_some]
        by_cases h2 : x < 1048576
        · rw [show decide (1048576 ≤ x) = false by simp; omega, show decide (x < 1048576) = true by simpa using h2]; rfl
        · rw [show decide (1048576 ≤ x) = true by simp; omega, show decide (x < 1048576) = false by simpa using h2]; rfl
    rw [e1, Option.bind_some, List.all_cons]
    cases h : okd x with
    | false => rfl
    | true =>
      rw [inc64 (by omega)]
      have := RRight_L n a kont hl xs (i + 1) m f2 (by simpa using hm)
      simpa using this
  | _, _, 0, _, h => by omega
theorem RRight_n {a : Big} (hl : a.Digits.length < 1099511627776) {n : Nat} (hn : a.Digits.length < n) : ref04_Right n a = some (rightb a) := by
  unfold ref04_Right
  have h := fun kont => RRight_L n a kont hl a.Digits 0 n rfl hn
  rw [show ((0 : Nat) : Int) = 0 from rfl] at h
  rw [h]
  unfold rightb
  cases ha : a.Digits.all okd with
  | false => rfl
  | true =>
    rw [cond_true, Bool.true_and]
    rcases List.eq_nil_or_concat a.Digits with h0 | ⟨p, d, h0⟩
    · rw [h0]
      by_cases hs : a.Sign = 0
      · rw [hs]; rfl
      · have : (a.Sign == 0) = false := by simpa using hs
        rw [if_pos rfl, this]
        cases decide (a.Sign < -1) <;> cases decide (1 < a.Sign) <;> rfl
    · rw [List.concat_eq_append] at h0
      have hne : a.Digits ≠ [] := by rw [h0]; simp
      have e1 : ((a.Digits.length : Int) == 0) = false := by rw [h0]; simp; omega
      have e2 : isub .i64 (a.Digits.length : Int) 1 = (p.length : Int) := by rw [isub_i64 (by omega) (by omega), h0]; simp
      have e3 : ix a.Digits (p.length : Int) = some d := by rw [h0]; exact ix_mid p d [] rfl
      rw [e1, cond_false, if_neg hne, e2, e3]
      have e4 : a.Digits.getLast?.getD 0 = d := by rw [h0]; simp
      rw [e4]
      by_cases h1 : a.Sign < -1
      · rw [show decide (a.Sign < -1) = true by simpa using h1, show (a.Sign == 1) = false by simp; omega, show (a.Sign == -1) = false by simp; omega]; rfl
      · rw [show decide (a.Sign < -1) = false by simpa using h1]
        by_cases h2 : 1 < a.Sign
        · rw [show decide (1 < a.Sign) = true by simpa using h2, show (a.Sign == 1) = false by simp; omega, show (a.Sign == -1) = false by simp; omega]; rfl
        · rw [show decide (1 < a.Sign) = false by simpa using h2]
          have : a.Sign = -1 ∨ a.Sign = 0 ∨ a.Sign = 1 := by omega
          rcases this with h | h | h <;> rw [h] <;> rfl
end Go.Proofs.YtaiiclbemlmmaaaGreatDoor.D
