/-
  THE REFERENCE's COMPARING of big integers.
-/
import Derived.Test.YtaanocaobllohaaGreatDoorBigAll
import Derived.Test.YtaanocaobllohaaGreatDoorMirF
namespace Go.Proofs.YtaanocaobllohaaGreatDoor.D
open Go Rt M
theorem c5x (n : Nat) (a b : Big) (kont : Option Bool) (hl : a.Digits.length = b.Digits.length) (hla : a.Digits.length < 1099511627776) : ∀ (us : List Int) (i m : Nat), a.Digits.drop i = us → us.length < m → a4o n a b kont m (i : Int) = bif decide (us = b.Digits.drop i) then kont else some false
  | [], i, m + 1, hd, _ => by
    rw [a7y]
    have := a5j hd
    have hb : b.Digits.drop i = [] := List.drop_eq_nil_of_le (by omega)
    rw [show decide ((i : Int) < (a.Digits.length : Int)) = false by simp; omega, hb]; rfl
  | x :: xs, i, m + 1, hd, hm => by
    rw [a7y]
    obtain ⟨f1, f2, f3⟩ := a2z hd
    have hdb : b.Digits.drop i = b.Digits[i] :: b.Digits.drop (i + 1) := List.drop_eq_getElem_cons (by omega)
    rw [show decide ((i : Int) < (a.Digits.length : Int)) = true by simp; omega, cond_true, f1, Option.bind_some, (a2z hdb).1, Option.bind_some, hdb]
    by_cases h : x = b.Digits[i]
    · rw [show (x != b.Digits[i]) = false by simp [h], cond_false, b2m (by omega), c5x n a b kont hl hla xs (i + 1) m f2 (by simpa using hm), c3x, show decide (x = b.Digits[i]) = true by simpa using h, Bool.true_and]
    · rw [show (x != b.Digits[i]) = true by simpa using h, cond_true, c3x, show decide (x = b.Digits[i]) = false by simpa using h]; rfl
  | _, _, 0, _, h => by omega
theorem b9i {a b : Big} (hl : a.Digits.length < 1099511627776) : Ev (fun n => a5i n a b) (decide (a = b)) := by
  unfold a5i
  obtain ⟨s, l⟩ := a
  obtain ⟨t, k⟩ := b
  by_cases h : s = t
  · subst h
    by_cases hlen : l.length = k.length
    · refine Ev.step (a := false) (by simp [hlen]) ?_
      refine Ev.else rfl ⟨l.length + 1, fun n hn => ?_⟩
      have h1 := c5x n ⟨s, l⟩ ⟨s, k⟩ (some true) hlen hl l 0 n rfl (by omega)
      rw [show ((0 : Nat) : Int) = 0 from rfl, List.drop_zero] at h1
      dsimp only at h1 ⊢
      rw [h1]
      by_cases h2 : l = k
      · simp [h2]
      · simp [h2]
    · refine Ev.step (a := true) (by simp; omega) ?_
      have : l ≠ k := fun e => hlen (by rw [e])
      exact Ev.then rfl ((Ev.pure _).eq (by simp [this]))
  · refine Ev.step (a := true) (by rw [show (s != t) = true by simpa using h, cond_true]) ?_
    exact Ev.then rfl ((Ev.pure _).eq (by simp [h]))
end Go.Proofs.YtaanocaobllohaaGreatDoor.D
