/-
  THE REFERENCE's FUNCTIONS, as arithmetic, seventh part: the greatest common divisor, the order, ints.
-/
import Derived.Test.YtaiiclbemlmmaaaGreatDoorRefF
namespace Go.Proofs.YtaiiclbemlmmaaaGreatDoor.D
open Go Rt M

theorem RGcd_L (v : Nat) : ∀ (u : Nat), (dig u).length < 16777216 → (dig v).length < 16777216 → ∃ N, ∀ n, N ≤ n → ∀ (kont : List Int → Option (Big × Int)) m, v < m → ref04_Gcd_L1 n kont m (dig u) (dig v) = kont (dig (Nat.gcd u v)) := by
  induction v using Nat.strongRecOn with
  | ind v ih =>
    intro u hu hv
    by_cases h : v = 0
    · subst h
      refine ⟨0, fun n _ kont m hm => ?_⟩
      obtain ⟨m, rfl⟩ : ∃ m', m = m' + 1 := ⟨m - 1, by omega⟩
      rw [dig_zero, Nat.gcd_zero_right]; rfl
    · have hlt := Nat.mod_lt u (show v > 0 by omega)
      obtain ⟨N1, h1⟩ := over_nat u v h (by omega) (by omega)
      obtain ⟨N2, h2⟩ := ih (u % v) hlt v hv (by have := len_mono (Nat.le_of_lt hlt); omega)
      refine ⟨max N1 N2, fun n hn kont m hm => ?_⟩
      obtain ⟨m, rfl⟩ : ∃ m', m = m' + 1 := ⟨m - 1, by omega⟩
      have h3 : 0 < (dig v).length := List.length_pos_iff.2 (dig_ne h)
      unfold ref04_Gcd_L1
      rw [show decide (0 < ((dig v).length : Int)) = true by simp; omega, cond_true, (show ref04_over n (dig u) (dig v) = _ from h1 n (by omega)), Option.bind_some]
      show ref04_Gcd_L1 n kont m (dig v) (dig (u % v)) = _
      rw [h2 n (by omega) kont m (by omega), Nat.gcd_comm v, ← Nat.gcd_rec, Nat.gcd_comm]
theorem RGcd_ev {x y : Int} {k : Nat} (hx : Sm k x) (hy : Sm k y) (hk : k < 8388608) : Ev (fun n => ref04_Gcd n (toB x) (toB y)) (toB (Nat.gcd x.natAbs y.natAbs : Nat), 0) := by
  have lx := len_of_sm hx
  have ly := len_of_sm hy
  unfold ref04_Gcd
  refine Ev.bind (RRight_toB hx (by omega)) ?_
  refine Ev.bind (a := false) (Ev.else rfl (Ev.bind (RRight_toB hy (by omega)) (Ev.pure _))) ?_
  refine Ev.else rfl ?_
  obtain ⟨N, hN⟩ := RGcd_L y.natAbs x.natAbs (by omega) (by omega)
  have lg : (dig (Nat.gcd x.natAbs y.natAbs)).length ≤ k := by
    rcases Nat.eq_zero_or_pos x.natAbs with h | h
    · rw [h, Nat.gcd_zero_left]; exact ly
    · exact Nat.le_trans (len_mono (Nat.gcd_le_left _ h)) lx
  refine Ev.from (g := fun n => (ref04_made n 1 (dig (Nat.gcd x.natAbs y.natAbs))).bind fun v3 => some ((⟨v3.Sign, v3.Digits⟩ : Big), (0 : Int))) (max N (y.natAbs + 1)) (fun n hn => hN n (by omega) _ n (by omega)) ?_
  exact Ev.bind (made_toB (by omega) ((Nat.gcd x.natAbs y.natAbs : Nat) : Int) (Int.natAbs_natCast _) (fun h => (sg_pos (by omega)).symm)) (Ev.pure _)
theorem RCompare_ev {x y : Int} {k : Nat} (hx : Sm k x) (hy : Sm k y) (hk : k < 536870912) : Ev (fun n => ref04_Compare n (toB x) (toB y)) (sg (x - y)) := by
  have lx := len_of_sm hx
  have ly := len_of_sm hy
  unfold ref04_Compare
  refine Ev.bind (RRight_toB hx (by omega)) ?_
  refine Ev.bind (a := false) (Ev.else rfl (Ev.bind (RRight_toB hy (by omega)) (Ev.pure _))) ?_
  refine Ev.bind (Ev.else rfl (Ev.bind (RSame_toB (y := y) hx (by omega)) (Ev.pure _))) ?_
  by_cases hxy : x = y
  · exact Ev.then (by simpa using hxy) ((Ev.pure _).eq (by rw [hxy, Int.sub_self]; rfl))
  refine Ev.else (by simpa using hxy) ?_
  show Ev (fun n => bif sg x != sg y then (bif decide (sg x < sg y) then some (-1) else some 1) else (ref04_less n (dig x.natAbs) (dig y.natAbs)).bind fun v4 => bif v4 == decide (0 < sg x) then some (-1) else some 1) (sg (x - y))
  have hless := less_nat x.natAbs y.natAbs (by omega) (by omega)
  rcases sg_cases x with ⟨a, b⟩ | ⟨a, b⟩ | ⟨a, b⟩ <;> rcases sg_cases y with ⟨c, d⟩ | ⟨c, d⟩ | ⟨c, d⟩ <;> rw [b, d]
  · refine Ev.else rfl (Ev.bind hless ?_)
    by_cases h : x.natAbs < y.natAbs
    · rw [decide_eq_true h, sg_pos (by omega)]; exact Ev.pure _
    · rw [decide_eq_false h, sg_neg (by omega)]; exact Ev.pure _
  · rw [sg_neg (by omega)]; exact Ev.pure _
  · rw [sg_neg (by omega)]; exact Ev.pure _
  · rw [sg_pos (by omega)]; exact Ev.pure _
  · omega
  · rw [sg_neg (by omega)]; exact Ev.pure _
  · rw [sg_pos (by omega)]; exact Ev.pure _
  · rw [sg_pos (by omega)]; exact Ev.pure _
  · refine Ev.else rfl (Ev.bind hless ?_)
    by_cases h : x.natAbs < y.natAbs
    · rw [decide_eq_true h, sg_neg (by omega)]; exact Ev.pure _
    · rw [decide_eq_false h, sg_pos (by omega)]; exact Ev.pure _
end Go.Proofs.YtaiiclbemlmmaaaGreatDoor.D
