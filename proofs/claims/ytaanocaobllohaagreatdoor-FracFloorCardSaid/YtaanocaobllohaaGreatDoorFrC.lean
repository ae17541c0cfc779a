/-
  THE ORDER of fractions, and whole parts: plain laws of Lean's rational numbers.
-/
import Derived.Test.YtaanocaobllohaaGreatDoorFrS
namespace Go.Proofs.YtaanocaobllohaaGreatDoor.D
open Go Rt M

theorem cmpQ_range (a b : Rat) : -1 ≤ cmpQ a b ∧ cmpQ a b ≤ 1 := sg_range _
theorem cmpQ_congr {a b c d : Rat} (h1 : a < b ↔ c < d) (h2 : b < a ↔ d < c) : cmpQ a b = cmpQ c d := by
  rcases cmpQ_cases a b with ⟨h, e⟩ | ⟨h, e⟩ | ⟨h, e⟩ <;> rw [e]
  · exact (cmpQ_lt (h1.1 h)).symm
  · have n1 : ¬ a < b := by grind
    have n2 : ¬ b < a := by grind
    have : c = d := Rat.le_antisymm (Rat.not_lt.1 (fun h => n2 (h2.2 h))) (Rat.not_lt.1 (fun h => n1 (h1.2 h)))
    rw [this, cmpQ_self]
  · exact (cmpQ_gt (h2.1 h)).symm
theorem cmpQ_swap (a b : Rat) : cmpQ b a = -cmpQ a b := by
  rcases cmpQ_cases a b with ⟨h, e⟩ | ⟨h, e⟩ | ⟨h, e⟩ <;> rw [e]
  · exact cmpQ_gt h
  · rw [h, cmpQ_self]; rfl
  · exact cmpQ_lt h
theorem cmpQ_zero (a b : Rat) : (cmpQ a b == 0) = decide (a = b) := by
  rcases cmpQ_cases a b with ⟨h, e⟩ | ⟨h, e⟩ | ⟨h, e⟩ <;> rw [e]
  · rw [decide_eq_false (by grind)]; rfl
  · rw [decide_eq_true h]; rfl
  · rw [decide_eq_false (by grind)]; rfl
theorem cmpQ_le (a b : Rat) : cmpQ a b ≤ 0 ↔ a ≤ b := by
  rcases cmpQ_cases a b with ⟨h, e⟩ | ⟨h, e⟩ | ⟨h, e⟩ <;> rw [e]
  · exact ⟨fun _ => Rat.le_of_lt h, fun _ => by decide⟩
  · exact ⟨fun _ => by rw [h]; exact Rat.le_refl, fun _ => by decide⟩
  · exact ⟨fun h2 => absurd h2 (by decide), fun h2 => absurd h (Rat.not_lt.2 h2)⟩
theorem wrap_neg (a b : Rat) : IntKind.i64.wrap (0 - cmpQ a b) = -cmpQ a b := by
  have := cmpQ_range a b
  rw [wrap_i64 (by omega) (by omega)]; omega
theorem sg_num (r : Rat) : sg r.num = cmpQ r 0 := by
  unfold cmpQ
  congr 1
  show r.num = r.num * 1 - 0 * r.den
  omega
theorem sg_sub (a b : Rat) : sg (a - b).num = cmpQ a b := by
  rw [sg_num]
  exact cmpQ_congr (by grind) (by grind)
theorem cmpQ_add (a b c : Rat) : cmpQ (a + c) (b + c) = cmpQ a b := cmpQ_congr (by grind) (by grind)
theorem cmpQ_neg (a b : Rat) : cmpQ (-a) (-b) = -cmpQ a b := by
  rw [← cmpQ_swap]
  exact cmpQ_congr (by grind) (by grind)
theorem cmpQ_mul (a b c : Rat) : cmpQ (a * c) (b * c) = cmpQ a b * sg c.num := by
  rw [sg_num]
  rcases cmpQ_cases c 0 with ⟨h, e⟩ | ⟨h, e⟩ | ⟨h, e⟩ <;> rw [e]
  · have hc : 0 < -c := by grind
    rw [show cmpQ a b * -1 = -cmpQ a b by omega, ← cmpQ_swap]
    have k1 := Rat.mul_lt_mul_right (a := a) (b := b) hc
    have k2 := Rat.mul_lt_mul_right (a := b) (b := a) hc
    rw [Rat.mul_neg, Rat.mul_neg, Rat.neg_lt_neg_iff] at k1 k2
    exact cmpQ_congr k2 k1
  · subst h
    rw [Rat.mul_zero, Rat.mul_zero, cmpQ_self]; omega
  · rw [Int.mul_one]
    exact cmpQ_congr (Rat.mul_lt_mul_right h) (Rat.mul_lt_mul_right h)
theorem imul_cmp (a b c : Rat) : imul .i64 (cmpQ a b) (sg c.num) = cmpQ a b * sg c.num := by
  have h1 := cmpQ_range a b
  rcases sg_cases c.num with h | h | h <;> rw [h.2] <;> exact imul_i64 (by omega) (by omega)
theorem divInt_one (z : Int) : Rat.divInt z 1 = (z : Rat) := by
  obtain ⟨e1, e2⟩ := divInt_pos (p := z) (q := 1) (by decide)
  rw [show (1 : Int).natAbs = 1 from rfl, Nat.gcd_one_right] at e1 e2
  refine Rat.ext ?_ ?_
  · rw [e1, Rat.num_intCast]; exact Int.ediv_one z
  · rw [Rat.den_intCast]
    have : ((Rat.divInt z 1).den : Int) = 1 := by rw [e2]; rfl
    omega
theorem floor_unique {r : Rat} {z : Int} (h1 : (z : Rat) ≤ r) (h2 : r < (z : Rat) + 1) : r.floor = z := by
  have a1 := Rat.floor_monotone h1
  rw [Rat.floor_intCast] at a1
  have a2 : r.floor < z + 1 := Rat.floor_lt_iff.2 (by rw [Rat.intCast_add]; exact h2)
  omega
end Go.Proofs.YtaanocaobllohaaGreatDoor.D
