/-
  THE ORDER of fractions, and whole parts: plain laws of Lean's rational numbers.
-/
import Derived.Test.YtaanocaobllohaaGreatDoorFrS
namespace Go.Proofs.YtaanocaobllohaaGreatDoor.D
open Go Rt M
theorem c3n (z : Int) : Rat.divInt z 1 = (z : Rat) := by
  obtain ⟨e1, e2⟩ := b1r (p := z) (q := 1) (by decide)
  rw [show (1 : Int).natAbs = 1 from rfl, Nat.gcd_one_right] at e1 e2
  refine Rat.ext ?_ ?_
  · rw [e1, Rat.num_intCast]; exact Int.ediv_one z
  · rw [Rat.den_intCast]
    have : ((Rat.divInt z 1).den : Int) = 1 := by rw [e2]; rfl
    omega
end Go.Proofs.YtaanocaobllohaaGreatDoor.D
