/-
  The examples of the documentation hold.
-/
import Derived.Test.YtaanocaobllohaaGreatDoorFrB
import Derived.Test.YtaanocaobllohaaGreatDoorMirS
namespace Go.Proofs.YtaanocaobllohaaGreatDoor.D
open Go Rt M
theorem small05 : Ev a9x true := ⟨400, fun n hn => by
  obtain ⟨m, rfl⟩ := Nat.le.dest hn
  rw [Nat.add_comm]
  exact (show a9x (m + 400) = some true by kernel_rfl)⟩
theorem sm01 {k : Nat} {x : Int} (h : -1048576 < x) (h2 : x < 1048576) (hk : 1 ≤ k) : Sm k x := Sm.mono (k := 1) (by unfold Sm; rw [show pw 1 = 1048576 by decide]; omega) hk
theorem c8m {k : Nat} {x : Int} (h : Sm k x) (hk : 1 ≤ k) : SmF k (x : Rat) := ⟨by rw [Rat.num_intCast]; exact h, by rw [Rat.den_intCast]; exact sm01 (by decide) (by decide) hk⟩
end Go.Proofs.YtaanocaobllohaaGreatDoor.D
