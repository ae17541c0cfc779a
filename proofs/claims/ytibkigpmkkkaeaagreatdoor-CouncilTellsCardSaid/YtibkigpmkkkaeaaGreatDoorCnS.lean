/-
  The examples of the documentation hold.
-/
import Derived.Test.YtibkigpmkkkaeaaGreatDoorCnA
import Derived.Test.YtibkigpmkkkaeaaGreatDoorMirS
namespace Go.Proofs.YtibkigpmkkkaeaaGreatDoor.Cn
open Go Rt M
theorem sane_ev : Ev law40_sane true := ⟨400, fun n hn => by
  obtain ⟨m, rfl⟩ := Nat.le.dest hn
  rw [Nat.add_comm]
  exact (show law40_sane (m + 400) = some true by kernel_rfl)⟩
end Go.Proofs.YtibkigpmkkkaeaaGreatDoor.Cn
