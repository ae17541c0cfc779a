/-
  THE LAWS, what they share: the connectives of the mirrors; small facts.
-/
import Derived.Test.YtaanocaobllohaaGreatDoorBigAll
namespace Go.Proofs.YtaanocaobllohaaGreatDoor.D
open Go Rt M
section
variable {β : Type} {r : β} {c d : Bool} {y : Nat → Option Bool} {f : Nat → Bool → Option β}
theorem a9g (hc : c = true) (hy : Ev y true) (hf : Ev (fun n => f n true) r) : Ev (fun n => (bif c then (y n).bind fun v => some v else some false).bind (f n)) r :=
  Ev.bind (a := true) (Ev.then hc (Ev.bind hy (Ev.pure _))) hf
theorem a9h (hc : c = true) (hd : d = true) (hf : Ev (fun n => f n true) r) : Ev (fun n => (bif c then some d else some false).bind (f n)) r :=
  Ev.bind (a := true) (Ev.then hc (by subst hd; exact Ev.pure _)) hf
theorem d0q (hy : c = false → Ev y d) (hf : Ev (fun n => f n (c || !d)) r) : Ev (fun n => (bif c then some true else (y n).bind fun v => some (!v)).bind (f n)) r := by
  refine Ev.bind ?_ hf
  cases c with
  | true => exact Ev.then rfl (Ev.pure _)
  | false => exact Ev.else rfl (Ev.bind (hy rfl) (Ev.pure _))
theorem guard {V : Bool} {rest : Nat → Option Bool} (h : V = false → Ev rest true) : Ev (fun n => bif V then some true else rest n) true := by
  cases V with
  | true => exact Ev.then rfl (Ev.pure _)
  | false => exact Ev.else rfl (h rfl)
end
theorem Of0_ev : Ev (fun n => b0y n 0) (toB 0) := ⟨200, fun n hn => by
  obtain ⟨m, rfl⟩ := Nat.le.dest hn
  rw [Nat.add_comm, toB_zero]
  exact (show b0y (m + 200) 0 = some ⟨0, []⟩ by kernel_rfl)⟩
theorem toB_one : toB 1 = ⟨1, [1]⟩ := by unfold toB; rw [show (1 : Int).natAbs = 1 from rfl, dig_one]; rfl
theorem Of1_ev : Ev (fun n => b0y n 1) (toB 1) := ⟨200, fun n hn => by
  obtain ⟨m, rfl⟩ := Nat.le.dest hn
  rw [Nat.add_comm, toB_one]
  exact (show b0y (m + 200) 1 = some ⟨1, [1]⟩ by kernel_rfl)⟩
theorem b0e (x : Int) : (sg x == 0) = decide (x = 0) := by rcases a1s x with h | h | h <;> rw [h.2] <;> simp <;> omega
end Go.Proofs.YtaanocaobllohaaGreatDoor.D
