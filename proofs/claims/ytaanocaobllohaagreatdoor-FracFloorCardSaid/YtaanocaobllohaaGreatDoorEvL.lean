/-
  THE LAWS, what they share: the connectives of the mirrors; small facts.
-/
import Derived.Test.YtaanocaobllohaaGreatDoorBigT
import Derived.Test.YtaanocaobllohaaGreatDoorBigU
namespace Go.Proofs.YtaanocaobllohaaGreatDoor.D
open Go Rt M

theorem few_len {a : Big} {k : Nat} (h : decide ((a.Digits.length : Int) ≤ k) = true) : a.Digits.length ≤ k := by simpa using h
/-- right and few: a number -/
theorem num_of {a : Big} {k : Nat} (h : decide ((a.Digits.length : Int) ≤ k) = true) (hr : rightb a = true) : ∃ x, a = toB x ∧ Sm k x := by
  obtain ⟨x, rfl⟩ := toB_of_right hr
  exact ⟨x, rfl, sm_of_len (few_len h)⟩

section
variable {β : Type} {r : β} {c d : Bool} {y : Nat → Option Bool} {f : Nat → Bool → Option β}
theorem or_call (hc : c = false) (hy : Ev y true) (hf : Ev (fun n => f n false) r) : Ev (fun n => (bif c then some true else (y n).bind fun v => some (!v)).bind (f n)) r :=
  Ev.bind (a := false) (Ev.else hc (Ev.bind hy (Ev.pure _))) hf
theorem or_pure (hc : c = false) (hd : d = false) (hf : Ev (fun n => f n false) r) : Ev (fun n => (bif c then some true else some d).bind (f n)) r :=
  Ev.bind (a := false) (Ev.else hc (by subst hd; exact Ev.pure _)) hf
theorem and_call (hc : c = true) (hy : Ev y true) (hf : Ev (fun n => f n true) r) : Ev (fun n => (bif c then (y n).bind fun v => some v else some false).bind (f n)) r :=
  Ev.bind (a := true) (Ev.then hc (Ev.bind hy (Ev.pure _))) hf
theorem and_pure (hc : c = true) (hd : d = true) (hf : Ev (fun n => f n true) r) : Ev (fun n => (bif c then some d else some false).bind (f n)) r :=
  Ev.bind (a := true) (Ev.then hc (by subst hd; exact Ev.pure _)) hf
theorem or_any (hy : c = false → Ev y d) (hf : Ev (fun n => f n (c || !d)) r) : Ev (fun n => (bif c then some true else (y n).bind fun v => some (!v)).bind (f n)) r := by
  refine Ev.bind ?_ hf
  cases c with
  | true => exact Ev.then rfl (Ev.pure _)
  | false => exact Ev.else rfl (Ev.bind (hy rfl) (Ev.pure _))
theorem guard {V : Bool} {rest : Nat → Option Bool} (h : V = false → Ev rest true) : Ev (fun n => bif V then some true else rest n) true := by
  cases V with
  | true => exact Ev.then rfl (Ev.pure _)
  | false => exact Ev.else rfl (h rfl)
end
theorem Of0_ev : Ev (fun n => big_Of n 0) (toB 0) := ⟨200, fun n hn => by
  obtain ⟨m, rfl⟩ := Nat.le.dest hn
  rw [Nat.add_comm, toB_zero]
  exact (show big_Of (m + 200) 0 = some ⟨0, []⟩ by kernel_rfl)⟩
theorem toB_one : toB 1 = ⟨1, [1]⟩ := by unfold toB; rw [show (1 : Int).natAbs = 1 from rfl, dig_one]; rfl
theorem Of1_ev : Ev (fun n => big_Of n 1) (toB 1) := ⟨200, fun n hn => by
  obtain ⟨m, rfl⟩ := Nat.le.dest hn
  rw [Nat.add_comm, toB_one]
  exact (show big_Of (m + 200) 1 = some ⟨1, [1]⟩ by kernel_rfl)⟩
theorem Same_yes {x y : Int} {k : Nat} (h : Sm k x) (hk : k < 1099511627776) (e : x = y) : Ev (fun n => big_Same n (toB x) (toB y)) true := (Same_toB h hk).eq (by simp [e])

theorem sg_neg' (x : Int) : sg (-x) = -sg x := by rcases sg_cases x with h | h | h <;> rw [h.2] <;> first | exact sg_pos (by omega) | exact sg_neg (by omega) | (rw [h.1]; rfl)
theorem sg_zero_iff (x : Int) : (sg x == 0) = decide (x = 0) := by rcases sg_cases x with h | h | h <;> rw [h.2] <;> simp <;> omega
theorem sg_eq_zero {x : Int} : sg x = 0 ↔ x = 0 := by rcases sg_cases x with h | h | h <;> rw [h.2] <;> simp <;> omega
theorem or_callE {β : Type} {r : β} {c : Bool} {y : Nat → Option Int} {g : Int → Bool} {f : Nat → Bool → Option β} {d : Int} (hc : c = false) (hy : Ev y d) (hd : g d = false) (hf : Ev (fun n => f n false) r) : Ev (fun n => (bif c then some true else (y n).bind fun v => some (g v)).bind (f n)) r :=
  Ev.bind (a := false) (Ev.else hc (Ev.bind hy ((Ev.pure _).eq hd))) hf

end Go.Proofs.YtaanocaobllohaaGreatDoor.D
