/-
  What the laws over any big integers share: what is not right is refused; a right one is a number.
-/
import Derived.Test.YtaanocaobllohaaGreatDoorEvL
import Derived.Test.YtaanocaobllohaaGreatDoorBigAll
namespace Go.Proofs.YtaanocaobllohaaGreatDoor.D
open Go Rt M
theorem wf64 {x : Int} (h : (Lit.int .i64 x).wf = true) : -9223372036854775808 ≤ x ∧ x ≤ 9223372036854775807 := by
  have h2 : IntKind.i64.min ≤ x ∧ x ≤ IntKind.i64.max := by simpa [Lit.wf] using h
  rw [show IntKind.i64.min = -9223372036854775808 by decide, show IntKind.i64.max = 9223372036854775807 by decide] at h2
  exact h2
def Two {R : Type} (f g : Nat → Option R) (P : R → Prop) : Prop := ∃ r, Ev f r ∧ Ev g r ∧ P r
section
variable {β : Type}
theorem bad1 {A : Nat → Option Bool} {x : Nat → Option β} {y : Nat → Bool → Option β} {r : β} (hA : Ev A false) (hx : Ev x r) :
    Ev (fun n => (A n).bind fun v1 => bif !v1 then x n else y n v1) r := Ev.bind hA (Ev.then rfl hx)
theorem bad2 {A B : Nat → Option Bool} {ra rb : Bool} {x : Nat → Option β} {y : Nat → Bool → Bool → Option β} {r : β} (hA : Ev A ra) (hB : Ev B rb) (h : (ra && rb) = false) (hx : Ev x r) :
    Ev (fun n => (A n).bind fun v1 => (bif !v1 then some true else (B n).bind fun v => some (!v)).bind fun v2 => bif v2 then x n else y n v1 v2) r := by
  refine Ev.bind hA ?_
  cases ra with
  | false => exact Ev.bind (a := true) (Ev.then rfl (Ev.pure _)) (Ev.then rfl hx)
  | true =>
    have hb : rb = false := by simpa using h
    subst hb
    exact Ev.bind (a := true) (Ev.else rfl (Ev.bind hB (Ev.pure _))) (Ev.then rfl hx)
end
theorem c6w {a b : Big} (ha : a.Digits.length ≤ 62) (hb : b.Digits.length ≤ 62) : (a7i a && a7i b) = false ∨ ∃ x y, a = toB x ∧ b = toB y ∧ Sm 62 x ∧ Sm 62 y := by
  cases h : a7i a && a7i b with
  | false => exact .inl rfl
  | true =>
    right
    simp only [Bool.and_eq_true] at h
    obtain ⟨x, rfl⟩ := a5z h.1
    obtain ⟨y, rfl⟩ := a5z h.2
    exact ⟨x, y, rfl, rfl, a3g ha, a3g hb⟩
theorem lt62 {n : Nat} (h : n ≤ 62) : n < 1099511627776 := by omega
theorem c1q {x : Int} {k : Nat} (h : Sm k x) : (toB x).Digits.length ≤ k := a1u h
theorem b1s (s : Bs) (hl : s.length ≤ 500) : (b2i s).1.Digits.length ≤ 1000 := by
  unfold b2i
  split
  · simp
  · split
    · rename_i hg
      have hall : List.all (cut s).1 isd = true := by unfold good at hg; simp only [Bool.and_eq_true] at hg; exact hg.2
      have hsm := c8p hall (by have := c0c s; omega)
      have h1 := c1q hsm
      have h2 := c1q hsm.neg
      split <;> simp only <;> omega
    · simp
end Go.Proofs.YtaanocaobllohaaGreatDoor.D
