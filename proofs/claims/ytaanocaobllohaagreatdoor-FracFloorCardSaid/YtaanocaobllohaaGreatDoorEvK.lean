/-
  What the laws over any big integers share: what is not right is refused; a right one is a number.
-/
import Derived.Test.YtaanocaobllohaaGreatDoorEvL
import Derived.Test.YtaanocaobllohaaGreatDoorBigQ
namespace Go.Proofs.YtaanocaobllohaaGreatDoor.D
open Go Rt M

theorem Div0_ev {x : Int} {k : Nat} (hx : Sm k x) (hk : k < 8388608) : Ev (fun n => big_Div n (toB x) (toB 0)) (⟨0, []⟩, ⟨0, []⟩, 14) := by
  unfold big_Div
  refine Ev.bind (Right_toB hx (by omega)) ?_
  refine Ev.bind (a := false) (Ev.else rfl (Ev.bind (Right_toB (x := 0) (k := 1) (by unfold Sm; decide) (by decide)) (Ev.pure _))) ?_
  refine Ev.else rfl ?_
  exact Ev.then rfl (Ev.pure _)
theorem dq_sm {x y : Int} {k : Nat} (hx : Sm k x) : Sm (k + 1) (dq x y) := by
  have h := Nat.div_le_self x.natAbs y.natAbs
  have hp := pw_pos k
  have h2 : (dq x y).natAbs ≤ x.natAbs / y.natAbs + 1 := by
    unfold dq
    generalize x.natAbs / y.natAbs = q
    split
    · omega
    · rw [Int.natAbs_mul]
      have h3 : (sg (x * y)).natAbs ≤ 1 := by have := sg_range (x * y); omega
      have h4 := Nat.mul_le_mul_right ((q : Int).natAbs) h3
      omega
  generalize x.natAbs / y.natAbs = q at *
  unfold Sm at *
  simp only [pw]
  omega

theorem wf64 {x : Int} (h : (Lit.int .i64 x).wf = true) : -9223372036854775808 ≤ x ∧ x ≤ 9223372036854775807 := by
  have h2 : IntKind.i64.min ≤ x ∧ x ≤ IntKind.i64.max := by simpa [Lit.wf] using h
  rw [show IntKind.i64.min = -9223372036854775808 by decide, show IntKind.i64.max = 9223372036854775807 by decide] at h2
  exact h2

def Two {R : Type} (f g : Nat → Option R) (P : R → Prop) : Prop := ∃ r, Ev f r ∧ Ev g r ∧ P r
section
variable {β : Type}
theorem bad1 {A : Nat → Option Bool} {x : Nat → Option β} {y : Nat → Bool → Option β} {r : β} (hA : Ev A false) (hx : Ev x r) :
    Ev (fun n => (A n).bind fun v1 => bif !v1 then x n else y n v1) r := Ev.bind hA (Ev.then rfl hx)
theorem bad2 {A B : Nat → Option Bool} {ra rb : Bool} {x : Nat → Option β} {y : Nat → Bool → Bool → Option β} {r : β} (hA : Ev A ra) (hB : Ev B rb) (h : (ra && rb) = false) (hx : Ev x r) :
    Ev (fun n => (A n).bind fun v1 => (bif !v1 then some true else (B n).bind fun v => some (!v)).bind fun v2 => bif v2 then x n else y n v1 v2) r := by
  refine Ev.bind hA ?_
  cases ra with
  | false => exact Ev.bind (a := true) (Ev.then rfl (Ev.pure _)) (Ev.then rfl hx)
  | true =>
    have hb : rb = false := by simpa using h
    subst hb
    exact Ev.bind (a := true) (Ev.else rfl (Ev.bind hB (Ev.pure _))) (Ev.then rfl hx)
end
theorem right_or {a b : Big} (ha : a.Digits.length ≤ 62) (hb : b.Digits.length ≤ 62) : (rightb a && rightb b) = false ∨ ∃ x y, a = toB x ∧ b = toB y ∧ Sm 62 x ∧ Sm 62 y := by
  cases h : rightb a && rightb b with
  | false => exact .inl rfl
  | true =>
    right
    simp only [Bool.and_eq_true] at h
    obtain ⟨x, rfl⟩ := toB_of_right h.1
    obtain ⟨y, rfl⟩ := toB_of_right h.2
    exact ⟨x, y, rfl, rfl, sm_of_len ha, sm_of_len hb⟩
theorem lt62 {n : Nat} (h : n ≤ 62) : n < 1099511627776 := by omega
theorem toB_len {x : Int} {k : Nat} (h : Sm k x) : (toB x).Digits.length ≤ k := len_of_sm h
theorem readB_len (s : Bs) (hl : s.length ≤ 500) : (readB s).1.Digits.length ≤ 1000 := by
  unfold readB
  split
  · simp
  · split
    · rename_i hg
      have hall : List.all (cut s).1 isd = true := by unfold good at hg; simp only [Bool.and_eq_true] at hg; exact hg.2
      have hsm := dv_sm hall (by have := cut_len s; omega)
      have h1 := toB_len hsm
      have h2 := toB_len hsm.neg
      split <;> simp only <;> omega
    · simp
end Go.Proofs.YtaanocaobllohaaGreatDoor.D
