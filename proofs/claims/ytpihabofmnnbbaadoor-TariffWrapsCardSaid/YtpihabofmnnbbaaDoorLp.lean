/-
  LOOPS over lists, and the connectives of the laws, in the mirrors' words (no program in sight).
-/
import Derived.Test.YtpihabofmnnbbaaDoorEv
namespace Go.Proofs.YtpihabofmnnbbaaDoor.Rt
open Go

theorem inc64 {i : Nat} (h : i < 4611686018427387904) : iadd .i64 (i : Int) 1 = ((i + 1 : Nat) : Int) := by rw [iadd_i64 (by omega) (by omega)]; omega
theorem dec64 {i : Nat} (h : i < 4611686018427387904) : isub .i64 ((i + 1 : Nat) : Int) 1 = (i : Int) := by rw [isub_i64 (by omega) (by omega)]; omega
theorem drop_cons {α : Type} {a : List α} {i : Nat} {x : α} {xs : List α} (h : a.drop i = x :: xs) : ix a (i : Int) = some x ∧ a.drop (i + 1) = xs ∧ i < a.length := by
  have h1 : i < a.length := by
    rcases Nat.lt_or_ge i a.length with h2 | h2
    · exact h2
    · rw [List.drop_eq_nil_of_le h2] at h; cases h
  rw [List.drop_eq_getElem_cons h1] at h
  injection h with h2 h3
  exact ⟨by rw [ix_nat, List.getElem?_eq_getElem h1, h2], h3, h1⟩
theorem drop_nil {α : Type} {a : List α} {i : Nat} (h : a.drop i = []) : a.length ≤ i := by simpa using h
/-- a loop's test -/
theorem more_yes {α : Type} {a : List α} {i : Nat} {x : α} {xs : List α} (h : a.drop i = x :: xs) : decide ((i : Int) < (a.length : Int)) = true := by
  have := (drop_cons h).2.2
  exact decide_eq_true (by omega)
theorem more_no {α : Type} {a : List α} {i : Nat} (h : a.drop i = []) : decide ((i : Int) < (a.length : Int)) = false := by
  have := drop_nil h
  exact decide_eq_false (by omega)

section
variable {β : Type} {r : β} {c d : Bool} {y : Nat → Option Bool} {f : Nat → Bool → Option β}
theorem or_call (hc : c = false) (hy : Ev y true) (hf : Ev (fun n => f n false) r) : Ev (fun n => (bif c then some true else (y n).bind fun v => some (!v)).bind (f n)) r :=
  Ev.bind (a := false) (Ev.else hc (Ev.bind hy (Ev.pure _))) hf
theorem or_pure (hc : c = false) (hd : d = false) (hf : Ev (fun n => f n false) r) : Ev (fun n => (bif c then some true else some d).bind (f n)) r :=
  Ev.bind (a := false) (Ev.else hc (by subst hd; exact Ev.pure _)) hf
theorem or_both (hf : Ev (fun n => f n (c || d)) r) : Ev (fun n => (bif c then some true else some d).bind (f n)) r :=
  Ev.bind (a := c || d) (by cases c; exact Ev.else rfl (Ev.pure _); exact Ev.then rfl (Ev.pure _)) hf
theorem and_call (hc : c = true) (hy : Ev y true) (hf : Ev (fun n => f n true) r) : Ev (fun n => (bif c then (y n).bind fun v => some v else some false).bind (f n)) r :=
  Ev.bind (a := true) (Ev.then hc (Ev.bind hy (Ev.pure _))) hf
theorem and_pure (hc : c = true) (hd : d = true) (hf : Ev (fun n => f n true) r) : Ev (fun n => (bif c then some d else some false).bind (f n)) r :=
  Ev.bind (a := true) (Ev.then hc (by subst hd; exact Ev.pure _)) hf
theorem or_any (hy : c = false → Ev y d) (hf : Ev (fun n => f n (c || !d)) r) : Ev (fun n => (bif c then some true else (y n).bind fun v => some (!v)).bind (f n)) r := by
  refine Ev.bind ?_ hf
  cases c with
  | true => exact Ev.then rfl (Ev.pure _)
  | false => exact Ev.else rfl (Ev.bind (hy rfl) (Ev.pure _))
theorem guard {V : Bool} {rest : Nat → Option Bool} (h : V = false → Ev rest true) : Ev (fun n => bif V then some true else rest n) true := by
  cases V with
  | true => exact Ev.then rfl (Ev.pure _)
  | false => exact Ev.else rfl (h rfl)
theorem Ev.conv {α : Type} {x y : Nat → Option α} {s : α} (e : ∀ n, x n = y n) (h : Ev y s) : Ev x s := by
  obtain ⟨N, hN⟩ := h
  exact ⟨N, fun n hn => by rw [e n]; exact hN n hn⟩
end
theorem app_ok {α : Type} {b : Nat} {l m : List α} (h : (l.length + m.length) * b ≤ 140737488355328) : app b l m = some (l ++ m) := app_eq h
end Go.Proofs.YtpihabofmnnbbaaDoor.Rt
