/-
  WHAT ALWAYS ANSWERS: 'Tt Q f': with fuel enough f answers, and Q is true of the answer (no program in sight).
-/
import Derived.Test.YtpihabofmnnbbaaDoorLp
namespace Go.Proofs.YtpihabofmnnbbaaDoor.Rt
open Go

theorem Ev.suc {α : Type} {f g : Nat → Option α} {r : α} (e : ∀ n, f (n + 1) = g n) (h : Ev g r) : Ev f r := by
  obtain ⟨N, hN⟩ := h
  refine ⟨N + 1, fun n hn => ?_⟩
  obtain ⟨k, rfl⟩ : ∃ k, n = k + 1 := ⟨n - 1, by omega⟩
  rw [e]; exact hN k (by omega)

def Tt {α : Type} (Q : α → Prop) (f : Nat → Option α) : Prop := ∃ r, Ev f r ∧ Q r
section
variable {α β : Type} {P : α → Prop} {Q : β → Prop}
theorem Tt.pure {r : β} (h : Q r) : Tt Q (fun _ => some r) := ⟨r, Ev.pure r, h⟩
theorem Tt.of {f : Nat → Option β} {r : β} (h : Ev f r) (hq : Q r) : Tt Q f := ⟨r, h, hq⟩
theorem Tt.all {f : Nat → Option β} {r : β} (h : ∀ n, f n = some r) (hq : Q r) : Tt Q f := ⟨r, Ev.all h, hq⟩
theorem Tt.bind {x : Nat → Option α} {g : Nat → α → Option β} (hx : Tt P x) (h : ∀ r, P r → Tt Q (fun n => g n r)) : Tt Q (fun n => (x n).bind (g n)) := by
  obtain ⟨r, h1, h2⟩ := hx
  obtain ⟨s, h3, h4⟩ := h r h2
  exact ⟨s, Ev.bind h1 h3, h4⟩
theorem Tt.evb {x : Nat → Option α} {a : α} {g : Nat → α → Option β} (hx : Ev x a) (h : Tt Q (fun n => g n a)) : Tt Q (fun n => (x n).bind (g n)) := by
  obtain ⟨s, h3, h4⟩ := h
  exact ⟨s, Ev.bind hx h3, h4⟩
theorem Tt.step {x : Option α} {g : Nat → α → Option β} {a : α} (hx : x = some a) (h : Tt Q (fun n => g n a)) : Tt Q (fun n => x.bind (g n)) := by
  subst hx; exact h
theorem Tt.bif {c : Bool} {x y : Nat → Option β} (h1 : c = true → Tt Q x) (h2 : c = false → Tt Q y) : Tt Q (fun n => bif c then x n else y n) := by
  cases c
  · exact h2 rfl
  · exact h1 rfl
theorem Tt.weak {P' : α → Prop} {x : Nat → Option α} (hx : Tt P x) (h : ∀ r, P r → P' r) : Tt P' x := by
  obtain ⟨r, h1, h2⟩ := hx
  exact ⟨r, h1, h r h2⟩
theorem Tt.suc {f g : Nat → Option β} (e : ∀ n, f (n + 1) = g n) (h : Tt Q g) : Tt Q f := by
  obtain ⟨r, h1, h2⟩ := h
  exact ⟨r, Ev.suc e h1, h2⟩
/-- a condition of two parts: whatever it is -/
theorem Tt.cond {c d : Bool} {g : Nat → Bool → Option β} (h : ∀ b, Tt Q (fun n => g n b)) (k : Bool) : Tt Q (fun n => (bif c then some k else some d).bind (g n)) := by
  cases c <;> exact h _
end
end Go.Proofs.YtpihabofmnnbbaaDoor.Rt
