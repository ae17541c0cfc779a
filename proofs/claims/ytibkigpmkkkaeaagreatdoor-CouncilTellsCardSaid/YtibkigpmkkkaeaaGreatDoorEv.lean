/-
  WHAT COMES OF A MIRROR WITH FUEL ENOUGH: 'Ev f r': from some n on, f n is r. And the operations of the mirrors at numbers that fit.
-/
import Derived.Test.YtibkigpmkkkaeaaGreatDoorRtR
namespace Go.Proofs.YtibkigpmkkkaeaaGreatDoor.Rt
open Go
def Ev {α : Type} (f : Nat → Option α) (r : α) : Prop := ∃ N, ∀ n, N ≤ n → f n = some r
section
variable {α β : Type}
theorem Ev.pure (a : α) : Ev (fun _ => some a) a := ⟨0, fun _ _ => rfl⟩
theorem Ev.all {f : Nat → Option α} {r : α} (h : ∀ n, f n = some r) : Ev f r := ⟨0, fun n _ => h n⟩
theorem Ev.bind {x : Nat → Option α} {f : Nat → α → Option β} {a : α} {b : β} (hx : Ev x a) (hf : Ev (fun n => f n a) b) : Ev (fun n => (x n).bind (f n)) b := by
  obtain ⟨N, hN⟩ := hx
  obtain ⟨M, hM⟩ := hf
  refine ⟨max N M, fun n hn => ?_⟩
  show (x n).bind (f n) = some b
  rw [hN n (by omega)]
  exact hM n (by omega)
theorem Ev.step {x : Option α} {f : Nat → α → Option β} {a : α} {b : β} (hx : x = some a) (hf : Ev (fun n => f n a) b) : Ev (fun n => x.bind (f n)) b := by
  subst hx; exact hf
theorem Ev.then {x : Nat → Option α} {b : α} {c : Bool} {y : Nat → Option α} (hc : c = true) (h : Ev x b) : Ev (fun n => bif c then x n else y n) b := by subst hc; exact h
theorem Ev.else {x : Nat → Option α} {b : α} {c : Bool} {y : Nat → Option α} (hc : c = false) (h : Ev y b) : Ev (fun n => bif c then x n else y n) b := by subst hc; exact h
theorem Ev.from {f g : Nat → Option α} {r : α} (N : Nat) (h : ∀ n, N ≤ n → f n = g n) (hg : Ev g r) : Ev f r := by
  obtain ⟨M, hM⟩ := hg
  exact ⟨max N M, fun n hn => by rw [h n (by omega)]; exact hM n (by omega)⟩
theorem Ev.eq {f : Nat → Option α} {r s : α} (h : Ev f r) (e : r = s) : Ev f s := e ▸ h
theorem Ev.uniq {f : Nat → Option α} {r s : α} (h : Ev f r) (k : Ev f s) : r = s := by
  obtain ⟨N, hN⟩ := h
  obtain ⟨M, hM⟩ := k
  have h1 := hN (max N M) (by omega)
  rw [hM (max N M) (by omega)] at h1
  exact (Option.some.inj h1).symm
end
theorem wrap64 (x : Int) : IntKind.i64.wrap x = if x % 18446744073709551616 ≥ 9223372036854775808 then x % 18446744073709551616 - 18446744073709551616 else x % 18446744073709551616 := by
  simp [IntKind.wrap, IntKind.bits, IntKind.signed]
theorem wrap_i64 {x : Int} (h1 : -9223372036854775808 ≤ x) (h2 : x ≤ 9223372036854775807) : IntKind.i64.wrap x = x := by
  rw [wrap64]; split <;> omega
theorem iadd_i64 {x y : Int} (h1 : -9223372036854775808 ≤ x + y) (h2 : x + y ≤ 9223372036854775807) : iadd .i64 x y = x + y := wrap_i64 h1 h2
theorem isub_i64 {x y : Int} (h1 : -9223372036854775808 ≤ x - y) (h2 : x - y ≤ 9223372036854775807) : isub .i64 x y = x - y := wrap_i64 h1 h2
theorem imul_i64 {x y : Int} (h1 : -9223372036854775808 ≤ x * y) (h2 : x * y ≤ 9223372036854775807) : imul .i64 x y = x * y := wrap_i64 h1 h2
/- lists -/
section
variable {α : Type}
theorem ix_nat (l : List α) (i : Nat) : ix l (i : Int) = l[i]? := by simp [ix]
theorem app_eq {b : Nat} {l m : List α} (h : (l.length + m.length) * b ≤ 140737488355328) : app b l m = some (l ++ m) := by unfold app; rw [if_pos h]
theorem lsl_eq {l : List α} {p q : Nat} (h : p ≤ q) (h2 : q ≤ l.length) : lsl l (p : Int) (q : Int) = some ((l.take q).drop p) := by
  unfold lsl; rw [if_pos ⟨by omega, by omega, by omega⟩]; simp
end
end Go.Proofs.YtibkigpmkkkaeaaGreatDoor.Rt
