/-
  MORE FUEL, THE SAME RESULT: the order of the mirrors.
-/
import Derived.Test.YtaibejlploombaaDoorRt6
namespace Go.Proofs.YtaibejlploombaaDoor.Rt

/-- what the left one returns, the right one returns -/
def Le {α : Type} (x y : Option α) : Prop := ∀ r, x = some r → y = some r
theorem Le.refl {α : Type} (x : Option α) : Le x x := fun _ h => h
theorem Le.none {α : Type} (y : Option α) : Le none y := fun _ h => by cases h
theorem Le.bind {α β : Type} {x y : Option α} {f g : α → Option β} (h : Le x y) (k : ∀ a, Le (f a) (g a)) : Le (x.bind f) (y.bind g) := by
  intro r hr
  cases x with
  | none => cases hr
  | some a => rw [h a rfl]; exact k a r hr
theorem Le.cond {α : Type} {b : Bool} {x y x' y' : Option α} (h : Le x x') (k : Le y y') : Le (bif b then x else y) (bif b then x' else y') := by
  cases b
  · exact k
  · exact h
end Go.Proofs.YtaibejlploombaaDoor.Rt
