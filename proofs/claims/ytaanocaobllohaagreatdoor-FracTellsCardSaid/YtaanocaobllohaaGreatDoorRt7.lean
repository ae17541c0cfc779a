/-
  A BLOCK THAT THE CALLER LENDS: methods with pointer receivers.
-/
import Derived.Test.YtaanocaobllohaaGreatDoorRt6
namespace Go.Proofs.YtaanocaobllohaaGreatDoor.Rt
open Go Go.RowKit
section
variable {F0 F : Frz} {w0 w : World} {X : List Nat} {O : List OE}
end
section
variable {P : Program} {Q : Exit → Act → World → Prop} {n : Nat} {env : Env} {w : World}
variable {opr : Array Oper} {rest : List Oper} {d : Nat} {g : Option (Nat × Bool)} {ty : TypeId} {pos : String} {es : Array Edge}
variable {F0 F : Frz} {w0 : World} {X : List Nat} {O : List OE}
theorem d0b {fn : Func} {R : Ending → World → Prop} (hf : fn.results = #[]) (hR : R (.returned (.tuple #[])) w) : QW (bodyPost P fn R) .normal n env w :=
  fun a ha => ⟨ha.defers, _, by simp [results, hf], hR⟩
end
end Go.Proofs.YtaanocaobllohaaGreatDoor.Rt
