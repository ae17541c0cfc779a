/-
  RUNTIME, a further part: the builtin max.
-/
import Derived.Test.YtaanocaobllohaaGreatDoorRtR
namespace Go.Proofs.YtaanocaobllohaaGreatDoor.Rt
open Go Go.RowKit
def imax (x y : Int) : Int := if x < y then y else x
section
variable {P : Program} {Q : Exit → Act → World → Prop} {n : Nat} {env : Env} {w : World}
variable {opr : Array Oper} {rest : List Oper} {d : Nat} {g : Option (Nat × Bool)} {ty : TypeId} {pos : String} {es : Array Edge}
theorem r_max {x y : Operand} {ts : Array TypeId} {i : IntKind} {p q : Int} (hg : isOn opr env g = true) (hn : Nat.blt d n = true) (hx : opv env x = some (.int i p)) (hy : opv env y = some (.int i q))
    (k : RW P opr Q rest n ((d, .int i (imax p q)) :: env) w) : RW P opr Q (⟨some d, .call ⟨.builtin .max, #[x, y], ts⟩, ty, pos, es, g⟩ :: rest) n env w :=
  r_val rfl (by simpa using hn) hg (fun a ha => by simp [execOp, resolve, invoke, builtin, ha.op hx, ha.op hy, Builtin.max_, Builtin.max2, imax]) k
end
end Go.Proofs.YtaanocaobllohaaGreatDoor.Rt
