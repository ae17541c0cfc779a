/-
  The quoted strings of Print, in the mirrors' form: a mirror that never answers. What it is asked is never reached by a law that has an answer.
-/
import Derived.Test.YtpihabofmnnbbaaDoorRtR
import Derived.Test.YtpihabofmnnbbaaDoorRows
namespace Go.Proofs.YtpihabofmnnbbaaDoor.M
open Go Go.RowKit Rt

def lexer_escaped (_n : Nat) (_s : Rt.Bs) : Option Rt.Bs := none
theorem lexer_escaped_ok (n : Nat) (s : Rt.Bs) (r : Rt.Bs) (hm : lexer_escaped n s = some r) {w : World} {F : Frz} (_hs : Sat F w) :
    Calls Tryd.prog 40 #[vs s] w fun e w' => ∃ v F' O', e = .returned v ∧ HS F w [] F' O' w' ∧ (v = vs r ∧ O' = []) := by
  unfold lexer_escaped at hm
  cases hm
end Go.Proofs.YtpihabofmnnbbaaDoor.M
