/-
  MAPS OF THE CALL's OWN: an association list in the order in which the keys came.
-/
import Derived.Test.YtaanocaobllohaaGreatDoorRt8
import Derived.WideMake
namespace Go.Proofs.YtaanocaobllohaaGreatDoor.Rt
open Go Go.RowKit
/-- a plain kind of keys -/
structure KeyIs (P : Program) (kt : TypeId) {K : Type} [BEq K] (ek : K → Value) (D : TypeDesc) : Prop where
  desc : P.underlying kt = some D
  now : ∀ x y : K, Instr.sameNow D (ek x) (ek y) = some (x == y)
  check : ∀ (b : Bool) (x : K) (w : World), (Instr.checkKey b 10000 kt (ek x)).run P w = .ok () w
  bits : ∀ x y : K, (x == y) = true → Instr.sameBits 10000 (ek x) (ek y) = true
  eq : ∀ x y : K, (x == y) = true → x = y
  refl : ∀ x : K, (x == x) = true
theorem KeyIs.int {P : Program} {kt : TypeId} {k : IntKind} (h : P.underlying kt = some (.int k)) : KeyIs P kt (K := Int) (Value.int k) (.int k) where
  desc := h
  now x y := by simp [Instr.sameNow]
  check b x w := by rw [show (10000 : Nat) = 9999 + 1 from rfl, Instr.checkKey]; simp [underlying, h]
  bits x y e := by simp only [beq_iff_eq] at e; subst e; simp [Instr.sameBits]
  eq x y e := by simpa using e
  refl x := by simp
theorem c7l (x y : Bs) : ((⟨x.toArray⟩ : ByteArray) == ⟨y.toArray⟩) = (x == y) := by
  show (x.toArray == y.toArray) = (x == y)
  simp
theorem KeyIs.str {P : Program} {kt : TypeId} (h : P.underlying kt = some .string) : KeyIs P kt (K := Bs) vs .string where
  desc := h
  now x y := by simp only [Instr.sameNow, vs]; rw [c7l]
  check b x w := by rw [show (10000 : Nat) = 9999 + 1 from rfl, Instr.checkKey]; simp [underlying, h, vs]
  bits x y e := by
    simp only [beq_iff_eq] at e; subst e
    show ((⟨x.toArray⟩ : ByteArray) == ⟨x.toArray⟩) = true
    rw [c7l]; simp
  eq x y e := by simpa using e
  refl x := by simp
section
variable {P : Program} {kt : TypeId} {K V : Type} [BEq K] {ek : K → Value} {ev : V → Value} {D : TypeDesc}
end
section
variable {P : Program} {Q : Exit → Act → World → Prop} {n : Nat} {env : Env} {w : World}
variable {opr : Array Oper} {rest : List Oper} {d : Nat} {g : Option (Nat × Bool)} {ty : TypeId} {pos : String} {es : Array Edge}
variable {F0 F : Frz} {w0 : World} {X : List Nat} {O : List OE}
variable {kt : TypeId} {K V : Type} [BEq K] {ek : K → Value} {ev : V → Value} {D : TypeDesc}
end
end Go.Proofs.YtaanocaobllohaaGreatDoor.Rt
