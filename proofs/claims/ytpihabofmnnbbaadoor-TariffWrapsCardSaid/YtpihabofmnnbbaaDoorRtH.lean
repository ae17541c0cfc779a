/-
  RUNTIME, a further part: function values whose calls may make memory; captured variables.
-/
import Derived.Test.YtpihabofmnnbbaaDoorRtX
namespace Go.Proofs.YtpihabofmnnbbaaDoor.Rt
open Go Go.RowKit

/-- a function value: each call of it, at arguments that read as 'enc' says, gives back what 'enc' says, and leaves the memory that was there alone -/
def GFn (P : Program) (F : Frz) (fv : Value) (enc : Frz → List Value → Option Value → Prop) : Prop :=
  ∃ f cap, fv = .func (.func f) #[] cap ∧ Ent P f ∧ ∀ F', F.le F' → ∀ args r w, Sat F' w → enc F' args (some r) → Calls P f (args.toArray ++ cap) w fun e w' => ∃ v F2 O', e = .returned v ∧ HS F' w [] F2 O' w' ∧ (v = r ∧ O' = [])
theorem GFn.mono {P : Program} {F F2 : Frz} {fv : Value} {enc : Frz → List Value → Option Value → Prop} (hF : F.le F2) (h : GFn P F fv enc) : GFn P F2 fv enc := by
  obtain ⟨f, cap, h1, h2, h3⟩ := h
  exact ⟨f, cap, h1, h2, fun F' hF' => h3 F' (hF.trans hF')⟩

section
variable {P : Program} {Q : Exit → Act → World → Prop} {n : Nat} {env : Env} {w : World} {F0 F : Frz} {w0 : World} {X : List Nat} {O : List OE}
variable {opr : Array Oper} {rest : List Oper} {d : Nat} {g : Option (Nat × Bool)} {ty : TypeId} {pos : String} {es : Array Edge}
theorem r_callGF {c : Operand} {l : List Operand} {ts : Array TypeId} {fv : Value} {enc : Frz → List Value → Option Value → Prop} {vl : List Value} {v : Value} (hf : GFn P F fv enc) (hg : isOn opr env g = true) (hn : Nat.blt d n = true)
    (hc : opv env c = some fv) (hl : opvs env l = some vl) (h : HS F0 w0 X F O w) (hv : enc F vl (some v))
    (k : ∀ F' w', F.le F' → HS F0 w0 X F' O w' → RW P opr Q rest n ((d, v) :: env) w') : RW P opr Q (⟨some d, .call ⟨.value c, l.toArray, ts⟩, ty, pos, es, g⟩ :: rest) n env w := by
  obtain ⟨f, cap, rfl, he, hC⟩ := hf
  refine r_callG (R := fun v' _ O' => v' = v ∧ O' = []) he hg hn hc hl h (by simpa using hC F (Frz.refl F) vl v w h.sat hv) ?_
  rintro _ F' _ w' hF h' ⟨rfl, rfl⟩
  exact k F' w' hF h'
theorem r_makeFunc {f : FuncId} {l : List Operand} {vl : List Value} (hg : isOn opr env g = true) (hn : Nat.blt d n = true) (hl : opvs env l = some vl)
    (k : RW P opr Q rest n ((d, .func (.func f) #[] vl.toArray) :: env) w) : RW P opr Q (⟨some d, .makeFunc (.func f) #[] l.toArray, ty, pos, es, g⟩ :: rest) n env w :=
  r_val rfl (by simpa using hn) hg (fun a ha => by simp [execOp, Instr.makeFunc, ha.opvs hl]) k
end
/-- a box is frozen -/
theorem freezeBox {F0 F : Frz} {w0 w : World} {O : List OE} (h : HS F0 w0 [] F O w) {i b : Nat} {t : TypeId} {cs : List Value} (hi : O[i]? = some (.box b t cs)) :
    ∃ F', F.le F' ∧ HS F0 w0 [] F' (O.eraseIdx i) w ∧ FC F' b 0 cs := by
  obtain ⟨hlt, hget⟩ := List.getElem?_eq_some_iff.1 hi
  have hperm : HS F0 w0 [] F (.box b t cs :: O.eraseIdx i) w := by
    refine ⟨h.sat, h.le, h.new, fun x hx => ?_, fun x hx => ?_, ?_, h.os, h.tape, h.output, h.size, h.old⟩
    · rcases List.mem_cons.1 hx with rfl | hx
      · exact h.get hi
      · exact h.own x ((List.eraseIdx_sublist O i).subset hx)
    · rcases List.mem_cons.1 hx with rfl | hx
      · exact h.sep _ (List.mem_of_getElem? hi)
      · exact h.sep x ((List.eraseIdx_sublist O i).subset hx)
    · refine List.pairwise_cons.2 ⟨fun x hx b hb1 hb2 => ?_, h.dis.sublist (List.eraseIdx_sublist O i)⟩
      obtain ⟨j, hj, hne, hxj⟩ : ∃ j, ∃ hj : j < O.length, j ≠ i ∧ O[j] = x := by
        obtain ⟨p, hp, rfl⟩ := List.mem_iff_getElem.1 hx
        rw [List.getElem_eraseIdx]
        have hp' : p < O.length - 1 := by rw [List.length_eraseIdx] at hp; simp [hlt] at hp; exact hp
        split
        · exact ⟨p, by omega, by omega, rfl⟩
        · exact ⟨p + 1, by omega, by omega, rfl⟩
      have hp := List.pairwise_iff_getElem.1 h.dis
      rcases Nat.lt_or_ge j i with h1 | h1
      · exact hp j i hj hlt h1 b (hxj ▸ hb2) (hget ▸ hb1)
      · exact hp i j hlt hj (by omega) b (hget ▸ hb1) (hxj ▸ hb2)
  have hown : w.heap[b]? = some (.cells cs.toArray t (0, 0)) := h.get hi
  have hsep := hperm.sep _ (List.mem_cons_self ..) b rfl
  have hge : w0.heap.size ≤ b := by
    rcases hsep.2 with h3 | h3
    · exact h3
    · cases h3
  have hle : F.le (fun k => if k = b then some (.cells cs.toArray t (0, 0)) else F k) := freeze_le hsep.1
  exact ⟨_, hle, hperm.freeze rfl rfl hge hown, ⟨cs.toArray, t, (0, 0), by simp, by simp⟩⟩
end Go.Proofs.YtpihabofmnnbbaaDoor.Rt
