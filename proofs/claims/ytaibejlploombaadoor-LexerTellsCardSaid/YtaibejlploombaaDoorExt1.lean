/-
  Contracts that were not printed by gen.py, in the mirrors' form: escaped, strings.Join.
-/
import Derived.Test.YtaibejlploombaaDoorBld
import Derived.Lib.Join
namespace Go.Proofs.YtaibejlploombaaDoor.M
open Go Go.RowKit Rt

def lexer_escaped (_n : Nat) (s : Rt.Bs) : Option Rt.Bs := if s.length ≤ 35184372088832 then some (Lx.escaped s) else none
theorem lexer_escaped_ok (n : Nat) (s : Rt.Bs) (r : Rt.Bs) (hm : lexer_escaped n s = some r) {w : World} {F : Frz} (hs : Sat F w) :
    Calls Tryd.prog 27 #[vs s] w fun e w' => ∃ v F' O', e = .returned v ∧ HS F w [] F' O' w' ∧ (v = vs r ∧ O' = []) := by
  unfold lexer_escaped at hm
  split at hm
  · rename_i h
    cases hm
    refine (escaped_walk ⟨s.toArray⟩ w (by rw [size_mk]; exact h)).mono ?_
    rintro e w' ⟨rfl, hb⟩
    exact ⟨_, _, _, rfl, HS.ofBelow hs hb, rfl, rfl⟩
  · cases hm

def strings_Join (_n : Nat) (l : List Rt.Bs) (sep : Rt.Bs) : Option Rt.Bs := if l.length ≤ 140737488355328 ∧ (Lib.join l sep).length ≤ 140737488355328 then some (Lib.join l sep) else none

theorem rowStr {F : Frz} : ∀ {l : List Rt.Bs} {xs : List Value}, RowR Rp.str F xs l → xs = l.map vs
  | [], _, h => by simp only [RowR] at h; simp [h]
  | x :: l, _, ⟨cs, ys, h1, h2, h3⟩ => by
    have h4 : cs = [vs x] := h2
    subst h4; rw [h1, rowStr h3]; rfl

theorem strings_Join_ok (n : Nat) (l : List Rt.Bs) (sep : Rt.Bs) (r : Rt.Bs) (hm : strings_Join n l sep = some r) {w : World} {F : Frz} (hs : Sat F w) {a : Option Addr} {c : Nat} (hl : SlR Rp.str F a c l) :
    Calls Tryd.prog 28 #[.slice a l.length c, vs sep] w fun e w' => ∃ v F' O', e = .returned v ∧ HS F w [] F' O' w' ∧ (v = vs r ∧ O' = []) := by
  unfold strings_Join at hm
  split at hm
  · rename_i h
    cases hm
    obtain ⟨h1, _, h3⟩ := hl
    rcases h3 with rfl | ⟨b, o, cells, rfl, hf, hr⟩
    · refine (Tryd.strings_Join_none a c ⟨sep.toArray⟩ w).mono ?_
      rintro e w' ⟨rfl, rfl⟩
      exact ⟨_, _, _, rfl, HS.init hs, rfl, rfl⟩
    · have e1 : (l.map fun x => (⟨x.toArray⟩ : ByteArray)).map (fun x => x.data.toList) = l := by rw [List.map_map]; exact List.map_id l
      have hc := rowStr hr
      subst hc
      have hb : b < w.heap.size := by
        obtain ⟨c1, t1, z1, h5, _⟩ := hf
        exact Sat.lt hs (by simp [h5])
      have h6 := Tryd.strings_Join b o c (l.map fun x => (⟨x.toArray⟩ : ByteArray)) ⟨sep.toArray⟩ w (fun j x hj => by
        obtain ⟨y, hy, rfl⟩ : ∃ y, l[j]? = some y ∧ (⟨y.toArray⟩ : ByteArray) = x := by simpa [List.getElem?_map] using hj
        exact hf.cell hs (by simp [hy, vs])) hb (by simpa using h.1) (by simpa using h1) (by rw [e1]; exact h.2)
      rw [e1, List.length_map] at h6
      refine h6.mono ?_
      rintro e w' ⟨rfl, hb⟩
      exact ⟨_, _, _, rfl, HS.ofBelow hs hb, rfl, rfl⟩
  · cases hm
end Go.Proofs.YtaibejlploombaaDoor.M
