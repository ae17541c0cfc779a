/-
  Contracts that were not printed by gen.py, in the mirrors' form: strings.Join, strconv.Itoa.
-/
import Derived.Test.YtpihabofmnnbbaaDoorShelf
import Derived.Test.YtpihabofmnnbbaaDoorRtR
import Derived.Lib.Join
import Derived.Lib.LaidTab
import Derived.Lib.AppendIntMem
namespace Go.Proofs.YtpihabofmnnbbaaDoor.M
open Go Go.RowKit Rt

theorem HS_ofBelow {F : Frz} {w w' : World} (hs : Sat F w) (hb : Below w.heap.size w w') : HS F w [] F [] w' :=
  ⟨fun b o hf => by rw [hb.block b (Sat.lt hs (by simp [hf]))]; exact hs b o hf, Frz.refl F, fun _ h => .inl h, by simp, by simp, List.Pairwise.nil, hb.os, hb.tape, hb.output, hb.size, fun k h _ => hb.block k h⟩

theorem rowStr {F : Frz} : ∀ {l : List Rt.Bs} {xs : List Value}, RowR Rp.str F xs l → xs = l.map vs
  | [], _, h => by simp only [RowR] at h; simp [h]
  | x :: l, _, ⟨cs, ys, h1, h2, h3⟩ => by
    have h4 : cs = [vs x] := h2
    subst h4; rw [h1, rowStr h3]; rfl

def strings_Join (_n : Nat) (l : List Rt.Bs) (sep : Rt.Bs) : Option Rt.Bs := if l.length ≤ 140737488355328 ∧ (Lib.join l sep).length ≤ 140737488355328 then some (Lib.join l sep) else none
theorem strings_Join_ok (n : Nat) (l : List Rt.Bs) (sep : Rt.Bs) (r : Rt.Bs) (hm : strings_Join n l sep = some r) {w : World} {F : Frz} (hs : Sat F w) {a : Option Addr} {m c : Nat} (hl : SlR Rp.str F a m c l) :
    Calls Tryd.prog 41 #[.slice a m c, vs sep] w fun e w' => ∃ v F' O', e = .returned v ∧ HS F w [] F' O' w' ∧ (v = vs r ∧ O' = []) := by
  unfold strings_Join at hm
  split at hm
  · rename_i h
    cases hm
    obtain ⟨rfl, h1, _, h3⟩ := hl
    rcases h3 with rfl | ⟨b, o, cells, rfl, hf, hr⟩
    · refine (Tryd.strings_Join_none a c ⟨sep.toArray⟩ w).mono ?_
      rintro e w' ⟨rfl, rfl⟩
      exact ⟨_, _, _, rfl, HS.init hs, rfl, rfl⟩
    · have e1 : (l.map fun x => (⟨x.toArray⟩ : ByteArray)).map (fun x => x.data.toList) = l := by rw [List.map_map]; exact List.map_id l
      have hc := rowStr hr
      subst hc
      have hb : b < w.heap.size := by
        obtain ⟨c1, t1, z1, h5, _⟩ := hf
        exact Sat.lt hs (by simp [h5])
      have h6 := Tryd.strings_Join b o c (l.map fun x => (⟨x.toArray⟩ : ByteArray)) ⟨sep.toArray⟩ w (fun j x hj => by
        obtain ⟨y, hy, rfl⟩ : ∃ y, l[j]? = some y ∧ (⟨y.toArray⟩ : ByteArray) = x := by simpa [List.getElem?_map] using hj
        exact hf.cell hs (by simp [hy, vs])) hb (by simpa using h.1) (by simpa using h1) (by rw [e1]; exact h.2)
      rw [e1, List.length_map] at h6
      refine h6.mono ?_
      rintro e w' ⟨rfl, hb⟩
      exact ⟨_, _, _, rfl, HS_ofBelow hs hb, rfl, rfl⟩
  · cases hm

/-- the powers of ten that the library keeps -/
theorem tab_of_fx {F : Frz} {w : World} (hs : Sat F w) (h : FX F 1 (Lib.pow10Tab.map (Value.int .u64))) : Lib.TabIs Tryd.prog w "internal/strconv.uint64pow10" .u64 Lib.pow10Tab := by
  obtain ⟨t, z, h1⟩ := h
  have h2 := hs _ _ h1
  have hn : Tryd.prog.globalNamed "internal/strconv.uint64pow10" = some 1 := by kernel_rfl
  unfold Lib.TabIs World.var?
  rw [hn]
  simp [h2]

def strconv_Itoa (_n : Nat) (x : Int) : Option Rt.Bs := if -9223372036854775808 ≤ x ∧ x ≤ 9223372036854775807 then some (Lib.itoa x) else none
theorem strconv_Itoa_ok (n : Nat) (x : Int) (r : Rt.Bs) (hm : strconv_Itoa n x = some r) {w : World} {F : Frz} (hs : Sat F w) (hg : FX F 1 (Lib.pow10Tab.map (Value.int .u64))) :
    Calls Tryd.prog 25 #[.int .i64 x] w fun e w' => ∃ v F' O', e = .returned v ∧ HS F w [] F' O' w' ∧ (v = vs r ∧ O' = []) := by
  unfold strconv_Itoa at hm
  split at hm
  · rename_i h
    cases hm
    refine (Tryd.strconv_Itoa x h.1 h.2 w (tab_of_fx hs hg)).mono ?_
    rintro e w' ⟨rfl, k, os, rfl⟩
    exact ⟨_, _, _, rfl, HS_ofBelow hs (Lib.below_grow _ _ (Nat.le_refl _) _ _), rfl, rfl⟩
  · cases hm

end Go.Proofs.YtpihabofmnnbbaaDoor.M
