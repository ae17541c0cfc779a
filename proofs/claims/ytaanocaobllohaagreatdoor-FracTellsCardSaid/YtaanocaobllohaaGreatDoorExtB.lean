/-
  Contracts that were not printed by gen.py, in the mirrors' form: strings.Join, strconv.Itoa, strings.Repeat, and what strings.Trim asks of a set of ASCII bytes.
-/
import Derived.Test.YtaanocaobllohaaGreatDoorShelf
import Derived.Test.YtaanocaobllohaaGreatDoorRtR
import Derived.Lib.Join
import Derived.Lib.LaidTab
import Derived.Lib.AppendIntMem
import Derived.Lib.AsciiSet
namespace Go.Proofs.YtaanocaobllohaaGreatDoor.M
open Go Go.RowKit Rt
theorem b5s {F : Frz} {w w' : World} (hs : Sat F w) (hb : Below w.heap.size w w') : HS F w [] F [] w' :=
  ⟨fun b o hf => by rw [hb.block b (Sat.lt hs (by simp [hf]))]; exact hs b o hf, Frz.refl F, fun _ h => .inl h, by simp, by simp, List.Pairwise.nil, hb.os, hb.tape, hb.output, hb.size, fun k h _ => hb.block k h⟩
theorem c7s {F : Frz} : ∀ {l : List Rt.Bs} {xs : List Value}, RowR Rp.str F xs l → xs = l.map vs
  | [], _, h => by simp only [RowR] at h; simp [h]
  | x :: l, _, ⟨cs, ys, h1, h2, h3⟩ => by
    have h4 : cs = [vs x] := h2
    subst h4; rw [h1, c7s h3]; rfl
def strings_Join (_n : Nat) (l : List Rt.Bs) (sep : Rt.Bs) : Option Rt.Bs := if l.length ≤ 140737488355328 ∧ (Lib.join l sep).length ≤ 140737488355328 then some (Lib.join l sep) else none
theorem b8f (n : Nat) (l : List Rt.Bs) (sep : Rt.Bs) (r : Rt.Bs) (hm : strings_Join n l sep = some r) {w : World} {F : Frz} (hs : Sat F w) {a : Option Addr} {m c : Nat} (hl : SlR Rp.str F a m c l) :
    Calls Tryz.prog 103 #[.slice a m c, vs sep] w fun e w' => ∃ v F' O', e = .returned v ∧ HS F w [] F' O' w' ∧ (v = vs r ∧ O' = []) := by
  unfold strings_Join at hm
  split at hm
  · rename_i h
    cases hm
    obtain ⟨rfl, h1, _, h3⟩ := hl
    rcases h3 with rfl | ⟨b, o, cells, rfl, hf, hr⟩
    · refine (Tryz.strings_Join_none a c ⟨sep.toArray⟩ w).mono ?_
      rintro e w' ⟨rfl, rfl⟩
      exact ⟨_, _, _, rfl, HS.init hs, rfl, rfl⟩
    · have e1 : (l.map fun x => (⟨x.toArray⟩ : ByteArray)).map (fun x => x.data.toList) = l := by rw [List.map_map]; exact List.map_id l
      have hc := c7s hr
      subst hc
      have hb : b < w.heap.size := by
        obtain ⟨c1, t1, z1, h5, _⟩ := hf
        exact Sat.lt hs (by simp [h5])
      have h6 := Tryz.strings_Join b o c (l.map fun x => (⟨x.toArray⟩ : ByteArray)) ⟨sep.toArray⟩ w (fun j x hj => by
        obtain ⟨y, hy, rfl⟩ : ∃ y, l[j]? = some y ∧ (⟨y.toArray⟩ : ByteArray) = x := by simpa [List.getElem?_map] using hj
        exact hf.cell hs (by simp [hy, vs])) hb (by simpa using h.1) (by simpa using h1) (by rw [e1]; exact h.2)
      rw [e1, List.length_map] at h6
      refine h6.mono ?_
      rintro e w' ⟨rfl, hb⟩
      exact ⟨_, _, _, rfl, b5s hs hb, rfl, rfl⟩
  · cases hm
def strings_Repeat (_n : Nat) (s : Rt.Bs) (c : Int) : Option Rt.Bs := if 0 ≤ c ∧ c ≤ 9223372036854775807 ∧ s.length * c.toNat ≤ 140737488355328 then some (Lib.repeatL s c.toNat) else none
theorem b5k (n : Nat) (s : Rt.Bs) (c : Int) (r : Rt.Bs) (hm : strings_Repeat n s c = some r) {w : World} {F : Frz} (hs : Sat F w) :
    Calls Tryz.prog 101 #[vs s, .int .i64 c] w fun e w' => ∃ v F' O', e = .returned v ∧ HS F w [] F' O' w' ∧ (v = vs r ∧ O' = []) := by
  unfold strings_Repeat at hm
  split at hm
  · rename_i h
    cases hm
    obtain ⟨p, rfl⟩ := Int.eq_ofNat_of_zero_le h.1
    refine (Tryz.strings_Repeat ⟨s.toArray⟩ p w (by omega) (by rw [b1b]; simpa using h.2.2)).mono ?_
    rintro e w' ⟨rfl, hb⟩
    exact ⟨_, _, _, rfl, b5s hs hb, rfl, rfl⟩
  · cases hm
/-- the powers of ten that the library keeps -/
theorem c4o {F : Frz} {w : World} (hs : Sat F w) (h : FX F 3 (Lib.pow10Tab.map (Value.int .u64))) : Lib.TabIs Tryz.prog w "internal/strconv.uint64pow10" .u64 Lib.pow10Tab := by
  obtain ⟨t, z, h1⟩ := h
  have h2 := hs _ _ h1
  have hn : Tryz.prog.globalNamed "internal/strconv.uint64pow10" = some 3 := by kernel_rfl
  unfold Lib.TabIs World.var?
  rw [hn]
  simp [h2]
def strconv_Itoa (_n : Nat) (x : Int) : Option Rt.Bs := if -9223372036854775808 ≤ x ∧ x ≤ 9223372036854775807 then some (Lib.itoa x) else none
theorem b7t (n : Nat) (x : Int) (r : Rt.Bs) (hm : strconv_Itoa n x = some r) {w : World} {F : Frz} (hs : Sat F w) (hg : FX F 3 (Lib.pow10Tab.map (Value.int .u64))) :
    Calls Tryz.prog 100 #[.int .i64 x] w fun e w' => ∃ v F' O', e = .returned v ∧ HS F w [] F' O' w' ∧ (v = vs r ∧ O' = []) := by
  unfold strconv_Itoa at hm
  split at hm
  · rename_i h
    cases hm
    refine (Tryz.strconv_Itoa x h.1 h.2 w (c4o hs hg)).mono ?_
    rintro e w' ⟨rfl, k, os, rfl⟩
    exact ⟨_, _, _, rfl, b5s hs (Lib.below_grow _ _ (Nat.le_refl _) _ _), rfl, rfl⟩
  · cases hm
/-- a set of ASCII bytes, as the library lays it -/
def AsciiAt (F : Frz) (b : Nat) (set : Rt.Bs) : Prop := FC F b 0 (Lib.setCells set).toList
theorem AsciiAt.mono {F F' : Frz} {b : Nat} {set : Rt.Bs} (hF : F.le F') (h : AsciiAt F b set) : AsciiAt F' b set := FC.mono hF h
def asciiSet_contains (_n : Nat) (set : Rt.Bs) (c : Int) : Option Bool := if 0 ≤ c ∧ c < 256 then some (set.contains (UInt8.ofNat c.toNat)) else none
theorem a9f (n : Nat) (set : Rt.Bs) (c : Int) (r : Bool) (hm : asciiSet_contains n set c = some r) {w : World} {F : Frz} (hs : Sat F w) {b : Nat} (ho : AsciiAt F b set) :
    Calls Tryz.prog 129 #[.pointer (some ⟨b, 0, none⟩), .int .u8 c] w fun e w' => e = .returned (.bool r) ∧ w' = w := by
  unfold asciiSet_contains at hm
  split at hm
  · rename_i h
    cases hm
    obtain ⟨p, rfl⟩ := Int.eq_ofNat_of_zero_le h.1
    have hp : p < 256 := by omega
    have e : (UInt8.ofNat p).toNat = p := by simp; omega
    have hcell : (Lib.setCells set).toList[p]? = some (.bool (set.contains (UInt8.ofNat p))) := by
      have := Lib.setCells_at set (UInt8.ofNat p)
      rw [e] at this
      rw [Array.getElem?_toList]; exact this
    have h2 := Tryz.asciiSet_contains b (UInt8.ofNat p) (set.contains (UInt8.ofNat p)) w (by
      rw [e]
      have := ho.cell hs hcell
      simpa using this)
    rw [e] at h2
    simpa using h2
  · cases hm
end Go.Proofs.YtaanocaobllohaaGreatDoor.M
