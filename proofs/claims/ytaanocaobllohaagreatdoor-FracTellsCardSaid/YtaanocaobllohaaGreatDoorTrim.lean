/-
  strings.Trim at a set of at least two ASCII bytes, in the mirrors' form.
-/
import Derived.Test.YtaanocaobllohaaGreatDoorMirT
namespace Go.Proofs.YtaanocaobllohaaGreatDoor.M
open Go Go.RowKit Rt
theorem zeroSet : c2i Tryz.prog 94 (.agg (Array.replicate 256 (.bool false))) := fun _ => by kernel_rfl
theorem sizeSet : a5w Tryz.prog 94 256 := fun _ => by kernel_rfl
theorem entSet : Ent Tryz.prog 110 := fun _ _ => by kernel_rfl
theorem entL : Ent Tryz.prog 111 := fun _ _ => by kernel_rfl
theorem entR : Ent Tryz.prog 112 := fun _ _ => by kernel_rfl
theorem uStr : Tryz.prog.underlying 9 = some .string := by kernel_rfl
def a7v (n : Nat) (s1 : Rt.Bs) (cutset1 : Rt.Bs) : Option Rt.Bs :=
  bif !(s1 == []) && (decide (2 ≤ cutset1.length) && (decide (cutset1.length < 4294967281) && cutset1.all fun b => decide (b.toNat < 128))) then
    (MT.strings_trimRightASCII n s1 cutset1).bind fun v1 =>
    (MT.strings_trimLeftASCII n v1 cutset1).bind fun v2 =>
    some v2
  else none
set_option maxHeartbeats 1000000 in
set_option maxRecDepth 1000000 in
theorem b7z (n : Nat) (s1 : Rt.Bs) (cutset1 : Rt.Bs) (r : Rt.Bs) (hm : a7v n s1 cutset1 = some r) {w : World} {F : Frz} (hs : Sat F w) :
    Calls Tryz.prog 90 #[vs s1, vs cutset1] w fun e w' => ∃ v F' O', e = .returned v ∧ HS F w [] F' O' w' ∧ (v = vs r ∧ O' = []) := by
  unfold a7v at hm
  rcases a0i hm with ⟨hb, hm⟩ | ⟨_, hm⟩
  · simp only [Bool.and_eq_true, Bool.not_eq_true', decide_eq_true_eq, List.all_eq_true] at hb
    obtain ⟨hs0, hc2, hc3, hc4⟩ := hb
    have hc0 : (cutset1 == []) = false := by cases cutset1 with
      | nil => simp at hc2
      | cons => rfl
    have hl1 : ((cutset1.length : Int) == 1) = false := by
      have : (cutset1.length : Int) ≠ 1 := by omega
      simpa using this
    have h := HS.init hs
    refine a0x (args := [vs s1, vs cutset1]) 43 Tryz.func90 rfl rfl rfl ?_
    refine a0f ?_
    refine a0a ?_
    refine a0b rfl rfl rfl ?_
    refine a0c ?_
    refine a0d ?_
    refine a0f ?_
    refine a0f ?_
    refine a0a ?_
    refine a0e rfl rfl rfl ?_
    refine b2d rfl rfl rfl rfl rfl ?_
    refine a0e rfl rfl rfl ?_
    refine a1e 9 rfl hs0 ?_
    refine a0e rfl rfl rfl ?_
    refine b2d rfl rfl rfl rfl rfl ?_
    refine a0l rfl rfl rfl rfl ?_
    refine a0c ?_
    refine a0d ?_
    refine a0u 12 rfl hc0 ?_
    refine a0s rfl ?_
    refine a1b ?_
    refine a0d ?_
    refine a0f ?_
    refine a0f ?_
    refine a0a ?_
    refine a0e rfl rfl rfl ?_
    refine a8k uStr rfl rfl rfl ?_
    refine a0v rfl rfl rfl rfl rfl ?_
    refine a0e rfl rfl rfl ?_
    refine a1e 17 rfl hl1 ?_
    refine a0r rfl (by decide) rfl ?_
    refine a0r rfl (by decide) rfl ?_
    refine a0r rfl (by decide) rfl ?_
    refine a0l rfl rfl rfl rfl ?_
    refine a0c ?_
    refine a0d ?_
    refine a0s rfl ?_
    refine a1b ?_
    refine a0d ?_
    refine a0f ?_
    refine a0f ?_
    refine a0a ?_
    refine a0e rfl rfl rfl ?_
    refine c0v (first := #[]) (cap := #[]) (R := fun v w' => v = .tuple #[.agg (Lib.setCells cutset1), .bool true] ∧ w' = w.alloc (.cells (Lib.setCells cutset1) 94)) entSet rfl rfl rfl rfl ?_ ?_
    · have h0 := Tryz.strings_makeASCIISet (fun w => by kernel_rfl) ⟨cutset1.toArray⟩ w (by rw [b1b]; exact hc3) (fun j b hj => hc4 b (List.mem_of_getElem? (by simpa using hj)))
      simp only [] at h0
      refine Calls.mono (by simpa [vs] using h0) ?_
      rintro e w' ⟨h1, h2⟩
      exact ⟨_, h1, rfl, h2⟩
    · rintro v w1 ⟨rfl, rfl⟩
      have h1 := h.grow (World.grownBy_alloc w (.cells (Lib.setCells cutset1) 94) none)
      refine a0e rfl rfl rfl ?_
      refine a0j rfl rfl rfl rfl ?_
      refine a0j rfl rfl rfl rfl ?_
      refine a0y zeroSet rfl rfl rfl h1 ?_
      intro b w2 h2
      refine a0o (cs' := (Lib.setCells cutset1).toList) sizeSet rfl h2 rfl rfl (by simp [Value.cells, Lib.setCells_size]) (by have := Lib.setCells_one cutset1; simpa [Value.cells, ← Array.all_toList] using this) (i := 0) rfl (by simp [Value.cells]) (by simp [Value.cells]) rfl ?_
      intro w3 h3
      refine a0b rfl rfl rfl ?_
      refine a0c ?_
      refine a0d ?_
      refine a0f ?_
      refine a0a ?_
      refine a0e rfl rfl rfl ?_
      refine a0c ?_
      refine a0d ?_
      refine a0z rfl ?_
      have hA : AsciiAt (allF w3) b cutset1 := ⟨_, _, _, h3.get (i := 0) rfl, by simp⟩
      obtain ⟨v1, hv1, hm⟩ := bind_some hm
      obtain ⟨v2, hv2, hm⟩ := bind_some hm
      refine a0f ?_
      refine a0a ?_
      refine a0e rfl rfl rfl ?_
      refine a4e entR rfl rfl rfl rfl (MT.strings_trimRightASCII_ok _ _ _ _ hv1 (a7l _) hA) ?_
      refine a4e entL rfl rfl rfl rfl (MT.strings_trimLeftASCII_ok _ _ _ _ hv2 (a7l _) hA) ?_
      refine a0b rfl rfl rfl ?_
      refine a0c ?_
      refine a0d ?_
      refine a1d ?_
      refine a0n ?_
      refine a1p rfl rfl ?_
      obtain rfl := Option.some.inj hm
      exact ⟨_, _, _, rfl, h3.pick [] (by decide) rfl, rfl, rfl⟩
  · cases hm
end Go.Proofs.YtaanocaobllohaaGreatDoor.M
