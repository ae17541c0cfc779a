/-
  strings.Trim at a set of at least two ASCII bytes, in the mirrors' form.
-/
import Derived.Test.YtaanocaobllohaaGreatDoorMirT
namespace Go.Proofs.YtaanocaobllohaaGreatDoor.M
open Go Go.RowKit Rt

theorem zeroSet : ZeroIs Tryz.prog 94 (.agg (Array.replicate 256 (.bool false))) := fun _ => by kernel_rfl
theorem sizeSet : SizeIs Tryz.prog 94 256 := fun _ => by kernel_rfl
theorem entSet : Ent Tryz.prog 110 := fun _ _ => by kernel_rfl
theorem entL : Ent Tryz.prog 111 := fun _ _ => by kernel_rfl
theorem entR : Ent Tryz.prog 112 := fun _ _ => by kernel_rfl
theorem uStr : Tryz.prog.underlying 9 = some .string := by kernel_rfl

def strings_Trim (n : Nat) (s1 : Rt.Bs) (cutset1 : Rt.Bs) : Option Rt.Bs :=
  bif !(s1 == []) && (decide (2 ≤ cutset1.length) && (decide (cutset1.length < 4294967281) && cutset1.all fun b => decide (b.toNat < 128))) then
    (MT.strings_trimRightASCII n s1 cutset1).bind fun v1 =>
    (MT.strings_trimLeftASCII n v1 cutset1).bind fun v2 =>
    some v2
  else none

set_option maxHeartbeats 1000000 in
set_option maxRecDepth 1000000 in
theorem strings_Trim_ok (n : Nat) (s1 : Rt.Bs) (cutset1 : Rt.Bs) (r : Rt.Bs) (hm : strings_Trim n s1 cutset1 = some r) {w : World} {F : Frz} (hs : Sat F w) :
    Calls Tryz.prog 90 #[vs s1, vs cutset1] w fun e w' => ∃ v F' O', e = .returned v ∧ HS F w [] F' O' w' ∧ (v = vs r ∧ O' = []) := by
  unfold strings_Trim at hm
  rcases cond_some hm with ⟨hb, hm⟩ | ⟨_, hm⟩
  · simp only [Bool.and_eq_true, Bool.not_eq_true', decide_eq_true_eq, List.all_eq_true] at hb
    obtain ⟨hs0, hc2, hc3, hc4⟩ := hb
    have hc0 : (cutset1 == []) = false := by cases cutset1 with
      | nil => simp at hc2
      | cons => rfl
    have hl1 : ((cutset1.length : Int) == 1) = false := by
      have : (cutset1.length : Int) ≠ 1 := by omega
      simpa using this
    have h := HS.init hs
    refine calls_of (args := [vs s1, vs cutset1]) 43 Tryz.func90 rfl rfl rfl ?_
    refine c_seq ?_
    refine c_region ?_
    refine r_assign rfl rfl rfl ?_
    refine r_nil ?_
    refine q_then ?_
    refine c_seq ?_
    refine c_seq ?_
    refine c_region ?_
    refine r_move rfl rfl rfl ?_
    refine r_str rfl rfl rfl rfl rfl ?_
    refine r_move rfl rfl rfl ?_
    refine r_lit 9 rfl hs0 ?_
    refine r_move rfl rfl rfl ?_
    refine r_str rfl rfl rfl rfl rfl ?_
    refine r_pick_false rfl rfl rfl rfl ?_
    refine r_nil ?_
    refine q_then ?_
    refine c_lit 12 rfl hc0 ?_
    refine c_false rfl ?_
    refine c_skip ?_
    refine q_then ?_
    refine c_seq ?_
    refine c_seq ?_
    refine c_region ?_
    refine r_move rfl rfl rfl ?_
    refine r_slen uStr rfl rfl rfl ?_
    refine r_bin rfl rfl rfl rfl rfl ?_
    refine r_move rfl rfl rfl ?_
    refine r_lit 17 rfl hl1 ?_
    refine r_off rfl (by decide) rfl ?_
    refine r_off rfl (by decide) rfl ?_
    refine r_off rfl (by decide) rfl ?_
    refine r_pick_false rfl rfl rfl rfl ?_
    refine r_nil ?_
    refine q_then ?_
    refine c_false rfl ?_
    refine c_skip ?_
    refine q_then ?_
    refine c_seq ?_
    refine c_seq ?_
    refine c_region ?_
    refine r_move rfl rfl rfl ?_
    refine r_call (first := #[]) (cap := #[]) (R := fun v w' => v = .tuple #[.agg (Lib.setCells cutset1), .bool true] ∧ w' = w.alloc (.cells (Lib.setCells cutset1) 94)) entSet rfl rfl rfl rfl ?_ ?_
    · have h0 := Tryz.strings_makeASCIISet (fun w => by kernel_rfl) ⟨cutset1.toArray⟩ w (by rw [size_mk]; exact hc3) (fun j b hj => hc4 b (List.mem_of_getElem? (by simpa using hj)))
      simp only [] at h0
      refine Calls.mono (by simpa [vs] using h0) ?_
      rintro e w' ⟨h1, h2⟩
      exact ⟨_, h1, rfl, h2⟩
    · rintro v w1 ⟨rfl, rfl⟩
      have h1 := h.grow (World.grownBy_alloc w (.cells (Lib.setCells cutset1) 94) none)
      refine r_move rfl rfl rfl ?_
      refine r_extract rfl rfl rfl rfl ?_
      refine r_extract rfl rfl rfl rfl ?_
      refine r_alloc zeroSet rfl rfl rfl h1 ?_
      intro b w2 h2
      refine r_store (cs' := (Lib.setCells cutset1).toList) sizeSet rfl h2 rfl rfl (by simp [Value.cells, Lib.setCells_size]) (by have := Lib.setCells_one cutset1; simpa [Value.cells, ← Array.all_toList] using this) (i := 0) rfl (by simp [Value.cells]) (by simp [Value.cells]) rfl ?_
      intro w3 h3
      refine r_assign rfl rfl rfl ?_
      refine r_nil ?_
      refine q_then ?_
      refine c_seq ?_
      refine c_region ?_
      refine r_move rfl rfl rfl ?_
      refine r_nil ?_
      refine q_then ?_
      refine c_true rfl ?_
      have hA : AsciiAt (allF w3) b cutset1 := ⟨_, _, _, h3.get (i := 0) rfl, by simp⟩
      obtain ⟨v1, hv1, hm⟩ := bind_some hm
      obtain ⟨v2, hv2, hm⟩ := bind_some hm
      refine c_seq ?_
      refine c_region ?_
      refine r_move rfl rfl rfl ?_
      refine r_callP0 entR rfl rfl rfl rfl (MT.strings_trimRightASCII_ok _ _ _ _ hv1 (allF_sat _) hA) ?_
      refine r_callP0 entL rfl rfl rfl rfl (MT.strings_trimLeftASCII_ok _ _ _ _ hv2 (allF_sat _) hA) ?_
      refine r_assign rfl rfl rfl ?_
      refine r_nil ?_
      refine q_then ?_
      refine c_ret ?_
      refine q_then_ret ?_
      refine b_ret1 rfl rfl ?_
      obtain rfl := Option.some.inj hm
      exact ⟨_, _, _, rfl, h3.pick [] (by decide) rfl, rfl, rfl⟩
  · cases hm
end Go.Proofs.YtaanocaobllohaaGreatDoor.M
