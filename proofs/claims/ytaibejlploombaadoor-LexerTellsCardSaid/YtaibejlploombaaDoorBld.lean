/-
  A strings.Builder of the call's own: copyCheck and WriteByte by walks, and the quoted string that escaped makes by them.
-/
import Derived.Test.YtaibejlploombaaDoorRows
import Derived.Test.YtaibejlploombaaDoorShelf
import Derived.Test.YtaibejlploombaaDoorRt6
import Derived.Test.YtaibejlploombaaDoorLexDefs
import Derived.WalkKit
import Derived.WalkSpells
import Derived.WalkLawsBesides
import Derived.Lib.Hide
import Derived.Lib.Walk
import Derived.Lib.Builder
import Derived.Lib.AppendStr
import Derived.Lib.UnsafeStr
import Derived.Laws.Externs
namespace Go.Proofs.YtaibejlploombaaDoor
open Go.RowKit Lx Rt

set_option maxHeartbeats 1000000 in
set_option maxRecDepth 100000 in
theorem copyCheck_used (b : Nat) (w : World) (h0 : w.cell? ⟨b, 0, none⟩ = some (.pointer (some ⟨b, 0, none⟩))) :
    Calls Tryd.prog 47 #[.pointer (some ⟨b, 0, none⟩)] w fun e w' => e = .returned (.tuple #[]) ∧ w' = w := by
  obtain ⟨j, hj, _⟩ := Option.map_eq_some_iff.1 (show (Tryd.prog.info? 54).map (·.size) = some 2 from by kernel_rfl)
  go_enter Tryd.func47, Tryd.ntmps47
  go_wp2
  rw [Lib.run_neq_ptr_same w _ (by kernel_rfl) hj]
  go_wp2
  go_end0
  exact ⟨rfl, rfl⟩

set_option maxHeartbeats 1000000 in
set_option maxRecDepth 100000 in
theorem copyCheck_fresh (b : Nat) (w : World) (h0 : w.cell? ⟨b, 0, none⟩ = some (.pointer none)) (hsh : w.shape? b = some (54, 2)) (hfz : w.frozen? ⟨b, 0, none⟩ = false) :
    Calls Tryd.prog 47 #[.pointer (some ⟨b, 0, none⟩)] w fun e w' => e = .returned (.tuple #[]) ∧ w' = w.setCell ⟨b, 0, none⟩ (.pointer (some ⟨b, 0, none⟩)) := by
  obtain ⟨j, hj, hjs⟩ := Option.map_eq_some_iff.1 (show (Tryd.prog.info? 54).map (·.size) = some 2 from by kernel_rfl)
  go_enter Tryd.func47, Tryd.ntmps47
  go_wp2
  rw [Lib.run_to_unsafe w ⟨b, 0, none⟩ (by kernel_rfl) (by kernel_rfl) hj (by rw [hjs]; decide) hsh (Nat.zero_lt_succ 1)]
  simp only [Result.andThen]
  rw [Oper.upon_value]
  go_wp2
  rw [run_callFunc_extern Tryd.func49 (by kernel_rfl) (by kernel_rfl) (by kernel_rfl) (e := Extern.AbiNoEscape.same) (by kernel_rfl)]
  rw [Lib.run_noEscape]
  simp only [Result.andThen]
  rw [Oper.upon_value]
  go_wp2
  rw [Lib.run_from_unsafe w ⟨b, 0, none⟩ (by kernel_rfl) (by kernel_rfl) hj hsh (by kernel_rfl)]
  simp only [Result.andThen]
  rw [Oper.upon_value]
  go_wp2
  go_end0
  exact ⟨rfl, rfl⟩

theorem copyCheck_any (B b : Nat) (bs : List Value) (w : World) (h : Lib.IsBuilder 54 5 B b bs w) :
    Calls Tryd.prog 47 #[.pointer (some ⟨b, 0, none⟩)] w fun e w' => e = .returned (.tuple #[]) ∧ (Lib.BuilderAt 54 5 B b (.pointer (some ⟨b, 0, none⟩)) bs w' ∧ Below B w w') := by
  rcases h with h | h
  · refine (copyCheck_fresh b w h.cell0 h.shape h.frozen0).mono ?_
    rintro e w' ⟨rfl, rfl⟩
    exact ⟨rfl, h.used _, (Below.refl B w).setCell (p := ⟨b, 0, none⟩) h.1 _⟩
  · refine (copyCheck_used b w h.cell0).mono ?_
    rintro e w' ⟨rfl, rfl⟩
    exact ⟨rfl, h, Below.refl B _⟩

theorem byteInfo : (Tryd.prog.info? 5).map (fun i => (i.zero, i.size, i.bytes)) = some (some (.int .u8 0), 1, 1) := by kernel_rfl

set_option maxHeartbeats 2000000 in
set_option maxRecDepth 100000 in
theorem writeByte_any (B b : Nat) (bs : List Value) (c : Int) (w : World) (h : Lib.IsBuilder 54 5 B b bs w) (hlen : bs.length + 1 ≤ 140737488355328) (hBw : B ≤ w.heap.size) :
    Calls Tryd.prog 41 #[.pointer (some ⟨b, 0, none⟩), .int .u8 c] w fun e w' => e = .returned .nilIface ∧ (Lib.BuilderAt 54 5 B b (.pointer (some ⟨b, 0, none⟩)) (bs ++ [.int .u8 c]) w' ∧ Below B w w') := by
  obtain ⟨i0, hi, hz0, hz1, hz2⟩ := info_parts byteInfo
  go_enter Tryd.func41, Tryd.ntmps41
  go_wp2_with (go_at_call 47; refine (copyCheck_any B b bs _ h).mono ?_)
  rintro e w1 ⟨rfl, h1, hb1⟩
  obtain ⟨hB, v, hbk, hown, hne⟩ := h1
  have c0 : w1.cell? ⟨b, 0, none⟩ = some (.pointer (some ⟨b, 0, none⟩)) := by rw [Lib.cell_of_heap hbk]; rfl
  have c1 : w1.cell? ⟨b, 1, none⟩ = some v := by rw [Lib.cell_of_heap hbk]; rfl
  go_wp2_with (at_builtin; refine wpList_append_own _ rfl _ _ 52 rfl B 5 i0 (.int .u8 0) 1 1 (by kernel_rfl) hi hz0 hz1 hz2 rfl (by decide) _ _ _ rfl (hown.alloc _) ⟨w1.heap.size, 0, none⟩ 1 1 [.int .u8 c] rfl rfl ?c1 ?c2 ?c3 ?c4 ?c5 ?_)
  case c1 =>
    intro j u hj
    match j, hj with
    | 0, hj => simp at hj; subst hj; simp [Addr.add]
  case c2 => intro u hu; simp at hu; subst hu; rfl
  case c3 => unfold maxLen; omega
  case c4 => omega
  case c5 => have := hb1.size; simp; omega
  intro v' w2 hown' hgrow _
  have hlt : b < w1.heap.size := by
    rcases Nat.lt_or_ge b w1.heap.size with h' | h'
    · exact h'
    · simp [Array.getElem?_eq_none h'] at hbk
  have hb2 : w2.heap[b]? = some (.cells #[.pointer (some ⟨b, 0, none⟩), v] 54 (0, 0)) := by
    rw [hgrow.block b (by simp; omega) (fun e => hne e.symm), Lib.alloc_old w1 _ b hlt]
    exact hbk
  have d0 : w2.cell? ⟨b, 0, none⟩ = some (.pointer (some ⟨b, 0, none⟩)) := by rw [Lib.cell_of_heap hb2]; rfl
  have d1 : w2.cell? ⟨b, 1, none⟩ = some v := by rw [Lib.cell_of_heap hb2]; rfl
  have f1 : w2.frozen? ⟨b, 1, none⟩ = false := Lib.frozen_of_heap hb2 1
  obtain ⟨g, cap, rfl⟩ : ∃ g cap, v' = .slice (some ⟨g, 0, none⟩) (bs.length + 1) cap := by
    rcases hown'.2 with ⟨_, h0⟩ | ⟨g, cap, cur, hv, _⟩
    · omega
    · exact ⟨g, cap, hv⟩
  go_wp2
  go_ret
  refine ⟨rfl, ?_, ?_⟩
  · exact Lib.BuilderAt.put (T := 54) (e := 5) hB hb2 (bs' := bs ++ [.int .u8 c]) (by simpa using hown') (by decide)
  · exact ((hb1.alloc (by have := hb1.size; omega) _).grown hgrow (by have := hb1.size; simp; omega) (fun k hk => (hown.lt k hk).1)).setCell (p := ⟨b, 1, none⟩) hB _

theorem HS.ofBelow {F : Frz} {w w' : World} (hs : Sat F w) (hb : Below w.heap.size w w') : HS F w [] F [] w' :=
  ⟨fun b o h => by rw [hb.block b (Sat.lt hs (by simp [h]))]; exact hs b o h, Frz.refl F, fun _ h => .inl h, by simp, by simp, List.Pairwise.nil, hb.os, hb.tape, hb.output, hb.size, fun b h _ => hb.block b h⟩

theorem list_get (s : ByteArray) (k : Nat) (h : k < s.size) : s.data.toList[k]'(by rw [← Lib.size_eq]; exact h) = s[k] := rfl
theorem escBody_append (a b : List UInt8) : escBody (a ++ b) = escBody a ++ escBody b := by
  induction a with
  | nil => rfl
  | cons c r ih => simp [escBody, ih]
theorem escBody_len (a : List UInt8) : (escBody a).length ≤ 2 * a.length := by
  induction a with
  | nil => simp [escBody]
  | cons c r ih =>
    have : (esc1 c).length ≤ 2 := by unfold esc1; split <;> simp
    simp [escBody]; omega
theorem bytes1 (l : List UInt8) (c : UInt8) : Lib.byteCells l ++ [Value.int .u8 (c.toNat : Int)] = Lib.byteCells (l ++ [c]) := by rw [Lib.byteCells_append]; rfl

set_option maxHeartbeats 4000000 in
set_option maxRecDepth 100000 in
theorem escaped_walk (s : ByteArray) (w : World) (hs : s.size ≤ 35184372088832) :
    Calls Tryd.prog 27 #[.string s] w fun e w' => e = .returned (vs (escaped s.data.toList)) ∧ Below w.heap.size w w' := by
  have Hz := Lib.hid (Lib.size_eq s)
  have hI0 := Lib.fresh_isBuilder 54 5 w
  go_enter Tryd.func27, Tryd.ntmps27
  go_wp2_with (go_at_call 41; refine (writeByte_any w.heap.size w.heap.size [] 34 _ hI0 (by simp) (by simp)).mono ?_)
  rintro e W1 ⟨rfl, h1, b1⟩
  have B1 : Below w.heap.size w W1 := ((Below.refl _ w).alloc (Nat.le_refl _) _).trans b1
  have hb0 : w.heap.size ≤ W1.heap.size := B1.size
  clear b1 hI0
  go_wp2
  go_loopw [8] (fun i wr => ∃ k : Nat, k ≤ s.size ∧ i = .int .i64 k ∧ Lib.BuilderAt 54 5 w.heap.size w.heap.size (.pointer (some ⟨w.heap.size, 0, none⟩)) (Lib.byteCells (34 :: escBody (s.data.toList.take k))) wr ∧ Below w.heap.size w wr) (fun i _ => s.size - (intOf i).toNat)
  case atStart => exact ⟨0, Nat.zero_le _, rfl, h1, B1⟩
  case round =>
    obtain ⟨k, hk, rfl, hI, hB⟩ := hrel
    clear h1 B1 hb0
    have hbw : w.heap.size ≤ wr.heap.size := hB.size
    have hlen : (Lib.byteCells (34 :: escBody (s.data.toList.take k))).length ≤ 2 * s.size + 1 := by
      have h2 := escBody_len (s.data.toList.take k)
      have h3 : (s.data.toList.take k).length ≤ k := List.length_take_le _ _
      rw [Lib.byteCells_length]; simp; omega
    by_cases hlt : k < s.size
    · have ht : s.data.toList.take (k + 1) = s.data.toList.take k ++ [s[k]] := by
        rw [List.take_succ_eq_append_getElem (by rw [← Hz.out]; exact hlt), list_get s k hlt]
      have hsn : 34 :: escBody (s.data.toList.take (k + 1)) = (34 :: escBody (s.data.toList.take k)) ++ esc1 s[k] := by rw [ht, escBody_append]; simp [escBody]
      have Hs := Lib.hid hsn; clear hsn ht
      have Hl := Lib.hid hlen; clear hlen
      by_cases h34 : s[k].toNat = 34 ∨ s[k].toNat = 92
      · have he : esc1 s[k] = [92, s[k]] := by unfold esc1; rw [if_pos h34]
        have He := Lib.hid he; clear he
        by_cases h1 : s[k].toNat = 34
        · have hb1 : ((s[k].toNat : Int) == 34) = true := by simp; omega
          clear h34 h1
          go_wp2_with (go_at_call 41; refine (writeByte_any w.heap.size w.heap.size _ 92 _ (Or.inr hI) (by have := Hl.out; omega) hbw).mono ?_)
          rintro e W1 ⟨rfl, h1', b1⟩
          have hbw1 : w.heap.size ≤ W1.heap.size := by have := b1.size; omega
          go_wp2_with (go_at_call 41; refine (writeByte_any w.heap.size w.heap.size _ _ _ (Or.inr h1') (by have := Hl.out; simp; omega) hbw1).mono ?_)
          rintro e W2 ⟨rfl, h2', b2⟩
          go_wp2
          go_roundw
          case rel =>
            refine ⟨k + 1, by omega, by go_num, ?_, hB.trans (b1.trans b2)⟩
            rw [Hs.out, He.out, show ((34 :: escBody (s.data.toList.take k)) ++ [92, s[k]]) = ((34 :: escBody (s.data.toList.take k)) ++ [92]) ++ [s[k]] from by simp, ← bytes1, ← bytes1]
            exact h2'
          case measure => simp [intOf]; omega
        · have hb1 : ((s[k].toNat : Int) == 34) = false := by simp; omega
          have hb2 : ((s[k].toNat : Int) == 92) = true := by simp; omega
          clear h34 h1
          go_wp2_with (go_at_call 41; refine (writeByte_any w.heap.size w.heap.size _ 92 _ (Or.inr hI) (by have := Hl.out; omega) hbw).mono ?_)
          rintro e W1 ⟨rfl, h1', b1⟩
          have hbw1 : w.heap.size ≤ W1.heap.size := by have := b1.size; omega
          go_wp2_with (go_at_call 41; refine (writeByte_any w.heap.size w.heap.size _ _ _ (Or.inr h1') (by have := Hl.out; simp; omega) hbw1).mono ?_)
          rintro e W2 ⟨rfl, h2', b2⟩
          go_wp2
          go_roundw
          case rel =>
            refine ⟨k + 1, by omega, by go_num, ?_, hB.trans (b1.trans b2)⟩
            rw [Hs.out, He.out, show ((34 :: escBody (s.data.toList.take k)) ++ [92, s[k]]) = ((34 :: escBody (s.data.toList.take k)) ++ [92]) ++ [s[k]] from by simp, ← bytes1, ← bytes1]
            exact h2'
          case measure => simp [intOf]; omega
      · have he : esc1 s[k] = [s[k]] := by unfold esc1; rw [if_neg h34]
        have He := Lib.hid he; clear he
        have hb1 : ((s[k].toNat : Int) == 34) = false := by simp; omega
        have hb2 : ((s[k].toNat : Int) == 92) = false := by simp; omega
        clear h34
        go_wp2_with (go_at_call 41; refine (writeByte_any w.heap.size w.heap.size _ _ _ (Or.inr hI) (by have := Hl.out; omega) hbw).mono ?_)
        rintro e W1 ⟨rfl, h1', b1⟩
        go_wp2
        go_roundw
        case rel =>
          refine ⟨k + 1, by omega, by go_num, ?_, hB.trans b1⟩
          rw [Hs.out, He.out, ← bytes1]
          exact h1'
        case measure => simp [intOf]; omega
    · go_wp2_with (go_at_call 41; refine (writeByte_any w.heap.size w.heap.size _ 34 _ (Or.inr hI) (by omega) hbw).mono ?_)
      rintro e W1 ⟨rfl, h1', b1⟩
      have hbw1 : w.heap.size ≤ W1.heap.size := by have := b1.size; omega
      have h2' : Lib.IsBuilder 54 5 w.heap.size w.heap.size (Lib.byteCells (escaped s.data.toList)) W1 := by
        right
        have : Lib.byteCells (escaped s.data.toList) = Lib.byteCells (34 :: escBody (List.take k s.data.toList)) ++ [Value.int IntKind.u8 34] := by
          rw [List.take_of_length_le (by rw [← Hz.out]; omega), escaped, show (34 : UInt8) :: (escBody s.data.toList ++ [34]) = (34 :: escBody s.data.toList) ++ [34] from rfl, Lib.byteCells_append]
          rfl
        rw [this]; exact h1'
      go_wp2_with (go_at_call 42; refine (Tryd.Builder_String_any w.heap.size w.heap.size _ _ h2' hbw1).mono ?_)
      rintro e W2 ⟨rfl, b2⟩
      go_wp2
      go_ret
      exact ⟨rfl, hB.trans (b1.trans b2)⟩

end Go.Proofs.YtaibejlploombaaDoor
