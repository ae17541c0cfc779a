/-
  A BLOCK THAT THE CALLER LENDS: methods with pointer receivers.
-/
import Derived.Test.YtpihabofmnnbbaaDoorRt6
namespace Go.Proofs.YtpihabofmnnbbaaDoor.Rt
open Go Go.RowKit

theorem HS.lend {F : Frz} {w : World} {b : Nat} {t : TypeId} {cs : List Value} (hs : Sat F w) (hb : (OE.box b t cs).ok w) (hf : F b = none) : HS F w [b] F [.box b t cs] w :=
  ⟨hs, Frz.refl F, fun _ h => .inl h, by simpa using hb, by
    intro e he b' hb'
    obtain rfl := List.mem_singleton.1 he
    obtain rfl : b = b' := Option.some.inj hb'
    exact ⟨hf, .inr (by simp)⟩, by simp, rfl, rfl, rfl, Nat.le_refl _, fun _ _ _ => rfl⟩

section
variable {F0 F : Frz} {w0 w : World} {X : List Nat} {O : List OE}

theorem HS.lendable (h : HS F0 w0 X F O w) {i b : Nat} {t : TypeId} {cs : List Value} (hi : O[i]? = some (.box b t cs)) : F b = none := (h.sep _ (List.mem_of_getElem? hi) b rfl).1

theorem HS.callL (h : HS F0 w0 X F O w) {i b : Nat} {t : TypeId} {cs cs' : List Value} (hi : O[i]? = some (.box b t cs)) {F' : Frz} {O2 : List OE} {w' : World}
    (h2 : HS F w [b] F' (.box b t cs' :: O2) w') : HS F0 w0 X F' (O2 ++ O.set i (.box b t cs')) w' := by
  obtain ⟨hlt, hget⟩ := List.getElem?_eq_some_iff.1 hi
  have hmem : OE.box b t cs ∈ O := List.mem_of_getElem? hi
  have hsepb := h.sep _ hmem b rfl
  have hbw : b < w.heap.size := OE.lt (h.own _ hmem) rfl
  have hg : w.grownBy w' (some b) := ⟨h2.os, h2.tape, h2.output, h2.size, fun k hk hne => h2.old k hk (by rw [List.mem_singleton]; exact fun e => hne (by rw [e]))⟩
  -- what stands in the list now: the lent box, or an entry of before with another block
  have hcase : ∀ e ∈ O.set i (.box b t cs'), e = .box b t cs' ∨ (e ∈ O ∧ e.blk ≠ some b) := by
    intro e he
    obtain ⟨j, hj, rfl⟩ := List.mem_iff_getElem.1 he
    rw [List.getElem_set]
    by_cases hij : i = j
    · left; rw [if_pos hij]
    · right
      rw [if_neg hij]
      have hj' : j < O.length := by simpa using hj
      refine ⟨List.getElem_mem hj', fun hb => ?_⟩
      have hp := List.pairwise_iff_getElem.1 h.dis
      rcases Nat.lt_or_ge i j with h1 | h1
      · exact hp i j hlt hj' h1 b (by rw [hget]; rfl) hb
      · exact hp j i hj' hlt (by omega) b hb (by rw [hget]; rfl)
  have hd2 := List.pairwise_cons.1 h2.dis
  have hO2 : ∀ e ∈ O2, ∀ b', e.blk = some b' → F' b' = none ∧ w.heap.size ≤ b' := by
    intro e he b' hb'
    obtain ⟨h1, h3⟩ := h2.sep e (by simp [he]) b' hb'
    refine ⟨h1, ?_⟩
    rcases h3 with h3 | h3
    · exact h3
    · obtain rfl := List.mem_singleton.1 h3
      exact absurd hb' (hd2.1 e he b' rfl)
  refine ⟨h2.sat, h.le.trans h2.le, fun b' hb' => ?_, fun e he => ?_, fun e he b' hb' => ?_, ?_, h2.os.trans h.os, h2.tape.trans h.tape, h2.output.trans h.output, Nat.le_trans h.size h2.size, fun b' hb' hx => ?_⟩
  · rcases h2.new b' hb' with h1 | h1
    · exact h.new b' h1
    · exact .inr (Nat.le_trans h.size h1)
  · rcases List.mem_append.1 he with he | he
    · exact h2.own e (by simp [he])
    · rcases hcase e he with rfl | ⟨he, hne⟩
      · exact h2.own _ (by simp)
      · exact OE.kept (h.own e he) hg (fun b1 hb1 e1 => hne (by rw [hb1, e1]))
  · rcases List.mem_append.1 he with he | he
    · obtain ⟨h1, h3⟩ := hO2 e he b' hb'
      exact ⟨h1, .inl (Nat.le_trans h.size h3)⟩
    · rcases hcase e he with rfl | ⟨he, hne⟩
      · obtain rfl : b = b' := Option.some.inj hb'
        exact ⟨(h2.sep _ (List.mem_cons_self ..) b rfl).1, hsepb.2⟩
      · obtain ⟨h1, h3⟩ := h.sep e he b' hb'
        refine ⟨?_, h3⟩
        cases hf : F' b' with
        | none => rfl
        | some o =>
          rcases h2.new b' (by simp [hf]) with h4 | h4
          · exact absurd h1 h4
          · have := OE.lt (h.own e he) hb'; omega
  · refine List.pairwise_append.2 ⟨hd2.2, ?_, fun e he e' he' b' hb1 hb2 => ?_⟩
    · rw [List.pairwise_iff_getElem]
      intro j k hj hk hjk b' hb1 hb2
      have hj' : j < O.length := by simpa using hj
      have hk' : k < O.length := by simpa using hk
      have hp := List.pairwise_iff_getElem.1 h.dis j k hj' hk' hjk b'
      have hblk : ∀ l (hl : l < (O.set i (.box b t cs')).length) (hl' : l < O.length), (O.set i (.box b t cs'))[l].blk = O[l].blk := by
        intro l hl hl'
        rw [List.getElem_set]
        split
        · rename_i e1; subst e1; rw [hget]; rfl
        · rfl
      rw [hblk j hj hj'] at hb1
      rw [hblk k hk hk'] at hb2
      exact hp hb1 hb2
    · have h1 := (hO2 e he b' hb1).2
      rcases hcase e' he' with rfl | ⟨he', _⟩
      · obtain rfl : b = b' := Option.some.inj hb2
        omega
      · have := OE.lt (h.own e' he') hb2; omega
  · have hne : b' ≠ b := by
      rintro rfl
      rcases hsepb.2 with h1 | h1
      · omega
      · exact hx h1
    rw [h2.old b' (Nat.lt_of_lt_of_le hb' h.size) (by simpa using hne)]
    exact h.old b' hb' hx

/-- a row is frozen while a block is lent: the lent one is another -/
theorem HS.unlend {b : Nat} {k : Nat} {t : TypeId} {cs : List Value} (h : HS F0 w0 [b] F O w) (hk : O[k]? = some (.box b t cs)) {e : OE} {i : Nat} (hi : O[i]? = some e) (hik : i ≠ k) {b' : Nat} (hb : e.blk = some b') : w0.heap.size ≤ b' := by
  rcases (h.sep e (List.mem_of_getElem? hi) b' hb).2 with h1 | h1
  · exact h1
  · obtain rfl := List.mem_singleton.1 h1
    obtain ⟨hi1, hi2⟩ := List.getElem?_eq_some_iff.1 hi
    obtain ⟨hk1, hk2⟩ := List.getElem?_eq_some_iff.1 hk
    have hp := List.pairwise_iff_getElem.1 h.dis
    rcases Nat.lt_or_ge i k with h2 | h2
    · exact absurd (by rw [hk2]; rfl) (hp i k hi1 hk1 h2 b' (by rw [hi2]; exact hb))
    · exact absurd (by rw [hi2]; exact hb) (hp k i hk1 hi1 (by omega) b' (by rw [hk2]; rfl))
/-- a row of the call's own is frozen, whatever is lent -/
theorem freezeRowX (h : HS F0 w0 X F O w) {i : Nat} {e : TypeId} {q m c : Nat} {a : Option Addr} {xs : List Value} {α : Type} {r : Rp α} {ts : List α} (hi : O[i]? = some (.row e q a m c xs)) (hrn : RowN r F m xs ts) (hX : ∀ gb, (OE.row e q a m c xs).blk = some gb → w0.heap.size ≤ gb) :
    ∃ F', F.le F' ∧ HS F0 w0 X F' (O.eraseIdx i) w ∧ SlR r F' a m c ts := by
  obtain ⟨hm, hr⟩ := hrn
  subst hm
  obtain ⟨hlt, hget⟩ := List.getElem?_eq_some_iff.1 hi
  have hperm : HS F0 w0 X F (.row e q a ts.length c xs :: O.eraseIdx i) w := by
    refine ⟨h.sat, h.le, h.new, fun x hx => ?_, fun x hx => ?_, ?_, h.os, h.tape, h.output, h.size, h.old⟩
    · rcases List.mem_cons.1 hx with rfl | hx
      · exact h.get hi
      · exact h.own x ((List.eraseIdx_sublist O i).subset hx)
    · rcases List.mem_cons.1 hx with rfl | hx
      · exact h.sep _ (List.mem_of_getElem? hi)
      · exact h.sep x ((List.eraseIdx_sublist O i).subset hx)
    · refine List.pairwise_cons.2 ⟨fun x hx b hb1 hb2 => ?_, h.dis.sublist (List.eraseIdx_sublist O i)⟩
      obtain ⟨j, hj, hne, hxj⟩ : ∃ j, ∃ hj : j < O.length, j ≠ i ∧ O[j] = x := by
        obtain ⟨p, hp, rfl⟩ := List.mem_iff_getElem.1 hx
        rw [List.getElem_eraseIdx]
        have hp' : p < O.length - 1 := by rw [List.length_eraseIdx] at hp; simp [hlt] at hp; exact hp
        split
        · exact ⟨p, by omega, by omega, rfl⟩
        · exact ⟨p + 1, by omega, by omega, rfl⟩
      have hp := List.pairwise_iff_getElem.1 h.dis
      rcases Nat.lt_or_ge j i with h1 | h1
      · exact hp j i hj hlt h1 b (hxj ▸ hb2) (hget ▸ hb1)
      · exact hp i j hlt hj (by omega) b (hget ▸ hb1) (hxj ▸ hb2)
  have hown := h.get hi
  rcases hown.2 with ⟨he, h0⟩ | ⟨gb, cap, cur, he, _, hgb, hnc, hcm, hcs, htake⟩
  · simp only [Value.slice.injEq] at he
    obtain ⟨rfl, h1, rfl⟩ := he
    have hts : ts = [] := List.eq_nil_of_length_eq_zero h0
    subst hts
    exact ⟨F, Frz.refl F, hperm.sub (List.sublist_cons_self _ _), SlR.nil r F⟩
  · simp only [Value.slice.injEq] at he
    obtain ⟨rfl, _, e3⟩ := he
    obtain rfl : cap = c := e3.symm
    have hsep := hperm.sep _ (List.mem_cons_self ..) gb rfl
    have hge : w0.heap.size ≤ gb := hX gb rfl
    have hle : F.le (fun k => if k = gb then some (.cells cur e (0, 0)) else F k) := freeze_le hsep.1
    refine ⟨_, hle, hperm.freeze rfl rfl hge hgb, rfl, hnc, hcm, .inr ⟨gb, 0, xs, rfl, ⟨cur, e, (0, 0), by simp, ?_⟩, hr.mono hle⟩⟩
    rw [← htake]
    exact List.take_prefix _ _


theorem freezeRowL {b k : Nat} {t : TypeId} {cs : List Value} (h : HS F0 w0 [b] F O w) (hk : O[k]? = some (.box b t cs)) {i : Nat} {e : TypeId} {q m c : Nat} {a : Option Addr} {xs : List Value} {α : Type} {r : Rp α} {ts : List α} (hi : O[i]? = some (.row e q a m c xs)) (hik : i ≠ k) (hr : RowN r F m xs ts) :
    ∃ F', F.le F' ∧ HS F0 w0 [b] F' (O.eraseIdx i) w ∧ SlR r F' a m c ts :=
  freezeRowX h hi hr (fun _ hb => h.unlend hk hi hik hb)
end

section
variable {P : Program} {Q : Exit → Act → World → Prop} {n : Nat} {env : Env} {w : World}
variable {opr : Array Oper} {rest : List Oper} {d : Nat} {g : Option (Nat × Bool)} {ty : TypeId} {pos : String} {es : Array Edge}
variable {F0 F : Frz} {w0 : World} {X : List Nat} {O : List OE}

/-- a call to which a block is lent -/
theorem r_callL {c : Operand} {l : List Operand} {ts : Array TypeId} {f : FuncId} {vl : List Value} {R : Value → Frz → List Value → List OE → Prop} {i b : Nat} {t : TypeId} {cs : List Value} (he : Ent P f) (hg : isOn opr env g = true) (hn : Nat.blt d n = true)
    (hc : opv env c = some (.func (.func f) #[] #[])) (hl : opvs env l = some vl) (h : HS F0 w0 X F O w) (hi : O[i]? = some (.box b t cs))
    (hC : Calls P f vl.toArray w fun e w' => ∃ v F' cs' O', e = .returned v ∧ HS F w [b] F' (.box b t cs' :: O') w' ∧ R v F' cs' O')
    (k : ∀ v F' cs' O' w', F.le F' → HS F0 w0 X F' (O' ++ O.set i (.box b t cs')) w' → R v F' cs' O' → RW P opr Q rest n ((d, v) :: env) w') : RW P opr Q (⟨some d, .call ⟨.value c, l.toArray, ts⟩, ty, pos, es, g⟩ :: rest) n env w :=
  r_call (first := #[]) (cap := #[]) (R := fun v w' => ∃ F' cs' O', HS F w [b] F' (.box b t cs' :: O') w' ∧ R v F' cs' O') he hg hn hc hl (by simpa using hC.mono fun _ _ ⟨v, F', cs', O', h1, h2, h3⟩ => ⟨v, h1, F', cs', O', h2, h3⟩)
    (fun v w' ⟨F', cs', O', h2, h3⟩ => k v F' cs' O' w' h2.le (h.callL hi h2) h3)

/-- a pointer that is there -/
theorem r_nilC {x : Operand} {a : Addr} (hg : isOn opr env g = true) (hn : Nat.blt d n = true) (hx : opv env x = some (.pointer (some a)))
    (k : RW P opr Q rest n ((d, .pointer (some a)) :: env) w) : RW P opr Q (⟨some d, .nilCheck x, ty, pos, es, g⟩ :: rest) n env w :=
  r_val rfl (by simpa using hn) hg (fun a' ha => by simp [execOp, ha.op hx]) k

/-- a field of a struct's value -/
theorem r_field {T j : Nat} {x : Operand} {v u : Value} (hrun : ∀ w, (Instr.field T v j).run P w = .ok u w) (hg : isOn opr env g = true) (hn : Nat.blt d n = true) (hx : opv env x = some v)
    (k : RW P opr Q rest n ((d, u) :: env) w) : RW P opr Q (⟨some d, .field T x j, ty, pos, es, g⟩ :: rest) n env w :=
  r_val rfl (by simpa using hn) hg (fun a' ha => by simp [execOp, ha.op hx, hrun w]) k
theorem b_ret0 {fn : Func} {R : Ending → World → Prop} (hf : fn.results = #[]) (hR : R (.returned (.tuple #[])) w) : QW (bodyPost P fn R) .ret n env w :=
  b_ret (fun a ha => by simp [results, hf]) hR
theorem b_end0 {fn : Func} {R : Ending → World → Prop} (hf : fn.results = #[]) (hR : R (.returned (.tuple #[])) w) : QW (bodyPost P fn R) .normal n env w :=
  fun a ha => ⟨ha.defers, _, by simp [results, hf], hR⟩
end
end Go.Proofs.YtpihabofmnnbbaaDoor.Rt
