/-
  RUNTIME, a further part: parts of slices in a region that draws its order and writes.
-/
import Derived.Test.YtpihabofmnnbbaaDoorRtH
namespace Go.Proofs.YtpihabofmnnbbaaDoor.Rt
open Go Go.RowKit

section
variable {P : Program} {Q : Exit → Act → World → Prop} {n : Nat} {env : Env} {w : World}
variable {ops : Array Oper} {d : Nat} {S : World → Prop} {fuel : Nat} {listed : Array Bool} {F : Frz}
variable {g : Option (Nat × Bool)} {ty : TypeId} {pos : String} {es : Array Edge}
theorem run_fslA {α : Type} {r : Rp α} {t e : TypeId} (hu : P.underlying t = some (.slice e)) (hS : SizeIs P e r.k) {a : Option Addr} {m c : Nat} {xs ys : List α} {lo hi : Int} (hs : SlR r F a m c xs) (hl : lsl xs lo hi = some ys) {lo' hi' : Option Value}
    (ha : lo' = some (.int .i64 lo) ∨ lo' = none ∧ lo = 0) (hb : hi' = some (.int .i64 hi) ∨ hi' = none ∧ hi = xs.length) :
    ∃ a' m' c', (∀ w, (Instr.sliceAt t (.slice a m c) lo' hi' none).run P w = .ok (.slice a' m' c') w) ∧ SlR r F a' m' c' ys := by
  have hm := hs.1
  subst hm
  unfold lsl at hl
  split at hl
  · rename_i hc
    cases hl
    obtain ⟨h0, h1, h2⟩ := hc
    obtain ⟨p, rfl⟩ := Int.eq_ofNat_of_zero_le h0
    obtain ⟨q, rfl⟩ := Int.eq_ofNat_of_zero_le (show 0 ≤ hi by omega)
    have h1' : p ≤ q := by omega
    have h2' : q ≤ xs.length := by omega
    have h3 := hs.2.1
    have e1 : ∀ (w : World) (c : BoundsCode) (y : Nat), q ≤ y → (Instr.sliceBound (.int .i64 (q : Int)) y c).run P w = .ok q w := fun w c y hy => by simp [Instr.sliceBound, asIntOf, hy]
    have e2 : ∀ (w : World) (c : BoundsCode) (y : Nat), p ≤ y → (Instr.sliceBound (.int .i64 (p : Int)) y c).run P w = .ok p w := fun w c y hy => by simp [Instr.sliceBound, asIntOf, hy]
    have hq : q ≤ c := by omega
    refine ⟨_, _, _, fun w => ?_, by simpa using hs.part h1' h2'⟩
    rcases ha with rfl | ⟨rfl, hp⟩ <;> rcases hb with rfl | ⟨rfl, hqq⟩
    · simp [Instr.sliceAt, Instr.slice, Instr.sliceBounds, underlying, hu, e1, e2, h1', hq, hS w]
    · obtain rfl : q = xs.length := by omega
      simp [Instr.sliceAt, Instr.slice, Instr.sliceBounds, underlying, hu, e2, h1', hS w]
    · obtain rfl : p = 0 := by omega
      simp [Instr.sliceAt, Instr.slice, Instr.sliceBounds, underlying, hu, e1, hq, hS w]
    · obtain rfl : p = 0 := by omega
      obtain rfl : q = xs.length := by omega
      simp [Instr.sliceAt, Instr.slice, Instr.sliceBounds, underlying, hu, hS w]
  · cases hl

theorem d_fsl_lh (i : Nat) {t : TypeId} {x y z : Operand} {a : Option Addr} {m c : Nat} {lo hi v : Value} (hi' : ops[i]? = some ⟨some d, .slice t x (some y) (some z) none, ty, pos, es, g⟩) (hs : Region.noSelect ops = true) (hf : Region.free .any ops listed i = true)
    (hr : (Region.ready .any ops listed).contains i = true) (hn : Nat.blt d n = true) (hg : isOn ops env g = true) (hx : opv env x = some (.slice a m c)) (hy : opv env y = some lo) (hz : opv env z = some hi) (hrun : ∀ w, (Instr.sliceAt t (.slice a m c) (some lo) (some hi) none).run P w = .ok v w) (hS : S w)
    (k : DW P ops Q S fuel (listed.setIfInBounds i true) n ((d, v) :: env) w) : DW P ops Q S (fuel + 1) listed n env w :=
  d_yield i hi' hs hf hr rfl hn hg hS (fun w' _ a ha => by simp [execOp, ha.op hx, ha.op hy, ha.op hz, hrun]) k
theorem d_fsl_l (i : Nat) {t : TypeId} {x y : Operand} {a : Option Addr} {m c : Nat} {lo v : Value} (hi' : ops[i]? = some ⟨some d, .slice t x (some y) none none, ty, pos, es, g⟩) (hs : Region.noSelect ops = true) (hf : Region.free .any ops listed i = true)
    (hr : (Region.ready .any ops listed).contains i = true) (hn : Nat.blt d n = true) (hg : isOn ops env g = true) (hx : opv env x = some (.slice a m c)) (hy : opv env y = some lo) (hrun : ∀ w, (Instr.sliceAt t (.slice a m c) (some lo) none none).run P w = .ok v w) (hS : S w)
    (k : DW P ops Q S fuel (listed.setIfInBounds i true) n ((d, v) :: env) w) : DW P ops Q S (fuel + 1) listed n env w :=
  d_yield i hi' hs hf hr rfl hn hg hS (fun w' _ a ha => by simp [execOp, ha.op hx, ha.op hy, hrun]) k
theorem d_fsl_h (i : Nat) {t : TypeId} {x z : Operand} {a : Option Addr} {m c : Nat} {hi v : Value} (hi' : ops[i]? = some ⟨some d, .slice t x none (some z) none, ty, pos, es, g⟩) (hs : Region.noSelect ops = true) (hf : Region.free .any ops listed i = true)
    (hr : (Region.ready .any ops listed).contains i = true) (hn : Nat.blt d n = true) (hg : isOn ops env g = true) (hx : opv env x = some (.slice a m c)) (hz : opv env z = some hi) (hrun : ∀ w, (Instr.sliceAt t (.slice a m c) none (some hi) none).run P w = .ok v w) (hS : S w)
    (k : DW P ops Q S fuel (listed.setIfInBounds i true) n ((d, v) :: env) w) : DW P ops Q S (fuel + 1) listed n env w :=
  d_yield i hi' hs hf hr rfl hn hg hS (fun w' _ a ha => by simp [execOp, ha.op hx, ha.op hz, hrun]) k
/-- behind each operation that may come up -/
def Steps (P : Program) (ops : Array Oper) (Q : Exit → Act → World → Prop) (S : World → Prop) (fuel : Nat) (listed : Array Bool) (n : Nat) (env : Env) (w : World) (l : List Nat) : Prop :=
  ∀ i, i ∈ l → ∃ o, ops[i]? = some o ∧ RW P ops (QK fun a w' => S w' ∧ wpAnyH P .any ops (NP Q) S fuel (listed.setIfInBounds i true) a w') [o] n env w
theorem steps_nil : Steps P ops Q S fuel listed n env w [] := fun _ h => absurd h List.not_mem_nil
theorem steps_cons {i : Nat} {l : List Nat} {o : Oper} (hi : ops[i]? = some o) (h : RW P ops (QK fun a w' => S w' ∧ wpAnyH P .any ops (NP Q) S fuel (listed.setIfInBounds i true) a w') [o] n env w) (hl : Steps P ops Q S fuel listed n env w l) : Steps P ops Q S fuel listed n env w (i :: l) := by
  intro j hj
  rcases List.mem_cons.1 hj with rfl | hj
  · exact ⟨o, hi, h⟩
  · exact hl j hj
/-- several operations may come up -/
theorem d_many (l : List Nat) (hr : Region.ready .any ops listed = l) (hl : l.isEmpty = false) (h : Steps P ops Q S fuel listed n env w l) : DW P ops Q S (fuel + 1) listed n env w := by
  have one : ∀ (k : Nat) (x : Oper), ops[k]? = some x → RW P ops (QK fun a w' => S w' ∧ wpAnyH P .any ops (NP Q) S fuel (listed.setIfInBounds k true) a w') [x] n env w → ∀ a, Has n a env →
      wpOp P ops (NP Q) k (fun a' w' => S w' ∧ wpAnyH P .any ops (NP Q) S fuel (listed.setIfInBounds k true) a' w') a w := by
    intro k x hk hx a ha
    have h1 := hx a ha
    unfold wpList at h1
    unfold wpOp
    simp only [hk]
    split at h1
    · rename_i hw
      rw [if_pos hw]
      rcases h1 with h1 | ⟨_, _, _, h2, _⟩
      · left
        unfold Oper.wp at *
        refine upon_of ?_
        have : (wpList P ops (QK fun a w' => S w' ∧ wpAnyH P .any ops (NP Q) S fuel (listed.setIfInBounds k true) a w') []) = fun a w' => (QK fun a w' => S w' ∧ wpAnyH P .any ops (NP Q) S fuel (listed.setIfInBounds k true) a w') .normal a w' := rfl
        rw [this] at h1
        exact Oper.wp_mono (o := x) (w := w) (fun a w' hh => hh.2) h1
      · cases h2
    · rename_i hw
      rw [if_neg hw]
      exact h1.2
  intro a ha
  refine wpAnyH_all hr (by cases l <;> simp at hl ⊢) ?_
  intro k hk
  obtain ⟨o, ho, h2⟩ := h k hk
  exact one k o ho h2 a ha
end
end Go.Proofs.YtpihabofmnnbbaaDoor.Rt
