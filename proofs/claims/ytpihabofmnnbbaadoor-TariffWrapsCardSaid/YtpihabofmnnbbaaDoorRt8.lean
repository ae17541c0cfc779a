/-
  A REGION THAT DRAWS ITS ORDER AND WRITES: what reads what nobody in the region writes is taken first; what is left comes up in one order.
-/
import Derived.Test.YtpihabofmnnbbaaDoorRt7
import Derived.OrdersHeld
namespace Go.Proofs.YtpihabofmnnbbaaDoor.Rt
open Go Go.RowKit

/-- no way out by a panic -/
def NP (Q : Exit → Act → World → Prop) : Exit → Act → World → Prop := fun e a w => e = .normal ∧ Q .normal a w
/-- behind one operation that is carried out -/
def QK (K : Act → World → Prop) : Exit → Act → World → Prop := fun e a w => e = .normal ∧ K a w

/-- what every world of the region holds: the frozen, and the entries that it does not write -/
def SH (F : Frz) (O : List OE) (w : World) : Prop := ∃ F' X, F.le F' ∧ HS F' w X F' O w

section
variable {P : Program} {Q : Exit → Act → World → Prop} {n : Nat} {env : Env} {w : World}
variable {ops : Array Oper} {d : Nat} {S : World → Prop} {fuel : Nat} {listed : Array Bool}
variable {F0 F : Frz} {w0 : World} {X : List Nat} {O : List OE}

theorem HS.sh (h : HS F0 w0 X F O w) {F1 : Frz} (hle : F1.le F) (l : List Nat) (hl : l.Nodup) {O1 : List OE} (hO : Rt.pick O l = O1) : SH F1 O1 w := by
  have h2 := h.pick l hl hO
  refine ⟨F, O1.filterMap OE.blk, hle, h2.sat, Frz.refl F, fun _ hb => .inl hb, h2.own, fun e he b hb => ⟨(h2.sep e he b hb).1, .inr (List.mem_filterMap.2 ⟨e, he, hb⟩)⟩, h2.dis, rfl, rfl, rfl, Nat.le_refl _, fun _ _ _ => rfl⟩

def DW (P : Program) (ops : Array Oper) (Q : Exit → Act → World → Prop) (S : World → Prop) (fuel : Nat) (listed : Array Bool) (n : Nat) (env : Env) (w : World) : Prop :=
  ∀ a, Has n a env → wpAnyH P .any ops (NP Q) S fuel listed a w

theorem upon_of {o : Oper} {a : Act} {K : Act → World → Prop} {r : Result Next} (h : o.upon P a K (QK K) r) : o.upon P a K (NP Q) r := by
  cases r with
  | ok x w' =>
    cases x <;> simp only [Oper.upon] at h ⊢ <;>
      first
        | exact h
        | exact Calls.mono h (fun e w'' he => by
            cases e with
            | returned v => exact he
            | panicked c => exact absurd he.1 (by simp)
            | outgrown => obtain ⟨_, _, h3, _⟩ := he; cases h3)
  | halt x w' => cases x <;> simp only [Oper.upon] at h ⊢ <;> exact absurd h.1 (by simp)

/-- the one operation that may come up is carried out -/
theorem d_step (i : Nat) {o : Oper} (hi : ops[i]? = some o) (hr : Region.ready .any ops listed = [i])
    (h : RW P ops (QK fun a w' => S w' ∧ wpAnyH P .any ops (NP Q) S fuel (listed.setIfInBounds i true) a w') [o] n env w) : DW P ops Q S (fuel + 1) listed n env w := by
  intro a ha
  refine wpAnyH_all hr (by simp) ?_
  intro j hj
  obtain rfl := List.mem_singleton.1 hj
  have h1 := h a ha
  unfold wpList at h1
  unfold wpOp
  simp only [hi]
  split at h1
  · rename_i hw
    rw [if_pos hw]
    rcases h1 with h1 | ⟨_, _, _, h2, _⟩
    · left
      unfold Oper.wp at *
      refine upon_of ?_
      have : (wpList P ops (QK fun a w' => S w' ∧ wpAnyH P .any ops (NP Q) S fuel (listed.setIfInBounds j true) a w') []) = fun a w' => (QK fun a w' => S w' ∧ wpAnyH P .any ops (NP Q) S fuel (listed.setIfInBounds j true) a w') .normal a w' := rfl
      rw [this] at h1
      exact Oper.wp_mono (o := o) (w := w) (fun a w' hh => hh.2) h1
    · cases h2
  · rename_i hw
    rw [if_neg hw]
    exact h1.2
/-- two operations may come up -/
theorem d_two (i j : Nat) {o o' : Oper} (hi : ops[i]? = some o) (hj : ops[j]? = some o') (hr : Region.ready .any ops listed = [i, j])
    (h : RW P ops (QK fun a w' => S w' ∧ wpAnyH P .any ops (NP Q) S fuel (listed.setIfInBounds i true) a w') [o] n env w)
    (h' : RW P ops (QK fun a w' => S w' ∧ wpAnyH P .any ops (NP Q) S fuel (listed.setIfInBounds j true) a w') [o'] n env w) : DW P ops Q S (fuel + 1) listed n env w := by
  have one : ∀ (k : Nat) (x : Oper), ops[k]? = some x → RW P ops (QK fun a w' => S w' ∧ wpAnyH P .any ops (NP Q) S fuel (listed.setIfInBounds k true) a w') [x] n env w → ∀ a, Has n a env →
      wpOp P ops (NP Q) k (fun a' w' => S w' ∧ wpAnyH P .any ops (NP Q) S fuel (listed.setIfInBounds k true) a' w') a w := by
    intro k x hk hx a ha
    have h1 := hx a ha
    unfold wpList at h1
    unfold wpOp
    simp only [hk]
    split at h1
    · rename_i hw
      rw [if_pos hw]
      rcases h1 with h1 | ⟨_, _, _, h2, _⟩
      · left
        unfold Oper.wp at *
        refine upon_of ?_
        have : (wpList P ops (QK fun a w' => S w' ∧ wpAnyH P .any ops (NP Q) S fuel (listed.setIfInBounds k true) a w') []) = fun a w' => (QK fun a w' => S w' ∧ wpAnyH P .any ops (NP Q) S fuel (listed.setIfInBounds k true) a w') .normal a w' := rfl
        rw [this] at h1
        exact Oper.wp_mono (o := x) (w := w) (fun a w' hh => hh.2) h1
      · cases h2
    · rename_i hw
      rw [if_neg hw]
      exact h1.2
  intro a ha
  refine wpAnyH_all hr (by simp) ?_
  intro k hk
  simp only [List.mem_cons, List.not_mem_nil, or_false] at hk
  rcases hk with rfl | rfl
  · exact one _ _ hi h a ha
  · exact one _ _ hj h' a ha
theorem d_next (hS : S w) (k : DW P ops Q S fuel listed n env w) : RW P ops (QK fun a w' => S w' ∧ wpAnyH P .any ops (NP Q) S fuel listed a w') [] n env w :=
  fun a ha => ⟨rfl, hS, k a ha⟩
theorem d_done (hr : Region.ready .any ops listed = []) (k : QW Q .normal n env w) : DW P ops Q S fuel listed n env w :=
  fun a ha => wpAnyH_done hr ⟨rfl, k a ha⟩ fuel

/-- what yields its value in every world of the region is taken first -/
theorem d_yield (i : Nat) {o : Oper} {v : Value} (hi : ops[i]? = some o) (hs : Region.noSelect ops = true) (hf : Region.free .any ops listed i = true) (hr : (Region.ready .any ops listed).contains i = true)
    (hd : o.dst = some d) (hn : Nat.blt d n = true) (hg : isOn ops env o.guard = true) (hS : S w) (hv : ∀ w', S w' → ∀ a, Has n a env → (execOp a.eval o).run P w' = .ok (.value v) w')
    (k : DW P ops Q S fuel (listed.setIfInBounds i true) n ((d, v) :: env) w) : DW P ops Q S (fuel + 1) listed n env w := by
  intro a ha
  have hn' : d < n := by simpa using hn
  refine wpAnyH_take hi hs hf hr (fun c a w h => absurd h.1 (by simp)) (v := v) (.inl ⟨wanted_on ha hg, fun w' hw' => hv w' hw' a ha⟩) hS ?_
  rw [hd]; exact k _ (ha.put hn' v)
/-- what yields its value in every world of the region is taken first -/
theorem d_take (i : Nat) {o : Oper} {v : Value} (hi : ops[i]? = some o) (hs : Region.noSelect ops = true) (hf : Region.free .any ops listed i = true) (hr : (Region.ready .any ops listed).contains i = true)
    (hd : o.dst = some d) (hn : Nat.blt d n = true) (hg : isOn ops env o.guard = true) (ho : plainOp o.op = true) (hS : S w) (hv : ∀ w', S w' → RW P ops (QQ (fun w'' => w'' = w') d v) [o] n env w')
    (k : DW P ops Q S fuel (listed.setIfInBounds i true) n ((d, v) :: env) w) : DW P ops Q S (fuel + 1) listed n env w := by
  refine d_yield i hi hs hf hr hd hn hg hS (fun w' hw' a ha => ?_) k
  have hn' : d < n := by simpa using hn
  have h := hv w' hw' a ha
  unfold wpList at h
  rw [if_pos (wanted_on ha hg)] at h
  rcases h with h | ⟨_, _, _, h, _⟩
  · unfold Oper.wp at h
    have hput : ∀ u, (a.put (some d) u).tmps[d]? = some u := fun u => by simp [Act.put, ha.size, hn']
    cases hrn : (execOp a.eval o).run P w' with
    | ok x w'' =>
      obtain ⟨u, rfl⟩ := plain_value ho hrn
      rw [hrn, Oper.upon_value, hd] at h
      have h3 := h.2.2
      rw [hput] at h3
      obtain rfl : w'' = w' := h.2.1
      obtain rfl : u = v := by simpa using h3
      rfl
    | halt x w'' =>
      rw [hrn] at h
      cases x <;> first | exact h.elim | exact absurd h.1 (by simp)
  · cases h
theorem d_nilC (i : Nat) {x : Operand} {p : Addr} {g : Option (Nat × Bool)} {ty : TypeId} {pos : String} {es : Array Edge} (hi : ops[i]? = some ⟨some d, .nilCheck x, ty, pos, es, g⟩) (hs : Region.noSelect ops = true) (hf : Region.free .any ops listed i = true)
    (hr : (Region.ready .any ops listed).contains i = true) (hn : Nat.blt d n = true) (hg : isOn ops env g = true) (hx : opv env x = some (.pointer (some p))) (hS : S w)
    (k : DW P ops Q S fuel (listed.setIfInBounds i true) n ((d, .pointer (some p)) :: env) w) : DW P ops Q S (fuel + 1) listed n env w :=
  d_yield i hi hs hf hr rfl hn hg hS (fun w' _ a ha => by simp [execOp, ha.op hx]) k
theorem d_findex (i : Nat) {t : TypeId} {x y : Operand} {a : Option Addr} {m c : Nat} {ik : IntKind} {z : Int} {v : Value} {g : Option (Nat × Bool)} {ty : TypeId} {pos : String} {es : Array Edge} (hi : ops[i]? = some ⟨some d, .indexAddr t x y, ty, pos, es, g⟩) (hs : Region.noSelect ops = true) (hf : Region.free .any ops listed i = true)
    (hr : (Region.ready .any ops listed).contains i = true) (hn : Nat.blt d n = true) (hg : isOn ops env g = true)
    (hx : opv env x = some (.slice a m c)) (hy : opv env y = some (.int ik z)) (hrun : ∀ (ik : IntKind) (w : World), (Instr.indexAt t (.slice a m c) (.int ik z)).run P w = .ok v w) (hS : S w)
    (k : DW P ops Q S fuel (listed.setIfInBounds i true) n ((d, v) :: env) w) : DW P ops Q S (fuel + 1) listed n env w :=
  d_yield i hi hs hf hr rfl hn hg hS (fun w' _ a ha => by simp [execOp, ha.op hx, ha.op hy, hrun]) k
theorem d_off (i : Nat) {o : Oper} (hi : ops[i]? = some o) (hs : Region.noSelect ops = true) (hf : Region.free .any ops listed i = true) (hr : (Region.ready .any ops listed).contains i = true)
    (hd : o.dst = some d) (hn : Nat.blt d n = true) (hg : isOff ops env o.guard = true) (hS : S w)
    (k : DW P ops Q S fuel (listed.setIfInBounds i true) n ((d, undef) :: env) w) : DW P ops Q S (fuel + 1) listed n env w := by
  intro a ha
  have hn' : d < n := by simpa using hn
  refine wpAnyH_take hi hs hf hr (fun c a w h => absurd h.1 (by simp)) (v := undef) (.inr ⟨by simp [wanted_off ha hg], rfl⟩) hS ?_
  rw [hd]; exact k _ (ha.put hn' undef)

/-- a pointer that is there, in a region that only reads -/
theorem q_nilC {C : World → Prop} {Qa : Act → Prop} {rest : List Oper} {x : Operand} {a : Addr} {g : Option (Nat × Bool)} {ty : TypeId} {pos : String} {es : Array Edge} (hg : isOn ops env g = true) (hn : Nat.blt d n = true) (hx : opv env x = some (.pointer (some a)))
    (k : QR P ops C Qa rest n ((d, .pointer (some a)) :: env)) : QR P ops C Qa (⟨some d, .nilCheck x, ty, pos, es, g⟩ :: rest) n env :=
  q_val rfl hn hg (fun w _ a' ha => by
    unfold Oper.quietAt
    simp [execOp, ha.op hx]
    exact ⟨rfl, rfl⟩) k

theorem c_regionH {id : Nat} {l : List Oper} (S : World → Prop) (N : Nat) (hN : l.toArray.size = N) (hm : P.follows .mixedOrders = true) (h : HS F0 w0 X F O w)
    (k : ∀ w', HS F0 w0 X F O w' → DW P l.toArray Q S N (Array.replicate N false) n env w') : CW P (.region id l.toArray true) Q n env w := fun a ha => by
  subst hN
  have h1 := k _ h.drew a ha
  have h2 := wp_region_held (Q := NP Q) (id := id) (a := a) (w := w) hm h1
  refine Code.wp_mono ?_ h2
  rintro e a' w' ⟨rfl, h3⟩
  exact h3
end
end Go.Proofs.YtpihabofmnnbbaaDoor.Rt
