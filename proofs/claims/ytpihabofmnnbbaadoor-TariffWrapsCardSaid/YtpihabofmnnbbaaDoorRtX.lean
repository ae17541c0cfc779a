/-
  RUNTIME, a further part: the builtin max.
-/
import Derived.Test.YtpihabofmnnbbaaDoorRtR
namespace Go.Proofs.YtpihabofmnnbbaaDoor.Rt
open Go Go.RowKit
def imax (x y : Int) : Int := if x < y then y else x
section
variable {P : Program} {Q : Exit → Act → World → Prop} {n : Nat} {env : Env} {w : World}
variable {opr : Array Oper} {rest : List Oper} {d : Nat} {g : Option (Nat × Bool)} {ty : TypeId} {pos : String} {es : Array Edge}
theorem r_max {x y : Operand} {ts : Array TypeId} {i : IntKind} {p q : Int} (hg : isOn opr env g = true) (hn : Nat.blt d n = true) (hx : opv env x = some (.int i p)) (hy : opv env y = some (.int i q))
    (k : RW P opr Q rest n ((d, .int i (imax p q)) :: env) w) : RW P opr Q (⟨some d, .call ⟨.builtin .max, #[x, y], ts⟩, ty, pos, es, g⟩ :: rest) n env w :=
  r_val rfl (by simpa using hn) hg (fun a ha => by simp [execOp, resolve, invoke, builtin, ha.op hx, ha.op hy, Builtin.max_, Builtin.max2, imax]) k
end
section
variable {P : Program} {Q : Exit → Act → World → Prop} {n : Nat} {env : Env} {w : World} {F0 F : Frz} {w0 : World} {X : List Nat} {O : List OE}
variable {opr : Array Oper} {rest : List Oper} {d : Nat} {g : Option (Nat × Bool)} {ty : TypeId} {pos : String} {es : Array Edge}
theorem r_loadBW {T : TypeId} {x : Operand} {b i m : Nat} {t : TypeId} {cs : List Value} (hA : IsAgg P T true) (hS : SizeIs P T m) (hg : isOn opr env g = true) (hn : Nat.blt d n = true) (h : HS F0 w0 X F O w) (hx : opv env x = some (.pointer (some ⟨b, 0, none⟩)))
    (hi : O[i]? = some (.box b t cs)) (hm : cs.length = m) (k : RW P opr Q rest n ((d, .agg cs.toArray) :: env) w) : RW P opr Q (⟨some d, .load T x, ty, pos, es, g⟩ :: rest) n env w :=
  r_loadBA hA hS hg hn h hx hi (by rw [List.drop_zero]; exact List.take_of_length_le (Nat.le_of_eq hm)) hm k
theorem r_loadFW {T : TypeId} {x : Operand} {b o m : Nat} {cs : List Value} (hA : IsAgg P T true) (hS : SizeIs P T m) (hg : isOn opr env g = true) (hn : Nat.blt d n = true) (h : HS F0 w0 X F O w) (hf : FC F b o cs) (hx : opv env x = some (.pointer (some ⟨b, o, none⟩)))
    (hm : cs.length = m) (k : RW P opr Q rest n ((d, .agg cs.toArray) :: env) w) : RW P opr Q (⟨some d, .load T x, ty, pos, es, g⟩ :: rest) n env w :=
  r_loadFA (j := 0) hA hS hg hn h hf hx (by rw [List.drop_zero]; exact List.take_of_length_le (Nat.le_of_eq hm)) hm k
end
section
variable {P : Program} {Q : Exit → Act → World → Prop} {n : Nat} {env : Env} {w : World} {ops : Array Oper} {d : Nat} {S : World → Prop} {fuel : Nat} {listed : Array Bool} {F : Frz} {O : List OE}
/-- the operation may be taken now -/
def tkOk (ops : Array Oper) (listed : Array Bool) (i : Nat) : Bool := Region.noSelect ops && Region.free .any ops listed i && (Region.ready .any ops listed).contains i
theorem tkOk_all {i : Nat} (h : tkOk ops listed i = true) : Region.noSelect ops = true ∧ Region.free .any ops listed i = true ∧ (Region.ready .any ops listed).contains i = true := by
  unfold tkOk at h
  simp only [Bool.and_eq_true] at h
  exact ⟨h.1.1, h.1.2, h.2⟩
theorem d_tk (i : Nat) {o : Oper} {v : Value} (hi : ops[i]? = some o) (hc : tkOk ops listed i = true) (hd : o.dst = some d) (hn : Nat.blt d n = true) (hg : isOn ops env o.guard = true) (ho : plainOp o.op = true) (hS : SH F O w)
    (hv : ∀ w' A B, F.le A → HS A w' B A O w' → RW P ops (QQ (fun w'' => w'' = w') d v) [o] n env w') (k : DW P ops Q (SH F O) fuel (listed.setIfInBounds i true) n ((d, v) :: env) w) : DW P ops Q (SH F O) (fuel + 1) listed n env w :=
  d_take i hi (tkOk_all hc).1 (tkOk_all hc).2.1 (tkOk_all hc).2.2 hd hn hg ho hS (fun w' ⟨A, B, h1, h2⟩ => hv w' A B h1 h2) k
theorem d_of (i : Nat) {o : Oper} (hi : ops[i]? = some o) (hc : tkOk ops listed i = true) (hd : o.dst = some d) (hn : Nat.blt d n = true) (hg : isOff ops env o.guard = true) (hS : S w)
    (k : DW P ops Q S fuel (listed.setIfInBounds i true) n ((d, undef) :: env) w) : DW P ops Q S (fuel + 1) listed n env w :=
  d_off i hi (tkOk_all hc).1 (tkOk_all hc).2.1 (tkOk_all hc).2.2 hd hn hg hS k
end
section
variable {P : Program} {Qa : Act → Prop} {n : Nat} {env : Env} {opr : Array Oper} {rest : List Oper} {d : Nat} {F0 F : Frz} {w0 : World} {X : List Nat} {O : List OE}
theorem q_stp {o : Oper} {v : Value} (hd : o.dst = some d) (hn : Nat.blt d n = true) (hg : isOn opr env o.guard = true) (ho : plainOp o.op = true) (hs : ∀ w F', F.le F' → HS F0 w0 X F' O w → RW P opr (QQ (fun w' => w' = w) d v) [o] n env w)
    (k : QR P opr (CH F0 w0 X F O) Qa rest n ((d, v) :: env)) : QR P opr (CH F0 w0 X F O) Qa (o :: rest) n env :=
  q_step hd hn hg ho (fun w ⟨F', h1, h2⟩ => hs w F' h1 h2) k
end
end Go.Proofs.YtpihabofmnnbbaaDoor.Rt
