/-
  RUNTIME, a further part: the builtin max.
-/
import Derived.Test.YtibkigpmkkkaeaaGreatDoorRtR
namespace Go.Proofs.YtibkigpmkkkaeaaGreatDoor.Rt
open Go Go.RowKit
section
variable {P : Program} {Q : Exit → Act → World → Prop} {n : Nat} {env : Env} {w : World}
variable {opr : Array Oper} {rest : List Oper} {d : Nat} {g : Option (Nat × Bool)} {ty : TypeId} {pos : String} {es : Array Edge}
end
section
variable {P : Program} {Q : Exit → Act → World → Prop} {n : Nat} {env : Env} {w : World} {F0 F : Frz} {w0 : World} {X : List Nat} {O : List OE}
variable {opr : Array Oper} {rest : List Oper} {d : Nat} {g : Option (Nat × Bool)} {ty : TypeId} {pos : String} {es : Array Edge}
theorem r_loadBW {T : TypeId} {x : Operand} {b i m : Nat} {t : TypeId} {cs : List Value} (hA : IsAgg P T true) (hS : SizeIs P T m) (hg : isOn opr env g = true) (hn : Nat.blt d n = true) (h : HS F0 w0 X F O w) (hx : opv env x = some (.pointer (some ⟨b, 0, none⟩)))
    (hi : O[i]? = some (.box b t cs)) (hm : cs.length = m) (k : RW P opr Q rest n ((d, .agg cs.toArray) :: env) w) : RW P opr Q (⟨some d, .load T x, ty, pos, es, g⟩ :: rest) n env w :=
  r_loadBA hA hS hg hn h hx hi (by rw [List.drop_zero]; exact List.take_of_length_le (Nat.le_of_eq hm)) hm k
theorem r_loadFW {T : TypeId} {x : Operand} {b o m : Nat} {cs : List Value} (hA : IsAgg P T true) (hS : SizeIs P T m) (hg : isOn opr env g = true) (hn : Nat.blt d n = true) (h : HS F0 w0 X F O w) (hf : FC F b o cs) (hx : opv env x = some (.pointer (some ⟨b, o, none⟩)))
    (hm : cs.length = m) (k : RW P opr Q rest n ((d, .agg cs.toArray) :: env) w) : RW P opr Q (⟨some d, .load T x, ty, pos, es, g⟩ :: rest) n env w :=
  r_loadFA (j := 0) hA hS hg hn h hf hx (by rw [List.drop_zero]; exact List.take_of_length_le (Nat.le_of_eq hm)) hm k
end
section
variable {P : Program} {Q : Exit → Act → World → Prop} {n : Nat} {env : Env} {w : World} {ops : Array Oper} {d : Nat} {S : World → Prop} {fuel : Nat} {listed : Array Bool} {F : Frz} {O : List OE}
/-- the operation may be taken now -/
def tkOk (ops : Array Oper) (listed : Array Bool) (i : Nat) : Bool := Region.noSelect ops && Region.free .any ops listed i && (Region.ready .any ops listed).contains i
theorem tkOk_all {i : Nat} (h : tkOk ops listed i = true) : Region.noSelect ops = true ∧ Region.free .any ops listed i = true ∧ (Region.ready .any ops listed).contains i = true := by
  unfold tkOk at h
  simp only [Bool.and_eq_true] at h
  exact ⟨h.1.1, h.1.2, h.2⟩
theorem d_tk (i : Nat) {o : Oper} {v : Value} (hi : ops[i]? = some o) (hc : tkOk ops listed i = true) (hd : o.dst = some d) (hn : Nat.blt d n = true) (hg : isOn ops env o.guard = true) (ho : plainOp o.op = true) (hS : SH F O w)
    (hv : ∀ w' A B, F.le A → HS A w' B A O w' → RW P ops (QQ (fun w'' => w'' = w') d v) [o] n env w') (k : DW P ops Q (SH F O) fuel (listed.setIfInBounds i true) n ((d, v) :: env) w) : DW P ops Q (SH F O) (fuel + 1) listed n env w :=
  d_take i hi (tkOk_all hc).1 (tkOk_all hc).2.1 (tkOk_all hc).2.2 hd hn hg ho hS (fun w' ⟨A, B, h1, h2⟩ => hv w' A B h1 h2) k
end
section
variable {P : Program} {Qa : Act → Prop} {n : Nat} {env : Env} {opr : Array Oper} {rest : List Oper} {d : Nat} {F0 F : Frz} {w0 : World} {X : List Nat} {O : List OE}
theorem q_stp {o : Oper} {v : Value} (hd : o.dst = some d) (hn : Nat.blt d n = true) (hg : isOn opr env o.guard = true) (ho : plainOp o.op = true) (hs : ∀ w F', F.le F' → HS F0 w0 X F' O w → RW P opr (QQ (fun w' => w' = w) d v) [o] n env w)
    (k : QR P opr (CH F0 w0 X F O) Qa rest n ((d, v) :: env)) : QR P opr (CH F0 w0 X F O) Qa (o :: rest) n env :=
  q_step hd hn hg ho (fun w ⟨F', h1, h2⟩ => hs w F' h1 h2) k
end
end Go.Proofs.YtibkigpmkkkaeaaGreatDoor.Rt
