/-
  THE RUNTIME OF THE MIRRORS, part 6: a region that draws its order and only reads, or calls what gives back a plain value: one walk in the text's order serves every order.
-/
import Derived.Test.YtpihabofmnnbbaaDoorRt5
import Derived.Deep.Quiet
namespace Go.Proofs.YtpihabofmnnbbaaDoor.Rt
open Go Go.RowKit

theorem HS.drew {F0 F : Frz} {w0 w : World} {X : List Nat} {O : List OE} (h : HS F0 w0 X F O w) : HS F0 w0 X F O { w with drawn := w.drawn + 1 } :=
  ⟨h.sat, h.le, h.new, fun e he => by have := h.own e he; cases e <;> exact this, h.sep, h.dis, h.os, h.tape, h.output, h.size, h.old⟩

/- two structs, field by field -/
theorem part1 {P : Program} {t : TypeId} (h : IsAgg P t false) {cs : Array Value} {o : Nat} {v : Value} (hv : cs[o]? = some v) (w : World) : (part t cs o).run P w = .ok v w := by
  simp [part, h w, hv]
theorem eqf_nil {P : Program} (d : Nat) (xs ys : Array Value) (w : World) : (Op.eqFields d xs ys []).run P w = .ok true w := by simp [Op.eqFields]
theorem eqf_cons {P : Program} {d : Nat} {xs ys : Array Value} {f : Field} {fs : List Field} {a b : Value} {p q : Bool} {w : World} (hn : (f.name == "_") = false) (ha : (part f.type xs f.offset).run P w = .ok a w) (hb : (part f.type ys f.offset).run P w = .ok b w)
    (he : (Op.equalIn d f.type a b).run P w = .ok p w) (hr : (Op.eqFields d xs ys fs).run P w = .ok q w) : (Op.eqFields d xs ys (f :: fs)).run P w = .ok (p && q) w := by
  have hn' : f.name ≠ "_" := by simpa using hn
  simp only [Op.eqFields, if_pos hn', Sem.run_bind, ha, hb, he, Result.andThen_ok]
  cases p <;> simp [hr]
theorem eqi_int {P : Program} {t : TypeId} {k k' : IntKind} (h : P.underlying t = some (.int k')) (d : Nat) (a b : Int) (w : World) : (Op.equalIn (d + 1) t (.int k a) (.int k b)).run P w = .ok (a == b) w := run_equalIn_int w d t k k' a b h
theorem eqi_str {P : Program} {t : TypeId} (h : P.underlying t = some .string) (d : Nat) (a b : Bs) (w : World) : (Op.equalIn (d + 1) t (vs a) (vs b)).run P w = .ok (a == b) w := by
  have := run_equalIn_string (P := P) w d t ⟨a.toArray⟩ ⟨b.toArray⟩ h
  rw [toList_mk, toList_mk] at this; exact this
theorem eqi_bool {P : Program} {t : TypeId} (h : P.underlying t = some .bool) (d : Nat) (a b : Bool) (w : World) : (Op.equalIn (d + 1) t (.bool a) (.bool b)).run P w = .ok (a == b) w := run_equalIn_bool w d t a b h

/-- the worlds that such a region may come to -/
def CH (F0 : Frz) (w0 : World) (X : List Nat) (F : Frz) (O : List OE) (w : World) : Prop := ∃ F', F.le F' ∧ HS F0 w0 X F' O w

section
variable {P : Program} {Q : Exit → Act → World → Prop} {Qa : Act → Prop} {n : Nat} {env : Env} {w : World}
variable {opr : Array Oper} {rest : List Oper} {d : Nat} {C : World → Prop}
variable {F0 F : Frz} {w0 : World} {X : List Nat} {O : List OE}

def QR (P : Program) (ops : Array Oper) (C : World → Prop) (Qa : Act → Prop) (l : List Oper) (n : Nat) (env : Env) : Prop := ∀ a, Has n a env → wpQuiet P ops C Qa l a
/-- what one operation is asked -/
def QQ (C : World → Prop) (d : Nat) (v : Value) (e : Exit) (a : Act) (w : World) : Prop := e = .normal ∧ C w ∧ a.tmps[d]? = some v
theorem qq {v : Value} (hC : C w) : QW (QQ C d v) .normal n ((d, v) :: env) w := fun a ha => ⟨rfl, hC, ha.get d v (by simp)⟩

/-- operations that give a value by themselves -/
def plainOp : Op → Bool
  | .move _ | .assign _ | .pick .. | .load .. | .binOp .. | .unOp .. | .convert .. | .fieldAddr .. | .field .. | .indexAddr .. | .index .. | .slice .. | .extract .. | .build .. => true
  | .call ⟨.builtin .len, _, _⟩ | .call ⟨.builtin .min, _, _⟩ | .call ⟨.builtin .max, _, _⟩ | .call ⟨.builtin .cap, _, _⟩ => true
  | _ => false
theorem run_valueOf {s : Sem Value} {x : Next} {w' : World} (h : (do pure (.value (← s)) : Sem Next).run P w = .ok x w') : ∃ u, x = .value u := by
  simp only [Sem.run_bind] at h
  cases hr : s.run P w with
  | ok u w1 => rw [hr] at h; simp at h; exact ⟨u, h.1.symm⟩
  | halt x w1 => rw [hr] at h; simp at h
theorem run_value2 {α : Type} {r : Result α} {f : α → Value} {x : Next} {w' : World} (h : (r.andThen fun a w' => (.ok (.value (f a)) w' : Result Next)) = .ok x w') : ∃ u, x = .value u := by
  cases r with
  | ok u w1 => simp at h; exact ⟨_, h.1.symm⟩
  | halt x w1 => simp at h
theorem plain_value {o : Oper} {ρ : Operand → Value} (ho : plainOp o.op = true) {x : Next} {w' : World} (h : (execOp ρ o).run P w = .ok x w') : ∃ u, x = .value u := by
  unfold execOp at h
  cases hop : o.op <;> simp only [hop, plainOp, Bool.false_eq_true] at ho h
  case move => simp at h; exact ⟨_, h.1.symm⟩
  case assign => simp at h; exact ⟨_, h.1.symm⟩
  case pick c x y => simp only [Sem.run_bind, Sem.run_pure] at h; exact run_value2 h
  case call c =>
    obtain ⟨callee, args, ts⟩ := c
    cases callee with
    | builtin b =>
      cases b <;> simp only [Bool.false_eq_true] at ho <;>
        · simp only [resolve, invoke, builtin, Sem.run_bind, Sem.run_pure, Result.andThen_ok] at h
          exact run_value2 (f := id) h
    | _ => simp only [Bool.false_eq_true] at ho
  all_goals exact run_valueOf h

theorem q_val {o : Oper} {v : Value} (hd : o.dst = some d) (hn : Nat.blt d n = true) (hg : isOn opr env o.guard = true) (hv : ∀ w, C w → ∀ a, Has n a env → o.quietAt P a C w v)
    (k : QR P opr C Qa rest n ((d, v) :: env)) : QR P opr C Qa (o :: rest) n env := by
  intro a ha
  have hn' : d < n := by simpa using hn
  unfold wpQuiet
  rw [if_pos (wanted_on ha hg)]
  refine ⟨v, fun w hw => hv w hw a ha, ?_⟩
  rw [hd]
  exact k _ (ha.put hn' v)

/-- one operation that gives a value: by the rule of a region that does not draw -/
theorem q_step {o : Oper} {v : Value} (hd : o.dst = some d) (hn : Nat.blt d n = true) (hg : isOn opr env o.guard = true) (ho : plainOp o.op = true) (hs : ∀ w, C w → RW P opr (QQ (fun w' => w' = w) d v) [o] n env w)
    (k : QR P opr C Qa rest n ((d, v) :: env)) : QR P opr C Qa (o :: rest) n env := by
  refine q_val hd hn hg (fun w hw a ha => ?_) k
  have hn' : d < n := by simpa using hn
  have h := hs w hw a ha
  unfold wpList at h
  rw [if_pos (wanted_on ha hg)] at h
  rcases h with h | ⟨_, _, _, h, _⟩
  · unfold Oper.quietAt
    unfold Oper.wp at h
    have hput : ∀ u, (a.put (some d) u).tmps[d]? = some u := fun u => by simp [Act.put, ha.size, hn']
    cases hr : (execOp a.eval o).run P w with
    | ok x w' =>
      obtain ⟨u, rfl⟩ := plain_value ho hr
      rw [hr, Oper.upon_value, hd] at h
      have h3 := h.2.2
      rw [hput] at h3
      exact ⟨h.2.1, by simpa using h3⟩
    | halt x w' =>
      rw [hr] at h
      cases x <;> first | exact h.elim | exact absurd h.1 (by simp)
  · cases h

/-- calls -/
theorem q_callP0 {c : Operand} {l : List Operand} {ts : Array TypeId} {f : FuncId} {vl : List Value} {v : Value} {g : Option (Nat × Bool)} {ty : TypeId} {pos : String} {es : Array Edge} (he : Ent P f) (hg : isOn opr env g = true) (hn : Nat.blt d n = true)
    (hc : opv env c = some (.func (.func f) #[] #[])) (hl : opvs env l = some vl)
    (hC : ∀ F' w, F.le F' → HS F0 w0 X F' O w → Calls P f vl.toArray w fun e w' => e = .returned v ∧ w' = w)
    (k : QR P opr (CH F0 w0 X F O) Qa rest n ((d, v) :: env)) : QR P opr (CH F0 w0 X F O) Qa (⟨some d, .call ⟨.value c, l.toArray, ts⟩, ty, pos, es, g⟩ :: rest) n env :=
  q_val rfl hn hg (fun w ⟨F', hle, h⟩ a ha => by
    have e := he vl.toArray w
    have e2 : (List.map a.eval l) = vl := ha.opvs hl
    unfold Oper.quietAt
    simp only [execOp, resolve, Deferred.ofValue, ha.op hc, invoke, List.map_toArray, e2, Array.append_empty, Array.empty_append, Sem.run_bind, Sem.run_pure, Result.andThen_ok, e]
    exact ⟨rfl, (hC F' w hle h).mono fun e w' ⟨h1, h2⟩ => ⟨h1, F', hle, h2 ▸ h⟩⟩) k
theorem q_callG0 {c : Operand} {l : List Operand} {ts : Array TypeId} {f : FuncId} {vl : List Value} {v : Value} {g : Option (Nat × Bool)} {ty : TypeId} {pos : String} {es : Array Edge} (he : Ent P f) (hg : isOn opr env g = true) (hn : Nat.blt d n = true)
    (hc : opv env c = some (.func (.func f) #[] #[])) (hl : opvs env l = some vl)
    (hC : ∀ F' w, F.le F' → HS F0 w0 X F' O w → Calls P f vl.toArray w fun e w' => ∃ u F'' O', e = .returned u ∧ HS F' w [] F'' O' w' ∧ (u = v ∧ O' = []))
    (k : QR P opr (CH F0 w0 X F O) Qa rest n ((d, v) :: env)) : QR P opr (CH F0 w0 X F O) Qa (⟨some d, .call ⟨.value c, l.toArray, ts⟩, ty, pos, es, g⟩ :: rest) n env :=
  q_val rfl hn hg (fun w ⟨F', hle, h⟩ a ha => by
    have e := he vl.toArray w
    have e2 : (List.map a.eval l) = vl := ha.opvs hl
    unfold Oper.quietAt
    simp only [execOp, resolve, Deferred.ofValue, ha.op hc, invoke, List.map_toArray, e2, Array.append_empty, Array.empty_append, Sem.run_bind, Sem.run_pure, Result.andThen_ok, e]
    refine ⟨rfl, (hC F' w hle h).mono ?_⟩
    rintro e w' ⟨u, F'', O', rfl, h2, rfl, rfl⟩
    exact ⟨rfl, F'', hle.trans h2.le, h.call h2⟩) k

theorem q_off {o : Oper} (hd : o.dst = some d) (hn : Nat.blt d n = true) (h : isOff opr env o.guard = true) (k : QR P opr C Qa rest n ((d, undef) :: env)) : QR P opr C Qa (o :: rest) n env := fun a ha => by
  have hn' : d < n := by simpa using hn
  unfold wpQuiet
  rw [if_neg (by simp [wanted_off ha h]), hd]
  exact k _ (ha.put hn' undef)
theorem q_lit {l : List Oper} (t : Nat) {b c : Bool} (ht : env.lookup t = some (.bool b)) (hb : b = c) (k : QR P opr C Qa l n ((t, .bool c) :: env)) : QR P opr C Qa l n env :=
  fun a ha => k a ⟨ha.size, ha.defers, fun j v hj => by
    rw [List.lookup_cons] at hj
    split at hj
    · rename_i e; have e : j = t := by simpa using e
      subst e; cases hj; subst hb; exact ha.get _ _ ht
    · exact ha.get _ _ hj⟩
theorem q_nil (k : ∀ a, Has n a env → Qa a) : QR P opr C Qa [] n env := fun a ha => wpQuiet_nil (k a ha)
theorem q_end (k : ∀ w', C w' → QW Q .normal n env w') : QR P opr C (fun a' => ∀ w', C w' → Q .normal a' w') [] n env := fun a ha => wpQuiet_nil fun w' hw => k w' hw a ha
theorem wpQuiet_midl {J : Act → Prop} {l1 l2 : List Oper} (h2 : ∀ a, J a → wpQuiet P opr C Qa l2 a) : ∀ {a : Act}, wpQuiet P opr C J l1 a → wpQuiet P opr C Qa (l1 ++ l2) a := by
  induction l1 with
  | nil => intro a h; exact h2 _ h
  | cons o l ih =>
    intro a h
    simp only [List.cons_append]
    unfold wpQuiet at h ⊢
    split
    · rename_i hw
      rw [if_pos hw] at h
      exact Oper.quiet_mono (fun a => ih) h
    · rename_i hw
      rw [if_neg hw] at h
      exact ih h
theorem q_mid {l : List Oper} (k : Nat) (J : Act → Prop) (h2 : ∀ a, J a → wpQuiet P opr C Qa (l.drop k) a) (h1 : QR P opr C J (l.take k) n env) : QR P opr C Qa l n env := by
  intro a ha
  rw [← List.take_append_drop k l]
  exact wpQuiet_midl h2 (h1 a ha)
theorem qr_apply {l : List Oper} {a : Act} (ha : Has n a env) (h : QR P opr C Qa l n env) : wpQuiet P opr C Qa l a := h a ha

theorem c_regionD {id : Nat} {l : List Oper} (hm : P.follows .mixedOrders = true) (hB : Region.lexB .any l.toArray = true) (h : HS F0 w0 X F O w)
    (k : QR P l.toArray (CH F0 w0 X F O) (fun a' => ∀ w', CH F0 w0 X F O w' → Q .normal a' w') l n env) : CW P (.region id l.toArray true) Q n env w := fun a ha =>
  wp_region_quiet (C := CH F0 w0 X F O) hm hB ⟨F, Frz.refl F, h.drew⟩ (by simpa using k a ha)

/-- an element's address, known ahead of the world -/
theorem findex_ex {α : Type} {r : Rp α} {t e : TypeId} {a : Option Addr} {m c : Nat} {i : Int} {xs : List α} {v : α} (hu : P.underlying t = some (.slice e)) (hS : SizeIs P e r.k) (hs : SlR r F a m c xs) (hi : ix xs i = some v) :
    ∃ b o cs, FC F b o cs ∧ r.R F cs v ∧ ∀ (ik : IntKind) (w : World), (Instr.indexAt t (.slice a m c) (.int ik i)).run P w = .ok (.pointer (some ⟨b, o, none⟩)) w := by
  unfold ix at hi
  split at hi
  · rename_i h0
    obtain ⟨hlt, _⟩ := List.getElem?_eq_some_iff.1 hi
    obtain ⟨rfl, _, _, h4⟩ := hs
    rcases h4 with rfl | ⟨b, o, l, rfl, hf, hr⟩
    · simp at hlt
    · obtain ⟨cs, hcs, hpre⟩ := RowR.get hr hi
      refine ⟨b, o + i.toNat * r.k, cs, ?_, hcs, fun ik w => run_indexAt hu hS h0 (show i < (xs.length : Int) by omega)⟩
      obtain ⟨cells, cty, fz, h5, h6⟩ := hf
      refine ⟨cells, cty, fz, h5, hpre.trans ?_⟩
      rw [← List.drop_drop]
      exact prefix_drop h6 _
  · cases hi
theorem q_findex {t : TypeId} {x y : Operand} {a : Option Addr} {m c : Nat} {ik : IntKind} {i : Int} {v : Value} {g : Option (Nat × Bool)} {ty : TypeId} {pos : String} {es : Array Edge} (hg : isOn opr env g = true) (hn : Nat.blt d n = true)
    (hx : opv env x = some (.slice a m c)) (hy : opv env y = some (.int ik i)) (hr : ∀ (ik : IntKind) (w : World), (Instr.indexAt t (.slice a m c) (.int ik i)).run P w = .ok v w)
    (k : QR P opr C Qa rest n ((d, v) :: env)) : QR P opr C Qa (⟨some d, .indexAddr t x y, ty, pos, es, g⟩ :: rest) n env :=
  q_val rfl hn hg (fun w _ a ha => by
    unfold Oper.quietAt
    simp only [execOp, ha.op hx, ha.op hy, Sem.run_bind, hr ik w, Result.andThen_ok, Sem.run_pure]
    exact ⟨rfl, rfl⟩) k
end
end Go.Proofs.YtpihabofmnnbbaaDoor.Rt
