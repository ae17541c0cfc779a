/-
  THE RUNTIME OF THE MIRRORS, part 1: what is known of a frame is a list of slots; one rule a kind of code and of operation (no memory).
-/
import Derived.WalkKit
import Derived.LoopN
import Derived.Scope
import Derived.Lib.Strings
namespace Go.Proofs.YtpihabofmnnbbaaDoor.Rt
open Go

abbrev Bs := List UInt8
abbrev Env := List (Nat × Value)
/-- a string's value -/
def vs (l : Bs) : Value := .string ⟨l.toArray⟩
theorem vs_of (s : ByteArray) : Value.string s = vs s.data.toList := by unfold vs; rw [Lib.mk_data]

/-- what is known of a frame -/
structure Has (n : Nat) (a : Act) (env : Env) : Prop where
  size : a.tmps.size = n
  defers : a.defers = []
  get : ∀ k v, env.lookup k = some v → a.tmps[k]? = some v

def opv (env : Env) : Operand → Option Value
  | .tmp t => env.lookup t
  | .const v => some v
  | .func f => some (.func (.func f) #[] #[])
  | .global g => some (.pointer (some ⟨g, 0, none⟩))

theorem Has.op {n : Nat} {a : Act} {env : Env} (h : Has n a env) {x : Operand} {v : Value} (hx : opv env x = some v) : a.eval x = v := by
  cases x with
  | tmp t => simp only [opv] at hx; simp [Act.eval, Array.getD_eq_getD_getElem?, h.get t v hx]
  | const u => simp only [opv, Option.some.injEq] at hx; exact hx
  | global g => simp only [opv, Option.some.injEq] at hx; exact hx
  | func f => simp only [opv, Option.some.injEq] at hx; exact hx

theorem Has.put {n : Nat} {a : Act} {env : Env} (h : Has n a env) {d : Nat} (hd : d < n) (v : Value) : Has n (a.put (some d) v) ((d, v) :: env) := by
  refine ⟨by simp [Act.put, h.size], by simp [Act.put, h.defers], fun k u hk => ?_⟩
  rw [List.lookup_cons] at hk
  simp only [Act.put]
  split at hk
  · rename_i e; have e : k = d := by simpa using e
    subst e; cases hk; simp [h.size, hd]
  · rename_i e; have e : k ≠ d := by simpa using e
    rw [Array.getElem?_setIfInBounds_ne (by omega)]; exact h.get k u hk

theorem Has.mono {n : Nat} {a : Act} {env env' : Env} (h : Has n a env) (he : ∀ k v, env'.lookup k = some v → env.lookup k = some v) : Has n a env' :=
  ⟨h.size, h.defers, fun k v hk => h.get k v (he k v hk)⟩

/-- a frame's knowledge, cut down to the slots that are listed -/
def cut (env : Env) : List Nat → Option Env
  | [] => some []
  | k :: r => match env.lookup k, cut env r with
    | some v, some e => some ((k, v) :: e)
    | _, _ => none

theorem Has.cut {n : Nat} {a : Act} {env : Env} (h : Has n a env) : ∀ {l : List Nat} {e : Env}, cut env l = some e → Has n a e
  | [], e, he => by simp only [Rt.cut, Option.some.injEq] at he; subst he; exact ⟨h.size, h.defers, fun k v hk => by simp at hk⟩
  | k :: r, e, he => by
    simp only [Rt.cut] at he
    split at he
    · rename_i v e' hv he'
      cases he
      have := h.cut he'
      refine ⟨h.size, h.defers, fun j u hj => ?_⟩
      rw [List.lookup_cons] at hj
      split at hj
      · rename_i e; have e : j = k := by simpa using e
        subst e; cases hj; exact h.get _ _ hv
      · exact this.get j u hj
    · cases he

section
variable {P : Program} {Q : Exit → Act → World → Prop} {n : Nat} {env : Env} {w : World}

def CW (P : Program) (c : Code) (Q : Exit → Act → World → Prop) (n : Nat) (env : Env) (w : World) : Prop := ∀ a, Has n a env → c.wp P Q a w
def RW (P : Program) (ops : Array Oper) (Q : Exit → Act → World → Prop) (l : List Oper) (n : Nat) (env : Env) (w : World) : Prop := ∀ a, Has n a env → wpList P ops Q l a w
def QW (Q : Exit → Act → World → Prop) (e : Exit) (n : Nat) (env : Env) (w : World) : Prop := ∀ a, Has n a env → Q e a w

theorem c_seq {x y : Code} (h : CW P x (Exit.then (y.wp P Q) Q) n env w) : CW P (.seq x y) Q n env w := fun a ha => wp_seq (h a ha)
theorem c_region {id : Nat} {l : List Oper} (h : RW P l.toArray Q l n env w) : CW P (.region id l.toArray false) Q n env w := fun a ha => wp_region_lit (h a ha)
theorem c_block {id : Nat} {c : Code} (h : CW P c (Exit.inBlock id Q) n env w) : CW P (.block id c) Q n env w := fun a ha => wp_block (h a ha)
theorem c_skip (h : QW Q .normal n env w) : CW P .skip Q n env w := fun a ha => wp_skip (h a ha)
theorem c_label {l : Nat} (h : QW Q .normal n env w) : CW P (.label l) Q n env w := fun a ha => wp_label (h a ha)
theorem c_exit {id : Nat} (h : QW Q (.exit id) n env w) : CW P (.exit id) Q n env w := fun a ha => wp_exit (h a ha)
theorem c_ret (h : QW Q .ret n env w) : CW P .ret Q n env w := fun a ha => wp_ret (h a ha)
theorem c_scope {c : Code} (h : CW P c (Exit.noGoto Q) n env w) : CW P (.scope c) Q n env w := fun a ha => wp_scope_straight (h a ha)
theorem c_true {c : Operand} {x y : Code} (hc : opv env c = some (.bool true)) (h : CW P x Q n env w) : CW P (.cond c x y) Q n env w := fun a ha => wp_cond_true (ha.op hc) (h a ha)
theorem c_false {c : Operand} {x y : Code} (hc : opv env c = some (.bool false)) (h : CW P y Q n env w) : CW P (.cond c x y) Q n env w := fun a ha => wp_cond_false (ha.op hc) (h a ha)
theorem c_cut {c : Code} (l : List Nat) {env' : Env} (he : cut env l = some env') (h : CW P c Q n env' w) : CW P c Q n env w := fun a ha => h a (ha.cut he)

/- the ways out -/
theorem q_then {x : Code} {Q' : Exit → Act → World → Prop} (h : CW P x Q n env w) : QW (Exit.then (x.wp P Q) Q') .normal n env w := h
theorem q_then_exit {id : Nat} {K : Act → World → Prop} (h : QW Q (.exit id) n env w) : QW (Exit.then K Q) (.exit id) n env w := h
theorem q_then_ret {K : Act → World → Prop} (h : QW Q .ret n env w) : QW (Exit.then K Q) .ret n env w := h
theorem q_block {id : Nat} (h : QW Q .normal n env w) : QW (Exit.inBlock id Q) .normal n env w := h
theorem q_block_ret {id : Nat} (h : QW Q .ret n env w) : QW (Exit.inBlock id Q) .ret n env w := h
theorem q_block_hit {id : Nat} (h : QW Q .normal n env w) : QW (Exit.inBlock id Q) (.exit id) n env w := fun a ha => by simpa [Exit.inBlock] using h a ha
theorem q_block_miss {id j : Nat} (hj : j ≠ id) (h : QW Q (.exit j) n env w) : QW (Exit.inBlock id Q) (.exit j) n env w := fun a ha => by simpa [Exit.inBlock, hj] using h a ha
theorem q_scope (h : QW Q .normal n env w) : QW (Exit.noGoto Q) .normal n env w := h
theorem q_scope_ret (h : QW Q .ret n env w) : QW (Exit.noGoto Q) .ret n env w := h
theorem q_scope_exit {id : Nat} (h : QW Q (.exit id) n env w) : QW (Exit.noGoto Q) (.exit id) n env w := h

theorem r_nil {ops : Array Oper} (h : QW Q .normal n env w) : RW P ops Q [] n env w := fun a ha => wpList_nil (h a ha)

/- operations -/
def isOn (ops : Array Oper) (env : Env) : Option (Nat × Bool) → Bool
  | none => true
  | some (j, b) => match (ops[j]?).bind (·.dst) with
    | some t => match env.lookup t with
      | some (.bool c) => c == b
      | _ => false
    | none => false

theorem wanted_on {ops : Array Oper} {a : Act} {o : Oper} (ha : Has n a env) (h : isOn ops env o.guard = true) : Region.wanted o (yielded ops a.tmps) = true := by
  unfold Region.wanted
  cases hg : o.guard with
  | none => rfl
  | some jb =>
    obtain ⟨j, b⟩ := jb
    simp only [hg, isOn] at h
    simp only [yielded]
    cases hd : (ops[j]?).bind (·.dst) with
    | none => simp [hd] at h
    | some t =>
      simp only [hd] at h
      cases hl : env.lookup t with
      | none => simp [hl] at h
      | some v =>
        have hg2 := ha.get t v hl
        cases v <;> simp_all

def isOff (ops : Array Oper) (env : Env) : Option (Nat × Bool) → Bool
  | none => false
  | some (j, b) => match (ops[j]?).bind (·.dst) with
    | some t => match env.lookup t with
      | some (.bool c) => c != b
      | some _ => true
      | none => false
    | none => false

theorem wanted_off {ops : Array Oper} {a : Act} {o : Oper} (ha : Has n a env) (h : isOff ops env o.guard = true) : Region.wanted o (yielded ops a.tmps) = false := by
  unfold Region.wanted
  cases hg : o.guard with
  | none => simp [hg, isOff] at h
  | some jb =>
    obtain ⟨j, b⟩ := jb
    simp only [hg, isOff] at h
    simp only [yielded]
    cases hd : (ops[j]?).bind (·.dst) with
    | none => simp [hd] at h
    | some t =>
      simp only [hd] at h
      cases hl : env.lookup t with
      | none => simp [hl] at h
      | some v =>
        have hg2 := ha.get t v hl
        cases v <;> simp_all

/-- an operation that is passed over -/
theorem r_off {ops : Array Oper} {o : Oper} {rest : List Oper} {d : Nat} (hd : o.dst = some d) (hn : d < n) (h : isOff ops env o.guard = true)
    (k : RW P ops Q rest n ((d, undef) :: env) w) : RW P ops Q (o :: rest) n env w := fun a ha => by
  unfold wpList
  rw [if_neg (by simp [wanted_off ha h]), hd]
  exact k _ (ha.put hn undef)

/-- an operation that gives a value and leaves the world alone -/
theorem r_val {ops : Array Oper} {o : Oper} {rest : List Oper} {d : Nat} {v : Value} (hd : o.dst = some d) (hn : d < n) (hg : isOn ops env o.guard = true)
    (hv : ∀ a, Has n a env → (execOp a.eval o).run P w = .ok (.value v) w) (k : RW P ops Q rest n ((d, v) :: env) w) : RW P ops Q (o :: rest) n env w := fun a ha => by
  unfold wpList
  rw [if_pos (wanted_on ha hg)]
  refine .inl ?_
  unfold Oper.wp
  rw [hv a ha, Oper.upon_value, hd]
  exact k _ (ha.put hn v)

/-- an operation that gives a value and a new world -/
theorem r_valw {ops : Array Oper} {o : Oper} {rest : List Oper} {d : Nat} {v : Value} {w' : World} (hd : o.dst = some d) (hn : d < n) (hg : isOn ops env o.guard = true)
    (hv : ∀ a, Has n a env → (execOp a.eval o).run P w = .ok (.value v) w') (k : RW P ops Q rest n ((d, v) :: env) w') : RW P ops Q (o :: rest) n env w := fun a ha => by
  unfold wpList
  rw [if_pos (wanted_on ha hg)]
  refine .inl ?_
  unfold Oper.wp
  rw [hv a ha, Oper.upon_value, hd]
  exact k _ (ha.put hn v)

/-- an operation that gives nothing and a new world -/
theorem r_unit {ops : Array Oper} {o : Oper} {rest : List Oper} {w' : World} (hd : o.dst = none) (hg : isOn ops env o.guard = true)
    (hv : ∀ a, Has n a env → (execOp a.eval o).run P w = .ok .skip w') (k : RW P ops Q rest n env w') : RW P ops Q (o :: rest) n env w := fun a ha => by
  unfold wpList
  rw [if_pos (wanted_on ha hg)]
  refine .inl ?_
  unfold Oper.wp
  rw [hv a ha, Oper.upon_skip, hd]
  exact k _ ha

/-- a call -/
theorem r_enter {ops : Array Oper} {o : Oper} {rest : List Oper} {d : Nat} {f : FuncId} {args : Array Value} {R : Value → World → Prop} (hd : o.dst = some d) (hn : d < n) (hg : isOn ops env o.guard = true)
    (hv : ∀ a, Has n a env → (execOp a.eval o).run P w = .ok (.enter f args) w)
    (hc : Calls P f args w fun e w' => ∃ v, e = .returned v ∧ R v w')
    (k : ∀ v w', R v w' → RW P ops Q rest n ((d, v) :: env) w') : RW P ops Q (o :: rest) n env w := fun a ha => by
  unfold wpList
  rw [if_pos (wanted_on ha hg)]
  refine .inl ?_
  unfold Oper.wp
  rw [hv a ha, Oper.upon_enter]
  refine hc.mono ?_
  rintro e w' ⟨v, rfl, hR⟩
  rw [hd]
  exact k v w' hR _ (ha.put hn v)

/-- a slot's bool is known now -/
theorem r_lit {ops : Array Oper} {l : List Oper} (t : Nat) {b c : Bool} (ht : env.lookup t = some (.bool b)) (hb : b = c) (k : RW P ops Q l n ((t, .bool c) :: env) w) : RW P ops Q l n env w :=
  fun a ha => k a ⟨ha.size, ha.defers, fun j v hj => by
    rw [List.lookup_cons] at hj
    split at hj
    · rename_i e; have e : j = t := by simpa using e
      subst e; cases hj; subst hb; exact ha.get _ _ ht
    · exact ha.get _ _ hj⟩
theorem c_lit {x : Code} (t : Nat) {b c : Bool} (ht : env.lookup t = some (.bool b)) (hb : b = c) (k : CW P x Q n ((t, .bool c) :: env) w) : CW P x Q n env w :=
  fun a ha => k a ⟨ha.size, ha.defers, fun j v hj => by
    rw [List.lookup_cons] at hj
    split at hj
    · rename_i e; have e : j = t := by simpa using e
      subst e; cases hj; subst hb; exact ha.get _ _ ht
    · exact ha.get _ _ hj⟩

/- pure operations -/
def iadd (k : IntKind) (x y : Int) : Int := k.wrap (x + y)
def isub (k : IntKind) (x y : Int) : Int := k.wrap (x - y)
def imul (k : IntKind) (x y : Int) : Int := k.wrap (x * y)
def iand (k : IntKind) (x y : Int) : Int := k.wrap (BitVec.ofInt k.bits x &&& BitVec.ofInt k.bits y).toNat
def ior (k : IntKind) (x y : Int) : Int := k.wrap (BitVec.ofInt k.bits x ||| BitVec.ofInt k.bits y).toNat
def ixor (k : IntKind) (x y : Int) : Int := k.wrap (BitVec.ofInt k.bits x ^^^ BitVec.ofInt k.bits y).toNat
def intBin (op : BinOp) (k : IntKind) (x y : Int) : Option Value :=
  match op with
  | .add => some (.int k (iadd k x y))
  | .sub => some (.int k (isub k x y))
  | .mul => some (.int k (imul k x y))
  | .and => some (.int k (iand k x y))
  | .or => some (.int k (ior k x y))
  | .xor => some (.int k (ixor k x y))
  | .eql => some (.bool (x == y))
  | .neq => some (.bool (x != y))
  | .lss => some (.bool (decide (x < y)))
  | .leq => some (.bool (decide (x ≤ y)))
  | .gtr => some (.bool (decide (y < x)))
  | .geq => some (.bool (decide (y ≤ x)))
  | _ => none

theorem run_intBin {op : BinOp} {k : IntKind} {x y : Int} {v : Value} {t : TypeId} (h : intBin op k x y = some v) : (binOp op t (.int k x) (.int k y)).run P w = .ok v w := by
  cases op <;> simp only [intBin, Option.some.injEq, reduceCtorEq] at h <;> subst h <;> simp [binOp, Op.intArith, Op.intBits, Op.intCmp, iadd, isub, imul, iand, ior, ixor]

theorem run_eqGuard_int {op : BinOp} {t : TypeId} {x y : Operand} {k k' : IntKind} {a b : Int} : (eqGuard op t x y (.int k a) (.int k' b)).run P w = .ok () w := by
  unfold eqGuard; split <;> simp
theorem run_eqGuard_str {op : BinOp} {t : TypeId} {x y : Operand} {a b : ByteArray} : (eqGuard op t x y (.string a) (.string b)).run P w = .ok () w := by
  unfold eqGuard; split <;> simp
theorem run_eqGuard_bool {op : BinOp} {t : TypeId} {x y : Operand} {a b : Bool} : (eqGuard op t x y (.bool a) (.bool b)).run P w = .ok () w := by
  unfold eqGuard; split <;> simp

variable {ops : Array Oper} {rest : List Oper} {d : Nat} {g : Option (Nat × Bool)} {ty : TypeId} {pos : String} {es : Array Edge}

theorem r_move {x : Operand} {v : Value} (hg : isOn ops env g = true) (hn : Nat.blt d n = true) (hx : opv env x = some v) (k : RW P ops Q rest n ((d, v) :: env) w) :
    RW P ops Q (⟨some d, .move x, ty, pos, es, g⟩ :: rest) n env w :=
  r_val rfl (by simpa using hn) hg (fun a ha => by simp [execOp, ha.op hx]) k
theorem r_assign {x : Operand} {v : Value} (hg : isOn ops env g = true) (hn : Nat.blt d n = true) (hx : opv env x = some v) (k : RW P ops Q rest n ((d, v) :: env) w) :
    RW P ops Q (⟨some d, .assign x, ty, pos, es, g⟩ :: rest) n env w :=
  r_val rfl (by simpa using hn) hg (fun a ha => by simp [execOp, ha.op hx]) k
theorem r_pick_true {c x y : Operand} {v : Value} (hg : isOn ops env g = true) (hn : Nat.blt d n = true) (hc : opv env c = some (.bool true)) (hx : opv env x = some v) (k : RW P ops Q rest n ((d, v) :: env) w) :
    RW P ops Q (⟨some d, .pick c x y, ty, pos, es, g⟩ :: rest) n env w :=
  r_val rfl (by simpa using hn) hg (fun a ha => by simp [execOp, ha.op hx, ha.op hc, asBool]) k
theorem r_pick_false {c x y : Operand} {v : Value} (hg : isOn ops env g = true) (hn : Nat.blt d n = true) (hc : opv env c = some (.bool false)) (hx : opv env y = some v) (k : RW P ops Q rest n ((d, v) :: env) w) :
    RW P ops Q (⟨some d, .pick c x y, ty, pos, es, g⟩ :: rest) n env w :=
  r_val rfl (by simpa using hn) hg (fun a ha => by simp [execOp, ha.op hx, ha.op hc, asBool]) k
theorem r_bin {op : BinOp} {xt yt : TypeId} {x y : Operand} {i : IntKind} {m q : Int} {v : Value} (hg : isOn ops env g = true) (hn : Nat.blt d n = true) (hx : opv env x = some (.int i m)) (hy : opv env y = some (.int i q))
    (hv : intBin op i m q = some v) (k : RW P ops Q rest n ((d, v) :: env) w) : RW P ops Q (⟨some d, .binOp op xt x y yt, ty, pos, es, g⟩ :: rest) n env w :=
  r_val rfl (by simpa using hn) hg (fun a ha => by simp [execOp, ha.op hx, ha.op hy, run_eqGuard_int, run_intBin hv]) k
theorem r_not {xt : TypeId} {x : Operand} {b : Bool} (hg : isOn ops env g = true) (hn : Nat.blt d n = true) (hx : opv env x = some (.bool b)) (k : RW P ops Q rest n ((d, .bool (!b)) :: env) w) :
    RW P ops Q (⟨some d, .unOp .not xt x, ty, pos, es, g⟩ :: rest) n env w :=
  r_val rfl (by simpa using hn) hg (fun a ha => by simp [execOp, ha.op hx, Op.unary]) k
theorem r_neg {xt : TypeId} {x : Operand} {i : IntKind} {m : Int} (hg : isOn ops env g = true) (hn : Nat.blt d n = true) (hx : opv env x = some (.int i m)) (k : RW P ops Q rest n ((d, .int i (i.wrap (0 - m))) :: env) w) :
    RW P ops Q (⟨some d, .unOp .neg xt x, ty, pos, es, g⟩ :: rest) n env w :=
  r_val rfl (by simpa using hn) hg (fun a ha => by simp [execOp, ha.op hx, Op.unary, Op.intArith]) k

end
end Go.Proofs.YtpihabofmnnbbaaDoor.Rt
