/-
  THE RUNTIME OF THE MIRRORS, part 2: strings, divisions, shifts, conversions, tuples, calls, the ways back; and a loop's rule.
-/
import Derived.Test.YtpihabofmnnbbaaDoorRt1
namespace Go.Proofs.YtpihabofmnnbbaaDoor.Rt
open Go

/- what the mirrors say -/
def sidx (l : Bs) (i : Int) : Option Int := if 0 ≤ i then (l[i.toNat]?).map fun b => (b.toNat : Int) else none
def ssl (l : Bs) (lo hi : Int) : Option Bs := if 0 ≤ lo ∧ lo ≤ hi ∧ hi ≤ l.length then some ((l.take hi.toNat).drop lo.toNat) else none
def scat (a b : Bs) : Option Bs := if a.length + b.length ≤ 9223372036854775807 then some (a ++ b) else none
def quo (k : IntKind) (x y : Int) : Option Int := if y = 0 then none else some (k.wrap (x.tdiv y))
def rem (x y : Int) : Option Int := if y = 0 then none else some (x.tmod y)
def shl (k : IntKind) (x y : Int) : Option Int := if y < 0 then none else some (k.wrap (x * 2 ^ (min y.toNat k.bits)))
def shr (k : IntKind) (x y : Int) : Option Int := if y < 0 then none else some (x.fdiv (2 ^ (min y.toNat k.bits)))

theorem bind_some {α β : Type} {x : Option α} {f : α → Option β} {r : β} (h : x.bind f = some r) : ∃ a, x = some a ∧ f a = some r := by
  cases x with
  | none => cases h
  | some a => exact ⟨a, rfl, h⟩
theorem cond_some {α : Type} {b : Bool} {x y : Option α} {r : α} (h : (bif b then x else y) = some r) : (b = true ∧ x = some r) ∨ (b = false ∧ y = some r) := by
  cases b
  · exact .inr ⟨rfl, h⟩
  · exact .inl ⟨rfl, h⟩

theorem size_mk (l : Bs) : (⟨l.toArray⟩ : ByteArray).size = l.length := by simp [ByteArray.size]
theorem toList_mk (l : Bs) : (⟨l.toArray⟩ : ByteArray).toList = l := by rw [Lib.toList_data]
theorem vs_append (a b : Bs) : Value.string ((⟨a.toArray⟩ : ByteArray) ++ ⟨b.toArray⟩) = vs (a ++ b) := by
  rw [vs_of]; simp

section
variable {P : Program} {Q : Exit → Act → World → Prop} {n : Nat} {env : Env} {w : World}
variable {opr : Array Oper} {rest : List Oper} {d : Nat} {g : Option (Nat × Bool)} {ty : TypeId} {pos : String} {es : Array Edge}

theorem run_sidx {xt : TypeId} (hu : P.underlying xt = some .string) {l : Bs} {k : IntKind} {i c : Int} (h : sidx l i = some c) : (Instr.index xt (vs l) (.int k i)).run P w = .ok (.int .u8 c) w := by
  unfold sidx at h
  split at h
  · rename_i h0
    simp only [Option.map_eq_some_iff] at h
    obtain ⟨b, hb, rfl⟩ := h
    have hlt : i.toNat < l.length := (List.getElem?_eq_some_iff.1 hb).1
    have e : (⟨l.toArray⟩ : ByteArray)[i.toNat]? = some b := by
      rw [getElem?_pos _ _ (by rw [size_mk]; exact hlt)]
      have := (List.getElem?_eq_some_iff.1 hb).2
      rw [← this]; rfl
    simp [Instr.index, asIntOf, vs, underlying, hu, h0, e]
  · cases h

theorem r_sidx {xt : TypeId} {x y : Operand} {l : Bs} {k : IntKind} {i c : Int} (hu : P.underlying xt = some .string) (hg : isOn opr env g = true) (hn : Nat.blt d n = true) (hx : opv env x = some (vs l)) (hy : opv env y = some (.int k i))
    (hc : sidx l i = some c) (kk : RW P opr Q rest n ((d, .int .u8 c) :: env) w) : RW P opr Q (⟨some d, .index xt x y, ty, pos, es, g⟩ :: rest) n env w :=
  r_val rfl (by simpa using hn) hg (fun a ha => by simp [execOp, ha.op hx, ha.op hy, run_sidx hu hc]) kk

theorem run_slen {xt ty : TypeId} (hu : P.underlying xt = some .string) (l : Bs) : (Builtin.len_ #[xt] ty #[vs l]).run P w = .ok (.int .i64 l.length) w := by
  simp [Builtin.len_, vs, underlying, hu, goInt, size_mk]

theorem r_slen {xt : TypeId} {x : Operand} {l : Bs} (hu : P.underlying xt = some .string) (hg : isOn opr env g = true) (hn : Nat.blt d n = true) (hx : opv env x = some (vs l))
    (kk : RW P opr Q rest n ((d, .int .i64 l.length) :: env) w) : RW P opr Q (⟨some d, .call ⟨.builtin .len, #[x], #[xt]⟩, ty, pos, es, g⟩ :: rest) n env w :=
  r_val rfl (by simpa using hn) hg (fun a ha => by simp [execOp, resolve, invoke, builtin, ha.op hx, run_slen hu]) kk

theorem vs_sub (l : Bs) (a b : Nat) : Value.string ((⟨l.toArray⟩ : ByteArray).extract a b) = vs ((l.take b).drop a) := by
  rw [vs_of, Lib.extract_data, List.drop_take]

theorem run_ssl {xt : TypeId} (hu : P.underlying xt = some .string) {l : Bs} {lo hi : Int} {r : Bs} (h : ssl l lo hi = some r) {a b : Option Value}
    (ha : a = some (.int .i64 lo) ∨ a = none ∧ lo = 0) (hb : b = some (.int .i64 hi) ∨ b = none ∧ hi = l.length) : (Instr.slice xt (vs l) a b none).run P w = .ok (vs r) w := by
  unfold ssl at h
  split at h
  · rename_i hc
    cases h
    obtain ⟨h0, h1, h2⟩ := hc
    obtain ⟨p, rfl⟩ := Int.eq_ofNat_of_zero_le h0
    obtain ⟨q, rfl⟩ := Int.eq_ofNat_of_zero_le (show 0 ≤ hi by omega)
    have h1' : p ≤ q := by omega
    have h2' : q ≤ l.length := by omega
    have key : ∀ (a' b' : Nat), (Result.ok (Value.string ((⟨l.toArray⟩ : ByteArray).extract a' b')) w : Result Value) = .ok (vs ((l.take b').drop a')) w := fun a' b' => by rw [vs_sub]
    have e1 : ∀ (c : BoundsCode) (y : Nat), q ≤ y → (Instr.sliceBound (.int .i64 (q : Int)) y c).run P w = .ok q w := fun c y hy => by simp [Instr.sliceBound, asIntOf, hy]
    have e2 : ∀ (c : BoundsCode) (y : Nat), p ≤ y → (Instr.sliceBound (.int .i64 (p : Int)) y c).run P w = .ok p w := fun c y hy => by simp [Instr.sliceBound, asIntOf, hy]
    simp only [Int.toNat_natCast]
    rw [← key]
    rcases ha with rfl | ⟨rfl, hp⟩ <;> rcases hb with rfl | ⟨rfl, hq⟩
    · simp [Instr.slice, Instr.sliceBounds, vs, underlying, hu, size_mk, e1, e2, h1', h2']
    · have hq : q = l.length := by omega
      subst hq
      simp [Instr.slice, Instr.sliceBounds, vs, underlying, hu, size_mk, e2, h1']
    · have hp : p = 0 := by omega
      subst hp
      simp [Instr.slice, Instr.sliceBounds, vs, underlying, hu, size_mk, e1, h2']
    · have hq : q = l.length := by omega
      have hp : p = 0 := by omega
      subst hq hp
      have e3 : (⟨l.toArray⟩ : ByteArray) = (⟨l.toArray⟩ : ByteArray).extract 0 l.length := by
        have h3 := vs_sub l 0 l.length
        simp only [List.take_length, List.drop_zero, vs, Value.string.injEq] at h3
        exact h3.symm
      simp [Instr.slice, Instr.sliceBounds, vs, underlying, hu, ← e3]
  · cases h

theorem sliceAt_str {xt : TypeId} (hu : P.underlying xt = some .string) (x : Value) (a b c : Option Value) : (Instr.sliceAt xt x a b c).run P w = (Instr.slice xt x a b c).run P w := by
  simp [Instr.sliceAt, underlying, hu]

theorem r_ssl_lh {xt : TypeId} {x y z : Operand} {l r : Bs} {lo hi : Int} (hu : P.underlying xt = some .string) (hg : isOn opr env g = true) (hn : Nat.blt d n = true) (hx : opv env x = some (vs l)) (hy : opv env y = some (.int .i64 lo)) (hz : opv env z = some (.int .i64 hi))
    (hc : ssl l lo hi = some r) (kk : RW P opr Q rest n ((d, vs r) :: env) w) : RW P opr Q (⟨some d, .slice xt x (some y) (some z) none, ty, pos, es, g⟩ :: rest) n env w :=
  r_val rfl (by simpa using hn) hg (fun a ha => by simp [execOp, ha.op hx, ha.op hy, ha.op hz, sliceAt_str hu, run_ssl hu hc (.inl rfl) (.inl rfl)]) kk
theorem r_ssl_l {xt : TypeId} {x y : Operand} {l r : Bs} {lo : Int} (hu : P.underlying xt = some .string) (hg : isOn opr env g = true) (hn : Nat.blt d n = true) (hx : opv env x = some (vs l)) (hy : opv env y = some (.int .i64 lo))
    (hc : ssl l lo l.length = some r) (kk : RW P opr Q rest n ((d, vs r) :: env) w) : RW P opr Q (⟨some d, .slice xt x (some y) none none, ty, pos, es, g⟩ :: rest) n env w :=
  r_val rfl (by simpa using hn) hg (fun a ha => by simp [execOp, ha.op hx, ha.op hy, sliceAt_str hu, run_ssl hu hc (.inl rfl) (.inr ⟨rfl, rfl⟩)]) kk
theorem r_ssl_h {xt : TypeId} {x z : Operand} {l r : Bs} {hi : Int} (hu : P.underlying xt = some .string) (hg : isOn opr env g = true) (hn : Nat.blt d n = true) (hx : opv env x = some (vs l)) (hz : opv env z = some (.int .i64 hi))
    (hc : ssl l 0 hi = some r) (kk : RW P opr Q rest n ((d, vs r) :: env) w) : RW P opr Q (⟨some d, .slice xt x none (some z) none, ty, pos, es, g⟩ :: rest) n env w :=
  r_val rfl (by simpa using hn) hg (fun a ha => by simp [execOp, ha.op hx, ha.op hz, sliceAt_str hu, run_ssl hu hc (.inr ⟨rfl, rfl⟩) (.inl rfl)]) kk

def strBin (op : BinOp) (a b : Bs) : Option Value :=
  match op with
  | .add => (scat a b).map vs
  | .eql => some (.bool (a == b))
  | .neq => some (.bool (!(a == b)))
  | .lss => some (.bool (Op.bytesLess a b))
  | .leq => some (.bool (Op.bytesLess a b || a == b))
  | .gtr => some (.bool (!(Op.bytesLess a b || a == b)))
  | .geq => some (.bool (!(Op.bytesLess a b)))
  | _ => none

theorem run_strBin {op : BinOp} {t : TypeId} {a b : Bs} {v : Value} (h : strBin op a b = some v) : (binOp op t (vs a) (vs b)).run P w = .ok v w := by
  have hb : binOp op t (vs a) (vs b) = Op.stringOp op ⟨a.toArray⟩ ⟨b.toArray⟩ := by cases op <;> rfl
  rw [hb]
  cases op <;> simp only [strBin, Option.some.injEq, reduceCtorEq] at h
  case add =>
    unfold scat at h
    split at h
    · rename_i hl
      cases h
      have : ¬ (((⟨a.toArray⟩ : ByteArray).size + (⟨b.toArray⟩ : ByteArray).size : Nat) : Int) > IntKind.i64.max := by
        rw [size_mk, size_mk, show IntKind.i64.max = 9223372036854775807 from by decide]; omega
      unfold Op.stringOp
      simp only [if_neg this]
      rw [← vs_append]; rfl
    · cases h
  all_goals subst h; simp only [Op.stringOp, toList_mk]; rfl

theorem r_str {op : BinOp} {xt yt : TypeId} {x y : Operand} {p q : Bs} {v : Value} (hg : isOn opr env g = true) (hn : Nat.blt d n = true) (hx : opv env x = some (vs p)) (hy : opv env y = some (vs q))
    (hv : strBin op p q = some v) (k : RW P opr Q rest n ((d, v) :: env) w) : RW P opr Q (⟨some d, .binOp op xt x y yt, ty, pos, es, g⟩ :: rest) n env w :=
  r_val rfl (by simpa using hn) hg (fun a ha => by
    have e : (eqGuard op xt x y (vs p) (vs q)).run P w = .ok () w := run_eqGuard_str
    simp [execOp, ha.op hx, ha.op hy, e, run_strBin hv]) k
theorem r_cat {xt yt : TypeId} {x y : Operand} {p q r : Bs} (hg : isOn opr env g = true) (hn : Nat.blt d n = true) (hx : opv env x = some (vs p)) (hy : opv env y = some (vs q))
    (hv : scat p q = some r) (k : RW P opr Q rest n ((d, vs r) :: env) w) : RW P opr Q (⟨some d, .binOp .add xt x y yt, ty, pos, es, g⟩ :: rest) n env w :=
  r_str hg hn hx hy (by simp [strBin, hv]) k

theorem r_quo {xt yt : TypeId} {x y : Operand} {i : IntKind} {m q r : Int} (hg : isOn opr env g = true) (hn : Nat.blt d n = true) (hx : opv env x = some (.int i m)) (hy : opv env y = some (.int i q))
    (hv : quo i m q = some r) (k : RW P opr Q rest n ((d, .int i r) :: env) w) : RW P opr Q (⟨some d, .binOp .quo xt x y yt, ty, pos, es, g⟩ :: rest) n env w :=
  r_val rfl (by simpa using hn) hg (fun a ha => by
    unfold quo at hv
    split at hv
    · cases hv
    · rename_i h0; cases hv; simp [execOp, ha.op hx, ha.op hy, run_eqGuard_int, binOp, Op.intDiv, h0]) k
theorem r_rem {xt yt : TypeId} {x y : Operand} {i : IntKind} {m q r : Int} (hg : isOn opr env g = true) (hn : Nat.blt d n = true) (hx : opv env x = some (.int i m)) (hy : opv env y = some (.int i q))
    (hv : rem m q = some r) (k : RW P opr Q rest n ((d, .int i r) :: env) w) : RW P opr Q (⟨some d, .binOp .rem xt x y yt, ty, pos, es, g⟩ :: rest) n env w :=
  r_val rfl (by simpa using hn) hg (fun a ha => by
    unfold rem at hv
    split at hv
    · cases hv
    · rename_i h0; cases hv; simp [execOp, ha.op hx, ha.op hy, run_eqGuard_int, binOp, Op.intDiv, h0]) k
theorem r_shl {xt yt : TypeId} {x y : Operand} {i j : IntKind} {m q r : Int} (hg : isOn opr env g = true) (hn : Nat.blt d n = true) (hx : opv env x = some (.int i m)) (hy : opv env y = some (.int j q))
    (hv : shl i m q = some r) (k : RW P opr Q rest n ((d, .int i r) :: env) w) : RW P opr Q (⟨some d, .binOp .shl xt x y yt, ty, pos, es, g⟩ :: rest) n env w :=
  r_val rfl (by simpa using hn) hg (fun a ha => by
    unfold shl at hv
    split at hv
    · cases hv
    · rename_i h0; cases hv; simp [execOp, ha.op hx, ha.op hy, run_eqGuard_int, binOp, Op.shift, h0]) k
theorem r_shr {xt yt : TypeId} {x y : Operand} {i j : IntKind} {m q r : Int} (hg : isOn opr env g = true) (hn : Nat.blt d n = true) (hx : opv env x = some (.int i m)) (hy : opv env y = some (.int j q))
    (hv : shr i m q = some r) (k : RW P opr Q rest n ((d, .int i r) :: env) w) : RW P opr Q (⟨some d, .binOp .shr xt x y yt, ty, pos, es, g⟩ :: rest) n env w :=
  r_val rfl (by simpa using hn) hg (fun a ha => by
    unfold shr at hv
    split at hv
    · cases hv
    · rename_i h0; cases hv; simp [execOp, ha.op hx, ha.op hy, run_eqGuard_int, binOp, Op.shift, h0]) k

theorem r_conv {s t : TypeId} {x : Operand} {i j : IntKind} {m : Int} {ds : TypeDesc} (hs : P.underlying s = some ds) (ht : P.underlying t = some (.int j)) (hg : isOn opr env g = true) (hn : Nat.blt d n = true) (hx : opv env x = some (.int i m))
    (k : RW P opr Q rest n ((d, .int j (j.wrap m)) :: env) w) : RW P opr Q (⟨some d, .convert s t x, ty, pos, es, g⟩ :: rest) n env w :=
  r_val rfl (by simpa using hn) hg (fun a ha => by simp [execOp, ha.op hx, convert, underlying, hs, ht, Conv.intToInt]) k

theorem r_beq {xt yt : TypeId} {x y : Operand} {p q : Bool} (hu : P.underlying xt = some .bool) (hg : isOn opr env g = true) (hn : Nat.blt d n = true) (hx : opv env x = some (.bool p)) (hy : opv env y = some (.bool q))
    (k : RW P opr Q rest n ((d, .bool (p == q)) :: env) w) : RW P opr Q (⟨some d, .binOp .eql xt x y yt, ty, pos, es, g⟩ :: rest) n env w :=
  r_val rfl (by simpa using hn) hg (fun a ha => by
    have e := run_equal_bool (P := P) w xt p q hu
    simp [execOp, ha.op hx, ha.op hy, run_eqGuard_bool, binOp, e]) k
theorem r_bne {xt yt : TypeId} {x y : Operand} {p q : Bool} (hu : P.underlying xt = some .bool) (hg : isOn opr env g = true) (hn : Nat.blt d n = true) (hx : opv env x = some (.bool p)) (hy : opv env y = some (.bool q))
    (k : RW P opr Q rest n ((d, .bool (!(p == q))) :: env) w) : RW P opr Q (⟨some d, .binOp .neq xt x y yt, ty, pos, es, g⟩ :: rest) n env w :=
  r_val rfl (by simpa using hn) hg (fun a ha => by
    have e := run_equal_bool (P := P) w xt p q hu
    simp [execOp, ha.op hx, ha.op hy, run_eqGuard_bool, binOp, e]) k

theorem r_extract {x : Operand} {i : Nat} {vv : Array Value} {v : Value} (hg : isOn opr env g = true) (hn : Nat.blt d n = true) (hx : opv env x = some (.tuple vv)) (hi : vv[i]? = some v) (k : RW P opr Q rest n ((d, v) :: env) w) :
    RW P opr Q (⟨some d, .extract x i, ty, pos, es, g⟩ :: rest) n env w :=
  r_val rfl (by simpa using hn) hg (fun a ha => by simp [execOp, ha.op hx, Instr.extract, hi]) k

/- calls -/
def opvs (env : Env) : List Operand → Option (List Value)
  | [] => some []
  | x :: r => match opv env x, opvs env r with
    | some v, some l => some (v :: l)
    | _, _ => none
theorem Has.opvs {a : Act} (ha : Has n a env) : ∀ {l : List Operand} {vl : List Value}, Rt.opvs env l = some vl → l.map a.eval = vl
  | [], vl, h => by simp only [Rt.opvs, Option.some.injEq] at h; subst h; rfl
  | x :: r, vl, h => by
    simp only [Rt.opvs] at h
    split at h
    · rename_i v l hv hl
      cases h
      simp [ha.op hv, ha.opvs hl]
    · cases h

/-- the function f has a body -/
def Ent (P : Program) (f : FuncId) : Prop := ∀ args w, (callFunc f args).run P w = .ok (.enter f args) w

theorem r_call {c : Operand} {l : List Operand} {ts : Array TypeId} {f : FuncId} {first cap : Array Value} {vl : List Value} {R : Value → World → Prop} (he : Ent P f) (hg : isOn opr env g = true) (hn : Nat.blt d n = true)
    (hc : opv env c = some (.func (.func f) first cap)) (hl : opvs env l = some vl)
    (hC : Calls P f (first ++ vl.toArray ++ cap) w fun e w' => ∃ v, e = .returned v ∧ R v w')
    (k : ∀ v w', R v w' → RW P opr Q rest n ((d, v) :: env) w') : RW P opr Q (⟨some d, .call ⟨.value c, l.toArray, ts⟩, ty, pos, es, g⟩ :: rest) n env w :=
  r_enter rfl (by simpa using hn) hg (fun a ha => by
    have e := he (first ++ (vl.toArray ++ cap)) w
    have e2 : (List.map a.eval l) = vl := ha.opvs hl
    simp [execOp, resolve, invoke, Deferred.ofValue, ha.op hc, e2, e]) hC k

/-- a call that leaves the world alone -/
theorem r_callP {c : Operand} {l : List Operand} {ts : Array TypeId} {f : FuncId} {first cap : Array Value} {vl : List Value} {v : Value} (he : Ent P f) (hg : isOn opr env g = true) (hn : Nat.blt d n = true)
    (hc : opv env c = some (.func (.func f) first cap)) (hl : opvs env l = some vl)
    (hC : Calls P f (first ++ vl.toArray ++ cap) w fun e w' => e = .returned v ∧ w' = w)
    (k : RW P opr Q rest n ((d, v) :: env) w) : RW P opr Q (⟨some d, .call ⟨.value c, l.toArray, ts⟩, ty, pos, es, g⟩ :: rest) n env w :=
  r_call (R := fun u w' => u = v ∧ w' = w) he hg hn hc hl (hC.mono fun e w' h => ⟨v, h.1, rfl, h.2⟩) (fun u w' h => by obtain ⟨rfl, rfl⟩ := h; exact k)

theorem r_callP0 {c : Operand} {l : List Operand} {ts : Array TypeId} {f : FuncId} {vl : List Value} {v : Value} (he : Ent P f) (hg : isOn opr env g = true) (hn : Nat.blt d n = true)
    (hc : opv env c = some (.func (.func f) #[] #[])) (hl : opvs env l = some vl)
    (hC : Calls P f vl.toArray w fun e w' => e = .returned v ∧ w' = w)
    (k : RW P opr Q rest n ((d, v) :: env) w) : RW P opr Q (⟨some d, .call ⟨.value c, l.toArray, ts⟩, ty, pos, es, g⟩ :: rest) n env w :=
  r_callP he hg hn hc hl (by simpa using hC) k

def imin (x y : Int) : Int := if y < x then y else x
theorem r_min {x y : Operand} {ts : Array TypeId} {i : IntKind} {p q : Int} (hg : isOn opr env g = true) (hn : Nat.blt d n = true) (hx : opv env x = some (.int i p)) (hy : opv env y = some (.int i q))
    (k : RW P opr Q rest n ((d, .int i (imin p q)) :: env) w) : RW P opr Q (⟨some d, .call ⟨.builtin .min, #[x, y], ts⟩, ty, pos, es, g⟩ :: rest) n env w :=
  r_val rfl (by simpa using hn) hg (fun a ha => by simp [execOp, resolve, invoke, builtin, ha.op hx, ha.op hy, Builtin.min_, Builtin.min2, imin]) k

/-- a function value of one byte's kind that leaves the world alone -/
def PFn (P : Program) (fv : Value) (enc : List Value → Option Value → Prop) : Prop :=
  ∃ f first cap, fv = .func (.func f) first cap ∧ Ent P f ∧ ∀ args r w, enc args (some r) → Calls P f (first ++ args.toArray ++ cap) w fun e w' => e = .returned r ∧ w' = w

theorem r_callF {c : Operand} {l : List Operand} {ts : Array TypeId} {fv : Value} {enc : List Value → Option Value → Prop} {vl : List Value} {v : Value} (hf : PFn P fv enc) (hg : isOn opr env g = true) (hn : Nat.blt d n = true)
    (hc : opv env c = some fv) (hl : opvs env l = some vl) (hv : enc vl (some v))
    (k : RW P opr Q rest n ((d, v) :: env) w) : RW P opr Q (⟨some d, .call ⟨.value c, l.toArray, ts⟩, ty, pos, es, g⟩ :: rest) n env w := by
  obtain ⟨f, first, cap, rfl, he, hC⟩ := hf
  exact r_callP he hg hn hc hl (hC vl v w hv) k

/- the ways back -/
theorem b_ret {fn : Func} {R : Ending → World → Prop} {v : Value} (hr : ∀ a, Has n a env → (results fn a.tmps).run P w = .ok v w) (hR : R (.returned v) w) : QW (bodyPost P fn R) .ret n env w :=
  fun a ha => ⟨ha.defers, v, hr a ha, hR⟩
theorem Has.tmp {a : Act} (ha : Has n a env) {t : Nat} {v : Value} (h : env.lookup t = some v) : a.tmps.getD t undef = v := by
  simp [Array.getD_eq_getD_getElem?, ha.get t v h]
theorem b_ret1 {fn : Func} {R : Ending → World → Prop} {t : Nat} {v : Value} (hf : fn.results = #[.tmp t]) (h : env.lookup t = some v) (hR : R (.returned v) w) : QW (bodyPost P fn R) .ret n env w :=
  b_ret (fun a ha => by rw [results_tmp hf, ha.tmp h]) hR
theorem b_ret2 {fn : Func} {R : Ending → World → Prop} {t t2 : Nat} {v v2 : Value} (hf : fn.results = #[.tmp t, .tmp t2]) (h : env.lookup t = some v) (h2 : env.lookup t2 = some v2) (hR : R (.returned (.tuple #[v, v2])) w) : QW (bodyPost P fn R) .ret n env w :=
  b_ret (fun a ha => by rw [results_tmp2 hf, ha.tmp h, ha.tmp h2]) hR
theorem b_ret3 {fn : Func} {R : Ending → World → Prop} {t t2 t3 : Nat} {v v2 v3 : Value} (hf : fn.results = #[.tmp t, .tmp t2, .tmp t3]) (h : env.lookup t = some v) (h2 : env.lookup t2 = some v2) (h3 : env.lookup t3 = some v3) (hR : R (.returned (.tuple #[v, v2, v3])) w) : QW (bodyPost P fn R) .ret n env w :=
  b_ret (fun a ha => by rw [← ha.tmp h, ← ha.tmp h2, ← ha.tmp h3]; simp [results, hf]) hR

/-- a call's frame as it is entered -/
theorem calls_of {f : FuncId} {fn : Func} {c : Code} {args : List Value} {R : Ending → World → Prop} (m : Nat) (hf : P.funcs[f]? = some fn) (hb : fn.body = some c) (hm : fn.ntmps = m) (hle : Nat.ble args.length m = true)
    (h : CW P c (bodyPost P fn R) m (args.zipIdx.map fun x => (x.2, x.1)) w) : Calls P f args.toArray w R := by
  refine calls_of_wp hf hb (h _ ⟨?_, rfl, fun k v hk => ?_⟩)
  · have := Nat.le_of_ble_eq_true hle; simp [hm]; omega
  · have key : ∀ (l : List Value) (o : Nat), ((l.zipIdx o).map fun x => (x.2, x.1)).lookup k = some v → o ≤ k ∧ l[k - o]? = some v := by
      intro l
      induction l with
      | nil => intro o h; simp at h
      | cons b l ih =>
        intro o h
        simp only [List.zipIdx_cons, List.map_cons, List.lookup_cons] at h
        split at h
        · rename_i e; have e : k = o := by simpa using e
          subst e; cases h; simp
        · rename_i e; have e : k ≠ o := by simpa using e
          obtain ⟨h1, h2⟩ := ih (o + 1) h
          refine ⟨by omega, ?_⟩
          have e2 : k - o = (k - (o + 1)) + 1 := by omega
          rw [e2, List.getElem?_cons_succ]; exact h2
    have := (key args 0 hk).2
    simp only [Nat.sub_zero] at this
    have hlt := (List.getElem?_eq_some_iff.1 this).1
    simp only
    rw [Array.getElem?_append_left (by simpa using hlt)]
    simpa using this

/-- a loop: 'L m s' is what comes of m rounds at most from the state s -/
theorem loopR {σ R : Type} {c : Code} (L : Nat → σ → Option R) (r : R) (I : σ → Act → World → Prop) (h0 : ∀ s, L 0 s = none)
    (hs : ∀ m (K : Act → World → Prop), (∀ s a w, L m s = some r → I s a w → K a w) → ∀ s a w, L (m + 1) s = some r → I s a w → c.wp P (Exit.then K Q) a w)
    {m : Nat} {s : σ} {a : Act} {w : World} (h : L m s = some r) (hi : I s a w) : (Code.loop c).wp P Q a w := by
  have key : ∀ m s a w, L m s = some r → I s a w → Code.rounds P c Q m a w := by
    intro m
    induction m with
    | zero => intro s a w h; rw [h0] at h; cases h
    | succ m ih => intro s a w h hi; exact hs m _ ih s a w h hi
  exact wp_loop_rounds m (key m s a w h hi)
theorem cw_apply {c : Code} {a : Act} (ha : Has n a env) (h : CW P c Q n env w) : c.wp P Q a w := h a ha
theorem qw_apply {e : Exit} {a : Act} (ha : Has n a env) (h : QW Q e n env w) : Q e a w := h a ha
theorem rw_apply {l : List Oper} {a : Act} (ha : Has n a env) (h : RW P opr Q l n env w) : wpList P opr Q l a w := h a ha
/-- a statement whose ways meet again ahead of the next one -/
theorem c_mid {x y : Code} (J : Act → World → Prop) (h2 : ∀ a w', J a w' → y.wp P Q a w') (h1 : CW P x (Exit.then J Q) n env w) : CW P (.seq x y) Q n env w :=
  fun a ha => wp_seq (Code.wp_mono (fun e a' w' hq => by cases e <;> first | exact h2 _ _ hq | exact hq) (h1 a ha))
theorem wpList_mid {J : Act → World → Prop} {l1 l2 : List Oper} (h2 : ∀ a w, J a w → wpList P opr Q l2 a w) : ∀ {a : Act} {w : World}, wpList P opr (Exit.then J Q) l1 a w → wpList P opr Q (l1 ++ l2) a w := by
  have hout : LetsOut (Exit.then J Q) → LetsOut Q := fun ⟨a, w, h⟩ => ⟨a, w, h⟩
  have upon_mono : ∀ (o : Oper) (a : Act) (w : World) (N N' : Act → World → Prop), (∀ a w, N a w → N' a w) → o.wp P a w N (Exit.then J Q) → o.wp P a w N' Q := by
    intro o a w N N' hN h
    unfold Oper.wp at h ⊢
    cases hr : (execOp a.eval o).run P w with
    | ok x w' =>
      rw [hr] at h
      cases x with
      | value v => exact hN _ _ h
      | skip => exact hN _ _ h
      | defer d => exact hN _ _ h
      | enter f args =>
        refine Calls.mono h ?_
        intro e w'' he
        cases e with
        | returned v => exact hN _ _ he
        | panicked chain => exact he
        | outgrown => exact hout he
      | row r args => exact Rows.mono h fun v w'' hv => hN _ _ hv
      | _ => exact h
    | halt x w' =>
      rw [hr] at h
      cases x <;> exact h
  induction l1 with
  | nil => intro a w h; exact h2 _ _ h
  | cons o l ih =>
    intro a w h
    simp only [List.cons_append]
    unfold wpList at h ⊢
    split
    · rename_i hw
      rw [if_pos hw] at h
      rcases h with h | ⟨h1, h2⟩
      · exact .inl (upon_mono o a w _ _ (fun a w => ih) h)
      · exact .inr ⟨h1, hout h2⟩
    · rename_i hw
      rw [if_neg hw] at h
      exact ih h
/-- the first k operations, whose ways meet again -/
theorem r_mid {l : List Oper} (k : Nat) (J : Act → World → Prop) (h2 : ∀ a w', J a w' → wpList P opr Q (l.drop k) a w') (h1 : RW P opr (Exit.then J Q) (l.take k) n env w) : RW P opr Q l n env w := by
  intro a ha
  rw [← List.take_append_drop k l]
  exact wpList_mid h2 (h1 a ha)
/-- a loop, with what comes behind it -/
theorem loopX {σ τ R : Type} {c : Code} {id : Nat} (L : Nat → σ → Option R) (k : τ → Option R) (r : R) (I : σ → Act → World → Prop) (J : τ → Act → World → Prop) (h0 : ∀ s, L 0 s = none)
    (hk : ∀ y a w, k y = some r → J y a w → Q (.exit id) a w)
    (hs : (∀ y a w, k y = some r → J y a w → Q (.exit id) a w) → ∀ m (K : Act → World → Prop), (∀ s a w, L m s = some r → I s a w → K a w) → ∀ s a w, L (m + 1) s = some r → I s a w → c.wp P (Exit.then K Q) a w)
    {m : Nat} {s : σ} {a : Act} {w : World} (h : L m s = some r) (hi : I s a w) : (Code.loop c).wp P Q a w := loopR L r I h0 (hs hk) h hi
theorem q_next {K : Act → World → Prop} (h : ∀ a, Has n a env → K a w) : QW (Exit.then K Q) .normal n env w := h
end
end Go.Proofs.YtpihabofmnnbbaaDoor.Rt
