/-
  MAPS OF THE CALL's OWN: an association list in the order in which the keys came.
-/
import Derived.Test.YtpihabofmnnbbaaDoorRt8
import Derived.WideMake
namespace Go.Proofs.YtpihabofmnnbbaaDoor.Rt
open Go Go.RowKit

def mget {K V : Type} [BEq K] (l : List (K × V)) (k : K) : Option V := (l.find? fun p => k == p.1).map (·.2)
def mput {K V : Type} [BEq K] : List (K × V) → K → V → List (K × V)
  | [], k, v => [(k, v)]
  | p :: l, k, v => if k == p.1 then (p.1, v) :: l else p :: mput l k v

/-- the entries of a map's block read as a list -/
def MpR {K V : Type} (ek : K → Value) (ev : V → Value) : List MapEntry → List (K × V) → Prop
  | [], [] => True
  | e :: es, p :: l => e.key = ek p.1 ∧ e.val = ev p.2 ∧ MpR ek ev es l
  | _, _ => False

/-- a plain kind of keys -/
structure KeyIs (P : Program) (kt : TypeId) {K : Type} [BEq K] (ek : K → Value) (D : TypeDesc) : Prop where
  desc : P.underlying kt = some D
  now : ∀ x y : K, Instr.sameNow D (ek x) (ek y) = some (x == y)
  check : ∀ (b : Bool) (x : K) (w : World), (Instr.checkKey b 10000 kt (ek x)).run P w = .ok () w
  bits : ∀ x y : K, (x == y) = true → Instr.sameBits 10000 (ek x) (ek y) = true
  eq : ∀ x y : K, (x == y) = true → x = y
  refl : ∀ x : K, (x == x) = true

theorem KeyIs.int {P : Program} {kt : TypeId} {k : IntKind} (h : P.underlying kt = some (.int k)) : KeyIs P kt (K := Int) (Value.int k) (.int k) where
  desc := h
  now x y := by simp [Instr.sameNow]
  check b x w := by rw [show (10000 : Nat) = 9999 + 1 from rfl, Instr.checkKey]; simp [underlying, h]
  bits x y e := by simp only [beq_iff_eq] at e; subst e; simp [Instr.sameBits]
  eq x y e := by simpa using e
  refl x := by simp
theorem vs_beq (x y : Bs) : ((⟨x.toArray⟩ : ByteArray) == ⟨y.toArray⟩) = (x == y) := by
  show (x.toArray == y.toArray) = (x == y)
  simp
theorem KeyIs.str {P : Program} {kt : TypeId} (h : P.underlying kt = some .string) : KeyIs P kt (K := Bs) vs .string where
  desc := h
  now x y := by simp only [Instr.sameNow, vs]; rw [vs_beq]
  check b x w := by rw [show (10000 : Nat) = 9999 + 1 from rfl, Instr.checkKey]; simp [underlying, h, vs]
  bits x y e := by
    simp only [beq_iff_eq] at e; subst e
    show ((⟨x.toArray⟩ : ByteArray) == ⟨x.toArray⟩) = true
    rw [vs_beq]; simp
  eq x y e := by simpa using e
  refl x := by simp

section
variable {P : Program} {kt : TypeId} {K V : Type} [BEq K] {ek : K → Value} {ev : V → Value} {D : TypeDesc}

theorem findNow_get (hk : KeyIs P kt ek D) (k : K) : ∀ {es : List MapEntry} {l : List (K × V)} (i : Nat), (∀ p ∈ l, True) → MpR ek ev es l →
    (∃ r, Instr.findNow D (ek k) es i = some r ∧ r.map (·.2) = ((l.find? fun p => k == p.1).map (·.2)).map ev)
  | [], [], _, _, _ => ⟨none, rfl, rfl⟩
  | e :: es, p :: l, i, _, h => by
    obtain ⟨h1, h2, h3⟩ := h
    simp only [Instr.findNow, h1, hk.now]
    cases hb : (k == p.1)
    · obtain ⟨r, h4, h5⟩ := findNow_get hk k (i + 1) (fun _ _ => trivial) h3
      exact ⟨r, h4, by rw [h5, List.find?_cons, hb]⟩
    · exact ⟨some (i, e.val), rfl, by rw [List.find?_cons, hb]; simp [h2]⟩
  | [], _ :: _, _, _, h => h.elim
  | _ :: _, [], _, _, h => h.elim

theorem findNow_put (hk : KeyIs P kt ek D) (k : K) (v : V) : ∀ {es : List MapEntry} {l : List (K × V)} (i : Nat), MpR ek ev es l →
    (Instr.findNow D (ek k) es i = some none ∧ ∀ b, MpR ek ev (es ++ [{ key := ek k, val := ev v, born := b }]) (mput l k v)) ∨
    ∃ j e0, Instr.findNow D (ek k) es i = some (some (i + j, e0)) ∧ (∃ e, es[j]? = some e ∧ e.key = ek k) ∧ MpR ek ev (es.modify j fun e => { e with key := ek k, val := ev v }) (mput l k v)
  | [], [], _, _ => .inl ⟨rfl, fun b => ⟨rfl, rfl, trivial⟩⟩
  | e :: es, p :: l, i, h => by
    obtain ⟨h1, h2, h3⟩ := h
    simp only [Instr.findNow, h1, hk.now, mput]
    cases hb : (k == p.1)
    · rcases findNow_put hk k v (i + 1) h3 with ⟨h4, h5⟩ | ⟨j, e0, h4, h5, h6⟩
      · exact .inl ⟨h4, fun b => ⟨h1, h2, h5 b⟩⟩
      · exact .inr ⟨j + 1, e0, by simp only [h4, Nat.add_assoc, Nat.add_comm 1 j], by simpa using h5, by simpa [List.modify_succ_cons] using ⟨h1, h2, h6⟩⟩
    · have hkp := hk.eq _ _ hb
      exact .inr ⟨0, e.val, by simp, ⟨e, rfl, by rw [h1, hkp]⟩, by simpa [MpR, hkp] using h3⟩
  | [], _ :: _, _, h => h.elim
  | _ :: _, [], _, h => h.elim

theorem stamp_add {es : List MapEntry} {clock : Nat} (h : StampOk es clock) (k v : Value) : StampOk (es ++ [{ key := k, val := v, born := clock }]) (clock + 1) := by
  refine ⟨?_, fun e he => ?_⟩
  · rw [List.map_append, List.nodup_append]
    refine ⟨h.1, by simp, fun a ha b hb => ?_⟩
    obtain ⟨x, hx, rfl⟩ := List.mem_map.1 ha
    have hb : b = clock := by simpa using hb
    have := h.2 x hx
    omega
  · rcases List.mem_append.1 he with he | he
    · have := h.2 e he; omega
    · obtain rfl := List.mem_singleton.1 he
      exact Nat.lt_succ_self _
theorem stamp_mod {es : List MapEntry} {clock : Nat} (h : StampOk es clock) (j : Nat) (k v : Value) : StampOk (es.modify j fun e => { e with key := k, val := v }) clock := by
  have hm : ∀ (es : List MapEntry) (j : Nat), (es.modify j fun e => { e with key := k, val := v }).map (·.born) = es.map (·.born) := by
    intro es
    induction es with
    | nil => intro j; cases j <;> rfl
    | cons e es ih =>
      intro j
      cases j with
      | zero => rfl
      | succ j => rw [List.modify_succ_cons, List.map_cons, List.map_cons, ih]
  refine ⟨by rw [hm]; exact h.1, fun e he => ?_⟩
  have h1 : e.born ∈ (es.modify j fun e => { e with key := k, val := v }).map (·.born) := List.mem_map.2 ⟨e, he, rfl⟩
  rw [hm] at h1
  obtain ⟨x, hx, h2⟩ := List.mem_map.1 h1
  rw [← h2]; exact h.2 x hx
theorem run_put (hk : KeyIs P kt ek D) {t et : TypeId} (hu : P.underlying t = some (.map kt et)) {w : World} {r clock : Nat} {es : List MapEntry} {l : List (K × V)} (hb : w.heap[r]? = some (.map es.toArray clock)) (hst : StampOk es clock) (hr : MpR ek ev es l) (k : K) (v : V) :
    ∃ es' clock', (Instr.mapUpdate t (.map (some r)) (ek k) (ev v)).run P w = .ok () { w with heap := w.heap.setIfInBounds r (.map es'.toArray clock') } ∧ MpR ek ev es' (mput l k v) ∧ StampOk es' clock' := by
  have hc := hk.check false k w
  rcases findNow_put hk k v 0 hr with ⟨h1, h2⟩ | ⟨j, e0, h1, ⟨e, h3, h4⟩, h5⟩
  · refine ⟨es ++ [{ key := ek k, val := ev v, born := clock }], clock + 1, ?_, h2 clock, stamp_add hst _ _⟩
    have hf : (Instr.findKey kt (ek k) es).run P w = .ok none w := by simp [Instr.findKey, run_underlying hk.desc, h1]
    simp [Instr.mapUpdate, run_underlying hu, MapKept.run_getObj_map hb, hc, hf, MapKept.run_setObj_map _ hb, Result.andThen]
  · refine ⟨es.modify j fun e => { e with key := ek k, val := ev v }, clock, ?_, h5, stamp_mod hst _ _ _⟩
    have hf : (Instr.findKey kt (ek k) es).run P w = .ok (some (j, e0)) w := by
      rw [Nat.zero_add] at h1
      simp [Instr.findKey, run_underlying hk.desc, h1]
    have hkk := hk.refl k
    have hst : (Instr.keyThatStays (ek k) (ek k)).run P w = .ok (ek k) w := by simp [Instr.keyThatStays, hk.bits k k hkk]
    simp [Instr.mapUpdate, run_underlying hu, MapKept.run_getObj_map hb, hc, hf, h3, h4, hst, MapKept.run_setObj_map _ hb, Result.andThen]

theorem run_get (hk : KeyIs P kt ek D) {t et : TypeId} (hu : P.underlying t = some (.map kt et)) {w : World} {r clock : Nat} {es : List MapEntry} {l : List (K × V)} {z : Value} (hz : (zeroValue et).run P w = .ok z w) (hb : w.heap[r]? = some (.map es.toArray clock)) (hr : MpR ek ev es l) (k : K) :
    (Instr.lookup t (.map (some r)) (ek k) true).run P w = .ok (.tuple #[((mget l k).map ev).getD z, .bool (mget l k).isSome]) w := by
  have hc := hk.check es.isEmpty k w
  obtain ⟨q, h1, h2⟩ := findNow_get hk k (ev := ev) 0 (fun _ _ => trivial) hr
  have hf : (Instr.findKey kt (ek k) es).run P w = .ok q w := by simp [Instr.findKey, run_underlying hk.desc, h1]
  have hm : (l.find? fun p => k == p.1).map (·.2) = mget l k := rfl
  rw [hm] at h2
  cases q with
  | none =>
    cases hg : mget l k with
    | none => simp [Instr.lookup, run_underlying hu, MapKept.run_getObj_map hb, hc, hf, hz, Result.andThen]
    | some v => rw [hg] at h2; cases h2
  | some p =>
    cases hg : mget l k with
    | none => rw [hg] at h2; cases h2
    | some v =>
      rw [hg] at h2
      have h3 : p.2 = ev v := by simpa using h2
      simp [Instr.lookup, run_underlying hu, MapKept.run_getObj_map hb, hc, hf, h3, Result.andThen]
end

section
variable {P : Program} {Q : Exit → Act → World → Prop} {n : Nat} {env : Env} {w : World}
variable {opr : Array Oper} {rest : List Oper} {d : Nat} {g : Option (Nat × Bool)} {ty : TypeId} {pos : String} {es : Array Edge}
variable {F0 F : Frz} {w0 : World} {X : List Nat} {O : List OE}
variable {kt : TypeId} {K V : Type} [BEq K] {ek : K → Value} {ev : V → Value} {D : TypeDesc}

theorem r_makeMap {t : TypeId} (hg : isOn opr env g = true) (hn : Nat.blt d n = true) (h : HS F0 w0 X F O w)
    (k : ∀ b w', HS F0 w0 X F (.mp b [] 0 :: O) w' → RW P opr Q rest n ((d, .map (some b)) :: env) w') : RW P opr Q (⟨some d, .makeMap t none, ty, pos, es, g⟩ :: rest) n env w :=
  r_valw (w' := w.alloc (.map #[] 0)) rfl (by simpa using hn) hg (fun a ha => by simp [execOp, run_makeMap]) (k w.heap.size _ (h.add (World.grownBy_alloc w _ none) (by
    exact ⟨by show (w.alloc _).heap[w.heap.size]? = _; rw [heap_alloc_new], List.nodup_nil, fun _ he => by cases he⟩) (by simp [OE.blk])))

theorem setBlk_grown (w : World) (r : Nat) (o : Obj) : w.grownBy { w with heap := w.heap.setIfInBounds r o } (some r) :=
  ⟨rfl, rfl, rfl, by simp, fun k _ hne => by
    have : r ≠ k := fun e => hne (by rw [e])
    simp [this]⟩

theorem r_mapPut {op : Op} {t et : TypeId} {m kx vx : Operand} {r clock i : Nat} {ents : List MapEntry} {l : List (K × V)} {k : K} {v : V} (hop : op = .insert t m kx vx ∨ op = .mapUpdate t m kx vx) (hk : KeyIs P kt ek D) (hu : P.underlying t = some (.map kt et)) (hg : isOn opr env g = true)
    (h : HS F0 w0 X F O w) (hm : opv env m = some (.map (some r))) (hkx : opv env kx = some (ek k)) (hvx : opv env vx = some (ev v)) (hi : O[i]? = some (.mp r ents clock)) (hr : MpR ek ev ents l)
    (kont : ∀ w' es' clock', HS F0 w0 X F (O.set i (.mp r es' clock')) w' → MpR ek ev es' (mput l k v) → RW P opr Q rest n env w') : RW P opr Q (⟨none, op, ty, pos, es, g⟩ :: rest) n env w := by
  obtain ⟨hb, hst⟩ : w.heap[r]? = some (.map ents.toArray clock) ∧ StampOk ents clock := h.get hi
  obtain ⟨es', clock', hrun, hmp, hst'⟩ := run_put hk hu hb hst hr k v
  refine r_unit (w' := { w with heap := w.heap.setIfInBounds r (.map es'.toArray clock') }) rfl hg (fun a ha => ?_) (kont _ es' clock' (h.upd hi (setBlk_grown w r _) ?_ (fun k hk => .inl hk)) hmp)
  · rcases hop with rfl | rfl <;> simp [execOp, ha.op hm, ha.op hkx, ha.op hvx, hrun]
  · have hlt : r < w.heap.size := (Array.getElem?_eq_some_iff.1 hb).1
    refine ⟨?_, hst'⟩
    show (w.heap.setIfInBounds r _)[r]? = _
    simp [hlt]

theorem r_lookup {t et : TypeId} {m kx : Operand} {r clock i : Nat} {ents : List MapEntry} {l : List (K × V)} {k : K} {z : V} (hk : KeyIs P kt ek D) (hu : P.underlying t = some (.map kt et)) (hz : ∀ w, (zeroValue et).run P w = .ok (ev z) w) (hg : isOn opr env g = true) (hn : Nat.blt d n = true)
    (h : HS F0 w0 X F O w) (hm : opv env m = some (.map (some r))) (hkx : opv env kx = some (ek k)) (hi : O[i]? = some (.mp r ents clock)) (hr : MpR ek ev ents l)
    (kont : RW P opr Q rest n ((d, .tuple #[ev ((mget l k).getD z), .bool (mget l k).isSome]) :: env) w) : RW P opr Q (⟨some d, .lookup t m kx true, ty, pos, es, g⟩ :: rest) n env w := by
  have hb : w.heap[r]? = some (.map ents.toArray clock) := (h.get hi).1
  have hrun := run_get hk hu (hz w) hb hr k
  have e : ((mget l k).map ev).getD (ev z) = ev ((mget l k).getD z) := by cases mget l k <;> rfl
  rw [e] at hrun
  exact r_val rfl (by simpa using hn) hg (fun a ha => by simp [execOp, ha.op hm, ha.op hkx, hrun]) kont
end
end Go.Proofs.YtpihabofmnnbbaaDoor.Rt
