/-
  THE RUNTIME OF THE MIRRORS, part 4: one rule a kind of operation on memory.
-/
import Derived.Test.YtpihabofmnnbbaaDoorRt3
namespace Go.Proofs.YtpihabofmnnbbaaDoor.Rt
open Go Go.RowKit

/- readings of the plain kinds -/
def Rp.int (i : IntKind) : Rp Int where
  k := 1
  R := fun _ cs x => cs = [.int i x]
  len := by intros; simp_all
  mono := fun _ h => h
  one := by intro F cs x h u hu; subst h; simp at hu; subst hu; rfl
def Rp.bool : Rp Bool where
  k := 1
  R := fun _ cs x => cs = [.bool x]
  len := by intros; simp_all
  mono := fun _ h => h
  one := by intro F cs x h u hu; subst h; simp at hu; subst hu; rfl
def Rp.str : Rp Bs where
  k := 1
  R := fun _ cs x => cs = [vs x]
  len := by intros; simp_all
  mono := fun _ h => h
  one := by intro F cs x h u hu; subst h; simp at hu; subst hu; rfl
def Rp.sl {α : Type} (r : Rp α) : Rp (List α) where
  k := 1
  R := fun F cs x => ∃ a m c, cs = [.slice a m c] ∧ SlR r F a m c x
  len := by rintro F cs x ⟨a, m, c, h, _⟩; simp [h]
  mono := by rintro F F' cs x hF ⟨a, m, c, h, h2⟩; exact ⟨a, m, c, h, h2.mono hF⟩
  one := by rintro F cs x ⟨a, m, c, h, _⟩ u hu; subst h; simp at hu; subst hu; rfl

/- what the mirrors say of lists -/
def ix {α : Type} (l : List α) (i : Int) : Option α := if 0 ≤ i then l[i.toNat]? else none
def lsl {α : Type} (l : List α) (lo hi : Int) : Option (List α) := if 0 ≤ lo ∧ lo ≤ hi ∧ hi ≤ l.length then some ((l.take hi.toNat).drop lo.toNat) else none
def app {α : Type} (bytes : Nat) (l l2 : List α) : Option (List α) := if (l.length + l2.length) * bytes ≤ 140737488355328 then some (l ++ l2) else none
def bytesOf (l : List Int) : Option Bs := if l.all (fun x => decide (0 ≤ x ∧ x < 256)) then some (l.map fun x => UInt8.ofNat x.toNat) else none

section
variable {P : Program} {Q : Exit → Act → World → Prop} {n : Nat} {env : Env} {w : World}
variable {opr : Array Oper} {rest : List Oper} {d : Nat} {g : Option (Nat × Bool)} {ty : TypeId} {pos : String} {es : Array Edge}
variable {F0 F : Frz} {w0 : World} {X : List Nat} {O : List OE}

/- facts of a type, each closed -/
def IsAgg (P : Program) (T : TypeId) (b : Bool) : Prop := ∀ w, (isAgg T).run P w = .ok b w
def SizeIs (P : Program) (T : TypeId) (k : Nat) : Prop := ∀ w, (sizeOf T).run P w = .ok k w
def ZeroIs (P : Program) (T : TypeId) (z : Value) : Prop := ∀ w, (zeroValue T).run P w = .ok z w
def FieldIs (P : Program) (T j o : Nat) : Prop := ∀ (b p : Nat) w, (Instr.fieldAt T (.pointer (some ⟨b, p, none⟩)) j).run P w = .ok (.pointer (some ⟨b, p + o, none⟩)) w

theorem addr_add (b o m : Nat) : (⟨b, o, none⟩ : Addr).add m = ⟨b, o + m, none⟩ := by unfold Addr.add; split <;> simp_all

theorem r_alloc {T : TypeId} {z : Value} {cs : List Value} (hZ : ZeroIs P T z) (hcs : z.cells.toList = cs) (hg : isOn opr env g = true) (hn : Nat.blt d n = true) (h : HS F0 w0 X F O w)
    (k : ∀ b w', HS F0 w0 X F (.box b T cs :: O) w' → RW P opr Q rest n ((d, .pointer (some ⟨b, 0, none⟩)) :: env) w') : RW P opr Q (⟨some d, .alloc T, ty, pos, es, g⟩ :: rest) n env w :=
  r_valw (w' := w.alloc (.cells z.cells T)) rfl (by simpa using hn) hg (fun a ha => by simp [execOp, Instr.alloc, hZ w, newVar, newRow]) (k w.heap.size _ (h.add (World.grownBy_alloc w _ none) (by
    subst hcs; show (w.alloc _).heap[w.heap.size]? = _; rw [heap_alloc_new]) (by simp [OE.blk])))

theorem r_box {T : TypeId} {x : Operand} {v : Value} {cs : List Value} (hx : opv env x = some v) (hcs : v.cells.toList = cs) (hg : isOn opr env g = true) (hn : Nat.blt d n = true) (h : HS F0 w0 X F O w)
    (k : ∀ b w', HS F0 w0 X F (.box b T cs :: O) w' → RW P opr Q rest n ((d, .pointer (some ⟨b, 0, none⟩)) :: env) w') : RW P opr Q (⟨some d, .box T x, ty, pos, es, g⟩ :: rest) n env w :=
  r_valw (w' := w.alloc (.cells v.cells T)) rfl (by simpa using hn) hg (fun a ha => by simp [execOp, Instr.box, ha.op hx, newVar, newRow]) (k w.heap.size _ (h.add (World.grownBy_alloc w _ none) (by
    subst hcs; show (w.alloc _).heap[w.heap.size]? = _; rw [heap_alloc_new]) (by simp [OE.blk])))

theorem HS.get (h : HS F0 w0 X F O w) {i : Nat} {e : OE} (hi : O[i]? = some e) : e.ok w := h.own e (List.mem_of_getElem? hi)

theorem box_cell (h : HS F0 w0 X F O w) {i b : Nat} {t : TypeId} {cs : List Value} (hi : O[i]? = some (.box b t cs)) {j : Nat} {v : Value} (hj : cs[j]? = some v) : w.cell? ⟨b, j, none⟩ = some v := by
  have h1 : w.heap[b]? = some (.cells cs.toArray t (0, 0)) := h.get hi
  simp [World.cell?, h1, hj]

/-- a load of one cell, wherever it lies -/
theorem r_load1 {T : TypeId} {x : Operand} {b o : Nat} {v : Value} (hA : IsAgg P T false) (hg : isOn opr env g = true) (hn : Nat.blt d n = true) (hx : opv env x = some (.pointer (some ⟨b, o, none⟩)))
    (hc : w.cell? ⟨b, o, none⟩ = some v) (k : RW P opr Q rest n ((d, v) :: env) w) : RW P opr Q (⟨some d, .load T x, ty, pos, es, g⟩ :: rest) n env w :=
  r_val rfl (by simpa using hn) hg (fun a ha => by simp [execOp, Instr.loadAt, Instr.sureAddr, ha.op hx, loadVar, hA w, hc]) k
theorem r_loadA {T : TypeId} {x : Operand} {b o : Nat} {m : Nat} {cs : List Value} (hA : IsAgg P T true) (hS : SizeIs P T m) (hm : cs.length = m) (hg : isOn opr env g = true) (hn : Nat.blt d n = true) (hx : opv env x = some (.pointer (some ⟨b, o, none⟩)))
    (hc : ∀ j v, cs[j]? = some v → w.cell? ⟨b, o + j, none⟩ = some v) (k : RW P opr Q rest n ((d, .agg cs.toArray) :: env) w) : RW P opr Q (⟨some d, .load T x, ty, pos, es, g⟩ :: rest) n env w :=
  r_val rfl (by simpa using hn) hg (fun a ha => by
    subst hm
    have e := run_loadCells_list (P := P) w ⟨b, o, none⟩ cs (fun j v hj => by rw [addr_add]; exact hc j v hj)
    simp [execOp, Instr.loadAt, Instr.sureAddr, ha.op hx, loadVar, hA w, hS w, e]) k

theorem r_loadB1 {T : TypeId} {x : Operand} {b o i : Nat} {v : Value} {t : TypeId} {cs : List Value} (hA : IsAgg P T false) (hg : isOn opr env g = true) (hn : Nat.blt d n = true) (h : HS F0 w0 X F O w) (hx : opv env x = some (.pointer (some ⟨b, o, none⟩)))
    (hi : O[i]? = some (.box b t cs)) (hc : cs[o]? = some v) (k : RW P opr Q rest n ((d, v) :: env) w) : RW P opr Q (⟨some d, .load T x, ty, pos, es, g⟩ :: rest) n env w :=
  r_load1 hA hg hn hx (box_cell h hi hc) k
theorem r_loadBA {T : TypeId} {x : Operand} {b o i m : Nat} {t : TypeId} {cs cs' : List Value} (hA : IsAgg P T true) (hS : SizeIs P T m) (hg : isOn opr env g = true) (hn : Nat.blt d n = true) (h : HS F0 w0 X F O w) (hx : opv env x = some (.pointer (some ⟨b, o, none⟩)))
    (hi : O[i]? = some (.box b t cs)) (hc : (cs.drop o).take m = cs') (hm : cs'.length = m) (k : RW P opr Q rest n ((d, .agg cs'.toArray) :: env) w) : RW P opr Q (⟨some d, .load T x, ty, pos, es, g⟩ :: rest) n env w :=
  r_loadA hA hS hm hg hn hx (fun j v hj => box_cell h hi (by
    subst hc
    rw [List.getElem?_take] at hj
    split at hj
    · rwa [List.getElem?_drop] at hj
    · cases hj)) k

theorem r_loadF1 {T : TypeId} {x : Operand} {b o j : Nat} {v : Value} {cs : List Value} (hA : IsAgg P T false) (hg : isOn opr env g = true) (hn : Nat.blt d n = true) (h : HS F0 w0 X F O w) (hf : FC F b o cs) (hx : opv env x = some (.pointer (some ⟨b, o + j, none⟩)))
    (hc : cs[j]? = some v) (k : RW P opr Q rest n ((d, v) :: env) w) : RW P opr Q (⟨some d, .load T x, ty, pos, es, g⟩ :: rest) n env w :=
  r_load1 hA hg hn hx (hf.cell h.sat hc) k
theorem r_loadFA {T : TypeId} {x : Operand} {b o j m : Nat} {cs cs' : List Value} (hA : IsAgg P T true) (hS : SizeIs P T m) (hg : isOn opr env g = true) (hn : Nat.blt d n = true) (h : HS F0 w0 X F O w) (hf : FC F b o cs) (hx : opv env x = some (.pointer (some ⟨b, o + j, none⟩)))
    (hc : (cs.drop j).take m = cs') (hm : cs'.length = m) (k : RW P opr Q rest n ((d, .agg cs'.toArray) :: env) w) : RW P opr Q (⟨some d, .load T x, ty, pos, es, g⟩ :: rest) n env w :=
  r_loadA hA hS hm hg hn hx (fun i v hi => by
    rw [Nat.add_assoc]
    refine hf.cell h.sat ?_
    subst hc
    rw [List.getElem?_take] at hi
    split at hi
    · rwa [List.getElem?_drop] at hi
    · cases hi) k

theorem r_fieldAddr {T j o : Nat} {x : Operand} {b p : Nat} (hF : FieldIs P T j o) (hg : isOn opr env g = true) (hn : Nat.blt d n = true) (hx : opv env x = some (.pointer (some ⟨b, p, none⟩)))
    (k : RW P opr Q rest n ((d, .pointer (some ⟨b, p + o, none⟩)) :: env) w) : RW P opr Q (⟨some d, .fieldAddr T x j, ty, pos, es, g⟩ :: rest) n env w :=
  r_val rfl (by simpa using hn) hg (fun a ha => by simp [execOp, ha.op hx, hF b p w]) k

theorem setRow_grown (w : World) (b : Nat) (cs : Array Value) : w.grownBy (w.setRow b cs) (some b) :=
  ⟨rfl, rfl, rfl, by simp [World.setRow], fun k _ hk => setRow_other w b k cs (fun e => hk (by rw [e]))⟩

theorem r_store {T : TypeId} {x y : Operand} {b o i m : Nat} {v : Value} {t : TypeId} {cs cs' : List Value} (hS : SizeIs P T m) (hg : isOn opr env g = true) (h : HS F0 w0 X F O w) (hx : opv env x = some (.pointer (some ⟨b, o, none⟩))) (hy : opv env y = some v)
    (hm : v.cells.size = m) (h1 : v.cells.toList.all Value.oneCell' = true) (hi : O[i]? = some (.box b t cs)) (hl : Nat.ble (o + m) cs.length = true) (hc : cs.take o ++ v.cells.toList ++ cs.drop (o + m) = cs')
    {O' : List OE} (hO : O.set i (.box b t cs') = O') (k : ∀ w', HS F0 w0 X F O' w' → RW P opr Q rest n env w') : RW P opr Q (⟨none, .store T x y, ty, pos, es, g⟩ :: rest) n env w := by
  have hb : w.heap[b]? = some (.cells cs.toArray t (0, 0)) := h.get hi
  have hst := run_storeCells_at P b o t v.cells.toList 0 cs.toArray w hb (by have := Nat.le_of_ble_eq_true hl; simp [hm]; omega) (fun u hu => by simpa using (List.all_eq_true.1 h1) u hu)
  refine r_unit (w' := w.setRow b cs'.toArray) rfl hg (fun a ha => ?_) (k _ ?_)
  · simp only [Nat.add_zero] at hst
    subst hc
    simp [execOp, Instr.storeAt, Instr.sureAddr, ha.op hx, ha.op hy, storeVar, hS w, hm, hst]
  · subst hO
    exact h.upd hi (setRow_grown w b _) (setRow_heap w b _ _ t _ hb) (fun k hk => .inl hk)

def opvp (env : Env) : List (Nat × Operand) → Option (List (Nat × Value))
  | [] => some []
  | p :: r => match opv env p.2, opvp env r with
    | some v, some l => some ((p.1, v) :: l)
    | _, _ => none
theorem parts_eval {a : Act} (ha : Has n a env) : ∀ {l : List (Nat × Operand)} {vl : List (Nat × Value)}, opvp env l = some vl → (l.map fun p => (p.1, a.eval p.2)) = vl
  | [], vl, h => by simp only [opvp, Option.some.injEq] at h; subst h; rfl
  | p :: l, vl, h => by
    simp only [opvp] at h
    split at h
    · rename_i v l' hv hl
      cases h
      simp [ha.op hv, parts_eval ha hl]
    · cases h
theorem parts_evalA {a : Act} (ha : Has n a env) {ps : List (Nat × Operand)} {vl : List (Nat × Value)} (h : opvp env ps = some vl) : (ps.toArray.map fun (i, x) => (i, a.eval x)) = vl.toArray := by
  rw [← parts_eval ha h]
  apply Array.ext'
  simp

theorem r_build {T : TypeId} {ps : List (Nat × Operand)} {vl : List (Nat × Value)} {v : Value} (hg : isOn opr env g = true) (hn : Nat.blt d n = true) (hp : opvp env ps = some vl)
    (hv : ∀ w, (Instr.build T vl.toArray).run P w = .ok v w) (k : RW P opr Q rest n ((d, v) :: env) w) : RW P opr Q (⟨some d, .build T ps.toArray, ty, pos, es, g⟩ :: rest) n env w :=
  r_val rfl (by simpa using hn) hg (fun a ha => by
    simp only [execOp]
    rw [parts_evalA ha hp]
    simp [hv w]) k

theorem r_buildSlice {T e : TypeId} {m q : Nat} {ps : List (Nat × Operand)} {vl : List (Nat × Value)} {cs : List Value} (hg : isOn opr env g = true) (hn : Nat.blt d n = true) (h : HS F0 w0 X F O w) (hp : opvp env ps = some vl)
    (hv : ∀ w, (Instr.buildSlice T m vl.toArray).run P w = .ok (.slice (some ⟨w.heap.size, 0, none⟩) m m) (w.alloc (.cells cs.toArray e))) (hl : cs.length = m * q) (hm : Nat.ble m maxLen = true)
    (k : ∀ b w', HS F0 w0 X F (.row e q (some ⟨b, 0, none⟩) m m cs :: O) w' → RW P opr Q rest n ((d, .slice (some ⟨b, 0, none⟩) m m) :: env) w') : RW P opr Q (⟨some d, .buildSlice T m ps.toArray, ty, pos, es, g⟩ :: rest) n env w :=
  r_valw (w' := w.alloc (.cells cs.toArray e)) rfl (by simpa using hn) hg (fun a ha => by
    simp only [execOp]
    rw [parts_evalA ha hp]
    simp [hv w]) (k w.heap.size _ (h.add (World.grownBy_alloc w _ none) (by
      refine ⟨hl, .inr ⟨w.heap.size, m, cs.toArray, rfl, Nat.zero_le _, heap_alloc_new w _, Nat.le_refl _, Nat.le_of_ble_eq_true hm, by simp [hl], ?_⟩⟩
      simp [← hl]) (by simp [OE.blk, Value.ownBlock])))

/-- a nil slice that the call will append to -/
theorem HS.nilRow (h : HS F0 w0 X F O w) (e : TypeId) (k : Nat) : HS F0 w0 X F (.row e k none 0 0 [] :: O) w :=
  h.add (w' := w) ⟨rfl, rfl, rfl, Nat.le_refl _, fun _ _ _ => rfl⟩ (World.ownsRow_nil _ _ _ _) (by simp [OE.blk, Value.ownBlock])

/-- facts of a slice type's element, for append -/
structure AppIs (P : Program) (t e : TypeId) (q bytes : Nat) : Prop where
  under : P.underlying t = some (.slice e)
  info : ∃ i z, P.info? e = some i ∧ i.zero = some z ∧ i.size = q ∧ i.bytes = bytes ∧ z.cells.size = q
  pos : 0 < q
  pos2 : 0 < bytes

theorem AppIs.of {t e : TypeId} {q bytes : Nat} {z : Value} (hu : P.underlying t = some (.slice e)) (hi : (P.info? e).map (fun i => (i.zero, i.size, i.bytes)) = some (some z, q, bytes)) (hz : z.cells.size = q) (h1 : 0 < q) (h2 : 0 < bytes) : AppIs P t e q bytes := by
  cases h : P.info? e with
  | none => simp [h] at hi
  | some i =>
    simp only [h, Option.map_some, Option.some.injEq, Prod.mk.injEq] at hi
    exact ⟨hu, ⟨i, z, h, hi.1, hi.2.1, hi.2.2, hz⟩, h1, h2⟩
theorem run_app {t e tr : TypeId} {q bytes : Nat} (hA : AppIs P t e q bytes) (h : HS F0 w0 X F O w) {i : Nat} {a : Option Addr} {m c : Nat} {xs : List Value} (hi : O[i]? = some (.row e q a m c xs))
    {ad : Addr} {m2 c2 : Nat} {news : List Value} (hl : news.length = m2 * q) (hnews : ∀ j u, news[j]? = some u → w.cell? (ad.add j) = some u) (h1 : ∀ u ∈ news, u.oneCell' = true) (hb : (m + m2) * bytes ≤ 140737488355328) :
    ∃ a' c' w', (Builtin.append_ #[t, t] tr #[.slice a m c, .slice (some ad) m2 c2]).run P w = .ok (.slice a' (m + m2) c') w' ∧ HS F0 w0 X F (O.set i (.row e q a' (m + m2) c' (xs ++ news))) w' := by
  obtain ⟨inf, z, hinf, hz, hq, hby, hzc⟩ := hA.info
  have hsm : m + m2 ≤ maxLen := by
    have h3 : m + m2 ≤ (m + m2) * bytes := Nat.le_mul_of_pos_right _ hA.pos2
    simp only [maxLen]; omega
  have fin : ∀ (base : Nat) (v' : Value) (w' : World), w'.ownsRow base e q v' (m + m2) (xs ++ news) → w.grownBy w' (Value.slice a m c).ownBlock → (∀ k, v'.ownBlock = some k → (Value.slice a m c).ownBlock = some k ∨ w.heap.size ≤ k) →
      (Builtin.append_ #[t, t] tr #[.slice a m c, .slice (some ad) m2 c2]).run P w = .ok v' w' →
      ∃ a' c' w', (Builtin.append_ #[t, t] tr #[.slice a m c, .slice (some ad) m2 c2]).run P w = .ok (.slice a' (m + m2) c') w' ∧ HS F0 w0 X F (O.set i (.row e q a' (m + m2) c' (xs ++ news))) w' := by
    intro base v' w' hown hgr hk hr
    have hv' : ∃ a' c', v' = .slice a' (m + m2) c' := by
      rcases hown.2 with ⟨rfl, h0⟩ | ⟨g, cap, cur, rfl, _⟩
      · exact ⟨none, 0, by rw [h0]⟩
      · exact ⟨_, _, rfl⟩
    obtain ⟨a', c', rfl⟩ := hv'
    refine ⟨a', c', w', hr, h.upd hi hgr ⟨hown.1, ?_⟩ hk⟩
    rcases hown.2 with h0 | ⟨g, cap, cur, h1, _, h2⟩
    · exact .inl h0
    · exact .inr ⟨g, cap, cur, h1, Nat.zero_le _, h2⟩
  have hown := h.get hi
  rcases hown.2 with ⟨he, h0⟩ | ⟨gb, cap, cur, he, _, hgb, hnc, hcm, hcs, htake⟩
  · simp only [Value.slice.injEq] at he
    obtain ⟨rfl, rfl, rfl⟩ := he
    have hx : xs = [] := List.eq_nil_of_length_eq_zero (by simpa using hown.1)
    subst hx
    obtain ⟨v', w', hr, hown', hgr, _⟩ := run_append_own (P := P) w w.heap.size t tr e inf z q bytes hA.under hinf hz hq hby hzc hA.pos (.slice none 0 0) 0 [] (World.ownsRow_nil _ _ _ _) ad m2 c2 news hl hnews h1 hsm hb (Nat.le_refl _)
    exact fin _ v' w' hown' hgr (fun k hk => .inr (hown'.lt k hk).1) hr
  · simp only [Value.slice.injEq] at he
    obtain ⟨rfl, _, e3⟩ := he
    obtain rfl : cap = c := e3.symm
    obtain ⟨v', w', hr, hown', hgr, _⟩ := run_append_own (P := P) w 0 t tr e inf z q bytes hA.under hinf hz hq hby hzc hA.pos (.slice (some ⟨gb, 0, none⟩) m cap) m xs hown ad m2 c2 news hl hnews h1 hsm hb (Nat.zero_le _)
    refine fin _ v' w' hown' hgr (fun k hk => ?_) hr
    by_cases hroom : m + m2 ≤ cap
    · have hfit : m * inf.size + news.length ≤ cur.size := by rw [hl, hcs, hq, ← Nat.add_mul]; exact Nat.mul_le_mul_right _ hroom
      have hr2 := run_append_room (P := P) w t tr e inf hA.under hinf gb m cap cur hgb ad m2 c2 news (by rw [hq]; exact hl) hnews h1 hroom hfit
      rw [hr] at hr2
      cases hr2
      exact .inl hk
    · have holds : ∀ j u, xs[j]? = some u → w.cell? ((⟨gb, 0, none⟩ : Addr).add j) = some u := hown.cells (g := gb) rfl
      have hr2 := run_append_grow (P := P) w t tr e inf z hA.under hinf hz ⟨gb, 0, none⟩ m cap xs (by rw [hq]; exact hown.1) holds ad m2 c2 news (by rw [hq]; exact hl) hnews (by omega) (by simp only [maxLen] at hsm; omega) (growslice_fits (by omega) (by rw [hby]; exact hb))
      rw [hr] at hr2
      cases hr2
      simp only [Value.ownBlock, Option.some.injEq] at hk
      exact .inr (by omega)

end
end Go.Proofs.YtpihabofmnnbbaaDoor.Rt
