/-
  ROWS OF THE CALL's OWN: elements read and written, made rows, appended frozen slices, parts, views for calls that only read, windows that a caller lends.
-/
import Derived.Test.YtibkigpmkkkaeaaGreatDoorRt9
import Derived.Laws.OwnMore
import Derived.Laws.Cover3
import Derived.Lib.ConvBytes
namespace Go.Proofs.YtibkigpmkkkaeaaGreatDoor.Rt
open Go Go.RowKit
/- what the mirrors say -/
def lset {α : Type} (l : List α) (i : Int) (v : α) : Option (List α) := if 0 ≤ i ∧ i < l.length then some (l.set i.toNat v) else none
theorem lset_some {α : Type} {l r : List α} {i : Int} {v : α} (h : lset l i v = some r) : 0 ≤ i ∧ i < l.length ∧ r = l.set i.toNat v := by
  unfold lset at h
  split at h
  · rename_i h0; cases h; exact ⟨h0.1, h0.2, rfl⟩
  · cases h
section
variable {α : Type} {r : Rp α} {F F' : Frz}
theorem RowR.set {y : α} {cs' : List Value} (hx : r.R F cs' y) : ∀ {xs : List α} {l : List Value} {i : Nat}, i < xs.length → RowR r F l xs → RowR r F (l.take (i * r.k) ++ cs' ++ l.drop (i * r.k + r.k)) (xs.set i y)
  | [], _, _, h, _ => by simp at h
  | z :: xs, _, 0, _, ⟨c1, ys, h1, h2, h3⟩ => by
    refine ⟨cs', ys, ?_, hx, h3⟩
    subst h1
    have := r.len h2
    simp [this]
  | z :: xs, _, i + 1, h, ⟨c1, ys, h1, h2, h3⟩ => by
    have h4 := RowR.set hx (by simpa using h) h3
    refine ⟨c1, _, ?_, h2, h4⟩
    subst h1
    have hk := r.len h2
    rw [show (i + 1) * r.k = c1.length + i * r.k from by rw [hk, Nat.add_mul]; omega, show c1.length + i * r.k + r.k = c1.length + (i * r.k + r.k) from by omega, List.take_append, List.take_of_length_le (by omega), List.drop_append, List.drop_of_length_le (by omega)]
    simp [List.append_assoc]
theorem RowN.append {m m2 : Nat} {l l2 : List Value} {xs ys : List α} (h2 : RowN r F m2 l2 ys) (h : RowN r F m l xs) : RowN r F (m + m2) (l ++ l2) (xs ++ ys) :=
  ⟨by rw [List.length_append, h.1, h2.1], RowR.append h2.2 h.2⟩
theorem RowN.take {m : Nat} {l : List Value} {xs : List α} (h : RowN r F m l xs) {q : Nat} (hq : q ≤ m) : RowN r F q (l.take (q * r.k)) (xs.take q) :=
  ⟨by rw [List.length_take, h.1]; omega, RowR.take q h.2⟩
theorem RowN.cells {m : Nat} {l : List Value} {xs : List α} (h : RowN r F m l xs) : l.length = m * r.k := by rw [RowR.len h.2, h.1]
end
/- what a row's entry shows -/
def OE.view : OE → Option (TypeId × Nat × Option Addr × Nat × Nat × List Value × Nat)
  | .row e k a m c xs => some (e, k, a, m, c, xs, 0)
  | .win e k a m c pre xs _ => some (e, k, a, m, c, xs, pre.length)
  | _ => none
def OE.withCells : OE → List Value → OE
  | .row e k a m c _, xs => .row e k a m c xs
  | .win e k a m c pre _ post, xs => .win e k a m c pre xs post
  | e, _ => e
theorem OE.withCells_blk (en : OE) (xs : List Value) : (en.withCells xs).blk = en.blk := by cases en <;> rfl
theorem OE.access {w : World} {en : OE} {e : TypeId} {k m c base : Nat} {a : Option Addr} {xs : List Value} (h : en.ok w) (hv : en.view = some (e, k, a, m, c, xs, base)) (hm : 0 < m) :
    ∃ b cur, a = some ⟨b, base, none⟩ ∧ w.heap[b]? = some (.cells cur e (0, 0)) ∧ en.blk = some b ∧ xs <+: cur.toList.drop base ∧ (xs.length = m * k ∧ base + xs.length ≤ cur.size) ∧
      ∀ o vc, o + vc.length ≤ xs.length → (en.withCells (xs.take o ++ vc ++ xs.drop (o + vc.length))).ok (w.setRow b (cur.toList.take (base + o) ++ vc ++ cur.toList.drop (base + o + vc.length)).toArray) := by
  cases en with
  | box b t cs => simp [OE.view] at hv
  | mp b es clock => simp [OE.view] at hv
  | row e' k' a' m' c' xs' =>
    simp only [OE.view, Option.some.injEq, Prod.mk.injEq] at hv
    obtain ⟨rfl, rfl, rfl, rfl, rfl, rfl, rfl⟩ := hv
    rcases h.2 with ⟨_, h0⟩ | ⟨g, cap, cur, he, h1, h2, h3, h4, h5, h6⟩
    · omega
    · simp only [Value.slice.injEq] at he
      obtain ⟨rfl, _, rfl⟩ := he
      have hpre : xs' <+: cur.toList := h6 ▸ List.take_prefix _ _
      have hlen := hpre.length_le
      refine ⟨g, cur, rfl, h2, rfl, by simpa using hpre, ⟨h.1, by simpa using hlen⟩, fun o vc ho => ?_⟩
      refine ⟨?_, .inr ⟨g, _, _, rfl, h1, setRow_heap w g _ _ _ _ h2, h3, h4, ?_, ?_⟩⟩
      · have := h.1; simp; omega
      · simp only [Array.length_toList] at hlen; simp; omega
      · obtain ⟨t, ht⟩ := hpre
        rw [← h.1, List.toList_toArray, Nat.zero_add, ← ht, List.take_append_of_le_length (l₁ := xs') (i := o) (by omega), List.drop_append_of_le_length ho, ← List.append_assoc]
        exact List.take_left' (by simp; omega)
  | win e' k' a' m' c' pre xs' post =>
    simp only [OE.view, Option.some.injEq, Prod.mk.injEq] at hv
    obtain ⟨rfl, rfl, rfl, rfl, rfl, rfl, rfl⟩ := hv
    obtain ⟨h1, h2, h3, h4⟩ := h
    rcases h4 with h4 | ⟨b, rfl, h5⟩
    · omega
    · refine ⟨b, _, rfl, h5, by simp [OE.blk]; omega, by simp, ⟨h1, by simp⟩, fun o vc ho => ?_⟩
      refine ⟨by simp; omega, h2, h3, .inr ⟨b, rfl, ?_⟩⟩
      rw [setRow_heap w b _ _ _ _ h5]
      simp only [List.append_assoc]
      rw [List.take_append, List.take_of_length_le (by omega), show pre.length + o - pre.length = o from by omega, List.drop_append, List.drop_of_length_le (by omega), show pre.length + o + vc.length - pre.length = o + vc.length from by omega, List.take_append_of_le_length (by omega), List.drop_append_of_le_length ho]
      simp [List.append_assoc]
section
variable {P : Program} {Q : Exit → Act → World → Prop} {n : Nat} {env : Env} {w : World}
variable {opr : Array Oper} {rest : List Oper} {d : Nat} {g : Option (Nat × Bool)} {ty : TypeId} {pos : String} {es : Array Edge}
variable {F0 F : Frz} {w0 : World} {X : List Nat} {O : List OE}
theorem RowN.ix_lt {α : Type} {r : Rp α} {m : Nat} {xs : List Value} {l : List α} (h : RowN r F m xs l) {i : Int} {v : α} (hi : ix l i = some v) : 0 ≤ i ∧ i < m ∧ i.toNat < l.length ∧ l[i.toNat]? = some v := by
  unfold ix at hi
  split at hi
  · rename_i h0
    have h1 := (List.getElem?_eq_some_iff.1 hi).1
    have := h.1
    exact ⟨h0, by omega, h1, hi⟩
  · cases hi
/-- the address of an element of a row -/
theorem r_rindex {α : Type} {r : Rp α} {t e : TypeId} {x y : Operand} {a : Option Addr} {m c base : Nat} {ik : IntKind} {i : Int} {l : List α} {v : α} {xs : List Value} {p : Nat} {en : OE} (hu : P.underlying t = some (.slice e)) (hS : SizeIs P e r.k)
    (hg : isOn opr env g = true) (hn : Nat.blt d n = true) (h : HS F0 w0 X F O w) (hx : opv env x = some (.slice a m c)) (hy : opv env y = some (.int ik i)) (hp : O[p]? = some en) (hv : en.view = some (e, r.k, a, m, c, xs, base)) (hl : RowN r F m xs l) (hi : ix l i = some v)
    (k : ∀ b o cs, a = some ⟨b, base, none⟩ → o = base + i.toNat * r.k → r.R F cs v → cs <+: xs.drop (i.toNat * r.k) → RW P opr Q rest n ((d, .pointer (some ⟨b, o, none⟩)) :: env) w) : RW P opr Q (⟨some d, .indexAddr t x y, ty, pos, es, g⟩ :: rest) n env w := by
  obtain ⟨h0, h1, h2, h3⟩ := hl.ix_lt hi
  obtain ⟨b, cur, ha, _⟩ := OE.access (h.get hp) hv (by omega)
  obtain ⟨cs, hcs, hpre⟩ := RowR.get hl.2 h3
  refine r_val rfl (by simpa using hn) hg (fun a' ha' => ?_) (k b _ cs ha rfl hcs hpre)
  subst ha
  simp [execOp, ha'.op hx, ha'.op hy, run_indexAt hu hS h0 h1]
/-- cells of an element -/
theorem row_cell (h : HS F0 w0 X F O w) {e : TypeId} {k m c base p o j i b : Nat} {a : Option Addr} {xs cs : List Value} {en : OE} (hp : O[p]? = some en) (hv : en.view = some (e, k, a, m, c, xs, base)) (ha : a = some ⟨b, base, none⟩) (ho : o = base + i) (hpre : cs <+: xs.drop i) {v : Value} (hj : cs[j]? = some v) :
    w.cell? ⟨b, o + j, none⟩ = some v := by
  have hlt := (List.getElem?_eq_some_iff.1 hj).1
  have hle := hpre.length_le
  have hxs : 0 < xs.length := by simp at hle; omega
  have hok := h.get hp
  have hm : 0 < m := by
    rcases Nat.eq_zero_or_pos m with h0 | h0
    · exfalso
      subst h0
      cases en with
      | box => simp [OE.view] at hv
      | mp => simp [OE.view] at hv
      | row e' k' a' m' c' xs' => simp only [OE.view, Option.some.injEq, Prod.mk.injEq] at hv; obtain ⟨rfl, rfl, rfl, rfl, rfl, rfl, rfl⟩ := hv; have := hok.1; omega
      | win e' k' a' m' c' pre xs' post => simp only [OE.view, Option.some.injEq, Prod.mk.injEq] at hv; obtain ⟨rfl, rfl, rfl, rfl, rfl, rfl, rfl⟩ := hv; have := hok.1; omega
    · exact h0
  obtain ⟨b', cur, ha', hb', _, hcur, _⟩ := OE.access hok hv hm
  rw [ha] at ha'
  cases ha'
  have h2 : cs <+: cur.toList.drop o := by
    rw [ho, ← List.drop_drop]
    exact hpre.trans (prefix_drop hcur _)
  obtain ⟨t, ht⟩ := h2
  have h3 : (cur.toList.drop o)[j]? = some v := by rw [← ht, List.getElem?_append_left hlt]; exact hj
  rw [List.getElem?_drop] at h3
  simp [World.cell?, hb', ← Array.getElem?_toList, h3]
theorem r_loadR1 {T e : TypeId} {x : Operand} {k m c base p o j i b : Nat} {a : Option Addr} {xs cs : List Value} {en : OE} {v : Value} (hA : IsAgg P T false) (hg : isOn opr env g = true) (hn : Nat.blt d n = true) (h : HS F0 w0 X F O w) (hx : opv env x = some (.pointer (some ⟨b, o + j, none⟩)))
    (hp : O[p]? = some en) (hv : en.view = some (e, k, a, m, c, xs, base)) (ha : a = some ⟨b, base, none⟩) (ho : o = base + i) (hpre : cs <+: xs.drop i) (hc : cs[j]? = some v) (kk : RW P opr Q rest n ((d, v) :: env) w) : RW P opr Q (⟨some d, .load T x, ty, pos, es, g⟩ :: rest) n env w :=
  r_load1 hA hg hn hx (row_cell h hp hv ha ho hpre hc) kk
theorem r_loadRA {T e : TypeId} {x : Operand} {k m c base p o j i b q : Nat} {a : Option Addr} {xs cs cs' : List Value} {en : OE} (hA : IsAgg P T true) (hS : SizeIs P T q) (hg : isOn opr env g = true) (hn : Nat.blt d n = true) (h : HS F0 w0 X F O w) (hx : opv env x = some (.pointer (some ⟨b, o + j, none⟩)))
    (hp : O[p]? = some en) (hv : en.view = some (e, k, a, m, c, xs, base)) (ha : a = some ⟨b, base, none⟩) (ho : o = base + i) (hpre : cs <+: xs.drop i) (hc : (cs.drop j).take q = cs') (hm : cs'.length = q) (kk : RW P opr Q rest n ((d, .agg cs'.toArray) :: env) w) : RW P opr Q (⟨some d, .load T x, ty, pos, es, g⟩ :: rest) n env w :=
  r_loadA hA hS hm hg hn hx (fun z v hz => by
    rw [Nat.add_assoc]
    refine row_cell h hp hv ha ho hpre ?_
    subst hc
    rw [List.getElem?_take] at hz
    split at hz
    · rwa [List.getElem?_drop] at hz
    · cases hz) kk
/-- a store into an element -/
theorem r_storeR {α : Type} {r : Rp α} {T e : TypeId} {x y : Operand} {m c base p o j b q : Nat} {i : Int} {a : Option Addr} {xs cs cs' : List Value} {en : OE} {v : Value} {l l' : List α} {u' : α} (hS : SizeIs P T q) (hg : isOn opr env g = true) (h : HS F0 w0 X F O w)
    (hx : opv env x = some (.pointer (some ⟨b, o + j, none⟩))) (hy : opv env y = some v) (hq : v.cells.size = q) (h1 : v.cells.toList.all Value.oneCell' = true)
    (hp : O[p]? = some en) (hv : en.view = some (e, r.k, a, m, c, xs, base)) (ha : a = some ⟨b, base, none⟩) (ho : o = base + i.toNat * r.k) (hpre : cs <+: xs.drop (i.toNat * r.k)) (hl : RowN r F m xs l)
    (hnew : cs.take j ++ v.cells.toList ++ cs.drop (j + q) = cs') (hjq : Nat.ble (j + q) cs.length = true) (hlen : cs.length = r.k) (hR : r.R F cs' u') (hset : lset l i u' = some l')
    (k : ∀ w' xs', HS F0 w0 X F (O.set p (en.withCells xs')) w' → RowN r F m xs' l' → cs' <+: xs'.drop (i.toNat * r.k) → RW P opr Q rest n env w') : RW P opr Q (⟨none, .store T x y, ty, pos, es, g⟩ :: rest) n env w := by
  obtain ⟨h0, hlt, rfl⟩ := lset_some hset
  have hm : 0 < m := by have := hl.1; omega
  have hjq := Nat.le_of_ble_eq_true hjq
  obtain ⟨b', cur, ha', hb', hblk, hcur, ⟨hxl, hbound⟩, hst⟩ := OE.access (h.get hp) hv hm
  rw [ha] at ha'
  cases ha'
  have hvl : v.cells.toList.length = q := by simpa using hq
  have hxk : i.toNat * r.k + r.k ≤ xs.length := by
    rw [hxl, ← hl.1]
    have : i.toNat + 1 ≤ l.length := by omega
    have := Nat.mul_le_mul_right r.k this
    rwa [Nat.add_mul, Nat.one_mul] at this
  have hcurl := hcur.length_le
  simp only [List.length_drop, Array.length_toList] at hcurl
  have hrun := run_storeCells_at P b (o + j) e v.cells.toList 0 cur w hb' (by omega) (fun u hu => by simpa using (List.all_eq_true.1 h1) u hu)
  have hok := hst (i.toNat * r.k + j) v.cells.toList (by omega)
  obtain ⟨t, ht⟩ := hpre
  have hdrop : xs.drop (i.toNat * r.k + r.k) = t := by rw [← List.drop_drop, ← ht, ← hlen]; simp
  have hxs' : xs.take (i.toNat * r.k + j) ++ v.cells.toList ++ xs.drop (i.toNat * r.k + j + v.cells.toList.length) = xs.take (i.toNat * r.k) ++ cs' ++ xs.drop (i.toNat * r.k + r.k) := by
    rw [List.take_add, ← ht, List.take_append_of_le_length (by omega), hdrop, Nat.add_assoc, ← List.drop_drop, ← ht, List.drop_append_of_le_length (by omega), ← hnew, hvl]
    simp [List.append_assoc]
  have hcl : cs'.length = r.k := by rw [← hnew]; simp; omega
  refine r_unit (w' := w.setRow b (cur.toList.take (o + j) ++ v.cells.toList ++ cur.toList.drop (o + j + v.cells.toList.length)).toArray) rfl hg (fun a' ha' => ?_) (k _ _ (h.upd hp (by rw [hblk]; exact setRow_grown w b _) ?_ (fun b1 hb1 => .inl (by rwa [OE.withCells_blk] at hb1))) ⟨by rw [List.length_set]; exact hl.1, RowR.set hR (by omega) hl.2⟩ ?_)
  · simp only [Nat.add_zero] at hrun
    simp [execOp, Instr.storeAt, Instr.sureAddr, ha'.op hx, ha'.op hy, storeVar, hS w, hq, hrun]
  · rw [hxs', show base + (i.toNat * r.k + j) = o + j from by omega] at hok
    exact hok
  · rw [List.append_assoc, List.drop_append, List.drop_of_length_le (by simp; omega)]
    simp only [List.length_take, List.nil_append]
    rw [show i.toNat * r.k - min (i.toNat * r.k) xs.length = 0 from by omega]
    exact List.prefix_append _ _
theorem r_appendN {α : Type} {r : Rp α} {l l2 res : List α} {x y : Operand} {t e : TypeId} {q bytes : Nat} (hA : AppIs P t e q bytes) (hg : isOn opr env g = true) (hn : Nat.blt d n = true) (h : HS F0 w0 X F O w)
    {i j m c m2 c2 b : Nat} {a : Option Addr} {xs news : List Value} (hx : opv env x = some (.slice a m c)) (hy : opv env y = some (.slice (some ⟨b, 0, none⟩) m2 c2))
    (hi : O[i]? = some (.row e q a m c xs)) (hj : O[j]? = some (.row e q (some ⟨b, 0, none⟩) m2 c2 news)) (hl : RowN r F m xs l) (hl2 : RowN r F m2 news l2) (hr : app bytes l l2 = some res)
    (k : ∀ a' c' w', HS F0 w0 X F (O.set i (.row e q a' (m + m2) c' (xs ++ news))) w' → RowN r F (m + m2) (xs ++ news) res → RW P opr Q rest n ((d, .slice a' (m + m2) c') :: env) w') :
    RW P opr Q (⟨some d, .call ⟨.builtin .append, #[x, y], #[t, t]⟩, ty, pos, es, g⟩ :: rest) n env w := by
  obtain ⟨hb, rfl⟩ := app_some hr
  rw [hl.1, hl2.1] at hb
  exact r_append hA hg hn h hx hy hi hj (RowR.one hl2.2) hb rfl (fun a' c' w' h' => k a' c' w' h' (hl2.append hl))
/-- append of a frozen slice -/
theorem r_appendF {α : Type} {r : Rp α} {l l2 res : List α} {x y : Operand} {t e : TypeId} {q bytes : Nat} (hA : AppIs P t e q bytes) (hqk : q = r.k) (hg : isOn opr env g = true) (hn : Nat.blt d n = true) (h : HS F0 w0 X F O w)
    {i m c m2 c2 : Nat} {a a2 : Option Addr} {xs : List Value} (hx : opv env x = some (.slice a m c)) (hy : opv env y = some (.slice a2 m2 c2))
    (hi : O[i]? = some (.row e q a m c xs)) (hl : RowN r F m xs l) (hl2 : SlR r F a2 m2 c2 l2) (hr : app bytes l l2 = some res)
    (k : ∀ a' c' w' xs', HS F0 w0 X F (O.set i (.row e q a' (m + m2) c' xs')) w' → RowN r F (m + m2) xs' res → RW P opr Q rest n ((d, .slice a' (m + m2) c') :: env) w') :
    RW P opr Q (⟨some d, .call ⟨.builtin .append, #[x, y], #[t, t]⟩, ty, pos, es, g⟩ :: rest) n env w := by
  obtain ⟨hb, rfl⟩ := app_some hr
  obtain ⟨h2, h3, h4, h5⟩ := hl2
  rw [hl.1, h2] at hb
  have hnil : ∀ (u : Option Addr), l2 = [] → a2 = u → RW P opr Q (⟨some d, .call ⟨.builtin .append, #[x, y], #[t, t]⟩, ty, pos, es, g⟩ :: rest) n env w := by
    intro u hl0 hu
    subst hl0
    simp only [List.length_nil] at h2
    subst h2
    simp only [List.append_nil] at *
    obtain ⟨inf, z, hinf, hz, hq, hby, hzc⟩ := hA.info
    have hmc : m ≤ c := by
      rcases (h.get hi).2 with ⟨e1, e2⟩ | ⟨gb, cap, cur, e1, _, _, e3, _⟩
      · simp only [Value.slice.injEq] at e1; omega
      · simp only [Value.slice.injEq] at e1; omega
    have hfirst : (Builtin.firstCells inf.size 0 (.slice a2 0 c2)).run P w = .ok #[] w := by
      cases a2 with
      | none => simp [Builtin.firstCells]
      | some ad => simp [Builtin.firstCells, loadCells, loadCellsFrom]
    have hst : ∀ ad : Addr, (storeCells ad []).run P w = .ok () w := fun ad => by simp [storeCells]
    refine r_valw (w' := w) rfl (by simpa using hn) hg (fun a' ha' => ?_) (k a c w xs ?_ (by simpa using hl))
    · cases a with
      | none => simp [execOp, resolve, invoke, builtin, ha'.op hx, ha'.op hy, Builtin.append_, run_underlying hA.under, sizeOf, typeInfo, hinf, Builtin.lenOf, hmc, hfirst]
      | some ad => simp [execOp, resolve, invoke, builtin, ha'.op hx, ha'.op hy, Builtin.append_, run_underlying hA.under, sizeOf, typeInfo, hinf, Builtin.lenOf, hmc, hfirst, hst]
    · rw [Nat.add_zero]
      obtain ⟨hi1, hi2⟩ := List.getElem?_eq_some_iff.1 hi
      rw [← hi2, List.set_getElem_self]
      exact h
  rcases h5 with h5 | ⟨b, o, cells, rfl, hf, hrow⟩
  · exact hnil a2 h5 rfl
  · have hcl : cells.length = m2 * q := by rw [RowR.len hrow, h2, hqk]
    obtain ⟨a', c', w', hrun, hs⟩ := run_app (tr := ty) hA h hi (ad := ⟨b, o, none⟩) (m2 := m2) (c2 := c2) (news := cells) hcl (fun j u hj => by rw [addr_add]; exact hf.cell h.sat hj) (RowR.one hrow) hb
    exact r_valw rfl (by simpa using hn) hg (fun a ha => by simp [execOp, resolve, invoke, builtin, ha.op hx, ha.op hy, hrun]) (k a' c' w' _ hs ⟨by rw [List.length_append, hl.1, h2], RowR.append hrow hl.2⟩)
/- a part of a row -/
def SubR (k : Nat) (a : Option Addr) (m c : Nat) (lo hi : Nat) (a' : Option Addr) (m' c' : Nat) : Prop :=
  lo ≤ hi ∧ hi ≤ m ∧ m' = hi - lo ∧ c' = c - lo ∧ a' = if c = lo then a else a.map (·.add (lo * k))
theorem run_rsl {e t : TypeId} {k : Nat} (hu : P.underlying t = some (.slice e)) (hS : SizeIs P e k) {a : Option Addr} {m c : Nat} (hmc : m ≤ c) {lo hi : Int} (h0 : 0 ≤ lo) (h1 : lo ≤ hi) (h2 : hi ≤ m) {lo' hi' : Option Value}
    (ha : lo' = some (.int .i64 lo) ∨ lo' = none ∧ lo = 0) (hb : hi' = some (.int .i64 hi) ∨ hi' = none ∧ hi = m) :
    (Instr.sliceAt t (.slice a m c) lo' hi' none).run P w = .ok (.slice (if c = lo.toNat then a else a.map (·.add (lo.toNat * k))) (hi.toNat - lo.toNat) (c - lo.toNat)) w := by
  obtain ⟨p, rfl⟩ := Int.eq_ofNat_of_zero_le h0
  obtain ⟨q, rfl⟩ := Int.eq_ofNat_of_zero_le (show 0 ≤ hi by omega)
  have h1' : p ≤ q := by omega
  have h2' : q ≤ c := by omega
  have e1 : ∀ (c : BoundsCode) (y : Nat), q ≤ y → (Instr.sliceBound (.int .i64 (q : Int)) y c).run P w = .ok q w := fun c y hy => by simp [Instr.sliceBound, asIntOf, hy]
  have e2 : ∀ (c : BoundsCode) (y : Nat), p ≤ y → (Instr.sliceBound (.int .i64 (p : Int)) y c).run P w = .ok p w := fun c y hy => by simp [Instr.sliceBound, asIntOf, hy]
  simp only [Int.toNat_natCast]
  rcases ha with rfl | ⟨rfl, hp⟩ <;> rcases hb with rfl | ⟨rfl, hqq⟩
  · simp [Instr.sliceAt, Instr.slice, Instr.sliceBounds, underlying, hu, e1, e2, h1', h2', hS w]
  · obtain rfl : q = m := by omega
    simp [Instr.sliceAt, Instr.slice, Instr.sliceBounds, underlying, hu, e2, h1', hS w]
  · obtain rfl : p = 0 := by omega
    simp [Instr.sliceAt, Instr.slice, Instr.sliceBounds, underlying, hu, e1, h2', hS w]
  · obtain rfl : p = 0 := by omega
    obtain rfl : q = m := by omega
    simp [Instr.sliceAt, Instr.slice, Instr.sliceBounds, underlying, hu, hS w]
theorem OE.mc {w : World} {en : OE} {e : TypeId} {k m c base : Nat} {a : Option Addr} {xs : List Value} (h : en.ok w) (hv : en.view = some (e, k, a, m, c, xs, base)) : m ≤ c ∧ c ≤ maxLen := by
  cases en with
  | box => simp [OE.view] at hv
  | mp => simp [OE.view] at hv
  | row e' k' a' m' c' xs' =>
    simp only [OE.view, Option.some.injEq, Prod.mk.injEq] at hv; obtain ⟨rfl, rfl, rfl, rfl, rfl, rfl, rfl⟩ := hv
    rcases h.2 with ⟨e1, e2⟩ | ⟨gb, cap, cur, e1, _, _, e3, e4, _⟩
    · simp only [Value.slice.injEq] at e1; obtain ⟨_, _, rfl⟩ := e1; exact ⟨by omega, Nat.zero_le _⟩
    · simp only [Value.slice.injEq] at e1; obtain ⟨_, _, rfl⟩ := e1; exact ⟨e3, e4⟩
  | win e' k' a' m' c' pre xs' post => simp only [OE.view, Option.some.injEq, Prod.mk.injEq] at hv; obtain ⟨rfl, rfl, rfl, rfl, rfl, rfl, rfl⟩ := hv; exact ⟨h.2.1, h.2.2.1⟩
theorem lsl_some {α : Type} {l r : List α} {lo hi : Int} (h : lsl l lo hi = some r) : 0 ≤ lo ∧ lo ≤ hi ∧ hi ≤ l.length ∧ r = (l.take hi.toNat).drop lo.toNat := by
  unfold lsl at h
  split at h
  · rename_i h0; cases h; exact ⟨h0.1, h0.2.1, h0.2.2, rfl⟩
  · cases h
theorem r_rsl_h {α : Type} {r : Rp α} {t e : TypeId} {x z : Operand} {a : Option Addr} {m c base p : Nat} {l l2 : List α} {xs : List Value} {hi : Int} {en : OE} (hu : P.underlying t = some (.slice e)) (hS : SizeIs P e r.k) (hg : isOn opr env g = true) (hn : Nat.blt d n = true) (h : HS F0 w0 X F O w)
    (hx : opv env x = some (.slice a m c)) (hz : opv env z = some (.int .i64 hi)) (hp : O[p]? = some en) (hv : en.view = some (e, r.k, a, m, c, xs, base)) (hl : RowN r F m xs l) (hs : lsl l 0 hi = some l2)
    (k : ∀ a' m' c', SubR r.k a m c (0 : Int).toNat hi.toNat a' m' c' → RW P opr Q rest n ((d, .slice a' m' c') :: env) w) : RW P opr Q (⟨some d, .slice t x none (some z) none, ty, pos, es, g⟩ :: rest) n env w := by
  obtain ⟨h0, h1, h2, -⟩ := lsl_some hs
  rw [hl.1] at h2
  have hr := run_rsl (w := w) hu hS (a := a) (OE.mc (h.get hp) hv).1 (lo := 0) (Int.le_refl _) h1 h2 (.inr ⟨rfl, rfl⟩) (.inl rfl)
  exact r_val rfl (by simpa using hn) hg (fun a ha => by simp [execOp, ha.op hx, ha.op hz, hr]) (k _ _ _ ⟨by simp, by omega, rfl, rfl, rfl⟩)
/-- a part of a slice that has been frozen since -/
theorem SubR.frozen {α : Type} {r : Rp α} {a a' : Option Addr} {m c m' c' : Nat} {lo hi : Int} {l l2 : List α} (h : SubR r.k a m c lo.toNat hi.toNat a' m' c') (hs : SlR r F a m c l) (hl : lsl l lo hi = some l2) : SlR r F a' m' c' l2 := by
  obtain ⟨h0, h1, h2, rfl⟩ := lsl_some hl
  obtain ⟨h3, h4, rfl, rfl, rfl⟩ := h
  exact hs.part h3 (by have := hs.1; omega)
/- all that is there, frozen: for calls that only read -/
end
/- windows that a caller lends -/
section
variable {F0 F : Frz} {w0 w : World} {X : List Nat} {O : List OE}
end
section
variable {P : Program} {Q : Exit → Act → World → Prop} {n : Nat} {env : Env} {w : World}
variable {opr : Array Oper} {rest : List Oper} {d : Nat} {g : Option (Nat × Bool)} {ty : TypeId} {pos : String} {es : Array Edge}
variable {F0 F : Frz} {w0 : World} {X : List Nat} {O : List OE}
end
section
variable {P : Program} {Q : Exit → Act → World → Prop} {n : Nat} {env : Env} {w : World}
variable {opr : Array Oper} {rest : List Oper} {d : Nat} {g : Option (Nat × Bool)} {ty : TypeId} {pos : String} {es : Array Edge}
variable {F0 F : Frz} {w0 : World} {X : List Nat} {O : List OE}
/-- a store of a whole element -/
theorem r_storeRW {α : Type} {r : Rp α} {T e : TypeId} {x y : Operand} {m c base p o b q : Nat} {i : Int} {a : Option Addr} {xs cs' : List Value} {en : OE} {v : Value} {l l' : List α} {u' : α} (hS : SizeIs P T q) (hg : isOn opr env g = true) (h : HS F0 w0 X F O w)
    (hx : opv env x = some (.pointer (some ⟨b, o, none⟩))) (hy : opv env y = some v) (hq : v.cells.size = q) (h1 : v.cells.toList.all Value.oneCell' = true) (hqk : q = r.k)
    (hp : O[p]? = some en) (hv : en.view = some (e, r.k, a, m, c, xs, base)) (ha : a = some ⟨b, base, none⟩) (ho : o = base + i.toNat * r.k) (hl : RowN r F m xs l)
    (hnew : v.cells.toList = cs') (hR : r.R F cs' u') (hset : lset l i u' = some l')
    (k : ∀ w' xs', HS F0 w0 X F (O.set p (en.withCells xs')) w' → RowN r F m xs' l' → RW P opr Q rest n env w') : RW P opr Q (⟨none, .store T x y, ty, pos, es, g⟩ :: rest) n env w := by
  obtain ⟨h0, hlt, -⟩ := lset_some hset
  have hex : ∃ z, l[i.toNat]? = some z := ⟨_, List.getElem?_eq_getElem (by omega)⟩
  obtain ⟨z, hz⟩ := hex
  obtain ⟨cs, hcs, hpre⟩ := RowR.get hl.2 hz
  have hk := r.len hcs
  refine r_storeR (j := 0) hS hg h hx hy hq h1 hp hv ha ho hpre hl (cs' := cs') ?_ (by simp [hk, hqk]) hk hR hset (fun w' xs' h1 h2 _ => k w' xs' h1 h2)
  rw [List.take_zero, List.nil_append, hnew, Nat.zero_add, List.drop_of_length_le (by omega), List.append_nil]
/-- an element's address, known ahead of the world -/
theorem rindex_ex {α : Type} {r : Rp α} {t e : TypeId} {a : Option Addr} {m c base : Nat} {i : Int} {l : List α} {v : α} {xs : List Value} {p : Nat} {en : OE} (hu : P.underlying t = some (.slice e)) (hS : SizeIs P e r.k)
    (h : HS F0 w0 X F O w) (hp : O[p]? = some en) (hv : en.view = some (e, r.k, a, m, c, xs, base)) (hl : RowN r F m xs l) (hi : ix l i = some v) :
    ∃ b o cs, a = some ⟨b, base, none⟩ ∧ o = base + i.toNat * r.k ∧ r.R F cs v ∧ cs <+: xs.drop (i.toNat * r.k) ∧ ∀ (ik : IntKind) (w : World), (Instr.indexAt t (.slice a m c) (.int ik i)).run P w = .ok (.pointer (some ⟨b, o, none⟩)) w := by
  obtain ⟨h0, h1, h2, h3⟩ := hl.ix_lt hi
  obtain ⟨b, cur, ha, _⟩ := OE.access (h.get hp) hv (by omega)
  obtain ⟨cs, hcs, hpre⟩ := RowR.get hl.2 h3
  subst ha
  exact ⟨b, _, cs, rfl, rfl, hcs, hpre, fun ik w => run_indexAt hu hS h0 h1⟩
/-- a slice held against nil -/
theorem r_snil {x : Operand} {xt yt e : TypeId} {a : Option Addr} {m c : Nat} (hu : P.underlying xt = some (.slice e)) (hg : isOn opr env g = true) (hn : Nat.blt d n = true) (hx : opv env x = some (.slice a m c))
    (k : RW P opr Q rest n ((d, .bool a.isNone) :: env) w) : RW P opr Q (⟨some d, .binOp .eql xt x (.const (.slice none 0 0)) yt, ty, pos, es, g⟩ :: rest) n env w :=
  r_val rfl (by simpa using hn) hg (fun a' ha => by
    have e1 := run_equal_slice_nil (P := P) w xt e a m c hu
    have e2 : (eqGuard .eql xt x (.const (.slice none 0 0)) (.slice a m c) (.slice none 0 0)).run P w = .ok () w := by unfold eqGuard; simp
    simp [execOp, ha.op hx, ha.op (x := .const (.slice none 0 0)) (v := .slice none 0 0) rfl, e2, binOp, e1]) k
/- what a function gives back, one by one -/
def RV (P : Program) (w : World) (n : Nat) (env : Env) (rv : ResultVar) (v : Value) : Prop :=
  ∀ a, Has n a env → ((match rv with | .tmp t => pure (a.tmps.getD t undef) | .cell c t => do loadVar t (← asAddr (a.tmps.getD c undef)) : Sem Value)).run P w = .ok v w
theorem v_tmp {t : Nat} {v : Value} (h : env.lookup t = some v) : RV P w n env (.tmp t) v := fun a ha => by
  show (pure (a.tmps.getD t undef) : Sem Value).run P w = _
  rw [ha.tmp h]; rfl
theorem v_cell {T : TypeId} {m b i c : Nat} {cs : List Value} (hA : IsAgg P T true) (hS : SizeIs P T m) (hm : cs.length = m) (h : HS F0 w0 X F O w) (hc : env.lookup c = some (.pointer (some ⟨b, 0, none⟩))) (hi : O[i]? = some (.box b T cs)) : RV P w n env (.cell c T) (.agg cs.toArray) := fun a ha => by
  show (do loadVar T (← asAddr (a.tmps.getD c undef)) : Sem Value).run P w = _
  simp [ha.tmp hc, asAddr, run_cellA (P := P) h hA hS hm hi]
def RVs (P : Program) (w : World) (n : Nat) (env : Env) : List ResultVar → List Value → Prop
  | [], [] => True
  | r :: rs, v :: vs => RV P w n env r v ∧ RVs P w n env rs vs
  | _, _ => False
theorem run_resultsM {f : ResultVar → Sem Value} (hf : ∀ r v, RV P w n env r v → (f r).run P w = .ok v w) : ∀ {l : List ResultVar} {vl : List Value}, RVs P w n env l vl → (l.mapM f).run P w = .ok vl w
  | [], [], _ => by simp
  | r :: rs, v :: vs, ⟨h1, h2⟩ => by
    rw [List.mapM_cons]
    simp only [Sem.run_bind, hf r v h1, Result.andThen_ok, run_resultsM hf h2, Sem.run_pure]
  | [], _ :: _, h => h.elim
  | _ :: _, [], h => h.elim
theorem run_results {fn : Func} {a : Act} {l : List ResultVar} {vl : List Value} (hf : fn.results = l.toArray) (ha : Has n a env) (h : RVs P w n env l vl) (hl : vl.length ≠ 1) : (results fn a.tmps).run P w = .ok (.tuple vl.toArray) w := by
  unfold results
  rw [hf]
  simp only [List.mapM_toArray]
  rw [Sem.run_bind, Sem.run_map, run_resultsM (fun r v hr => ?_) h]
  · simp [hl]
  · have := hr a ha
    cases r <;> exact this
/-- the way back with several results -/
theorem b_retA {fn : Func} {R : Ending → World → Prop} {l : List ResultVar} {vl : List Value} (hf : fn.results = l.toArray) (h : RVs P w n env l vl) (hl : vl.length ≠ 1) (hR : R (.returned (.tuple vl.toArray)) w) : QW (bodyPost P fn R) .ret n env w :=
  b_ret (fun _ ha => run_results hf ha h hl) hR
/- flags in a region that draws and writes -/
section
variable {ops : Array Oper} {S : World → Prop} {fuel fuel' : Nat} {listed listed' : Array Bool}
end
/- a string's bytes in a slice of their own -/
/-- a variable of the program's own, whole -/
def FX (F : Frz) (v : Nat) (cs : List Value) : Prop := ∃ t z, F v = some (.cells cs.toArray t z)
theorem FX.mono {F F' : Frz} {v : Nat} {cs : List Value} (hF : F.le F') (h : FX F v cs) : FX F' v cs := by
  obtain ⟨t, z, h1⟩ := h; exact ⟨t, z, hF _ _ h1⟩
theorem FX.fc {F : Frz} {v : Nat} {cs : List Value} (h : FX F v cs) : FC F v 0 cs := by
  obtain ⟨t, z, h1⟩ := h; exact ⟨_, t, z, h1, by simp⟩
/-- a statement whose ways meet again, what comes next being known -/
theorem c_midT {x y : Code} {Q' : Exit → Act → World → Prop} (J : Act → World → Prop) (h2 : ∀ a w', J a w' → y.wp P Q a w') (h1 : CW P x (Exit.then J Q') n env w) : CW P x (Exit.then (y.wp P Q) Q') n env w :=
  fun a ha => Code.wp_mono (fun e a' w' hq => by cases e <;> first | exact h2 _ _ hq | exact hq) (h1 a ha)
end
end Go.Proofs.YtibkigpmkkkaeaaGreatDoor.Rt
