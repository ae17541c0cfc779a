/-
  ROWS OF THE CALL's OWN: elements read and written, made rows, appended frozen slices, parts, views for calls that only read, windows that a caller lends.
-/
import Derived.Test.YtpihabofmnnbbaaDoorRt9
import Derived.Laws.OwnMore
import Derived.Laws.Cover3
import Derived.Lib.ConvBytes
namespace Go.Proofs.YtpihabofmnnbbaaDoor.Rt
open Go Go.RowKit

/- what the mirrors say -/
def lset {α : Type} (l : List α) (i : Int) (v : α) : Option (List α) := if 0 ≤ i ∧ i < l.length then some (l.set i.toNat v) else none
def mks {α : Type} (bytes : Nat) (z : α) (n : Int) : Option (List α) := if 0 ≤ n ∧ n.toNat * bytes ≤ 140737488355328 then some (List.replicate n.toNat z) else none

theorem lset_some {α : Type} {l r : List α} {i : Int} {v : α} (h : lset l i v = some r) : 0 ≤ i ∧ i < l.length ∧ r = l.set i.toNat v := by
  unfold lset at h
  split at h
  · rename_i h0; cases h; exact ⟨h0.1, h0.2, rfl⟩
  · cases h

section
variable {α : Type} {r : Rp α} {F F' : Frz}
theorem RowR.set {y : α} {cs' : List Value} (hx : r.R F cs' y) : ∀ {xs : List α} {l : List Value} {i : Nat}, i < xs.length → RowR r F l xs → RowR r F (l.take (i * r.k) ++ cs' ++ l.drop (i * r.k + r.k)) (xs.set i y)
  | [], _, _, h, _ => by simp at h
  | z :: xs, _, 0, _, ⟨c1, ys, h1, h2, h3⟩ => by
    refine ⟨cs', ys, ?_, hx, h3⟩
    subst h1
    have := r.len h2
    simp [this]
  | z :: xs, _, i + 1, h, ⟨c1, ys, h1, h2, h3⟩ => by
    have h4 := RowR.set hx (by simpa using h) h3
    refine ⟨c1, _, ?_, h2, h4⟩
    subst h1
    have hk := r.len h2
    rw [show (i + 1) * r.k = c1.length + i * r.k from by rw [hk, Nat.add_mul]; omega, show c1.length + i * r.k + r.k = c1.length + (i * r.k + r.k) from by omega, List.take_append, List.take_of_length_le (by omega), List.drop_append, List.drop_of_length_le (by omega)]
    simp [List.append_assoc]
theorem RowN.append {m m2 : Nat} {l l2 : List Value} {xs ys : List α} (h2 : RowN r F m2 l2 ys) (h : RowN r F m l xs) : RowN r F (m + m2) (l ++ l2) (xs ++ ys) :=
  ⟨by rw [List.length_append, h.1, h2.1], RowR.append h2.2 h.2⟩
theorem RowN.take {m : Nat} {l : List Value} {xs : List α} (h : RowN r F m l xs) {q : Nat} (hq : q ≤ m) : RowN r F q (l.take (q * r.k)) (xs.take q) :=
  ⟨by rw [List.length_take, h.1]; omega, RowR.take q h.2⟩
theorem RowN.cells {m : Nat} {l : List Value} {xs : List α} (h : RowN r F m l xs) : l.length = m * r.k := by rw [RowR.len h.2, h.1]
theorem RowR.rep {zc : List Value} {z : α} (hz : r.R F zc z) : ∀ (n : Nat) (l : List Value), l.length = n * r.k → (∀ j v, l[j]? = some v → zc[j % r.k]? = some v) → RowR r F l (List.replicate n z)
  | 0, l, h, _ => by
    have : l = [] := List.eq_nil_of_length_eq_zero (by simpa using h)
    subst this; rfl
  | n + 1, l, h, hl => by
    have hk := r.len hz
    rw [Nat.add_mul, Nat.one_mul] at h
    refine ⟨zc, l.drop r.k, ?_, hz, RowR.rep hz n _ (by rw [List.length_drop]; omega) (fun j v hj => ?_)⟩
    · have : l.take r.k = zc := by
        apply List.ext_getElem?
        intro j
        rw [List.getElem?_take]
        split
        · rename_i hlt
          have hlen : j < l.length := by omega
          have h3 := hl j l[j] (List.getElem?_eq_getElem hlen)
          rw [Nat.mod_eq_of_lt hlt] at h3
          rw [h3, List.getElem?_eq_getElem hlen]
        · rename_i hge; exact (List.getElem?_eq_none (by omega)).symm
      rw [← this, List.take_append_drop]
    · rw [List.getElem?_drop] at hj
      have h3 := hl _ v hj
      rwa [Nat.add_mod_left] at h3
end

/- what a row's entry shows -/
def OE.view : OE → Option (TypeId × Nat × Option Addr × Nat × Nat × List Value × Nat)
  | .row e k a m c xs => some (e, k, a, m, c, xs, 0)
  | .win e k a m c pre xs _ => some (e, k, a, m, c, xs, pre.length)
  | _ => none
def OE.withCells : OE → List Value → OE
  | .row e k a m c _, xs => .row e k a m c xs
  | .win e k a m c pre _ post, xs => .win e k a m c pre xs post
  | e, _ => e

theorem OE.withCells_blk (en : OE) (xs : List Value) : (en.withCells xs).blk = en.blk := by cases en <;> rfl

theorem OE.access {w : World} {en : OE} {e : TypeId} {k m c base : Nat} {a : Option Addr} {xs : List Value} (h : en.ok w) (hv : en.view = some (e, k, a, m, c, xs, base)) (hm : 0 < m) :
    ∃ b cur, a = some ⟨b, base, none⟩ ∧ w.heap[b]? = some (.cells cur e (0, 0)) ∧ en.blk = some b ∧ xs <+: cur.toList.drop base ∧ (xs.length = m * k ∧ base + xs.length ≤ cur.size) ∧
      ∀ o vc, o + vc.length ≤ xs.length → (en.withCells (xs.take o ++ vc ++ xs.drop (o + vc.length))).ok (w.setRow b (cur.toList.take (base + o) ++ vc ++ cur.toList.drop (base + o + vc.length)).toArray) := by
  cases en with
  | box b t cs => simp [OE.view] at hv
  | mp b es clock => simp [OE.view] at hv
  | it b o => simp [OE.view] at hv
  | row e' k' a' m' c' xs' =>
    simp only [OE.view, Option.some.injEq, Prod.mk.injEq] at hv
    obtain ⟨rfl, rfl, rfl, rfl, rfl, rfl, rfl⟩ := hv
    rcases h.2 with ⟨_, h0⟩ | ⟨g, cap, cur, he, h1, h2, h3, h4, h5, h6⟩
    · omega
    · simp only [Value.slice.injEq] at he
      obtain ⟨rfl, _, rfl⟩ := he
      have hpre : xs' <+: cur.toList := h6 ▸ List.take_prefix _ _
      have hlen := hpre.length_le
      refine ⟨g, cur, rfl, h2, rfl, by simpa using hpre, ⟨h.1, by simpa using hlen⟩, fun o vc ho => ?_⟩
      refine ⟨?_, .inr ⟨g, _, _, rfl, h1, setRow_heap w g _ _ _ _ h2, h3, h4, ?_, ?_⟩⟩
      · have := h.1; simp; omega
      · simp only [Array.length_toList] at hlen; simp; omega
      · obtain ⟨t, ht⟩ := hpre
        rw [← h.1, List.toList_toArray, Nat.zero_add, ← ht, List.take_append_of_le_length (l₁ := xs') (i := o) (by omega), List.drop_append_of_le_length ho, ← List.append_assoc]
        exact List.take_left' (by simp; omega)
  | win e' k' a' m' c' pre xs' post =>
    simp only [OE.view, Option.some.injEq, Prod.mk.injEq] at hv
    obtain ⟨rfl, rfl, rfl, rfl, rfl, rfl, rfl⟩ := hv
    obtain ⟨h1, h2, h3, h4⟩ := h
    rcases h4 with h4 | ⟨b, rfl, h5⟩
    · omega
    · refine ⟨b, _, rfl, h5, by simp [OE.blk]; omega, by simp, ⟨h1, by simp⟩, fun o vc ho => ?_⟩
      refine ⟨by simp; omega, h2, h3, .inr ⟨b, rfl, ?_⟩⟩
      rw [setRow_heap w b _ _ _ _ h5]
      simp only [List.append_assoc]
      rw [List.take_append, List.take_of_length_le (by omega), show pre.length + o - pre.length = o from by omega, List.drop_append, List.drop_of_length_le (by omega), show pre.length + o + vc.length - pre.length = o + vc.length from by omega, List.take_append_of_le_length (by omega), List.drop_append_of_le_length ho]
      simp [List.append_assoc]

section
variable {P : Program} {Q : Exit → Act → World → Prop} {n : Nat} {env : Env} {w : World}
variable {opr : Array Oper} {rest : List Oper} {d : Nat} {g : Option (Nat × Bool)} {ty : TypeId} {pos : String} {es : Array Edge}
variable {F0 F : Frz} {w0 : World} {X : List Nat} {O : List OE}

theorem RowN.ix_lt {α : Type} {r : Rp α} {m : Nat} {xs : List Value} {l : List α} (h : RowN r F m xs l) {i : Int} {v : α} (hi : ix l i = some v) : 0 ≤ i ∧ i < m ∧ i.toNat < l.length ∧ l[i.toNat]? = some v := by
  unfold ix at hi
  split at hi
  · rename_i h0
    have h1 := (List.getElem?_eq_some_iff.1 hi).1
    have := h.1
    exact ⟨h0, by omega, h1, hi⟩
  · cases hi

/-- the address of an element of a row -/
theorem r_rindex {α : Type} {r : Rp α} {t e : TypeId} {x y : Operand} {a : Option Addr} {m c base : Nat} {ik : IntKind} {i : Int} {l : List α} {v : α} {xs : List Value} {p : Nat} {en : OE} (hu : P.underlying t = some (.slice e)) (hS : SizeIs P e r.k)
    (hg : isOn opr env g = true) (hn : Nat.blt d n = true) (h : HS F0 w0 X F O w) (hx : opv env x = some (.slice a m c)) (hy : opv env y = some (.int ik i)) (hp : O[p]? = some en) (hv : en.view = some (e, r.k, a, m, c, xs, base)) (hl : RowN r F m xs l) (hi : ix l i = some v)
    (k : ∀ b o cs, a = some ⟨b, base, none⟩ → o = base + i.toNat * r.k → r.R F cs v → cs <+: xs.drop (i.toNat * r.k) → RW P opr Q rest n ((d, .pointer (some ⟨b, o, none⟩)) :: env) w) : RW P opr Q (⟨some d, .indexAddr t x y, ty, pos, es, g⟩ :: rest) n env w := by
  obtain ⟨h0, h1, h2, h3⟩ := hl.ix_lt hi
  obtain ⟨b, cur, ha, _⟩ := OE.access (h.get hp) hv (by omega)
  obtain ⟨cs, hcs, hpre⟩ := RowR.get hl.2 h3
  refine r_val rfl (by simpa using hn) hg (fun a' ha' => ?_) (k b _ cs ha rfl hcs hpre)
  subst ha
  simp [execOp, ha'.op hx, ha'.op hy, run_indexAt hu hS h0 h1]

/-- cells of an element -/
theorem row_cell (h : HS F0 w0 X F O w) {e : TypeId} {k m c base p o j i b : Nat} {a : Option Addr} {xs cs : List Value} {en : OE} (hp : O[p]? = some en) (hv : en.view = some (e, k, a, m, c, xs, base)) (ha : a = some ⟨b, base, none⟩) (ho : o = base + i) (hpre : cs <+: xs.drop i) {v : Value} (hj : cs[j]? = some v) :
    w.cell? ⟨b, o + j, none⟩ = some v := by
  have hlt := (List.getElem?_eq_some_iff.1 hj).1
  have hle := hpre.length_le
  have hxs : 0 < xs.length := by simp at hle; omega
  have hok := h.get hp
  have hm : 0 < m := by
    rcases Nat.eq_zero_or_pos m with h0 | h0
    · exfalso
      subst h0
      cases en with
      | box => simp [OE.view] at hv
      | mp => simp [OE.view] at hv
      | it => simp [OE.view] at hv
      | row e' k' a' m' c' xs' => simp only [OE.view, Option.some.injEq, Prod.mk.injEq] at hv; obtain ⟨rfl, rfl, rfl, rfl, rfl, rfl, rfl⟩ := hv; have := hok.1; omega
      | win e' k' a' m' c' pre xs' post => simp only [OE.view, Option.some.injEq, Prod.mk.injEq] at hv; obtain ⟨rfl, rfl, rfl, rfl, rfl, rfl, rfl⟩ := hv; have := hok.1; omega
    · exact h0
  obtain ⟨b', cur, ha', hb', _, hcur, _⟩ := OE.access hok hv hm
  rw [ha] at ha'
  cases ha'
  have h2 : cs <+: cur.toList.drop o := by
    rw [ho, ← List.drop_drop]
    exact hpre.trans (prefix_drop hcur _)
  obtain ⟨t, ht⟩ := h2
  have h3 : (cur.toList.drop o)[j]? = some v := by rw [← ht, List.getElem?_append_left hlt]; exact hj
  rw [List.getElem?_drop] at h3
  simp [World.cell?, hb', ← Array.getElem?_toList, h3]

theorem r_loadR1 {T e : TypeId} {x : Operand} {k m c base p o j i b : Nat} {a : Option Addr} {xs cs : List Value} {en : OE} {v : Value} (hA : IsAgg P T false) (hg : isOn opr env g = true) (hn : Nat.blt d n = true) (h : HS F0 w0 X F O w) (hx : opv env x = some (.pointer (some ⟨b, o + j, none⟩)))
    (hp : O[p]? = some en) (hv : en.view = some (e, k, a, m, c, xs, base)) (ha : a = some ⟨b, base, none⟩) (ho : o = base + i) (hpre : cs <+: xs.drop i) (hc : cs[j]? = some v) (kk : RW P opr Q rest n ((d, v) :: env) w) : RW P opr Q (⟨some d, .load T x, ty, pos, es, g⟩ :: rest) n env w :=
  r_load1 hA hg hn hx (row_cell h hp hv ha ho hpre hc) kk
theorem r_loadRA {T e : TypeId} {x : Operand} {k m c base p o j i b q : Nat} {a : Option Addr} {xs cs cs' : List Value} {en : OE} (hA : IsAgg P T true) (hS : SizeIs P T q) (hg : isOn opr env g = true) (hn : Nat.blt d n = true) (h : HS F0 w0 X F O w) (hx : opv env x = some (.pointer (some ⟨b, o + j, none⟩)))
    (hp : O[p]? = some en) (hv : en.view = some (e, k, a, m, c, xs, base)) (ha : a = some ⟨b, base, none⟩) (ho : o = base + i) (hpre : cs <+: xs.drop i) (hc : (cs.drop j).take q = cs') (hm : cs'.length = q) (kk : RW P opr Q rest n ((d, .agg cs'.toArray) :: env) w) : RW P opr Q (⟨some d, .load T x, ty, pos, es, g⟩ :: rest) n env w :=
  r_loadA hA hS hm hg hn hx (fun z v hz => by
    rw [Nat.add_assoc]
    refine row_cell h hp hv ha ho hpre ?_
    subst hc
    rw [List.getElem?_take] at hz
    split at hz
    · rwa [List.getElem?_drop] at hz
    · cases hz) kk

/-- a store into an element -/
theorem r_storeR {α : Type} {r : Rp α} {T e : TypeId} {x y : Operand} {m c base p o j b q : Nat} {i : Int} {a : Option Addr} {xs cs cs' : List Value} {en : OE} {v : Value} {l l' : List α} {u' : α} (hS : SizeIs P T q) (hg : isOn opr env g = true) (h : HS F0 w0 X F O w)
    (hx : opv env x = some (.pointer (some ⟨b, o + j, none⟩))) (hy : opv env y = some v) (hq : v.cells.size = q) (h1 : v.cells.toList.all Value.oneCell' = true)
    (hp : O[p]? = some en) (hv : en.view = some (e, r.k, a, m, c, xs, base)) (ha : a = some ⟨b, base, none⟩) (ho : o = base + i.toNat * r.k) (hpre : cs <+: xs.drop (i.toNat * r.k)) (hl : RowN r F m xs l)
    (hnew : cs.take j ++ v.cells.toList ++ cs.drop (j + q) = cs') (hjq : Nat.ble (j + q) cs.length = true) (hlen : cs.length = r.k) (hR : r.R F cs' u') (hset : lset l i u' = some l')
    (k : ∀ w' xs', HS F0 w0 X F (O.set p (en.withCells xs')) w' → RowN r F m xs' l' → cs' <+: xs'.drop (i.toNat * r.k) → RW P opr Q rest n env w') : RW P opr Q (⟨none, .store T x y, ty, pos, es, g⟩ :: rest) n env w := by
  obtain ⟨h0, hlt, rfl⟩ := lset_some hset
  have hm : 0 < m := by have := hl.1; omega
  have hjq := Nat.le_of_ble_eq_true hjq
  obtain ⟨b', cur, ha', hb', hblk, hcur, ⟨hxl, hbound⟩, hst⟩ := OE.access (h.get hp) hv hm
  rw [ha] at ha'
  cases ha'
  have hvl : v.cells.toList.length = q := by simpa using hq
  have hxk : i.toNat * r.k + r.k ≤ xs.length := by
    rw [hxl, ← hl.1]
    have : i.toNat + 1 ≤ l.length := by omega
    have := Nat.mul_le_mul_right r.k this
    rwa [Nat.add_mul, Nat.one_mul] at this
  have hcurl := hcur.length_le
  simp only [List.length_drop, Array.length_toList] at hcurl
  have hrun := run_storeCells_at P b (o + j) e v.cells.toList 0 cur w hb' (by omega) (fun u hu => by simpa using (List.all_eq_true.1 h1) u hu)
  have hok := hst (i.toNat * r.k + j) v.cells.toList (by omega)
  obtain ⟨t, ht⟩ := hpre
  have hdrop : xs.drop (i.toNat * r.k + r.k) = t := by rw [← List.drop_drop, ← ht, ← hlen]; simp
  have hxs' : xs.take (i.toNat * r.k + j) ++ v.cells.toList ++ xs.drop (i.toNat * r.k + j + v.cells.toList.length) = xs.take (i.toNat * r.k) ++ cs' ++ xs.drop (i.toNat * r.k + r.k) := by
    rw [List.take_add, ← ht, List.take_append_of_le_length (by omega), hdrop, Nat.add_assoc, ← List.drop_drop, ← ht, List.drop_append_of_le_length (by omega), ← hnew, hvl]
    simp [List.append_assoc]
  have hcl : cs'.length = r.k := by rw [← hnew]; simp; omega
  refine r_unit (w' := w.setRow b (cur.toList.take (o + j) ++ v.cells.toList ++ cur.toList.drop (o + j + v.cells.toList.length)).toArray) rfl hg (fun a' ha' => ?_) (k _ _ (h.upd hp (by rw [hblk]; exact setRow_grown w b _) ?_ (fun b1 hb1 => .inl (by rwa [OE.withCells_blk] at hb1))) ⟨by rw [List.length_set]; exact hl.1, RowR.set hR (by omega) hl.2⟩ ?_)
  · simp only [Nat.add_zero] at hrun
    simp [execOp, Instr.storeAt, Instr.sureAddr, ha'.op hx, ha'.op hy, storeVar, hS w, hq, hrun]
  · rw [hxs', show base + (i.toNat * r.k + j) = o + j from by omega] at hok
    exact hok
  · rw [List.append_assoc, List.drop_append, List.drop_of_length_le (by simp; omega)]
    simp only [List.length_take, List.nil_append]
    rw [show i.toNat * r.k - min (i.toNat * r.k) xs.length = 0 from by omega]
    exact List.prefix_append _ _

/-- a made row -/
theorem r_make {α : Type} {r : Rp α} {t e : TypeId} {x y : Operand} {q bytes : Nat} {N : Int} {z : Value} {u : α} {l : List α} {kl kc : IntKind} (hA : AppIs P t e q bytes) (hz : (P.info? e).map (·.zero) = some (some z)) (hR : ∀ F, r.R F z.cells.toList u) (hqk : q = r.k) (hg : isOn opr env g = true) (hn : Nat.blt d n = true) (h : HS F0 w0 X F O w)
    (hx : opv env x = some (.int kl N)) (hy : opv env y = some (.int kc N)) (hl : mks bytes u N = some l)
    (k : ∀ b w' xs, HS F0 w0 X F (.row e q (some ⟨b, 0, none⟩) N.toNat N.toNat xs :: O) w' → RowN r F N.toNat xs l → RW P opr Q rest n ((d, .slice (some ⟨b, 0, none⟩) N.toNat N.toNat) :: env) w') :
    RW P opr Q (⟨some d, .makeSlice t x y, ty, pos, es, g⟩ :: rest) n env w := by
  unfold mks at hl
  split at hl
  · rename_i h0
    cases hl
    obtain ⟨p, rfl⟩ := Int.eq_ofNat_of_zero_le h0.1
    simp only [Int.toNat_natCast] at *
    obtain ⟨i, z', hi, hz', hq', hby, hzc⟩ := hA.info
    rw [hi] at hz
    simp only [Option.map_some, Option.some.injEq] at hz
    rw [hz'] at hz
    cases hz
    have hpm : p ≤ maxLen := by
      have h3 : p ≤ p * bytes := Nat.le_mul_of_pos_right _ hA.pos2
      have := h0.2
      simp only [maxLen]; omega
    obtain ⟨w', hrun, hown, hgr⟩ := run_make_full (P := P) w 0 t e i z q hA.under hi hz' hq' kl kc p (by rw [hby, Nat.mul_comm]; have := h0.2; omega) hpm (Nat.zero_le _)
    refine r_valw rfl (by simpa using hn) hg (fun a ha => by simp [execOp, ha.op hx, ha.op hy, hrun]) (k w.heap.size w' _ (h.add hgr hown (by simp [OE.blk, Value.ownBlock])) ⟨by simp, ?_⟩)
    have hzl := r.len (hR F)
    refine RowR.rep (hR F) p _ (by simp [size_madeCells, hqk]) (fun j v hj => ?_)
    simp only [madeCells, Array.toList_map, Array.toList_range, List.getElem?_map, Option.map_eq_some_iff] at hj
    obtain ⟨j', hj', rfl⟩ := hj
    obtain ⟨hj1, hj2⟩ := List.getElem?_eq_some_iff.1 hj'
    simp only [List.length_range] at hj1
    simp only [List.getElem_range] at hj2
    subst hj2
    have hkpos : 0 < r.k := hqk ▸ hA.pos
    have hsz : z.cells.size = r.k := by simpa using hzl
    have hlt : j % r.k < z.cells.size := by rw [hsz]; exact Nat.mod_lt _ hkpos
    rw [hsz, getElem!_pos z.cells _ hlt, Array.getElem?_toList]
    simp [hlt]
  · cases hl

theorem r_appendN {α : Type} {r : Rp α} {l l2 res : List α} {x y : Operand} {t e : TypeId} {q bytes : Nat} (hA : AppIs P t e q bytes) (hg : isOn opr env g = true) (hn : Nat.blt d n = true) (h : HS F0 w0 X F O w)
    {i j m c m2 c2 b : Nat} {a : Option Addr} {xs news : List Value} (hx : opv env x = some (.slice a m c)) (hy : opv env y = some (.slice (some ⟨b, 0, none⟩) m2 c2))
    (hi : O[i]? = some (.row e q a m c xs)) (hj : O[j]? = some (.row e q (some ⟨b, 0, none⟩) m2 c2 news)) (hl : RowN r F m xs l) (hl2 : RowN r F m2 news l2) (hr : app bytes l l2 = some res)
    (k : ∀ a' c' w', HS F0 w0 X F (O.set i (.row e q a' (m + m2) c' (xs ++ news))) w' → RowN r F (m + m2) (xs ++ news) res → RW P opr Q rest n ((d, .slice a' (m + m2) c') :: env) w') :
    RW P opr Q (⟨some d, .call ⟨.builtin .append, #[x, y], #[t, t]⟩, ty, pos, es, g⟩ :: rest) n env w := by
  obtain ⟨hb, rfl⟩ := app_some hr
  rw [hl.1, hl2.1] at hb
  exact r_append hA hg hn h hx hy hi hj (RowR.one hl2.2) hb rfl (fun a' c' w' h' => k a' c' w' h' (hl2.append hl))

/-- append of a frozen slice -/
theorem r_appendF {α : Type} {r : Rp α} {l l2 res : List α} {x y : Operand} {t e : TypeId} {q bytes : Nat} (hA : AppIs P t e q bytes) (hqk : q = r.k) (hg : isOn opr env g = true) (hn : Nat.blt d n = true) (h : HS F0 w0 X F O w)
    {i m c m2 c2 : Nat} {a a2 : Option Addr} {xs : List Value} (hx : opv env x = some (.slice a m c)) (hy : opv env y = some (.slice a2 m2 c2))
    (hi : O[i]? = some (.row e q a m c xs)) (hl : RowN r F m xs l) (hl2 : SlR r F a2 m2 c2 l2) (hr : app bytes l l2 = some res)
    (k : ∀ a' c' w' xs', HS F0 w0 X F (O.set i (.row e q a' (m + m2) c' xs')) w' → RowN r F (m + m2) xs' res → RW P opr Q rest n ((d, .slice a' (m + m2) c') :: env) w') :
    RW P opr Q (⟨some d, .call ⟨.builtin .append, #[x, y], #[t, t]⟩, ty, pos, es, g⟩ :: rest) n env w := by
  obtain ⟨hb, rfl⟩ := app_some hr
  obtain ⟨h2, h3, h4, h5⟩ := hl2
  rw [hl.1, h2] at hb
  have hnil : ∀ (u : Option Addr), l2 = [] → a2 = u → RW P opr Q (⟨some d, .call ⟨.builtin .append, #[x, y], #[t, t]⟩, ty, pos, es, g⟩ :: rest) n env w := by
    intro u hl0 hu
    subst hl0
    simp only [List.length_nil] at h2
    subst h2
    simp only [List.append_nil] at *
    obtain ⟨inf, z, hinf, hz, hq, hby, hzc⟩ := hA.info
    have hmc : m ≤ c := by
      rcases (h.get hi).2 with ⟨e1, e2⟩ | ⟨gb, cap, cur, e1, _, _, e3, _⟩
      · simp only [Value.slice.injEq] at e1; omega
      · simp only [Value.slice.injEq] at e1; omega
    have hfirst : (Builtin.firstCells inf.size 0 (.slice a2 0 c2)).run P w = .ok #[] w := by
      cases a2 with
      | none => simp [Builtin.firstCells]
      | some ad => simp [Builtin.firstCells, loadCells, loadCellsFrom]
    have hst : ∀ ad : Addr, (storeCells ad []).run P w = .ok () w := fun ad => by simp [storeCells]
    refine r_valw (w' := w) rfl (by simpa using hn) hg (fun a' ha' => ?_) (k a c w xs ?_ (by simpa using hl))
    · cases a with
      | none => simp [execOp, resolve, invoke, builtin, ha'.op hx, ha'.op hy, Builtin.append_, run_underlying hA.under, sizeOf, typeInfo, hinf, Builtin.lenOf, hmc, hfirst]
      | some ad => simp [execOp, resolve, invoke, builtin, ha'.op hx, ha'.op hy, Builtin.append_, run_underlying hA.under, sizeOf, typeInfo, hinf, Builtin.lenOf, hmc, hfirst, hst]
    · rw [Nat.add_zero]
      obtain ⟨hi1, hi2⟩ := List.getElem?_eq_some_iff.1 hi
      rw [← hi2, List.set_getElem_self]
      exact h
  rcases h5 with h5 | ⟨b, o, cells, rfl, hf, hrow⟩
  · exact hnil a2 h5 rfl
  · have hcl : cells.length = m2 * q := by rw [RowR.len hrow, h2, hqk]
    obtain ⟨a', c', w', hrun, hs⟩ := run_app (tr := ty) hA h hi (ad := ⟨b, o, none⟩) (m2 := m2) (c2 := c2) (news := cells) hcl (fun j u hj => by rw [addr_add]; exact hf.cell h.sat hj) (RowR.one hrow) hb
    exact r_valw rfl (by simpa using hn) hg (fun a ha => by simp [execOp, resolve, invoke, builtin, ha.op hx, ha.op hy, hrun]) (k a' c' w' _ hs ⟨by rw [List.length_append, hl.1, h2], RowR.append hrow hl.2⟩)

/- a part of a row -/
def SubR (k : Nat) (a : Option Addr) (m c : Nat) (lo hi : Nat) (a' : Option Addr) (m' c' : Nat) : Prop :=
  lo ≤ hi ∧ hi ≤ m ∧ m' = hi - lo ∧ c' = c - lo ∧ a' = if c = lo then a else a.map (·.add (lo * k))

theorem run_rsl {e t : TypeId} {k : Nat} (hu : P.underlying t = some (.slice e)) (hS : SizeIs P e k) {a : Option Addr} {m c : Nat} (hmc : m ≤ c) {lo hi : Int} (h0 : 0 ≤ lo) (h1 : lo ≤ hi) (h2 : hi ≤ m) {lo' hi' : Option Value}
    (ha : lo' = some (.int .i64 lo) ∨ lo' = none ∧ lo = 0) (hb : hi' = some (.int .i64 hi) ∨ hi' = none ∧ hi = m) :
    (Instr.sliceAt t (.slice a m c) lo' hi' none).run P w = .ok (.slice (if c = lo.toNat then a else a.map (·.add (lo.toNat * k))) (hi.toNat - lo.toNat) (c - lo.toNat)) w := by
  obtain ⟨p, rfl⟩ := Int.eq_ofNat_of_zero_le h0
  obtain ⟨q, rfl⟩ := Int.eq_ofNat_of_zero_le (show 0 ≤ hi by omega)
  have h1' : p ≤ q := by omega
  have h2' : q ≤ c := by omega
  have e1 : ∀ (c : BoundsCode) (y : Nat), q ≤ y → (Instr.sliceBound (.int .i64 (q : Int)) y c).run P w = .ok q w := fun c y hy => by simp [Instr.sliceBound, asIntOf, hy]
  have e2 : ∀ (c : BoundsCode) (y : Nat), p ≤ y → (Instr.sliceBound (.int .i64 (p : Int)) y c).run P w = .ok p w := fun c y hy => by simp [Instr.sliceBound, asIntOf, hy]
  simp only [Int.toNat_natCast]
  rcases ha with rfl | ⟨rfl, hp⟩ <;> rcases hb with rfl | ⟨rfl, hqq⟩
  · simp [Instr.sliceAt, Instr.slice, Instr.sliceBounds, underlying, hu, e1, e2, h1', h2', hS w]
  · obtain rfl : q = m := by omega
    simp [Instr.sliceAt, Instr.slice, Instr.sliceBounds, underlying, hu, e2, h1', hS w]
  · obtain rfl : p = 0 := by omega
    simp [Instr.sliceAt, Instr.slice, Instr.sliceBounds, underlying, hu, e1, h2', hS w]
  · obtain rfl : p = 0 := by omega
    obtain rfl : q = m := by omega
    simp [Instr.sliceAt, Instr.slice, Instr.sliceBounds, underlying, hu, hS w]

theorem OE.mc {w : World} {en : OE} {e : TypeId} {k m c base : Nat} {a : Option Addr} {xs : List Value} (h : en.ok w) (hv : en.view = some (e, k, a, m, c, xs, base)) : m ≤ c ∧ c ≤ maxLen := by
  cases en with
  | box => simp [OE.view] at hv
  | mp => simp [OE.view] at hv
  | it => simp [OE.view] at hv
  | row e' k' a' m' c' xs' =>
    simp only [OE.view, Option.some.injEq, Prod.mk.injEq] at hv; obtain ⟨rfl, rfl, rfl, rfl, rfl, rfl, rfl⟩ := hv
    rcases h.2 with ⟨e1, e2⟩ | ⟨gb, cap, cur, e1, _, _, e3, e4, _⟩
    · simp only [Value.slice.injEq] at e1; obtain ⟨_, _, rfl⟩ := e1; exact ⟨by omega, Nat.zero_le _⟩
    · simp only [Value.slice.injEq] at e1; obtain ⟨_, _, rfl⟩ := e1; exact ⟨e3, e4⟩
  | win e' k' a' m' c' pre xs' post => simp only [OE.view, Option.some.injEq, Prod.mk.injEq] at hv; obtain ⟨rfl, rfl, rfl, rfl, rfl, rfl, rfl⟩ := hv; exact ⟨h.2.1, h.2.2.1⟩

theorem lsl_some {α : Type} {l r : List α} {lo hi : Int} (h : lsl l lo hi = some r) : 0 ≤ lo ∧ lo ≤ hi ∧ hi ≤ l.length ∧ r = (l.take hi.toNat).drop lo.toNat := by
  unfold lsl at h
  split at h
  · rename_i h0; cases h; exact ⟨h0.1, h0.2.1, h0.2.2, rfl⟩
  · cases h

theorem r_rsl_lh {α : Type} {r : Rp α} {t e : TypeId} {x y z : Operand} {a : Option Addr} {m c base p : Nat} {l l2 : List α} {xs : List Value} {lo hi : Int} {en : OE} (hu : P.underlying t = some (.slice e)) (hS : SizeIs P e r.k) (hg : isOn opr env g = true) (hn : Nat.blt d n = true) (h : HS F0 w0 X F O w)
    (hx : opv env x = some (.slice a m c)) (hy : opv env y = some (.int .i64 lo)) (hz : opv env z = some (.int .i64 hi)) (hp : O[p]? = some en) (hv : en.view = some (e, r.k, a, m, c, xs, base)) (hl : RowN r F m xs l) (hs : lsl l lo hi = some l2)
    (k : ∀ a' m' c', SubR r.k a m c lo.toNat hi.toNat a' m' c' → RW P opr Q rest n ((d, .slice a' m' c') :: env) w) : RW P opr Q (⟨some d, .slice t x (some y) (some z) none, ty, pos, es, g⟩ :: rest) n env w := by
  obtain ⟨h0, h1, h2, -⟩ := lsl_some hs
  rw [hl.1] at h2
  have hr := run_rsl (w := w) hu hS (a := a) (OE.mc (h.get hp) hv).1 h0 h1 h2 (.inl rfl) (.inl rfl)
  exact r_val rfl (by simpa using hn) hg (fun a ha => by simp [execOp, ha.op hx, ha.op hy, ha.op hz, hr]) (k _ _ _ ⟨by omega, by omega, rfl, rfl, rfl⟩)
theorem r_rsl_l {α : Type} {r : Rp α} {t e : TypeId} {x y : Operand} {a : Option Addr} {m c base p : Nat} {l l2 : List α} {xs : List Value} {lo : Int} {en : OE} (hu : P.underlying t = some (.slice e)) (hS : SizeIs P e r.k) (hg : isOn opr env g = true) (hn : Nat.blt d n = true) (h : HS F0 w0 X F O w)
    (hx : opv env x = some (.slice a m c)) (hy : opv env y = some (.int .i64 lo)) (hp : O[p]? = some en) (hv : en.view = some (e, r.k, a, m, c, xs, base)) (hl : RowN r F m xs l) (hs : lsl l lo l.length = some l2)
    (k : ∀ a' m' c', SubR r.k a m c lo.toNat (l.length : Int).toNat a' m' c' → RW P opr Q rest n ((d, .slice a' m' c') :: env) w) : RW P opr Q (⟨some d, .slice t x (some y) none none, ty, pos, es, g⟩ :: rest) n env w := by
  obtain ⟨h0, h1, h2, -⟩ := lsl_some hs
  have hm := hl.1
  have hr := run_rsl (w := w) hu hS (a := a) (OE.mc (h.get hp) hv).1 h0 (hi := (m : Int)) (by omega) (Int.le_refl _) (.inl rfl) (.inr ⟨rfl, rfl⟩)
  rw [hm] at k
  exact r_val rfl (by simpa using hn) hg (fun a ha => by simp [execOp, ha.op hx, ha.op hy, hr]) (k _ _ _ ⟨by omega, by omega, rfl, rfl, rfl⟩)
theorem r_rsl_h {α : Type} {r : Rp α} {t e : TypeId} {x z : Operand} {a : Option Addr} {m c base p : Nat} {l l2 : List α} {xs : List Value} {hi : Int} {en : OE} (hu : P.underlying t = some (.slice e)) (hS : SizeIs P e r.k) (hg : isOn opr env g = true) (hn : Nat.blt d n = true) (h : HS F0 w0 X F O w)
    (hx : opv env x = some (.slice a m c)) (hz : opv env z = some (.int .i64 hi)) (hp : O[p]? = some en) (hv : en.view = some (e, r.k, a, m, c, xs, base)) (hl : RowN r F m xs l) (hs : lsl l 0 hi = some l2)
    (k : ∀ a' m' c', SubR r.k a m c (0 : Int).toNat hi.toNat a' m' c' → RW P opr Q rest n ((d, .slice a' m' c') :: env) w) : RW P opr Q (⟨some d, .slice t x none (some z) none, ty, pos, es, g⟩ :: rest) n env w := by
  obtain ⟨h0, h1, h2, -⟩ := lsl_some hs
  rw [hl.1] at h2
  have hr := run_rsl (w := w) hu hS (a := a) (OE.mc (h.get hp) hv).1 (lo := 0) (Int.le_refl _) h1 h2 (.inr ⟨rfl, rfl⟩) (.inl rfl)
  exact r_val rfl (by simpa using hn) hg (fun a ha => by simp [execOp, ha.op hx, ha.op hz, hr]) (k _ _ _ ⟨by simp, by omega, rfl, rfl, rfl⟩)

/-- a part of a slice that has been frozen since -/
theorem SubR.frozen {α : Type} {r : Rp α} {a a' : Option Addr} {m c m' c' : Nat} {lo hi : Int} {l l2 : List α} (h : SubR r.k a m c lo.toNat hi.toNat a' m' c') (hs : SlR r F a m c l) (hl : lsl l lo hi = some l2) : SlR r F a' m' c' l2 := by
  obtain ⟨h0, h1, h2, rfl⟩ := lsl_some hl
  obtain ⟨h3, h4, rfl, rfl, rfl⟩ := h
  exact hs.part h3 (by have := hs.1; omega)

/-- the beginning of a row: the row itself, cut -/
theorem HS.cutRow {α : Type} {r : Rp α} (h : HS F0 w0 X F O w) {e : TypeId} {a a' : Option Addr} {m c m' c' p : Nat} {xs : List Value} {hi : Int} {l l2 : List α} (hp : O[p]? = some (.row e r.k a m c xs)) (hl : RowN r F m xs l) (hs : lsl l 0 hi = some l2) (hsub : SubR r.k a m c (0 : Int).toNat hi.toNat a' m' c') :
    HS F0 w0 X F (O.set p (.row e r.k a' m' c' (xs.take (m' * r.k)))) w ∧ RowN r F m' (xs.take (m' * r.k)) l2 := by
  obtain ⟨h0, h1, h2, rfl⟩ := lsl_some hs
  obtain ⟨h3, h4, rfl, rfl, rfl⟩ := hsub
  simp only [Int.toNat_zero, Nat.sub_zero, Nat.zero_mul, List.drop_zero]
  have hok := h.get hp
  have hm := hl.1
  refine ⟨h.upd hp (w' := w) ⟨rfl, rfl, rfl, Nat.le_refl _, fun _ _ _ => rfl⟩ ?_ ?_, hl.take h4⟩
  · refine ⟨by rw [List.length_take, hl.cells]; have := Nat.mul_le_mul_right r.k h4; omega, ?_⟩
    rcases hok.2 with ⟨e1, e2⟩ | ⟨gb, cap, cur, e1, e5, e6, e3, e4, e7, e8⟩
    · left
      simp only [Value.slice.injEq] at e1
      obtain ⟨rfl, rfl, rfl⟩ := e1
      simp
      omega
    · right
      simp only [Value.slice.injEq] at e1
      obtain ⟨rfl, _, rfl⟩ := e1
      refine ⟨gb, _, cur, ?_, e5, e6, by omega, e4, e7, ?_⟩
      · simp [addr_add]
      · rw [← e8, List.take_take, Nat.min_eq_left (Nat.mul_le_mul_right _ h4)]
  · intro b hb
    left
    cases a with
    | none => simp [OE.blk, Value.ownBlock] at hb
    | some ad => simpa [OE.blk, Value.ownBlock, Addr.add] using hb

/- all that is there, frozen: for calls that only read -/
def allF (w : World) : Frz := fun b => w.heap[b]?
theorem allF_sat (w : World) : Sat (allF w) w := fun _ _ h => h
theorem HS.leAll (h : HS F0 w0 X F O w) : F.le (allF w) := fun b o hf => h.sat b o hf
theorem HS.viewRow {α : Type} {r : Rp α} (h : HS F0 w0 X F O w) {e : TypeId} {a : Option Addr} {m c p base : Nat} {xs : List Value} {en : OE} {l : List α} (hp : O[p]? = some en) (hv : en.view = some (e, r.k, a, m, c, xs, base)) (hl : RowN r F m xs l) : SlR r (allF w) a m c l := by
  have hmc := OE.mc (h.get hp) hv
  refine ⟨hl.1, by rw [hl.1]; exact hmc.1, hmc.2, ?_⟩
  rcases Nat.eq_zero_or_pos m with h0 | h0
  · left; exact List.eq_nil_of_length_eq_zero (by rw [hl.1]; exact h0)
  · right
    obtain ⟨b, cur, ha, hb, _, hcur, _⟩ := OE.access (h.get hp) hv h0
    exact ⟨b, base, xs, ha, ⟨cur, e, (0, 0), hb, hcur⟩, hl.2.mono h.leAll⟩
/-- a part of a row, seen so -/
theorem HS.viewSub {α : Type} {r : Rp α} (h : HS F0 w0 X F O w) {e : TypeId} {a a' : Option Addr} {m c p base m' c' : Nat} {xs : List Value} {en : OE} {l l2 : List α} {lo hi : Int} (hp : O[p]? = some en) (hv : en.view = some (e, r.k, a, m, c, xs, base)) (hl : RowN r F m xs l)
    (hsub : SubR r.k a m c lo.toNat hi.toNat a' m' c') (hs : lsl l lo hi = some l2) : SlR r (allF w) a' m' c' l2 := hsub.frozen (h.viewRow hp hv hl) hs

end

/- windows that a caller lends -/
def blks (e : OE) : List Nat := e.blk.toList

theorem HS.lendE {F : Frz} {w : World} {e : OE} (hs : Sat F w) (hb : e.ok w) (hf : ∀ b, e.blk = some b → F b = none) : HS F w (blks e) F [e] w :=
  ⟨hs, Frz.refl F, fun _ h => .inl h, by simpa using hb, by
    intro x hx b' hb'
    obtain rfl := List.mem_singleton.1 hx
    exact ⟨hf b' hb', .inr (by simp [blks, hb'])⟩, by simp, rfl, rfl, rfl, Nat.le_refl _, fun _ _ _ => rfl⟩

section
variable {F0 F : Frz} {w0 w : World} {X : List Nat} {O : List OE}

theorem HS.lendableE (h : HS F0 w0 X F O w) {i : Nat} {e : OE} (hi : O[i]? = some e) : ∀ b, e.blk = some b → F b = none := fun b hb => (h.sep _ (List.mem_of_getElem? hi) b hb).1

/-- behind a call to which the part e2 of the entry e was lent -/
theorem HS.callE (h : HS F0 w0 X F O w) {i : Nat} {e e2 e2' e' : OE} (hi : O[i]? = some e) (hsub : ∀ b, e2.blk = some b → e.blk = some b) (he' : e'.blk = e.blk) (hb2 : e2'.blk = e2.blk) {F' : Frz} {O2 : List OE} {w' : World}
    (h2 : HS F w (blks e2) F' (e2' :: O2) w') (hok : e'.ok w') : HS F0 w0 X F' (O2 ++ O.set i e') w' := by
  obtain ⟨hlt, hget⟩ := List.getElem?_eq_some_iff.1 hi
  have hmem : e ∈ O := List.mem_of_getElem? hi
  have hX2 : ∀ b, b ∈ blks e2 → e.blk = some b := fun b hb => hsub b (by simpa [blks] using hb)
  have hg : w.grownBy w' e.blk := ⟨h2.os, h2.tape, h2.output, h2.size, fun k hk hne => h2.old k hk (fun hb => hne (hX2 k hb).symm)⟩
  have hcase : ∀ x ∈ O.set i e', x = e' ∨ (x ∈ O ∧ ∀ b, e.blk = some b → x.blk ≠ some b) := by
    intro x hx
    obtain ⟨j, hj, rfl⟩ := List.mem_iff_getElem.1 hx
    rw [List.getElem_set]
    by_cases hij : i = j
    · left; rw [if_pos hij]
    · right
      rw [if_neg hij]
      have hj' : j < O.length := by simpa using hj
      refine ⟨List.getElem_mem hj', fun b hb hb' => ?_⟩
      have hp := List.pairwise_iff_getElem.1 h.dis
      rcases Nat.lt_or_ge i j with h1 | h1
      · exact hp i j hlt hj' h1 b (by rw [hget]; exact hb) hb'
      · exact hp j i hj' hlt (by omega) b hb' (by rw [hget]; exact hb)
  have hd2 := List.pairwise_cons.1 h2.dis
  have hO2 : ∀ x ∈ O2, ∀ b', x.blk = some b' → F' b' = none ∧ w.heap.size ≤ b' := by
    intro x hx b' hb'
    obtain ⟨h1, h3⟩ := h2.sep x (by simp [hx]) b' hb'
    refine ⟨h1, ?_⟩
    rcases h3 with h3 | h3
    · exact h3
    · exact absurd hb' (hd2.1 x hx b' (by rw [hb2]; simpa [blks] using h3))
  have hF' : ∀ b, F b = none → b < w.heap.size → F' b = none := by
    intro b hb hbw
    cases hf : F' b with
    | none => rfl
    | some o =>
      rcases h2.new b (by simp [hf]) with h4 | h4
      · exact absurd hb h4
      · omega
  refine ⟨h2.sat, h.le.trans h2.le, fun b' hb' => ?_, fun x hx => ?_, fun x hx b' hb' => ?_, ?_, h2.os.trans h.os, h2.tape.trans h.tape, h2.output.trans h.output, Nat.le_trans h.size h2.size, fun b' hb' hx => ?_⟩
  · rcases h2.new b' hb' with h1 | h1
    · exact h.new b' h1
    · exact .inr (Nat.le_trans h.size h1)
  · rcases List.mem_append.1 hx with hx | hx
    · exact h2.own x (by simp [hx])
    · rcases hcase x hx with rfl | ⟨hx, hne⟩
      · exact hok
      · exact OE.kept (h.own x hx) hg (fun b1 hb1 e1 => hne b1 e1.symm hb1)
  · rcases List.mem_append.1 hx with hx | hx
    · obtain ⟨h1, h3⟩ := hO2 x hx b' hb'
      exact ⟨h1, .inl (Nat.le_trans h.size h3)⟩
    · rcases hcase x hx with rfl | ⟨hx, _⟩
      · rw [he'] at hb'
        have h1 := h.sep e hmem b' hb'
        exact ⟨hF' b' h1.1 (OE.lt (h.own e hmem) hb'), h1.2⟩
      · have h1 := h.sep x hx b' hb'
        exact ⟨hF' b' h1.1 (OE.lt (h.own x hx) hb'), h1.2⟩
  · refine List.pairwise_append.2 ⟨hd2.2, ?_, fun x hx y hy b' hb1 hb2 => ?_⟩
    · rw [List.pairwise_iff_getElem]
      intro j k hj hk hjk b' hb1 hb2
      have hj' : j < O.length := by simpa using hj
      have hk' : k < O.length := by simpa using hk
      have hp := List.pairwise_iff_getElem.1 h.dis j k hj' hk' hjk b'
      have hblk : ∀ l (hl : l < (O.set i e').length) (hl' : l < O.length), (O.set i e')[l].blk = O[l].blk := by
        intro l hl hl'
        rw [List.getElem_set]
        split
        · rename_i e1; subst e1; rw [hget, he']
        · rfl
      rw [hblk j hj hj'] at hb1
      rw [hblk k hk hk'] at hb2
      exact hp hb1 hb2
    · have h1 := (hO2 x hx b' hb1).2
      rcases hcase y hy with rfl | ⟨hy, _⟩
      · rw [he'] at hb2
        have := OE.lt (h.own e hmem) hb2; omega
      · have := OE.lt (h.own y hy) hb2; omega
  · have hne : b' ∉ blks e2 := fun hb => by
      rcases (h.sep e hmem b' (hX2 b' hb)).2 with h1 | h1
      · omega
      · exact hx h1
    rw [h2.old b' (Nat.lt_of_lt_of_le hb' h.size) hne]
    exact h.old b' hb' hx

/-- a part of a row is lent: its window, and the row behind the call -/
theorem HS.subWin {α : Type} {r : Rp α} (h : HS F0 w0 X F O w) {e : TypeId} {a a' : Option Addr} {m c p base m' c' lo hi : Nat} {xs : List Value} {en : OE} {l : List α} (hp : O[p]? = some en) (hv : en.view = some (e, r.k, a, m, c, xs, base)) (hl : RowN r F m xs l) (hsub : SubR r.k a m c lo hi a' m' c') :
    ∃ pre mid post, (OE.win e r.k a' m' c' pre mid post).ok w ∧ (∀ b, (OE.win e r.k a' m' c' pre mid post).blk = some b → F b = none) ∧ RowN r F m' mid ((l.take hi).drop lo) ∧
      ∀ F' mid' O2 w', HS F w (blks (OE.win e r.k a' m' c' pre mid post)) F' (OE.win e r.k a' m' c' pre mid' post :: O2) w' →
        ∃ xs', HS F0 w0 X F' (O2 ++ O.set p (en.withCells xs')) w' ∧ ∀ l', RowN r F' m' mid' l' → RowN r F' m xs' (l.take lo ++ l' ++ l.drop hi) := by
  obtain ⟨h3, h4, rfl, rfl, rfl⟩ := hsub
  have hok := h.get hp
  have hmc := OE.mc hok hv
  have hxl := hl.cells
  have hmid : RowN r F (hi - lo) ((xs.take (hi * r.k)).drop (lo * r.k)) ((l.take hi).drop lo) :=
    ⟨by have := hl.1; simp; omega, RowR.drop lo (RowR.take hi hl.2)⟩
  have hk1 : lo * r.k ≤ hi * r.k := Nat.mul_le_mul_right _ h3
  have hk2 : hi * r.k ≤ xs.length := by rw [hxl]; exact Nat.mul_le_mul_right _ h4
  -- what reads as the row behind the call
  have hrow : ∀ F' mid' l', F.le F' → RowN r F' (hi - lo) mid' l' → RowN r F' m (xs.take (lo * r.k) ++ mid' ++ xs.drop (hi * r.k)) (l.take lo ++ l' ++ l.drop hi) := by
    intro F' mid' l' hle h'
    refine ⟨by have := hl.1; have := h'.1; simp; omega, ?_⟩
    exact RowR.append (RowR.drop hi (hl.2.mono hle)) (RowR.append h'.2 (RowR.take lo (hl.2.mono hle)))
  by_cases he : hi - lo = 0
  · have hlohi : lo = hi := by omega
    subst hlohi
    refine ⟨[], _, [], ⟨hmid.cells, by omega, by omega, .inl he⟩, by simp [OE.blk], hmid, fun F' mid' O2 w' h2 => ?_⟩
    have hmid0 : mid' = [] := by
      have := (h2.own _ (List.mem_cons_self ..)).1
      exact List.eq_nil_of_length_eq_zero (by rw [this, he, Nat.zero_mul])
    subst hmid0
    have hxs : xs.take (lo * r.k) ++ [] ++ xs.drop (lo * r.k) = xs := by simp
    have hen : en.withCells xs = en := by
      cases en with
      | box => simp [OE.view] at hv
      | mp => simp [OE.view] at hv
      | it => simp [OE.view] at hv
      | row e' k' a' m' c' xs' => simp only [OE.view, Option.some.injEq, Prod.mk.injEq] at hv; obtain ⟨rfl, rfl, rfl, rfl, rfl, rfl, rfl⟩ := hv; rfl
      | win e' k' a' m' c' pre xs' post => simp only [OE.view, Option.some.injEq, Prod.mk.injEq] at hv; obtain ⟨rfl, rfl, rfl, rfl, rfl, rfl, rfl⟩ := hv; rfl
    refine ⟨xs, h.callE hp (e' := en.withCells xs) (by simp [OE.blk]) (OE.withCells_blk _ _) (by simp [OE.blk]) h2 ?_, fun l' hl' => ?_⟩
    · rw [hen]
      refine OE.kept (row := none) hok ⟨h2.os, h2.tape, h2.output, h2.size, fun k hk _ => h2.old k hk (by simp [blks, OE.blk])⟩ (by simp)
    · have := hrow F' [] l' h2.le hl'
      rwa [hxs] at this
  · obtain ⟨b, cur, rfl, hb, hblk, hcur, ⟨_, hbound⟩, hst⟩ := OE.access hok hv (by omega)
    have hcl : c ≠ lo := by omega
    obtain ⟨t, ht⟩ := hcur
    have hxc : xs.length ≤ (cur.toList.drop base).length := by rw [← ht]; simp
    have hadr : (if c = lo then some (⟨b, base, none⟩ : Addr) else (some ⟨b, base, none⟩ : Option Addr).map (·.add (lo * r.k))) = some ⟨b, base + lo * r.k, none⟩ := by simp [hcl, addr_add]
    rw [hadr]
    have hcurl : base + lo * r.k ≤ cur.toList.length := by rw [Array.length_toList]; omega
    have hsplit : cur.toList = cur.toList.take (base + lo * r.k) ++ (xs.take (hi * r.k)).drop (lo * r.k) ++ cur.toList.drop (base + hi * r.k) := by
      have e1 : cur.toList = cur.toList.take base ++ (xs ++ t) := by rw [ht, List.take_append_drop]
      have e0 : (cur.toList.take base).length = base := by rw [List.length_take, Array.length_toList]; omega
      have e2 : cur.toList.take (base + lo * r.k) = cur.toList.take base ++ xs.take (lo * r.k) := by
        rw [List.take_add, ← ht, List.take_append_of_le_length (by omega)]
      have e3 : cur.toList.drop (base + hi * r.k) = xs.drop (hi * r.k) ++ t := by
        rw [← List.drop_drop, ← ht, List.drop_append_of_le_length (by omega)]
      have e4 : xs = xs.take (lo * r.k) ++ (xs.take (hi * r.k)).drop (lo * r.k) ++ xs.drop (hi * r.k) := by
        have : xs.take (lo * r.k) = (xs.take (hi * r.k)).take (lo * r.k) := by rw [List.take_take, Nat.min_eq_left hk1]
        rw [this, List.take_append_drop, List.take_append_drop]
      rw [e2, e3]
      conv => lhs; rw [e1, e4]
      simp [List.append_assoc]
    have hplen : (cur.toList.take (base + lo * r.k)).length = base + lo * r.k := by rw [List.length_take]; omega
    refine ⟨cur.toList.take (base + lo * r.k), (xs.take (hi * r.k)).drop (lo * r.k), cur.toList.drop (base + hi * r.k), ⟨hmid.cells, by omega, by omega, .inr ⟨b, by rw [hplen], ?_⟩⟩, ?_, hmid, fun F' mid' O2 w' h2 => ?_⟩
    · rw [← hsplit]; simpa using hb
    · intro b' hb'
      simp only [OE.blk, if_neg he, Option.map_some, Option.some.injEq] at hb'
      subst hb'
      exact h.lendableE hp b hblk
    · obtain ⟨w1, w2, w3, w4⟩ := h2.own _ (List.mem_cons_self ..)
      rcases w4 with w4 | ⟨b', hb', w4⟩
      · exact absurd w4 he
      · simp only [Option.some.injEq, Addr.mk.injEq] at hb'
        obtain ⟨rfl, _⟩ := hb'
        have hlen : mid'.length = hi * r.k - lo * r.k := by rw [w1, Nat.sub_mul]
        refine ⟨xs.take (lo * r.k) ++ mid' ++ xs.drop (hi * r.k), h.callE hp (fun b1 hb1 => by simp only [OE.blk, if_neg he, Option.map_some, Option.some.injEq] at hb1; subst hb1; exact hblk) (OE.withCells_blk _ _) (by simp [OE.blk]) h2 ?_, fun l' hl' => hrow F' mid' l' h2.le hl'⟩
        have h5 := hst (lo * r.k) mid' (by omega)
        rw [show lo * r.k + mid'.length = hi * r.k from by omega, show base + lo * r.k + mid'.length = base + hi * r.k from by omega] at h5
        -- the entry looks at its own block alone
        have hheap : (w.setRow b (cur.toList.take (base + lo * r.k) ++ mid' ++ cur.toList.drop (base + hi * r.k)).toArray).heap[b]? = w'.heap[b]? := by
          rw [setRow_heap w b _ _ _ _ hb, w4]
        cases en with
        | box => simp [OE.view] at hv
        | mp => simp [OE.view] at hv
        | it => simp [OE.view] at hv
        | row e' k' a' m' c' xs' =>
          simp only [OE.view, Option.some.injEq, Prod.mk.injEq] at hv
          obtain ⟨rfl, rfl, rfl, rfl, rfl, rfl, rfl⟩ := hv
          refine ⟨h5.1, ?_⟩
          rcases h5.2 with h6 | ⟨g, cap, cur', h6, h7, h8, h9⟩
          · exact .inl h6
          · simp only [Value.slice.injEq, Option.some.injEq, Addr.mk.injEq] at h6
            obtain ⟨⟨rfl, _⟩, _, rfl⟩ := h6
            exact .inr ⟨b, c', cur', rfl, h7, by rw [← hheap]; exact h8, h9⟩
        | win e' k' a' m' c' pre xs' post =>
          simp only [OE.view, Option.some.injEq, Prod.mk.injEq] at hv
          obtain ⟨rfl, rfl, rfl, rfl, rfl, rfl, rfl⟩ := hv
          refine ⟨h5.1, h5.2.1, h5.2.2.1, ?_⟩
          rcases h5.2.2.2 with h6 | ⟨b', h6, h7⟩
          · exact .inl h6
          · simp only [Option.some.injEq, Addr.mk.injEq] at h6
            obtain ⟨rfl, _⟩ := h6
            exact .inr ⟨b, rfl, by rw [← hheap]; exact h7⟩
end

section
variable {P : Program} {Q : Exit → Act → World → Prop} {n : Nat} {env : Env} {w : World}
variable {opr : Array Oper} {rest : List Oper} {d : Nat} {g : Option (Nat × Bool)} {ty : TypeId} {pos : String} {es : Array Edge}
variable {F0 F : Frz} {w0 : World} {X : List Nat} {O : List OE}

/-- a call to which a part of a row is lent -/
theorem r_callW {α : Type} {r : Rp α} {cl : Operand} {al : List Operand} {ts : Array TypeId} {f : FuncId} {vl : List Value} {R : Value → Frz → List Value → List OE → Prop} {e : TypeId} {a a' : Option Addr} {m c p base m' c' lo hi : Nat} {xs : List Value} {en : OE} {l : List α} (he : Ent P f) (hg : isOn opr env g = true) (hn : Nat.blt d n = true)
    (hc : opv env cl = some (.func (.func f) #[] #[])) (hl : opvs env al = some vl) (h : HS F0 w0 X F O w) (hp : O[p]? = some en) (hv : en.view = some (e, r.k, a, m, c, xs, base)) (hrn : RowN r F m xs l) (hsub : SubR r.k a m c lo hi a' m' c')
    (hC : ∀ pre mid post, (OE.win e r.k a' m' c' pre mid post).ok w → (∀ b, (OE.win e r.k a' m' c' pre mid post).blk = some b → F b = none) → RowN r F m' mid ((l.take hi).drop lo) →
      Calls P f vl.toArray w fun x w' => ∃ v F' mid' O', x = .returned v ∧ HS F w (blks (OE.win e r.k a' m' c' pre mid post)) F' (OE.win e r.k a' m' c' pre mid' post :: O') w' ∧ R v F' mid' O')
    (k : ∀ v F' mid' O' w' xs', F.le F' → HS F0 w0 X F' (O' ++ O.set p (en.withCells xs')) w' → (∀ l', RowN r F' m' mid' l' → RowN r F' m xs' (l.take lo ++ l' ++ l.drop hi)) → R v F' mid' O' → RW P opr Q rest n ((d, v) :: env) w') :
    RW P opr Q (⟨some d, .call ⟨.value cl, al.toArray, ts⟩, ty, pos, es, g⟩ :: rest) n env w := by
  obtain ⟨pre, mid, post, h1, h2, h3, h4⟩ := h.subWin hp hv hrn hsub
  exact r_call (first := #[]) (cap := #[]) (R := fun v w' => ∃ F' mid' O', HS F w (blks (OE.win e r.k a' m' c' pre mid post)) F' (OE.win e r.k a' m' c' pre mid' post :: O') w' ∧ R v F' mid' O') he hg hn hc hl
    (by simpa using (hC pre mid post h1 h2 h3).mono fun _ _ ⟨v, F', mid', O', e1, e2, e3⟩ => ⟨v, e1, F', mid', O', e2, e3⟩)
    (fun v w' ⟨F', mid', O', e2, e3⟩ => by
      obtain ⟨xs', e4, e5⟩ := h4 F' mid' O' w' e2
      exact k v F' mid' O' w' xs' e2.le e4 e5 e3)
theorem SubR.full (k : Nat) (a : Option Addr) (m c : Nat) : SubR k a m c 0 m a m c := by
  refine ⟨Nat.zero_le _, Nat.le_refl _, rfl, rfl, ?_⟩
  split
  · rfl
  · cases a with
    | none => rfl
    | some ad => simp [Addr.add]
end
/-- the first elements of a row: the row itself, cut -/
theorem HS.cutN {α : Type} {r : Rp α} {F0 F : Frz} {w0 w : World} {X : List Nat} {O : List OE} (h : HS F0 w0 X F O w) {e : TypeId} {a : Option Addr} {m c m' p : Nat} {xs : List Value} {l : List α} (hp : O[p]? = some (.row e r.k a m c xs)) (hl : RowN r F m xs l) (hle : m' ≤ m) :
    HS F0 w0 X F (O.set p (.row e r.k a m' c (xs.take (m' * r.k)))) w ∧ RowN r F m' (xs.take (m' * r.k)) (l.take m') := by
  have h2 := h.cutRow (hi := (m' : Int)) (a' := a) (m' := m') (c' := c) (l2 := l.take m') hp hl (by have := hl.1; unfold lsl; rw [if_pos ⟨Int.le_refl _, by omega, by omega⟩]; simp) (by
    refine ⟨by simp, by simpa using hle, by simp, by simp, ?_⟩
    simp only [Int.toNat_zero, Nat.zero_mul]
    split
    · rfl
    · cases a with
      | none => rfl
      | some ad => simp [Addr.add])
  exact h2
theorem SlR.takeN {α : Type} {r : Rp α} {F : Frz} {a : Option Addr} {m c m' : Nat} {l q : List α} (h : SlR r F a m c l) (hle : m' ≤ m) (hq : q = l.take m') : SlR r F a m' c q := by
  subst hq
  have h2 := h.part (p := 0) (q := m') (Nat.zero_le _) (by have := h.1; omega)
  simp only [Nat.zero_mul, Nat.sub_zero, List.drop_zero] at h2
  have e : (if c = 0 then a else a.map (·.add 0)) = a := by
    split
    · rfl
    · cases a with
      | none => rfl
      | some ad => simp [Addr.add]
  rwa [e] at h2
/-- a row of the call's own is frozen while something is lent -/
theorem freezeRowE {F0 F : Frz} {w0 w : World} {O : List OE} {e0 e1 : OE} (h : HS F0 w0 (blks e0) F O w) {k : Nat} (hk : O[k]? = some e1) (hb : e1.blk = e0.blk) {i : Nat} {e : TypeId} {q m c : Nat} {a : Option Addr} {xs : List Value} {α : Type} {r : Rp α} {ts : List α} (hi : O[i]? = some (.row e q a m c xs)) (hik : i ≠ k) (hr : RowN r F m xs ts) :
    ∃ F', F.le F' ∧ HS F0 w0 (blks e0) F' (O.eraseIdx i) w ∧ SlR r F' a m c ts :=
  freezeRowX h hi hr (fun gb hgb => by
    rcases (h.sep _ (List.mem_of_getElem? hi) gb hgb).2 with h1 | h1
    · exact h1
    · have h2 : e1.blk = some gb := by rw [hb]; simpa [blks] using h1
      obtain ⟨hi1, hi2⟩ := List.getElem?_eq_some_iff.1 hi
      obtain ⟨hk1, hk2⟩ := List.getElem?_eq_some_iff.1 hk
      have hp := List.pairwise_iff_getElem.1 h.dis
      rcases Nat.lt_or_ge i k with h3 | h3
      · exact absurd (by rw [hk2]; exact h2) (hp i k hi1 hk1 h3 gb (by rw [hi2]; exact hgb))
      · exact absurd (by rw [hi2]; exact hgb) (hp k i hk1 hi1 (by omega) gb (by rw [hk2]; exact h2)))

section
variable {P : Program} {Q : Exit → Act → World → Prop} {n : Nat} {env : Env} {w : World}
variable {opr : Array Oper} {rest : List Oper} {d : Nat} {g : Option (Nat × Bool)} {ty : TypeId} {pos : String} {es : Array Edge}
variable {F0 F : Frz} {w0 : World} {X : List Nat} {O : List OE}

/-- the first elements of a frozen slice: where they lie is said -/
theorem r_fslV {α : Type} {r : Rp α} {t e : TypeId} {x z : Operand} {a : Option Addr} {m c : Nat} {xs ys : List α} {hi : Int} (hu : P.underlying t = some (.slice e)) (hS : SizeIs P e r.k) (hg : isOn opr env g = true) (hn : Nat.blt d n = true)
    (hx : opv env x = some (.slice a m c)) (hz : opv env z = some (.int .i64 hi)) (hs : SlR r F a m c xs) (hl : lsl xs 0 hi = some ys)
    (k : SlR r F a hi.toNat c ys → ys = xs.take hi.toNat → hi.toNat ≤ m → RW P opr Q rest n ((d, .slice a hi.toNat c) :: env) w) : RW P opr Q (⟨some d, .slice t x none (some z) none, ty, pos, es, g⟩ :: rest) n env w := by
  obtain ⟨h0, h1, h2, h3⟩ := lsl_some hl
  have hm := hs.1
  have hle : hi.toNat ≤ m := by omega
  have hr := run_rsl (w := w) hu hS (a := a) (m := m) (c := c) (by have := hs.2.1; omega) (lo := 0) (Int.le_refl _) h1 (by omega) (.inr ⟨rfl, rfl⟩) (.inl rfl)
  have e : (if c = (0 : Int).toNat then a else a.map (·.add ((0 : Int).toNat * r.k))) = a := by
    simp only [Int.toNat_zero, Nat.zero_mul]
    split
    · rfl
    · cases a with
      | none => rfl
      | some ad => simp [Addr.add]
  rw [e] at hr
  simp only [Int.toNat_zero, Nat.sub_zero] at hr
  have hq : ys = xs.take hi.toNat := by rw [h3]; simp
  exact r_val rfl (by simpa using hn) hg (fun a ha => by simp [execOp, ha.op hx, ha.op hz, hr]) (k (hs.takeN hle hq) hq hle)

/-- a call that gives back the first elements of what it was given -/
theorem r_callV {α : Type} {cl : Operand} {al : List Operand} {ts : Array TypeId} {f : FuncId} {vl : List Value} {a : Option Addr} {m c : Nat} {l q : List α} (he : Ent P f) (hg : isOn opr env g = true) (hn : Nat.blt d n = true)
    (hc : opv env cl = some (.func (.func f) #[] #[])) (hl : opvs env al = some vl)
    (hC : Calls P f vl.toArray w fun e w' => ∃ m', e = .returned (.slice a m' c) ∧ w' = w ∧ m' ≤ m ∧ q = l.take m')
    (k : ∀ m', m' ≤ m → q = l.take m' → RW P opr Q rest n ((d, .slice a m' c) :: env) w) : RW P opr Q (⟨some d, .call ⟨.value cl, al.toArray, ts⟩, ty, pos, es, g⟩ :: rest) n env w :=
  r_call (first := #[]) (cap := #[]) (R := fun v w' => ∃ m', v = .slice a m' c ∧ w' = w ∧ m' ≤ m ∧ q = l.take m') he hg hn hc hl
    (by simpa using hC.mono fun _ _ ⟨m', e1, e2, e3, e4⟩ => ⟨_, e1, m', rfl, e2, e3, e4⟩)
    (fun v w' ⟨m', e1, e2, e3, e4⟩ => by subst e1 e2; exact k m' e3 e4)

/-- a store of a whole element -/
theorem r_storeRW {α : Type} {r : Rp α} {T e : TypeId} {x y : Operand} {m c base p o b q : Nat} {i : Int} {a : Option Addr} {xs cs' : List Value} {en : OE} {v : Value} {l l' : List α} {u' : α} (hS : SizeIs P T q) (hg : isOn opr env g = true) (h : HS F0 w0 X F O w)
    (hx : opv env x = some (.pointer (some ⟨b, o, none⟩))) (hy : opv env y = some v) (hq : v.cells.size = q) (h1 : v.cells.toList.all Value.oneCell' = true) (hqk : q = r.k)
    (hp : O[p]? = some en) (hv : en.view = some (e, r.k, a, m, c, xs, base)) (ha : a = some ⟨b, base, none⟩) (ho : o = base + i.toNat * r.k) (hl : RowN r F m xs l)
    (hnew : v.cells.toList = cs') (hR : r.R F cs' u') (hset : lset l i u' = some l')
    (k : ∀ w' xs', HS F0 w0 X F (O.set p (en.withCells xs')) w' → RowN r F m xs' l' → RW P opr Q rest n env w') : RW P opr Q (⟨none, .store T x y, ty, pos, es, g⟩ :: rest) n env w := by
  obtain ⟨h0, hlt, -⟩ := lset_some hset
  have hex : ∃ z, l[i.toNat]? = some z := ⟨_, List.getElem?_eq_getElem (by omega)⟩
  obtain ⟨z, hz⟩ := hex
  obtain ⟨cs, hcs, hpre⟩ := RowR.get hl.2 hz
  have hk := r.len hcs
  refine r_storeR (j := 0) hS hg h hx hy hq h1 hp hv ha ho hpre hl (cs' := cs') ?_ (by simp [hk, hqk]) hk hR hset (fun w' xs' h1 h2 _ => k w' xs' h1 h2)
  rw [List.take_zero, List.nil_append, hnew, Nat.zero_add, List.drop_of_length_le (by omega), List.append_nil]

/-- an element's address, known ahead of the world -/
theorem rindex_ex {α : Type} {r : Rp α} {t e : TypeId} {a : Option Addr} {m c base : Nat} {i : Int} {l : List α} {v : α} {xs : List Value} {p : Nat} {en : OE} (hu : P.underlying t = some (.slice e)) (hS : SizeIs P e r.k)
    (h : HS F0 w0 X F O w) (hp : O[p]? = some en) (hv : en.view = some (e, r.k, a, m, c, xs, base)) (hl : RowN r F m xs l) (hi : ix l i = some v) :
    ∃ b o cs, a = some ⟨b, base, none⟩ ∧ o = base + i.toNat * r.k ∧ r.R F cs v ∧ cs <+: xs.drop (i.toNat * r.k) ∧ ∀ (ik : IntKind) (w : World), (Instr.indexAt t (.slice a m c) (.int ik i)).run P w = .ok (.pointer (some ⟨b, o, none⟩)) w := by
  obtain ⟨h0, h1, h2, h3⟩ := hl.ix_lt hi
  obtain ⟨b, cur, ha, _⟩ := OE.access (h.get hp) hv (by omega)
  obtain ⟨cs, hcs, hpre⟩ := RowR.get hl.2 h3
  subst ha
  exact ⟨b, _, cs, rfl, rfl, hcs, hpre, fun ik w => run_indexAt hu hS h0 h1⟩

/-- a call to which a whole row is lent -/
theorem r_callW0 {α : Type} {r : Rp α} {cl : Operand} {al : List Operand} {ts : Array TypeId} {f : FuncId} {vl : List Value} {R : Value → Frz → List Value → List OE → Prop} {e : TypeId} {a : Option Addr} {m c p base : Nat} {xs : List Value} {en : OE} {l : List α} (he : Ent P f) (hg : isOn opr env g = true) (hn : Nat.blt d n = true)
    (hc : opv env cl = some (.func (.func f) #[] #[])) (hl : opvs env al = some vl) (h : HS F0 w0 X F O w) (hp : O[p]? = some en) (hv : en.view = some (e, r.k, a, m, c, xs, base)) (hrn : RowN r F m xs l)
    (hC : ∀ pre mid post, (OE.win e r.k a m c pre mid post).ok w → (∀ b, (OE.win e r.k a m c pre mid post).blk = some b → F b = none) → RowN r F m mid l →
      Calls P f vl.toArray w fun x w' => ∃ v F' mid' O', x = .returned v ∧ HS F w (blks (OE.win e r.k a m c pre mid post)) F' (OE.win e r.k a m c pre mid' post :: O') w' ∧ R v F' mid' O')
    (k : ∀ v F' mid' O' w' xs', F.le F' → HS F0 w0 X F' (O' ++ O.set p (en.withCells xs')) w' → (∀ l', RowN r F' m mid' l' → RowN r F' m xs' l') → R v F' mid' O' → RW P opr Q rest n ((d, v) :: env) w') :
    RW P opr Q (⟨some d, .call ⟨.value cl, al.toArray, ts⟩, ty, pos, es, g⟩ :: rest) n env w := by
  have hm := hrn.1
  refine r_callW (lo := 0) (hi := m) he hg hn hc hl h hp hv hrn (SubR.full _ _ _ _) (fun pre mid post h1 h2 h3 => hC pre mid post h1 h2 ?_) (fun v F' mid' O' w' xs' h1 h2 h3 h4 => k v F' mid' O' w' xs' h1 h2 (fun l' hl' => ?_) h4)
  · rwa [List.take_of_length_le (by omega), List.drop_zero] at h3
  · have := h3 l' hl'
    rwa [List.take_zero, List.nil_append, List.drop_of_length_le (by omega), List.append_nil] at this
/-- a slice held against nil -/
theorem r_snil {x : Operand} {xt yt e : TypeId} {a : Option Addr} {m c : Nat} (hu : P.underlying xt = some (.slice e)) (hg : isOn opr env g = true) (hn : Nat.blt d n = true) (hx : opv env x = some (.slice a m c))
    (k : RW P opr Q rest n ((d, .bool a.isNone) :: env) w) : RW P opr Q (⟨some d, .binOp .eql xt x (.const (.slice none 0 0)) yt, ty, pos, es, g⟩ :: rest) n env w :=
  r_val rfl (by simpa using hn) hg (fun a' ha => by
    have e1 := run_equal_slice_nil (P := P) w xt e a m c hu
    have e2 : (eqGuard .eql xt x (.const (.slice none 0 0)) (.slice a m c) (.slice none 0 0)).run P w = .ok () w := by unfold eqGuard; simp
    simp [execOp, ha.op hx, ha.op (x := .const (.slice none 0 0)) (v := .slice none 0 0) rfl, e2, binOp, e1]) k
/- what a function gives back, one by one -/
def RV (P : Program) (w : World) (n : Nat) (env : Env) (rv : ResultVar) (v : Value) : Prop :=
  ∀ a, Has n a env → ((match rv with | .tmp t => pure (a.tmps.getD t undef) | .cell c t => do loadVar t (← asAddr (a.tmps.getD c undef)) : Sem Value)).run P w = .ok v w
theorem v_tmp {t : Nat} {v : Value} (h : env.lookup t = some v) : RV P w n env (.tmp t) v := fun a ha => by
  show (pure (a.tmps.getD t undef) : Sem Value).run P w = _
  rw [ha.tmp h]; rfl
theorem v_cell {T : TypeId} {m b i c : Nat} {cs : List Value} (hA : IsAgg P T true) (hS : SizeIs P T m) (hm : cs.length = m) (h : HS F0 w0 X F O w) (hc : env.lookup c = some (.pointer (some ⟨b, 0, none⟩))) (hi : O[i]? = some (.box b T cs)) : RV P w n env (.cell c T) (.agg cs.toArray) := fun a ha => by
  show (do loadVar T (← asAddr (a.tmps.getD c undef)) : Sem Value).run P w = _
  simp [ha.tmp hc, asAddr, run_cellA (P := P) h hA hS hm hi]
theorem v_cell1 {T : TypeId} {b i c : Nat} {v : Value} (hA : IsAgg P T false) (h : HS F0 w0 X F O w) (hc : env.lookup c = some (.pointer (some ⟨b, 0, none⟩))) (hi : O[i]? = some (.box b T [v])) : RV P w n env (.cell c T) v := fun a ha => by
  have e : w.cell? ⟨b, 0, none⟩ = some v := box_cell h hi rfl
  show (do loadVar T (← asAddr (a.tmps.getD c undef)) : Sem Value).run P w = _
  simp [ha.tmp hc, asAddr, loadVar, hA w, e]
def RVs (P : Program) (w : World) (n : Nat) (env : Env) : List ResultVar → List Value → Prop
  | [], [] => True
  | r :: rs, v :: vs => RV P w n env r v ∧ RVs P w n env rs vs
  | _, _ => False
theorem run_resultsM {f : ResultVar → Sem Value} (hf : ∀ r v, RV P w n env r v → (f r).run P w = .ok v w) : ∀ {l : List ResultVar} {vl : List Value}, RVs P w n env l vl → (l.mapM f).run P w = .ok vl w
  | [], [], _ => by simp
  | r :: rs, v :: vs, ⟨h1, h2⟩ => by
    rw [List.mapM_cons]
    simp only [Sem.run_bind, hf r v h1, Result.andThen_ok, run_resultsM hf h2, Sem.run_pure]
  | [], _ :: _, h => h.elim
  | _ :: _, [], h => h.elim
theorem run_results {fn : Func} {a : Act} {l : List ResultVar} {vl : List Value} (hf : fn.results = l.toArray) (ha : Has n a env) (h : RVs P w n env l vl) (hl : vl.length ≠ 1) : (results fn a.tmps).run P w = .ok (.tuple vl.toArray) w := by
  unfold results
  rw [hf]
  simp only [List.mapM_toArray]
  rw [Sem.run_bind, Sem.run_map, run_resultsM (fun r v hr => ?_) h]
  · simp [hl]
  · have := hr a ha
    cases r <;> exact this
/-- the way back with several results -/
theorem b_retA {fn : Func} {R : Ending → World → Prop} {l : List ResultVar} {vl : List Value} (hf : fn.results = l.toArray) (h : RVs P w n env l vl) (hl : vl.length ≠ 1) (hR : R (.returned (.tuple vl.toArray)) w) : QW (bodyPost P fn R) .ret n env w :=
  b_ret (fun _ ha => run_results hf ha h hl) hR
theorem b_retS {fn : Func} {R : Ending → World → Prop} {T : TypeId} {b i c : Nat} {v : Value} (hf : fn.results = #[.cell c T]) (hA : IsAgg P T false) (h : HS F0 w0 X F O w) (hc : env.lookup c = some (.pointer (some ⟨b, 0, none⟩))) (hi : O[i]? = some (.box b T [v]))
    (hR : R (.returned v) w) : QW (bodyPost P fn R) .ret n env w :=
  b_ret (fun _ ha => by
    have e : w.cell? ⟨b, 0, none⟩ = some v := box_cell h hi rfl
    simp [results, hf, ha.get _ _ hc, asAddr, loadVar, hA w, e]) hR
/- flags in a region that draws and writes -/
section
variable {ops : Array Oper} {S : World → Prop} {fuel fuel' : Nat} {listed listed' : Array Bool}
theorem d_lit (t : Nat) {b c : Bool} (ht : env.lookup t = some (.bool b)) (hb : b = c) (k : DW P ops Q S fuel listed n ((t, .bool c) :: env) w) : DW P ops Q S fuel listed n env w :=
  fun a ha => k a ⟨ha.size, ha.defers, fun j v hj => by
    rw [List.lookup_cons] at hj
    split at hj
    · rename_i e; have e : j = t := by simpa using e
      subst e; cases hj; subst hb; exact ha.get _ _ ht
    · exact ha.get _ _ hj⟩
theorem d_mid (J : Act → World → Prop) (h2 : ∀ a w', J a w' → wpAnyH P .any ops (NP Q) S fuel' listed' a w')
    (h1 : (∀ a w', J a w' → wpAnyH P .any ops (NP Q) S fuel' listed' a w') → DW P ops Q S fuel listed n env w) : DW P ops Q S fuel listed n env w := h1 h2
theorem d_fin {J : Act → World → Prop} (h2 : ∀ a w', J a w' → wpAnyH P .any ops (NP Q) S fuel listed' a w') (hl : listed = listed') (h : ∀ a, Has n a env → J a w) : DW P ops Q S fuel listed n env w := by
  subst hl; exact fun a ha => h2 a w (h a ha)
theorem dw_apply {a : Act} (ha : Has n a env) (h : DW P ops Q S fuel listed n env w) : wpAnyH P .any ops (NP Q) S fuel listed a w := h a ha
end
/- a string's bytes in a slice of their own -/
def toBytes (s : Bs) : Option (List Int) := if s.length ≤ 140737488355328 then some (s.map fun b => (b.toNat : Int)) else none
theorem HS.addFrozen {F0 F : Frz} {w0 w w' : World} {X : List Nat} {O : List OE} (h : HS F0 w0 X F O w) (hg : w.grownBy w' none) {b : Nat} (hb : w.heap.size ≤ b) {o : Obj} (ho : w'.heap[b]? = some o) :
    F.le (fun k => if k = b then some o else F k) ∧ HS F0 w0 X (fun k => if k = b then some o else F k) O w' := by
  have h1 := h.grow hg
  have hfb : F b = none := by
    cases hf : F b with
    | none => rfl
    | some o' => have := h.sat.lt (b := b) (by simp [hf]); omega
  refine ⟨freeze_le hfb, fun k o' hk => ?_, fun k o' hk => ?_, fun k hk => ?_, h1.own, fun e he k hk => ?_, h1.dis, h1.os, h1.tape, h1.output, h1.size, h1.old⟩
  · replace hk : (if k = b then some o else F k) = some o' := hk
    split at hk
    · rename_i e; subst e; cases hk; exact ho
    · exact h1.sat k o' hk
  · have := h1.le k o' hk
    show (if k = b then some o else F k) = some o'
    split
    · rename_i e; subst e; rw [hfb] at this; cases this
    · exact this
  · by_cases e : k = b
    · subst e; exact .inr (Nat.le_trans h.size hb)
    · exact h1.new k (by simpa [e] using hk)
  · have h2 := h1.sep e he k hk
    have : k ≠ b := fun e1 => by have := OE.lt (h.own e he) hk; omega
    exact ⟨by simpa [this] using h2.1, h2.2⟩
theorem rowBytes (F : Frz) : ∀ l : Bs, RowR (Rp.int .u8) F (l.map fun b => Value.int .u8 b.toNat) (l.map fun b => (b.toNat : Int))
  | [] => rfl
  | b :: l => ⟨[.int .u8 b.toNat], _, rfl, rfl, rowBytes F l⟩
theorem r_toBytes {s t e : TypeId} {x : Operand} {l : Bs} {r : List Int} {ds : TypeDesc} (hs : P.underlying s = some ds) (ht : P.underlying t = some (.slice e)) (he : P.underlying e = some (.int .u8)) (hg : isOn opr env g = true) (hn : Nat.blt d n = true) (h : HS F0 w0 X F O w)
    (hx : opv env x = some (vs l)) (hl : toBytes l = some r)
    (k : ∀ F' a m c w', F.le F' → HS F0 w0 X F' O w' → SlR (Rp.int .u8) F' a m c r → RW P opr Q rest n ((d, .slice a m c) :: env) w') : RW P opr Q (⟨some d, .convert s t x, ty, pos, es, g⟩ :: rest) n env w := by
  unfold toBytes at hl
  split at hl
  · rename_i hle
    cases hl
    have hrun := Lib.run_convert_string_bytes (P := P) w s t e ⟨l.toArray⟩ hs ht he
    have hgr : w.grownBy (Lib.bytesWorld w e ⟨l.toArray⟩) none := ⟨rfl, rfl, rfl, by rw [Lib.bytesWorld_size]; omega, fun k hk _ => Lib.bytesWorld_at_old w e _ k hk⟩
    obtain ⟨h1, h2⟩ := h.addFrozen hgr (Nat.le_refl _) (Lib.bytesWorld_at_new w e ⟨l.toArray⟩)
    have hsz : (⟨l.toArray⟩ : ByteArray).size = l.length := size_mk l
    rw [hsz] at hrun
    refine r_valw (v := .slice (some ⟨w.heap.size, 0, none⟩) l.length (grownCap w l.length 0 e)) (w' := Lib.bytesWorld w e ⟨l.toArray⟩) rfl (by simpa using hn) hg (fun a ha => by simp only [execOp, ha.op hx]; unfold vs; simp [hrun]) (k _ _ _ _ _ h1 h2 ⟨by simp, ?_, ?_, .inr ⟨w.heap.size, 0, l.map fun b => Value.int .u8 b.toNat, rfl, ⟨_, _, _, if_pos rfl, ?_⟩, rowBytes _ l⟩⟩)
    · rw [List.length_map]; exact grownCap_ge w l.length 0 e
    · exact grownCap_le_maxLen w l.length 0 e (by simp only [maxLen]; omega)
    · simp [Lib.bytesCells]
  · cases hl
/-- a variable of the program's own, whole -/
def FX (F : Frz) (v : Nat) (cs : List Value) : Prop := ∃ t z, F v = some (.cells cs.toArray t z)
theorem FX.mono {F F' : Frz} {v : Nat} {cs : List Value} (hF : F.le F') (h : FX F v cs) : FX F' v cs := by
  obtain ⟨t, z, h1⟩ := h; exact ⟨t, z, hF _ _ h1⟩
theorem FX.fc {F : Frz} {v : Nat} {cs : List Value} (h : FX F v cs) : FC F v 0 cs := by
  obtain ⟨t, z, h1⟩ := h; exact ⟨_, t, z, h1, by simp⟩
/-- a statement whose ways meet again, what comes next being known -/
theorem c_midT {x y : Code} {Q' : Exit → Act → World → Prop} (J : Act → World → Prop) (h2 : ∀ a w', J a w' → y.wp P Q a w') (h1 : CW P x (Exit.then J Q') n env w) : CW P x (Exit.then (y.wp P Q) Q') n env w :=
  fun a ha => Code.wp_mono (fun e a' w' hq => by cases e <;> first | exact h2 _ _ hq | exact hq) (h1 a ha)
def lput {α : Type} (l : List α) (lo : Int) (l' : List α) (hi : Int) : List α := l.take lo.toNat ++ l' ++ l.drop hi.toNat
end
end Go.Proofs.YtpihabofmnnbbaaDoor.Rt
