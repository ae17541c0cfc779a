/-
  RUNTIME, a further part: 'range' over a map of the call's own that the loop does not write, whatever order the tape says.
-/
import Derived.Test.YtpihabofmnnbbaaDoorRtS
import Derived.Laws.IdiomRangeMap
namespace Go.Proofs.YtpihabofmnnbbaaDoor.Rt
open Go Go.RowKit

theorem run_nextA {P : Program} (w : World) (ty : TypeId) (r bm since c0 : Nat) (seen : Array Nat) (es : Array MapEntry) (clock : Nat) (hr : w.heap[r]? = some (.mapIter (some bm) since seen c0)) (hb : w.heap[bm]? = some (.map es clock)) (hold : ∀ x ∈ es.toList, x.born < since) (hsc : since ≤ c0) :
    ((leftOf es seen).size = 0 ∧ (Instr.next (.pointer (some ⟨r, 0, none⟩)) false ty).run P w = .ok (.tuple #[.bool false]) w) ∨
    ∃ e ∈ (leftOf es seen).toList, ∃ w1 : World, (w1 = w ∨ w1 = { w with drawn := w.drawn + 1 }) ∧ (Instr.next (.pointer (some ⟨r, 0, none⟩)) false ty).run P w = .ok (.tuple #[.bool true, e.key, e.val]) { w1 with heap := w1.heap.setIfInBounds r (.mapIter (some bm) since (seen.push e.born) clock) } := by
  simp only [Instr.next, getObj, Sem.run_bind, Sem.run, hr, hb, Result.andThen, next_test_false seen es since c0 hold hsc, Bool.false_eq_true, if_false]
  unfold leftOf
  have hmem : ∀ x ∈ (Array.filter (fun e => !seen.contains e.born) es).toList, x.born < since := fun x hx => hold x (by simp at hx ⊢; exact hx.1)
  generalize Array.filter (fun e => !seen.contains e.born) es = L at hmem ⊢
  have e1 : L.filter (fun x => decide (x.born < since)) = L := Array.filter_eq_self.2 (fun x hx => by simpa using hmem x (by simpa using hx))
  have e2 : L.filter (fun x => decide (x.born ≥ since)) = #[] := Array.filter_eq_empty_iff.2 (fun x hx => by have := hmem x (by simpa using hx); simp; omega)
  rw [e1, e2]
  by_cases h0 : L.size = 0
  · left
    have hL : L = #[] := Array.eq_empty_of_size_eq_zero h0
    subst hL
    refine ⟨rfl, ?_⟩
    simp [choose, Sem.run, Question.forced]
  · right
    have hne : L.isEmpty = false := by
      cases h : L.isEmpty
      · rfl
      · rw [Array.isEmpty_iff_size_eq_zero] at h; exact absurd h h0
    rw [hne]
    simp only [Bool.false_eq_true, if_false, Array.append_empty, Array.empty_append, Array.size_map]
    have hch : ∃ (j : Nat) (w1 : World), j < L.size ∧ (w1 = w ∨ w1 = { w with drawn := w.drawn + 1 }) ∧ (choose (Question.mapNext L.size)).run P w = .ok j w1 := by
      by_cases hf : L.size ≤ 1
      · exact ⟨0, w, by omega, .inl rfl, by simp [choose, Sem.run, Question.forced, hf]⟩
      · exact ⟨_, w.drew, Nat.mod_lt _ (by omega), .inr rfl, by
          simp only [choose, Sem.run, Question.forced, decide_eq_true_eq, hf, if_false, Question.cut]
          rfl⟩
    obtain ⟨j, w1, hj, hal, hrun⟩ := hch
    refine ⟨L[j], by simp, w1, hal, ?_⟩
    have hr1 : w1.heap[r]? = some (.mapIter (some bm) since seen c0) := by rcases hal with rfl | rfl <;> exact hr
    have hset : ∀ (o' : Obj), (setObj r o').run P w1 = .ok () { w1 with heap := w1.heap.setIfInBounds r o' } := fun o' => by
      simp only [setObj, Sem.run, hr1]
    simp only [hrun, Array.getElem?_map, Array.getElem?_eq_getElem hj, Option.map_some, Sem.run_bind, hset, Result.andThen]
    rfl
theorem run_entryA {P : Program} (w : World) (r bm since : Nat) (seen : Array Nat) (es : Array MapEntry) (clock : Nat) (e : MapEntry) (hr : w.heap[r]? = some (.mapIter (some bm) since (seen.push e.born) clock)) (hb : w.heap[bm]? = some (.map es clock)) (he : e ∈ es.toList) (hn : (es.toList.map (·.born)).Nodup) :
    (Instr.entry (.pointer (some ⟨r, 0, none⟩))).run P w = .ok (.tuple #[e.key, e.val]) w := by
  have hf : es.find? (·.born == e.born) = some e := by rw [← Array.find?_toList]; exact find_born e es.toList hn he
  simp only [Instr.entry, getObj, Sem.run_bind, Sem.run, hr, hb, Result.andThen, Array.back?_push, bne_self_eq_false, Bool.false_eq_true, if_false, hf]
  rfl

section
variable {P : Program} {Q : Exit → Act → World → Prop} {n : Nat} {env : Env} {w : World}
variable {opr : Array Oper} {rest : List Oper} {d : Nat} {g : Option (Nat × Bool)} {ty : TypeId} {pos : String} {es : Array Edge}
variable {F0 F : Frz} {w0 : World} {X : List Nat} {O : List OE}

theorem r_range {t k e : TypeId} {x : Operand} {b clock i : Nat} {ents : List MapEntry} (hu : P.underlying t = some (.map k e)) (hg : isOn opr env g = true) (hn : Nat.blt d n = true) (hx : opv env x = some (.map (some b)))
    (h : HS F0 w0 X F O w) (hi : O[i]? = some (.mp b ents clock))
    (kont : ∀ r w', HS F0 w0 X F (.it r (.mapIter (some b) clock #[] clock) :: O) w' → RW P opr Q rest n ((d, .pointer (some ⟨r, 0, none⟩)) :: env) w') : RW P opr Q (⟨some d, .range t x, ty, pos, es, g⟩ :: rest) n env w := by
  have hb : w.heap[b]? = some (.map ents.toArray clock) := (h.get hi).1
  exact r_valw (w' := w.alloc (.mapIter (some b) clock #[] clock)) rfl (by simpa using hn) hg (fun a ha => by simp [execOp, ha.op hx, run_range_map w t k e b ents.toArray clock hu hb]) (kont w.heap.size _ (h.add (World.grownBy_alloc w _ none) (by
    show (w.alloc _).heap[w.heap.size]? = _; rw [heap_alloc_new]) (by simp [OE.blk])))
theorem r_next {x : Operand} {r bm since c0 clock i j : Nat} {seen : Array Nat} {ents : List MapEntry} (hg : isOn opr env g = true) (hn : Nat.blt d n = true) (h : HS F0 w0 X F O w) (hx : opv env x = some (.pointer (some ⟨r, 0, none⟩)))
    (hj : O[j]? = some (.it r (.mapIter (some bm) since seen c0))) (hi : O[i]? = some (.mp bm ents clock)) (hs : since = clock) (hsc : since ≤ c0)
    (kA : leftOf ents.toArray seen = #[] → RW P opr Q rest n ((d, .tuple #[.bool false]) :: env) w)
    (kB : ∀ e, e ∈ (leftOf ents.toArray seen).toList → ∀ w', HS F0 w0 X F (O.set j (.it r (.mapIter (some bm) since (seen.push e.born) clock))) w' → RW P opr Q rest n ((d, .tuple #[.bool true, e.key, e.val]) :: env) w') :
    RW P opr Q (⟨some d, .next x false, ty, pos, es, g⟩ :: rest) n env w := by
  obtain ⟨hb, hst⟩ : w.heap[bm]? = some (.map ents.toArray clock) ∧ StampOk ents clock := h.get hi
  have hr : w.heap[r]? = some (.mapIter (some bm) since seen c0) := h.get hj
  rcases run_nextA (P := P) w ty r bm since c0 seen ents.toArray clock hr hb (fun x hx => by rw [hs]; exact hst.2 x (by simpa using hx)) hsc with ⟨h0, hrun⟩ | ⟨e, he, w1, hw1, hrun⟩
  · exact r_val rfl (by simpa using hn) hg (fun a ha => by simp [execOp, ha.op hx, hrun]) (kA (Array.eq_empty_of_size_eq_zero h0))
  · have h1 : HS F0 w0 X F O w1 := by rcases hw1 with rfl | rfl <;> first | exact h | exact h.drew
    refine r_valw (w' := { w1 with heap := w1.heap.setIfInBounds r (.mapIter (some bm) since (seen.push e.born) clock) }) rfl (by simpa using hn) hg (fun a ha => by simp [execOp, ha.op hx, hrun]) (kB e he _ (h1.upd hj (setBlk_grown w1 r _) ?_ (fun k hk => .inl hk)))
    have hr1 : w1.heap[r]? = some (.mapIter (some bm) since seen c0) := h1.get hj
    have hlt : r < w1.heap.size := (Array.getElem?_eq_some_iff.1 hr1).1
    show (w1.heap.setIfInBounds r _)[r]? = _
    simp [hlt]
theorem r_entry {x : Operand} {r bm since clock i j : Nat} {seen : Array Nat} {ents : List MapEntry} {e : MapEntry} (hg : isOn opr env g = true) (hn : Nat.blt d n = true) (h : HS F0 w0 X F O w) (hx : opv env x = some (.pointer (some ⟨r, 0, none⟩)))
    (hj : O[j]? = some (.it r (.mapIter (some bm) since (seen.push e.born) clock))) (hi : O[i]? = some (.mp bm ents clock)) (he : e ∈ (leftOf ents.toArray seen).toList)
    (k : RW P opr Q rest n ((d, .tuple #[e.key, e.val]) :: env) w) : RW P opr Q (⟨some d, .entry x, ty, pos, es, g⟩ :: rest) n env w := by
  obtain ⟨hb, hst⟩ : w.heap[bm]? = some (.map ents.toArray clock) ∧ StampOk ents clock := h.get hi
  have hr : w.heap[r]? = some (.mapIter (some bm) since (seen.push e.born) clock) := h.get hj
  have hrun := run_entryA (P := P) w r bm since seen ents.toArray clock e hr hb (by unfold leftOf at he; simp at he ⊢; exact he.1) (by simpa using hst.1)
  exact r_val rfl (by simpa using hn) hg (fun a ha => by simp [execOp, ha.op hx, hrun]) k
end
/-- so many rounds, and one more, are enough -/
def mloop {R : Type} (m s : Nat) (V : Option R) : Option R := if m ≤ s then none else V
theorem mloop_some {R : Type} {m s : Nat} {V : Option R} {r : R} (h : mloop m s V = some r) : s < m ∧ V = some r := by
  unfold mloop at h
  split at h
  · cases h
  · exact ⟨by omega, h⟩
theorem left_push {es : List MapEntry} {seen : Array Nat} {e : MapEntry} (he : e ∈ (leftOf es.toArray seen).toList) : (leftOf es.toArray (seen.push e.born)).size < (leftOf es.toArray seen).size := by
  have h1 : ∀ s : Array Nat, (leftOf es.toArray s).size = (es.filter fun x => !s.contains x.born).length := fun s => by
    unfold leftOf; rw [← Array.length_toList, Array.toList_filter]
  have h2 : e ∈ es ∧ seen.contains e.born = false := by
    unfold leftOf at he; rw [Array.toList_filter] at he; simpa using he
  rw [h1, h1]
  have h3 : (es.filter fun x => !(seen.push e.born).contains x.born) = (es.filter fun x => !seen.contains x.born).filter fun x => x.born != e.born := by
    rw [List.filter_filter]
    congr 1
    funext x
    rw [Array.contains_push]
    cases hx : seen.contains x.born <;> cases hy : x.born == e.born <;> simp_all [bne]
  rw [h3]
  have h4 : e ∈ (es.filter fun x => !seen.contains x.born) := by simp [h2.1]; simpa using h2.2
  rw [List.length_filter_lt_length_iff_exists]
  exact ⟨e, h4, by simp⟩
/-- what has been handed out fails the test -/
def Failed {K V : Type} (ek : K → Value) (ev : V → Value) (p : K × V → Bool) (es : List MapEntry) (seen : Array Nat) : Prop := ∀ e, e ∈ es → seen.contains e.born = true → ∃ k v, e.key = ek k ∧ e.val = ev v ∧ p (k, v) = false
theorem mpr_mem {K V : Type} {ek : K → Value} {ev : V → Value} : ∀ {es : List MapEntry} {l : List (K × V)}, MpR ek ev es l → ∀ e, e ∈ es → ∃ k v, (k, v) ∈ l ∧ e.key = ek k ∧ e.val = ev v
  | [], [], _, e, he => by cases he
  | x :: es, q :: l, h, e, he => by
    rcases List.mem_cons.1 he with rfl | he
    · exact ⟨q.1, q.2, by simp, h.1, h.2.1⟩
    · obtain ⟨k, v, h1, h2⟩ := mpr_mem h.2.2 e he
      exact ⟨k, v, by simp [h1], h2⟩
  | [], _ :: _, h, _, _ => h.elim
  | _ :: _, [], h, _, _ => h.elim
theorem mpr_mem' {K V : Type} {ek : K → Value} {ev : V → Value} : ∀ {es : List MapEntry} {l : List (K × V)}, MpR ek ev es l → ∀ q, q ∈ l → ∃ e, e ∈ es ∧ e.key = ek q.1 ∧ e.val = ev q.2
  | [], [], _, e, he => by cases he
  | x :: es, q :: l, h, y, hy => by
    rcases List.mem_cons.1 hy with rfl | hy
    · exact ⟨x, by simp, h.1, h.2.1⟩
    · obtain ⟨e, h1, h2⟩ := mpr_mem' h.2.2 y hy
      exact ⟨e, by simp [h1], h2⟩
  | [], _ :: _, h, _, _ => h.elim
  | _ :: _, [], h, _, _ => h.elim
theorem mloop_zero {R : Type} {s : Nat} {V : Option R} : mloop 0 s V = none := if_pos (Nat.zero_le _)
theorem mloop_of {R : Type} {m s : Nat} {V : Option R} {r : R} (h : s < m) (hV : V = some r) : mloop m s V = some r := by
  unfold mloop; rw [if_neg (by omega)]; exact hV
theorem mem_leftOf {es : List MapEntry} {seen : Array Nat} {e : MapEntry} (he : e ∈ (leftOf es.toArray seen).toList) : e ∈ es := by
  unfold leftOf at he; rw [Array.toList_filter] at he; simp at he; exact he.1
theorem left_init {K V : Type} {ek : K → Value} {ev : V → Value} {es : List MapEntry} {l : List (K × V)} (h : MpR ek ev es l) : (leftOf es.toArray #[]).size ≤ l.length := by
  have hl : ∀ {es : List MapEntry} {l : List (K × V)}, MpR ek ev es l → es.length = l.length := by
    intro es
    induction es with
    | nil => intro l h; cases l with
      | nil => rfl
      | cons => exact h.elim
    | cons e es ih => intro l h; cases l with
      | nil => exact h.elim
      | cons q l => simp [ih h.2.2]
  rw [← hl h]
  unfold leftOf
  rw [← Array.length_toList, Array.toList_filter]
  exact Nat.le_trans (List.length_filter_le _ _) (by simp)
theorem failed_init {K V : Type} {ek : K → Value} {ev : V → Value} {p : K × V → Bool} {es : List MapEntry} : Failed ek ev p es #[] := fun e _ h => by simp at h
theorem failed_push {K V : Type} {ek : K → Value} {ev : V → Value} {p : K × V → Bool} {es : List MapEntry} {seen : Array Nat} {e : MapEntry} {k : K} {v : V} (hn : (es.map (·.born)).Nodup) (h : Failed ek ev p es seen) (he : e ∈ es) (hk : e.key = ek k) (hv : e.val = ev v) (hp : p (k, v) = false) : Failed ek ev p es (seen.push e.born) := by
  intro x hx hs
  rw [Array.contains_push] at hs
  cases h1 : seen.contains x.born with
  | true => exact h x hx h1
  | false =>
    rw [h1, Bool.false_or] at hs
    have hb : x.born = e.born := by simpa using hs
    have hxe : x = e := by
      have h2 := find_born e es hn he
      have h3 := find_born x es hn hx
      rw [hb, h2] at h3
      exact (Option.some.inj h3).symm
    subst hxe
    exact ⟨k, v, hk, hv, hp⟩
theorem find_none {K V : Type} {ek : K → Value} {ev : V → Value} {p : K × V → Bool} {es : List MapEntry} {l : List (K × V)} {seen : Array Nat} (hi : ∀ q q' : K × V, ek q.1 = ek q'.1 → ev q.2 = ev q'.2 → q = q') (h : MpR ek ev es l) (h0 : leftOf es.toArray seen = #[]) (hf : Failed ek ev p es seen) : l.find? p = none := by
  rw [List.find?_eq_none]
  intro q hq
  obtain ⟨e, he, hk, hv⟩ := mpr_mem' h q hq
  have hs : seen.contains e.born = true := by
    cases hc : seen.contains e.born with
    | true => rfl
    | false =>
      have hm : e ∈ (leftOf es.toArray seen).toList := by unfold leftOf; rw [Array.toList_filter]; simp [he]; simpa using hc
      rw [h0] at hm; cases hm
  obtain ⟨k, v, hk2, hv2, hp⟩ := hf e he hs
  have e1 : q = (k, v) := hi q (k, v) (by rw [← hk, hk2]) (by rw [← hv, hv2])
  rw [e1, hp]; simp
theorem find_one {α : Type} {p : α → Bool} {l : List α} {q : α} (hq : q ∈ l) (hp : p q = true) (hu : ∀ x, x ∈ l → p x = true → x = q) : l.find? p = some q := by
  cases h : l.find? p with
  | none => rw [List.find?_eq_none] at h; exact absurd hp (h q hq)
  | some x => rw [hu x (List.mem_of_find?_eq_some h) (List.find?_some h)]
theorem vs_int_inj : ∀ q q' : Bs × Int, vs q.1 = vs q'.1 → Value.int .i64 q.2 = Value.int .i64 q'.2 → q = q' := by
  rintro ⟨a, b⟩ ⟨a', b'⟩ h1 h2
  have e1 : a = a' := by
    have : (⟨a.toArray⟩ : ByteArray) = ⟨a'.toArray⟩ := by simpa [vs] using h1
    have h3 := congrArg ByteArray.data this
    simpa using h3
  have e2 : b = b' := by simpa using h2
  rw [e1, e2]
end Go.Proofs.YtpihabofmnnbbaaDoor.Rt
