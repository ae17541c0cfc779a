/-
  WHAT IS READ can be written.
-/
import Derived.Test.YtpihabofmnnbbaaDoorPrG
namespace Go.Proofs.YtpihabofmnnbbaaDoor.Pr
open Go Rt M Ta Tp

/-! what tokens are like -/
def Wf (t : Token) : Prop := (t.Kind = 0 → Lx.name t.Text = true) ∧ (t.Kind = 1 → 0 ≤ t.N ∧ t.N ≤ 1099511627776)
theorem number_le (s : Rt.Bs) : (Lx.number s).1 ≤ 1099511627776 := by
  unfold Lx.number
  split
  · rename_i h; exact h.2
  · exact Nat.zero_le _
theorem next_wf {l : Rt.Bs} (h : (Lx.next l).2.2 = 0) : Wf (Lx.next l).1 := by
  unfold Lx.next at h ⊢
  split at h
  · rename_i h1
    rw [if_pos h1]
    split at h
    · rename_i h2
      rw [if_pos h2]
      exact ⟨fun _ => h2, fun h => (by cases h)⟩
    · cases h
  rename_i h1
  rw [if_neg h1]
  split at h
  · rename_i h2
    rw [if_pos h2]
    split at h
    · rename_i h3
      rw [if_pos h3]
      refine ⟨fun h => (by cases h), fun _ => ?_⟩
      have := number_le (l.take (Lx.spanN Lx.isDigit l))
      dsimp only
      omega
    · cases h
  rename_i h2
  rw [if_neg h2]
  split at h
  · rename_i h3
    rw [if_pos h3]
    split at h
    · cases h
    · rename_i h4
      rw [if_neg h4]
      exact ⟨fun h => (by cases h), fun h => (by cases h)⟩
  rename_i h3
  rw [if_neg h3]
  split at h
  · rename_i h4
    rw [if_pos h4]
    exact ⟨fun h => (by cases h), fun h => (by cases h)⟩
  · cases h
theorem scanF_wf : ∀ (f : Nat) (r : Rt.Bs) (a : Nat), (∀ t, t ∈ (Lx.scanF f r a).1 → Wf t ∧ 0 ≤ t.Pos ∧ t.Pos ≤ ((a + r.length : Nat) : Int)) ∧ (Lx.scanF f r a).2.1 ≤ a + r.length
  | 0, r, a => by simp [Lx.scanF]
  | f + 1, r, a => by
    by_cases hend : Lx.gapN false r = r.length
    · rw [Lx.scanF_end hend]; simp
    have hg := Lx.gapN_le false r
    by_cases hx : (Lx.next (r.drop (Lx.gapN false r))).2.2 = 0
    · have h2 : r.drop (Lx.gapN false r) ≠ [] := by
        intro e; have := congrArg List.length e; simp only [List.length_drop, List.length_nil] at this; omega
      have h4 := Lx.next_len h2 hx
      have h5 := next_wf hx
      have ih := scanF_wf f (r.drop (Lx.gapN false r + (Lx.next (r.drop (Lx.gapN false r))).2.1)) (a + Lx.gapN false r + (Lx.next (r.drop (Lx.gapN false r))).2.1)
      simp only [List.length_drop] at h4 ih
      rw [Lx.scanF_more hend hx]
      have bound : a + Lx.gapN false r + (Lx.next (r.drop (Lx.gapN false r))).2.1 + (r.length - (Lx.gapN false r + (Lx.next (r.drop (Lx.gapN false r))).2.1)) ≤ a + r.length := by omega
      have tk : ∀ t, t ∈ (Lx.scanF f (r.drop (Lx.gapN false r + (Lx.next (r.drop (Lx.gapN false r))).2.1)) (a + Lx.gapN false r + (Lx.next (r.drop (Lx.gapN false r))).2.1)).1 → Wf t ∧ 0 ≤ t.Pos ∧ t.Pos ≤ ((a + r.length : Nat) : Int) := fun t ht => by
        obtain ⟨g1, g2, g3⟩ := ih.1 t ht
        exact ⟨g1, g2, by omega⟩
      split
      · exact ⟨tk, by omega⟩
      · refine ⟨fun t ht => ?_, Nat.zero_le _⟩
        rcases List.mem_cons.1 ht with rfl | ht
        · exact ⟨h5, (by dsimp only; omega), (by dsimp only; omega)⟩
        · exact tk t ht
    · rw [Lx.scanF_bad hend hx]
      exact ⟨fun t ht => (by cases ht), (by dsimp only; omega)⟩
theorem scan_wf (s : Rt.Bs) : (∀ t, t ∈ (Lx.scan s).1 → Wf t ∧ 0 ≤ t.Pos ∧ t.Pos ≤ (s.length : Int)) ∧ (Lx.scan s).2.1 ≤ s.length := by
  unfold Lx.scan
  split
  · exact ⟨fun t ht => (by cases ht), Nat.zero_le _⟩
  · have := scanF_wf (s.length + 1) s 0
    rw [Nat.zero_add] at this
    exact this

/-! the reader -/
theorem fail_ne {e x : Int} (hx : x ≠ 0) : failE e x ≠ 0 := by
  unfold failE
  split
  · exact hx
  · assumption
def InE (l : List Token) (a : Nat) (e : Int) (r : reader) : Prop := ∃ (b : Nat) (e' : Int), r = Rd l b e' ∧ a ≤ b ∧ b ≤ l.length ∧ (e' = 0 → e = 0)
def InS (l : List Token) (a : Nat) (e : Int) (p : reader × M.Expr) : Prop := ∃ (b : Nat) (e' : Int), p.1 = Rd l b e' ∧ a ≤ b ∧ b ≤ l.length ∧ (e' = 0 → e = 0) ∧ (e' = 0 → Shx p.2) ∧ Fit p.2
theorem take_w {l : List Token} {a : Nat} {e : Int} (s : Rt.Bs) (hl : l.length ≤ 1000000) (ha : a ≤ l.length) : Tt (fun p => InE l a e p.1) (fun n => tariff_reader_take n (Rd l a e) s) := by
  refine Tt.all (fun n => take_n n s hl ha) ?_
  cases h : isT l a e s with
  | false => exact ⟨a, e, rfl, Nat.le_refl _, ha, id⟩
  | true => exact ⟨a + 1, e, rfl, by omega, (isT_lt h).1, id⟩
theorem need_LW {l : List Token} (hl : l.length ≤ 1000000) (ws : List Rt.Bs) (hw : ws.length ≤ 1000) : ∀ (us : List Rt.Bs) (i a : Nat) (e : Int), ws.drop i = us → a ≤ l.length →
    ∃ r, InE l a e r ∧ ∀ n m, us.length < m → tariff_reader_need_L1 n ws (fun f4 f5 f6 => some (⟨f4, f5, f6⟩ : reader)) m (i : Int) l (a : Int) e = some r
  | [], i, a, e, hd, ha => by
    refine ⟨Rd l a e, ⟨a, e, rfl, Nat.le_refl _, ha, id⟩, fun n m hm => ?_⟩
    obtain ⟨m, rfl⟩ := left hm
    rw [tariff_reader_need_L1_s, more_no hd]; rfl
  | u :: us, i, a, e, hd, ha => by
    obtain ⟨h1, h2, h3⟩ := Rt.drop_cons hd
    cases h : isT l a e u with
    | false =>
      obtain ⟨r, ⟨b, e', hr, g1, g2, g3⟩, ih⟩ := need_LW hl ws hw us (i + 1) a (failE e 12) h2 ha
      refine ⟨r, ⟨b, e', hr, g1, g2, fun h0 => absurd (g3 h0) (fail_ne (by decide))⟩, fun n m hm => ?_⟩
      obtain ⟨m, rfl, hm2⟩ := pred (by simpa using hm)
      rw [tariff_reader_need_L1_s, more_yes hd, cond_true, h1, Option.bind_some, take_n n u hl ha, Option.bind_some, h]
      dsimp only
      rw [Bool.not_false, cond_true, cond_false, fail_n, Option.bind_some, inc64 (by omega)]
      exact ih n m hm2
    | true =>
      have h4 := isT_lt h
      obtain ⟨r, ⟨b, e', hr, g1, g2, g3⟩, ih⟩ := need_LW hl ws hw us (i + 1) (a + 1) e h2 h4.1
      refine ⟨r, ⟨b, e', hr, by omega, g2, g3⟩, fun n m hm => ?_⟩
      obtain ⟨m, rfl, hm2⟩ := pred (by simpa using hm)
      rw [tariff_reader_need_L1_s, more_yes hd, cond_true, h1, Option.bind_some, take_n n u hl ha, Option.bind_some, h]
      dsimp only
      rw [Bool.not_true, cond_false, cond_true, inc64 (by omega)]
      exact ih n m hm2
theorem need_w {l : List Token} (hl : l.length ≤ 1000000) {a : Nat} {e : Int} (ha : a ≤ l.length) (ws : List Rt.Bs) (hw : ws.length ≤ 1000) : Tt (InE l a e) (fun n => tariff_reader_need n (Rd l a e) ws) := by
  obtain ⟨r, hr, ih⟩ := need_LW hl ws hw ws 0 a e rfl ha
  exact ⟨r, ⟨ws.length + 1, fun n hn => ih n n (by omega)⟩, hr⟩
theorem nextT_mem {l : List Token} {a : Nat} {e : Int} (h : (nextT l a e).Kind ≠ 4) : nextT l a e ∈ l := by
  have h1 := next_lt h
  unfold nextT
  rw [if_pos h1.2, List.getElem?_eq_getElem h1.1]
  exact List.getElem_mem _
theorem one_w {l : List Token} (hl : l.length ≤ 1000000) {a : Nat} {e : Int} (ha : a ≤ l.length) {k : Int} (hk : k ≠ 4) : Tt (fun p => ∃ (b : Nat) (e' : Int), p.1 = Rd l b e' ∧ a ≤ b ∧ b ≤ l.length ∧ (e' = 0 → e = 0) ∧ (e' = 0 → p.2.Kind = k ∧ p.2 ∈ l)) (fun n => tariff_reader_one n (Rd l a e) k) := by
  unfold tariff_reader_one
  refine Tt.evb (Ev.all fun n => next_n n ha) ?_
  refine Tt.bif (fun h => ?_) (fun h => ?_)
  · exact Tt.evb (Ev.all fun n => fail_n n l a e 12) (Tt.pure ⟨a, _, rfl, Nat.le_refl _, ha, fun h0 => absurd h0 (fail_ne (by decide)), fun h0 => absurd h0 (fail_ne (by decide))⟩)
  · have h1 : (nextT l a e).Kind = k := by simpa using h
    have h2 := next_lt (by rw [h1]; exact hk)
    refine Tt.pure ⟨a + 1, e, ?_, by omega, h2.1, id, fun _ => ⟨h1, nextT_mem (by rw [h1]; exact hk)⟩⟩
    dsimp only
    rw [inc64 (by omega)]
theorem mget_op {s : Rt.Bs} {o : Int} (h : mget ops s = some o) : o = 5 ∨ o = 6 ∨ o = 7 ∨ o = 8 ∨ o = 12 ∨ o = 13 ∨ o = 15 ∨ o = 16 := by
  unfold mget at h
  cases hq : List.find? (fun p => s == p.1) ops with
  | none => rw [hq] at h; cases h
  | some q =>
    rw [hq] at h
    have h1 := List.mem_of_find?_eq_some hq
    have h2 : q.2 = o := Option.some.inj h
    subst h2
    simp only [ops, List.mem_cons, List.not_mem_nil, or_false] at h1
    rcases h1 with rfl | rfl | rfl | rfl | rfl | rfl | rfl | rfl <;> simp
theorem node_w {o : Int} {l : List M.Expr} (h0 : 0 ≤ o) (h16 : o ≤ 16) (h : o ≠ 0 ∧ o ≠ 1 ∧ o ≠ 4) (hl : (l.length : Int) = argsN o) (hc : ∀ y, y ∈ l → Shx y) : Shx ⟨o, 0, [], l⟩ := by
  refine Shx.mk h0 h16 hl ?_ hc
  unfold nodeok
  rw [if_neg h.1, if_neg (by omega)]
  exact ⟨rfl, rfl⟩
theorem bin_w {o : Int} {x y : M.Expr} (h : o = 9 ∨ o = 10 ∨ o = 5 ∨ o = 6 ∨ o = 7 ∨ o = 8 ∨ o = 12 ∨ o = 13 ∨ o = 15 ∨ o = 16) (hx : Shx x) (hy : Shx y) : Shx ⟨o, 0, [], [x, y]⟩ := by
  refine node_w (by omega) (by omega) (by omega) ?_ (by simp [hx, hy])
  unfold argsN
  rw [if_neg (by omega), if_neg (by omega), if_neg (by omega)]; rfl

theorem expr_w {l : List Token} (hl : l.length ≤ 1000000) {k : Nat} (H : ∀ (a : Nat) (e : Int), a ≤ l.length → l.length - a ≤ k → Tt (InS l a e) (fun n => tariff_reader_atom n (Rd l a e))) (a : Nat) (e : Int) (ha : a ≤ l.length) (hk : l.length - a ≤ k) :
    Tt (InS l a e) (fun n => tariff_reader_expr n (Rd l a e)) := by
  refine Tt.suc (fun n => tariff_reader_expr_s n _) ?_
  refine Tt.bind (take_w _ hl ha) ?_
  rintro ⟨_, b⟩ ⟨a1, e1, rfl, h1, h2, s1⟩
  refine Tt.bif (fun _ => ?_) (fun _ => ?_)
  · refine Tt.bind (H a1 e1 h2 (by omega)) ?_
    rintro ⟨_, x⟩ ⟨a2, e2, rfl, h3, h4, s2, sx, fx⟩
    exact Tt.pure ⟨a2, e2, rfl, by omega, h4, fun z => s1 (s2 z), fun z => node_w (by decide) (by decide) (by decide) rfl (by simpa using sx z), Fit.one _ _ _ fx⟩
  refine Tt.bind (take_w _ hl h2) ?_
  rintro ⟨_, b2⟩ ⟨a2, e2, rfl, h3, h4, s2⟩
  refine Tt.bif (fun _ => ?_) (fun _ => ?_)
  · refine Tt.bind (H a2 e2 h4 (by omega)) ?_
    rintro ⟨_, x⟩ ⟨a3, e3, rfl, h5, h6, s3, sx, fx⟩
    refine Tt.bind (need_w hl h6 _ (by simp)) ?_
    rintro _ ⟨a4, e4, rfl, h7, h8, s4⟩
    refine Tt.bind (H a4 e4 h8 (by omega)) ?_
    rintro ⟨_, y⟩ ⟨a5, e5, rfl, h9, h10, s5, sy, fy⟩
    refine Tt.bind (need_w hl h10 _ (by simp)) ?_
    rintro _ ⟨a6, e6, rfl, h11, h12, s6⟩
    refine Tt.bind (H a6 e6 h12 (by omega)) ?_
    rintro ⟨_, z⟩ ⟨a7, e7, rfl, h13, h14, s7, sz, fz⟩
    refine Tt.pure ⟨a7, e7, rfl, by omega, h14, fun q => s1 (s2 (s3 (s4 (s5 (s6 (s7 q)))))), fun q => node_w (by decide) (by decide) (by decide) rfl ?_, Fit.three _ _ _ fx fy fz⟩
    simpa using ⟨sx (s4 (s5 (s6 (s7 q)))), sy (s6 (s7 q)), sz q⟩
  refine Tt.bind (H a2 e2 h4 (by omega)) ?_
  rintro ⟨_, x⟩ ⟨a3, e3, rfl, h5, h6, s3, sx, fx⟩
  refine Tt.evb (Ev.all fun n => next_n n h6) ?_
  refine Tt.evb (Ev.all fun n => operators_n n) ?_
  dsimp only
  refine Tt.bind (P := fun q : Bool × List Token × Int × Int => InE l a3 e3 ⟨q.2.1, q.2.2.1, q.2.2.2⟩ ∧ (q.1 = false → (mget ops (nextT l a3 e3).Text).isSome = true)) ?_ ?_
  · refine Tt.bif (fun _ => Tt.pure ⟨⟨a3, e3, rfl, Nat.le_refl _, h6, id⟩, fun h => (by cases h)⟩) (fun hs => ?_)
    refine Tt.bind (take_w _ hl h6) ?_
    rintro ⟨_, b3⟩ ⟨a4, e4, rfl, h7, h8, s4⟩
    exact Tt.pure ⟨⟨a4, e4, rfl, by omega, h8, s4⟩, fun _ => by simpa using hs⟩
  rintro ⟨v, f1, f2, f3⟩ ⟨⟨a4, e4, hq, h7, h8, s4⟩, hop⟩
  obtain ⟨rfl, rfl, rfl⟩ : f1 = l ∧ f2 = (a4 : Int) ∧ f3 = e4 := by simpa using hq
  dsimp only
  refine Tt.bif (fun _ => ?_) (fun hv => ?_)
  · exact Tt.pure ⟨a4, f3, rfl, by omega, h8, fun q => s1 (s2 (s3 (s4 q))), fun q => sx (s4 q), fx⟩
  refine Tt.bind (H a4 f3 h8 (by omega)) ?_
  rintro ⟨_, y⟩ ⟨a5, e5, rfl, h9, h10, s5, sy, fy⟩
  refine Tt.pure ⟨a5, e5, rfl, by omega, h10, fun q => s1 (s2 (s3 (s4 (s5 q)))), fun q => ?_, Fit.two _ _ _ fx fy⟩
  obtain ⟨o, ho⟩ := Option.isSome_iff_exists.1 (hop hv)
  dsimp only
  rw [ho]
  exact bin_w (.inr (.inr (mget_op ho))) (sx (s4 (s5 q))) (sy q)
theorem zero_w : Fit (⟨0, 0, [], []⟩ : M.Expr) := Fit.leaf _ _ _
theorem atom_w {l : List Token} (hl : l.length ≤ 1000000) (hw : ∀ t, t ∈ l → Wf t) {a : Nat} (e : Int) (ha : a ≤ l.length) (H : ∀ (b : Nat) (e : Int), a < b → b ≤ l.length → Tt (InS l b e) (fun n => tariff_reader_expr n (Rd l b e))) :
    Tt (InS l a e) (fun n => tariff_reader_atom n (Rd l a e)) := by
  refine Tt.suc (fun n => tariff_reader_atom_s n _) ?_
  refine Tt.evb (Ev.all fun n => next_n n ha) ?_
  dsimp only
  refine Tt.bif (fun h => ?_) (fun _ => ?_)
  · have hk : (nextT l a e).Kind = 1 := by simpa using h
    have h2 := next_lt (e := e) (by rw [hk]; decide)
    have h3 := (hw _ (nextT_mem (by rw [hk]; decide))).2 hk
    rw [inc64 (by omega)]
    refine Tt.pure ⟨a + 1, e, rfl, by omega, h2.1, id, fun _ => Shx.mk (by decide) (by decide) rfl ?_ (by simp), Fit.leaf _ _ _⟩
    unfold nodeok
    rw [if_pos rfl]
    exact ⟨h3, rfl⟩
  refine Tt.bind (P := fun b => b = false → (nextT l a e).Kind ≠ 4) ?_ ?_
  · refine Tt.bif (fun _ => Tt.pure fun h => ?_) (fun h => Tt.pure fun _ => ?_)
    · rw [show (nextT l a e).Kind = 3 by simpa using h]; decide
    · rw [show (nextT l a e).Kind = 0 by simpa using h]; decide
  intro b hb
  have bad : ∀ e : Int, Tt (InS l a e) (fun n => (tariff_reader_fail n (Rd l a e) 12).bind fun v3 => some (v3, (⟨0, 0, [], []⟩ : M.Expr))) := fun e =>
    Tt.evb (Ev.all fun n => fail_n n l a e 12) (Tt.pure ⟨a, _, rfl, Nat.le_refl _, ha, fun h0 => absurd h0 (fail_ne (by decide)), fun h0 => absurd h0 (fail_ne (by decide)), Fit.leaf _ _ _⟩)
  refine Tt.bif (fun _ => bad e) (fun hbf => ?_)
  have h2 := next_lt (hb hbf)
  have e1 : iadd .i64 (a : Int) 1 = ((a + 1 : Nat) : Int) := inc64 (by omega)
  have e2 : isub .i64 ((a + 1 : Nat) : Int) 1 = (a : Int) := dec64 (by omega)
  rw [e1, e2]
  refine Tt.bif (fun _ => ?_) (fun _ => ?_)
  · refine Tt.bind (H (a + 1) e (by omega) h2.1) ?_
    rintro ⟨_, x⟩ ⟨a3, e3, rfl, h5, h6, s3, sx, fx⟩
    refine Tt.bind (need_w hl h6 _ (by simp)) ?_
    rintro _ ⟨a4, e4, rfl, h7, h8, s4⟩
    exact Tt.pure ⟨a4, e4, rfl, by omega, h8, fun q => s3 (s4 q), fun q => sx (s4 q), fx⟩
  have leaf : ∀ o : Int, o = 2 ∨ o = 3 → InS l a e (Rd l (a + 1) e, (⟨o, 0, [], []⟩ : M.Expr)) := fun o ho =>
    ⟨a + 1, e, rfl, by omega, h2.1, id, fun _ => node_w (by omega) (by omega) (by omega) (by rcases ho with rfl | rfl <;> rfl) (by simp), Fit.leaf _ _ _⟩
  refine Tt.bif (fun _ => Tt.pure (leaf 2 (.inl rfl))) (fun _ => ?_)
  refine Tt.bif (fun _ => Tt.pure (leaf 3 (.inr rfl))) (fun _ => ?_)
  refine Tt.cond (fun b6 => ?_) true
  refine Tt.bif (fun _ => ?_) (fun _ => ?_)
  · refine Tt.bind (P := fun o => o = 1 ∨ o = 4) (Tt.bif (fun _ => Tt.pure (.inr rfl)) (fun _ => Tt.pure (.inl rfl))) ?_
    intro f1 hf1
    refine Tt.bind (need_w hl (a := a + 1) h2.1 _ (by simp)) ?_
    rintro _ ⟨a4, e4, rfl, h7, h8, s4⟩
    refine Tt.bind (one_w hl h8 (by decide)) ?_
    rintro ⟨_, t⟩ ⟨a5, e5, rfl, h9, h10, s5, st⟩
    refine Tt.bind (need_w hl h10 _ (by simp)) ?_
    rintro _ ⟨a6, e6, rfl, h11, h12, s6⟩
    refine Tt.pure ⟨a6, e6, rfl, by omega, h12, fun q => s4 (s5 (s6 q)), fun q => Shx.mk (by omega) (by omega) (by rcases hf1 with rfl | rfl <;> rfl) ?_ (by simp), Fit.leaf _ _ _⟩
    unfold nodeok
    rw [if_neg (by omega), if_pos hf1]
    obtain ⟨g1, g2⟩ := st (s6 q)
    exact ⟨rfl, (hw _ g2).1 g1⟩
  refine Tt.cond (fun b10 => ?_) true
  refine Tt.bif (fun _ => ?_) (fun _ => bad e)
  refine Tt.bind (P := fun o => o = 9 ∨ o = 10) (Tt.bif (fun _ => Tt.pure (.inr rfl)) (fun _ => Tt.pure (.inl rfl))) ?_
  intro f2 hf2
  refine Tt.bind (need_w hl (a := a + 1) h2.1 _ (by simp)) ?_
  rintro _ ⟨a4, e4, rfl, h7, h8, s4⟩
  refine Tt.bind (P := fun q : List M.Expr × List Token × Int × Int => ∃ (b : Nat) (e' : Int) (x : M.Expr), (⟨q.2.1, q.2.2.1, q.2.2.2⟩ : reader) = Rd l b e' ∧ a4 ≤ b ∧ b ≤ l.length ∧ (e' = 0 → e4 = 0) ∧ (e' = 0 → Shx x) ∧ Fit x ∧ q.1 = [x]) ?_ ?_
  · refine Tt.bind (H a4 e4 (by omega) h8) ?_
    rintro ⟨_, x⟩ ⟨a5, e5, rfl, h9, h10, s5, sx, fx⟩
    refine Tt.step (app_ok (by simp)) ?_
    exact Tt.pure ⟨a5, e5, x, rfl, h9, h10, s5, sx, fx, rfl⟩
  rintro ⟨l1, f3, f4, f5⟩ ⟨a5, e5, x, hq, h9, h10, s5, sx, fx, hl1⟩
  obtain ⟨rfl, rfl, rfl⟩ : f3 = l ∧ f4 = (a5 : Int) ∧ f5 = e5 := by simpa using hq
  obtain rfl : l1 = [x] := hl1
  dsimp only
  refine Tt.bind (need_w hl h10 _ (by simp)) ?_
  rintro _ ⟨a6, e6, rfl, h11, h12, s6⟩
  refine Tt.bind (P := fun q : List M.Expr × List Token × Int × Int => ∃ (b : Nat) (e' : Int) (y : M.Expr), (⟨q.2.1, q.2.2.1, q.2.2.2⟩ : reader) = Rd f3 b e' ∧ a6 ≤ b ∧ b ≤ f3.length ∧ (e' = 0 → e6 = 0) ∧ (e' = 0 → Shx y) ∧ Fit y ∧ q.1 = [x, y]) ?_ ?_
  · refine Tt.bind (H a6 e6 (by omega) h12) ?_
    rintro ⟨_, y⟩ ⟨a7, e7, rfl, h13, h14, s7, sy, fy⟩
    refine Tt.step (app_ok (by simp)) ?_
    exact Tt.pure ⟨a7, e7, y, rfl, h13, h14, s7, sy, fy, rfl⟩
  rintro ⟨l2, f6, f7, f8⟩ ⟨a7, e7, y, hq2, h13, h14, s7, sy, fy, hl2⟩
  obtain ⟨rfl, rfl, rfl⟩ : f6 = f3 ∧ f7 = (a7 : Int) ∧ f8 = e7 := by simpa using hq2
  obtain rfl : l2 = [x, y] := hl2
  dsimp only
  refine Tt.bind (need_w hl h14 _ (by simp)) ?_
  rintro _ ⟨a8, e8, rfl, h15, h16, s8⟩
  exact Tt.pure ⟨a8, e8, rfl, by omega, h16, fun q => s4 (s5 (s6 (s7 (s8 q)))), fun q => bin_w (by omega) (sx (s6 (s7 (s8 q)))) (sy (s8 q)), Fit.two _ _ _ fx fy⟩
theorem atom_all {l : List Token} (hl : l.length ≤ 1000000) (hw : ∀ t, t ∈ l → Wf t) : ∀ (k a : Nat) (e : Int), a ≤ l.length → l.length - a ≤ k → Tt (InS l a e) (fun n => tariff_reader_atom n (Rd l a e))
  | 0, a, e, ha, hk => atom_w hl hw e ha (fun b _ h1 h2 => absurd h1 (by omega))
  | k + 1, a, e, ha, hk => atom_w hl hw e ha (fun b e' h1 h2 => expr_w hl (atom_all hl hw k) b e' h2 (by omega))
theorem expr_all {l : List Token} (hl : l.length ≤ 1000000) (hw : ∀ t, t ∈ l → Wf t) {a : Nat} {e : Int} (ha : a ≤ l.length) : Tt (InS l a e) (fun n => tariff_reader_expr n (Rd l a e)) :=
  expr_w hl (k := l.length - a) (fun a e h1 h2 => atom_all hl hw _ a e h1 h2) a e ha (Nat.le_refl _)
end Go.Proofs.YtpihabofmnnbbaaDoor.Pr
