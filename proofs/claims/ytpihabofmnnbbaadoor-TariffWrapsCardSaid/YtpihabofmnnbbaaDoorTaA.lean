/-
  READING A TARIFF: the reader's functions always answer, and stay within the tokens.
-/
import Derived.Test.YtpihabofmnnbbaaDoorTt
import Derived.Test.YtpihabofmnnbbaaDoorLxEq
import Derived.Test.YtpihabofmnnbbaaDoorMirF
namespace Go.Proofs.YtpihabofmnnbbaaDoor.Ta
open Go Rt M

/-- expressions with no more Args than fit -/
inductive Fit : M.Expr → Prop
  | mk {o n : Int} {s : Rt.Bs} {l : List M.Expr} : l.length ≤ 1000000 → (∀ y, y ∈ l → Fit y) → Fit ⟨o, n, s, l⟩
theorem Fit.leaf (o n : Int) (s : Rt.Bs) : Fit ⟨o, n, s, []⟩ := Fit.mk (by simp) (by simp)
theorem Fit.one {x : M.Expr} (o n : Int) (s : Rt.Bs) (h : Fit x) : Fit ⟨o, n, s, [x]⟩ := Fit.mk (by simp) (by simpa using h)
theorem Fit.two {x y : M.Expr} (o n : Int) (s : Rt.Bs) (h : Fit x) (h2 : Fit y) : Fit ⟨o, n, s, [x, y]⟩ := Fit.mk (by simp) (by simp [h, h2])
theorem Fit.three {x y z : M.Expr} (o n : Int) (s : Rt.Bs) (h : Fit x) (h2 : Fit y) (h3 : Fit z) : Fit ⟨o, n, s, [x, y, z]⟩ := Fit.mk (by simp) (by simp [h, h2, h3])

abbrev Rd (l : List Token) (a : Nat) (e : Int) : reader := ⟨l, (a : Int), e⟩
def endT : Token := ⟨4, [], 0, 0⟩
def nextT (l : List Token) (a : Nat) (e : Int) : Token := if e = 0 then (l[a]?).getD endT else endT
theorem next_n (n : Nat) {l : List Token} {a : Nat} {e : Int} (ha : a ≤ l.length) : tariff_reader_next n (Rd l a e) = some (Rd l a e, nextT l a e) := by
  unfold tariff_reader_next nextT
  by_cases he : e = 0
  · subst he
    rw [if_pos rfl]
    by_cases h : a = l.length
    · have e1 : (((a : Int)) == (l.length : Int)) = true := by simp [h]
      have e2 : l[a]? = none := by simp [h]
      show (Option.bind (some ((a : Int) == (l.length : Int))) _) = _
      rw [e1, e2]; rfl
    · have e1 : (((a : Int)) == (l.length : Int)) = false := by simp; omega
      have e2 : l[a]? = some l[a] := List.getElem?_eq_getElem (by omega)
      show (Option.bind (some ((a : Int) == (l.length : Int))) _) = _
      rw [e1, Option.bind_some, cond_false]
      show (ix l (a : Int)).bind _ = _
      rw [ix_nat, e2]; rfl
  · have e1 : (e != 0) = true := by simpa using he
    rw [if_neg he]
    show Option.bind (bif e != 0 then some true else _) _ = _
    rw [e1]; rfl
def isT (l : List Token) (a : Nat) (e : Int) (s : Rt.Bs) : Bool := (nextT l a e).Text == s && ((nextT l a e).Kind == 0 || (nextT l a e).Kind == 3)
theorem is_n (n : Nat) {l : List Token} {a : Nat} {e : Int} (s : Rt.Bs) (ha : a ≤ l.length) : tariff_reader_is n (Rd l a e) s = some (Rd l a e, isT l a e s) := by
  unfold tariff_reader_is isT
  rw [next_n n ha, Option.bind_some]
  dsimp only
  cases (nextT l a e).Text == s <;> cases (nextT l a e).Kind == 0 <;> rfl
theorem next_lt {l : List Token} {a : Nat} {e : Int} (h : (nextT l a e).Kind ≠ 4) : a < l.length ∧ e = 0 := by
  unfold nextT at h
  split at h
  · rename_i he
    refine ⟨?_, he⟩
    rcases Nat.lt_or_ge a l.length with h1 | h1
    · exact h1
    · rw [List.getElem?_eq_none h1] at h; exact absurd rfl h
  · exact absurd rfl h
theorem isT_lt {l : List Token} {a : Nat} {e : Int} {s : Rt.Bs} (h : isT l a e s = true) : a < l.length ∧ e = 0 := by
  refine next_lt fun h2 => ?_
  unfold isT at h
  rw [h2] at h
  simp at h
theorem take_n (n : Nat) {l : List Token} {a : Nat} {e : Int} (s : Rt.Bs) (hl : l.length ≤ 1000000) (ha : a ≤ l.length) : tariff_reader_take n (Rd l a e) s = some (Rd l (bif isT l a e s then a + 1 else a) e, isT l a e s) := by
  unfold tariff_reader_take
  rw [is_n n s ha, Option.bind_some]
  dsimp only
  cases h : isT l a e s with
  | false => rfl
  | true => rw [cond_true, Option.bind_some, inc64 (by omega)]; rfl
def failE (e x : Int) : Int := if e = 0 then x else e
theorem fail_n (n : Nat) (l : List Token) (a : Nat) (e x : Int) : tariff_reader_fail n (Rd l a e) x = some (Rd l a (failE e x)) := by
  unfold tariff_reader_fail failE
  by_cases he : e = 0
  · subst he; rfl
  · have e1 : (e == 0) = false := by simpa using he
    rw [if_neg he]
    show (bif e == 0 then _ else _) = _
    rw [e1]; rfl

def InR (l : List Token) (a : Nat) (r : reader) : Prop := ∃ (b : Nat) (e : Int), r = Rd l b e ∧ a ≤ b ∧ b ≤ l.length
def InX (l : List Token) (a : Nat) (p : reader × M.Expr) : Prop := InR l a p.1 ∧ Fit p.2
theorem InR.here {l : List Token} {a : Nat} {e : Int} (h : a ≤ l.length) : InR l a (Rd l a e) := ⟨a, e, rfl, Nat.le_refl _, h⟩
theorem InR.from {l : List Token} {a b : Nat} {r : reader} (h : InR l b r) (hab : a ≤ b) : InR l a r := by
  obtain ⟨c, e, h1, h2, h3⟩ := h
  exact ⟨c, e, h1, by omega, h3⟩

theorem take_t {l : List Token} {a : Nat} {e : Int} (s : Rt.Bs) (hl : l.length ≤ 1000000) (ha : a ≤ l.length) : Tt (fun p => InR l a p.1) (fun n => tariff_reader_take n (Rd l a e) s) := by
  refine Tt.all (fun n => take_n n s hl ha) ?_
  cases h : isT l a e s with
  | false => exact InR.here ha
  | true => exact ⟨a + 1, e, rfl, by omega, (isT_lt h).1⟩
theorem need_L {l : List Token} (hl : l.length ≤ 1000000) (ws : List Rt.Bs) (hw : ws.length ≤ 1000) : ∀ (us : List Rt.Bs) (i a : Nat) (e : Int), ws.drop i = us → a ≤ l.length →
    ∃ r, InR l a r ∧ ∀ n m, us.length < m → tariff_reader_need_L1 n ws (fun f4 f5 f6 => some (⟨f4, f5, f6⟩ : reader)) m (i : Int) l (a : Int) e = some r
  | [], i, a, e, hd, ha => by
    refine ⟨Rd l a e, InR.here ha, fun n m hm => ?_⟩
    obtain ⟨m, rfl⟩ : ∃ k, m = k + 1 := ⟨m - 1, by simp at hm; omega⟩
    rw [tariff_reader_need_L1_s, more_no hd]; rfl
  | u :: us, i, a, e, hd, ha => by
    obtain ⟨h1, h2, h3⟩ := drop_cons hd
    cases h : isT l a e u with
    | false =>
      obtain ⟨r, hr, ih⟩ := need_L hl ws hw us (i + 1) a (failE e 12) h2 ha
      refine ⟨r, hr, fun n m hm => ?_⟩
      obtain ⟨m, rfl⟩ : ∃ k, m = k + 1 := ⟨m - 1, by simp only [List.length_cons] at hm; omega⟩
      rw [tariff_reader_need_L1_s, more_yes hd, cond_true, h1, Option.bind_some, take_n n u hl ha, Option.bind_some, h]
      dsimp only
      rw [Bool.not_false, cond_true, cond_false, fail_n, Option.bind_some, inc64 (by omega)]
      exact ih n m (by simp only [List.length_cons] at hm; omega)
    | true =>
      have h4 := isT_lt h
      obtain ⟨r, hr, ih⟩ := need_L hl ws hw us (i + 1) (a + 1) e h2 h4.1
      refine ⟨r, hr.from (by omega), fun n m hm => ?_⟩
      obtain ⟨m, rfl⟩ : ∃ k, m = k + 1 := ⟨m - 1, by simp only [List.length_cons] at hm; omega⟩
      rw [tariff_reader_need_L1_s, more_yes hd, cond_true, h1, Option.bind_some, take_n n u hl ha, Option.bind_some, h]
      dsimp only
      rw [Bool.not_true, cond_false, cond_true, inc64 (by omega)]
      exact ih n m (by simp only [List.length_cons] at hm; omega)
theorem need_t {l : List Token} (hl : l.length ≤ 1000000) {a : Nat} {e : Int} (ha : a ≤ l.length) (ws : List Rt.Bs) (hw : ws.length ≤ 1000) : Tt (InR l a) (fun n => tariff_reader_need n (Rd l a e) ws) := by
  obtain ⟨r, hr, ih⟩ := need_L hl ws hw ws 0 a e rfl ha
  exact ⟨r, ⟨ws.length + 1, fun n hn => ih n n (by omega)⟩, hr⟩
theorem one_t {l : List Token} (hl : l.length ≤ 1000000) {a : Nat} {e : Int} (ha : a ≤ l.length) {k : Int} (hk : k ≠ 4) : Tt (fun p => InR l a p.1) (fun n => tariff_reader_one n (Rd l a e) k) := by
  unfold tariff_reader_one
  refine Tt.evb (Ev.all fun n => next_n n ha) ?_
  refine Tt.bif (fun h => ?_) (fun h => ?_)
  · exact Tt.evb (Ev.all fun n => fail_n n l a e 12) (Tt.pure (InR.here ha))
  · have h1 : (nextT l a e).Kind = k := by simpa using h
    have h2 := next_lt (by rw [h1]; exact hk)
    refine Tt.pure ⟨a + 1, e, ?_, by omega, h2.1⟩
    dsimp only
    rw [inc64 (by omega)]

theorem expr_of {l : List Token} (hl : l.length ≤ 1000000) {k : Nat} (H : ∀ (a : Nat) (e : Int), a ≤ l.length → l.length - a ≤ k → Tt (InX l a) (fun n => tariff_reader_atom n (Rd l a e))) (a : Nat) (e : Int) (ha : a ≤ l.length) (hk : l.length - a ≤ k) :
    Tt (InX l a) (fun n => tariff_reader_expr n (Rd l a e)) := by
  refine Tt.suc (fun n => tariff_reader_expr_s n _) ?_
  refine Tt.bind (take_t _ hl ha) ?_
  rintro ⟨_, b⟩ ⟨a1, e1, rfl, h1, h2⟩
  refine Tt.bif (fun _ => ?_) (fun _ => ?_)
  · refine Tt.bind (H a1 e1 h2 (by omega)) ?_
    rintro ⟨_, x⟩ ⟨⟨a2, e2, rfl, h3, h4⟩, fx⟩
    exact Tt.pure ⟨⟨a2, e2, rfl, by omega, h4⟩, Fit.one _ _ _ fx⟩
  refine Tt.bind (take_t _ hl h2) ?_
  rintro ⟨_, b2⟩ ⟨a2, e2, rfl, h3, h4⟩
  refine Tt.bif (fun _ => ?_) (fun _ => ?_)
  · refine Tt.bind (H a2 e2 h4 (by omega)) ?_
    rintro ⟨_, x⟩ ⟨⟨a3, e3, rfl, h5, h6⟩, fx⟩
    refine Tt.bind (need_t hl h6 _ (by simp)) ?_
    rintro _ ⟨a4, e4, rfl, h7, h8⟩
    refine Tt.bind (H a4 e4 h8 (by omega)) ?_
    rintro ⟨_, y⟩ ⟨⟨a5, e5, rfl, h9, h10⟩, fy⟩
    refine Tt.bind (need_t hl h10 _ (by simp)) ?_
    rintro _ ⟨a6, e6, rfl, h11, h12⟩
    refine Tt.bind (H a6 e6 h12 (by omega)) ?_
    rintro ⟨_, z⟩ ⟨⟨a7, e7, rfl, h13, h14⟩, fz⟩
    exact Tt.pure ⟨⟨a7, e7, rfl, by omega, h14⟩, Fit.three _ _ _ fx fy fz⟩
  refine Tt.bind (H a2 e2 h4 (by omega)) ?_
  rintro ⟨_, x⟩ ⟨⟨a3, e3, rfl, h5, h6⟩, fx⟩
  refine Tt.evb (Ev.all fun n => next_n n h6) ?_
  refine Tt.evb (Ev.all fun n => rfl) ?_
  refine Tt.bind (P := fun q : Bool × List Token × Int × Int => InR l a3 ⟨q.2.1, q.2.2.1, q.2.2.2⟩) ?_ ?_
  · refine Tt.bif (fun _ => Tt.pure (InR.here h6)) (fun _ => ?_)
    refine Tt.bind (take_t _ hl h6) ?_
    rintro ⟨_, b3⟩ ⟨a4, e4, rfl, h7, h8⟩
    exact Tt.pure ⟨a4, e4, rfl, by omega, h8⟩
  rintro ⟨v, f1, f2, f3⟩ ⟨a4, e4, hq, h7, h8⟩
  obtain ⟨rfl, rfl, rfl⟩ : f1 = l ∧ f2 = (a4 : Int) ∧ f3 = e4 := by simpa using hq
  dsimp only
  refine Tt.bif (fun _ => ?_) (fun _ => ?_)
  · exact Tt.pure ⟨⟨a4, f3, rfl, by omega, h8⟩, fx⟩
  refine Tt.bind (H a4 f3 h8 (by omega)) ?_
  rintro ⟨_, y⟩ ⟨⟨a5, e5, rfl, h9, h10⟩, fy⟩
  exact Tt.pure ⟨⟨a5, e5, rfl, by omega, h10⟩, Fit.two _ _ _ fx fy⟩
theorem atom_of {l : List Token} (hl : l.length ≤ 1000000) {a : Nat} (e : Int) (ha : a ≤ l.length) (H : ∀ (b : Nat) (e : Int), a < b → b ≤ l.length → Tt (InX l b) (fun n => tariff_reader_expr n (Rd l b e))) :
    Tt (InX l a) (fun n => tariff_reader_atom n (Rd l a e)) := by
  refine Tt.suc (fun n => tariff_reader_atom_s n _) ?_
  refine Tt.evb (Ev.all fun n => next_n n ha) ?_
  dsimp only
  refine Tt.bif (fun h => ?_) (fun _ => ?_)
  · have h2 := next_lt (e := e) (by rw [show (nextT l a e).Kind = 1 by simpa using h]; decide)
    rw [inc64 (by omega)]
    exact Tt.pure ⟨⟨a + 1, e, rfl, by omega, h2.1⟩, Fit.leaf _ _ _⟩
  refine Tt.bind (P := fun b => b = false → (nextT l a e).Kind ≠ 4) ?_ ?_
  · refine Tt.bif (fun _ => Tt.pure fun h => ?_) (fun h => Tt.pure fun _ => ?_)
    · rw [show (nextT l a e).Kind = 3 by simpa using h]; decide
    · rw [show (nextT l a e).Kind = 0 by simpa using h]; decide
  intro b hb
  refine Tt.bif (fun _ => ?_) (fun hbf => ?_)
  · exact Tt.evb (Ev.all fun n => fail_n n l a e 12) (Tt.pure ⟨InR.here ha, Fit.leaf _ _ _⟩)
  have h2 := next_lt (hb hbf)
  have e1 : iadd .i64 (a : Int) 1 = ((a + 1 : Nat) : Int) := inc64 (by omega)
  have e2 : isub .i64 ((a + 1 : Nat) : Int) 1 = (a : Int) := dec64 (by omega)
  rw [e1, e2]
  refine Tt.bif (fun _ => ?_) (fun _ => ?_)
  · refine Tt.bind (H (a + 1) e (by omega) h2.1) ?_
    rintro ⟨_, x⟩ ⟨⟨a3, e3, rfl, h5, h6⟩, fx⟩
    refine Tt.bind (need_t hl h6 _ (by simp)) ?_
    rintro _ ⟨a4, e4, rfl, h7, h8⟩
    exact Tt.pure ⟨⟨a4, e4, rfl, by omega, h8⟩, fx⟩
  refine Tt.bif (fun _ => Tt.pure ⟨⟨a + 1, e, rfl, by omega, h2.1⟩, Fit.leaf _ _ _⟩) (fun _ => ?_)
  refine Tt.bif (fun _ => Tt.pure ⟨⟨a + 1, e, rfl, by omega, h2.1⟩, Fit.leaf _ _ _⟩) (fun _ => ?_)
  refine Tt.cond (fun b6 => ?_) true
  refine Tt.bif (fun _ => ?_) (fun _ => ?_)
  · refine Tt.bind (P := fun _ => True) (Tt.bif (fun _ => Tt.pure trivial) (fun _ => Tt.pure trivial)) ?_
    intro f1 _
    refine Tt.bind (need_t hl (a := a + 1) h2.1 _ (by simp)) ?_
    rintro _ ⟨a4, e4, rfl, h7, h8⟩
    refine Tt.bind (one_t hl h8 (by decide)) ?_
    rintro ⟨_, t⟩ ⟨a5, e5, rfl, h9, h10⟩
    refine Tt.bind (need_t hl h10 _ (by simp)) ?_
    rintro _ ⟨a6, e6, rfl, h11, h12⟩
    exact Tt.pure ⟨⟨a6, e6, rfl, by omega, h12⟩, Fit.leaf _ _ _⟩
  refine Tt.cond (fun b10 => ?_) true
  refine Tt.bif (fun _ => ?_) (fun _ => ?_)
  · refine Tt.bind (P := fun _ => True) (Tt.bif (fun _ => Tt.pure trivial) (fun _ => Tt.pure trivial)) ?_
    intro f2 _
    refine Tt.bind (need_t hl (a := a + 1) h2.1 _ (by simp)) ?_
    rintro _ ⟨a4, e4, rfl, h7, h8⟩
    refine Tt.bind (P := fun q : List M.Expr × List Token × Int × Int => InR l a4 ⟨q.2.1, q.2.2.1, q.2.2.2⟩ ∧ ∃ x, Fit x ∧ q.1 = [x]) ?_ ?_
    · refine Tt.bind (H a4 e4 (by omega) h8) ?_
      rintro ⟨_, x⟩ ⟨⟨a5, e5, rfl, h9, h10⟩, fx⟩
      refine Tt.step (app_ok (by simp)) ?_
      exact Tt.pure ⟨⟨a5, e5, rfl, h9, h10⟩, x, fx, rfl⟩
    rintro ⟨l1, f3, f4, f5⟩ ⟨⟨a5, e5, hq, h9, h10⟩, x, fx, hl1⟩
    obtain ⟨rfl, rfl, rfl⟩ : f3 = l ∧ f4 = (a5 : Int) ∧ f5 = e5 := by simpa using hq
    obtain rfl : l1 = [x] := hl1
    dsimp only
    refine Tt.bind (need_t hl h10 _ (by simp)) ?_
    rintro _ ⟨a6, e6, rfl, h11, h12⟩
    refine Tt.bind (P := fun q : List M.Expr × List Token × Int × Int => InR f3 a6 ⟨q.2.1, q.2.2.1, q.2.2.2⟩ ∧ ∃ y, Fit y ∧ q.1 = [x, y]) ?_ ?_
    · refine Tt.bind (H a6 e6 (by omega) h12) ?_
      rintro ⟨_, y⟩ ⟨⟨a7, e7, rfl, h13, h14⟩, fy⟩
      refine Tt.step (app_ok (by simp)) ?_
      exact Tt.pure ⟨⟨a7, e7, rfl, h13, h14⟩, y, fy, rfl⟩
    rintro ⟨l2, f6, f7, f8⟩ ⟨⟨a7, e7, hq2, h13, h14⟩, y, fy, hl2⟩
    obtain ⟨rfl, rfl, rfl⟩ : f6 = f3 ∧ f7 = (a7 : Int) ∧ f8 = e7 := by simpa using hq2
    obtain rfl : l2 = [x, y] := hl2
    dsimp only
    refine Tt.bind (need_t hl h14 _ (by simp)) ?_
    rintro _ ⟨a8, e8, rfl, h15, h16⟩
    exact Tt.pure ⟨⟨a8, e8, rfl, by omega, h16⟩, Fit.two _ _ _ fx fy⟩
  · exact Tt.evb (Ev.all fun n => fail_n n l a e 12) (Tt.pure ⟨InR.here ha, Fit.leaf _ _ _⟩)
theorem atom_t {l : List Token} (hl : l.length ≤ 1000000) : ∀ (k a : Nat) (e : Int), a ≤ l.length → l.length - a ≤ k → Tt (InX l a) (fun n => tariff_reader_atom n (Rd l a e))
  | 0, a, e, ha, hk => atom_of hl e ha (fun b _ h1 h2 => absurd h1 (by omega))
  | k + 1, a, e, ha, hk => atom_of hl e ha (fun b e' h1 h2 => expr_of hl (atom_t hl k) b e' h2 (by omega))
theorem expr_t {l : List Token} (hl : l.length ≤ 1000000) {a : Nat} {e : Int} (ha : a ≤ l.length) : Tt (InX l a) (fun n => tariff_reader_expr n (Rd l a e)) :=
  expr_of hl (k := l.length - a) (fun a e h1 h2 => atom_t hl _ a e h1 h2) a e ha (Nat.le_refl _)
end Go.Proofs.YtpihabofmnnbbaaDoor.Ta
