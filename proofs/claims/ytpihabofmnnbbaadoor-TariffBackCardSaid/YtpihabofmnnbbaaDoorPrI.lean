/-
  PARSE: what it returns can be written, or is nothing, with an error within the text.
-/
import Derived.Test.YtpihabofmnnbbaaDoorPrH
import Derived.Test.YtpihabofmnnbbaaDoorMirC
namespace Go.Proofs.YtpihabofmnnbbaaDoor.Pr
open Go Rt M Ta Tp

theorem need1_n {l : List Token} {a : Nat} {e : Int} (s : Rt.Bs) (hl : l.length ≤ 1000000) (ha : a ≤ l.length) : Ev (fun n => tariff_reader_need n (Rd l a e) [s]) (Rd l (bif isT l a e s then a + 1 else a) (bif isT l a e s then e else failE e 12)) := by
  refine ⟨2, fun n hn => ?_⟩
  obtain ⟨m, rfl⟩ : ∃ m, n = m + 2 := ⟨n - 2, by omega⟩
  show tariff_reader_need_L1 (m + 2) [s] _ (m + 1 + 1) ((0 : Nat) : Int) l (a : Int) e = _
  rw [tariff_reader_need_L1_s, show decide (((0 : Nat) : Int) < (([s] : List Rt.Bs).length : Int)) = true from rfl, cond_true, show ix [s] ((0 : Nat) : Int) = some s from rfl, Option.bind_some, take_n _ s hl ha, Option.bind_some]
  cases h : isT l a e s with
  | false =>
    dsimp only
    rw [Bool.not_false, cond_true, cond_false, fail_n, Option.bind_some, inc64 (by omega), tariff_reader_need_L1_s, show decide (((0 + 1 : Nat) : Int) < (([s] : List Rt.Bs).length : Int)) = false from rfl]; rfl
  | true =>
    dsimp only
    rw [Bool.not_true, cond_false, cond_true, inc64 (by omega), tariff_reader_need_L1_s, show decide (((0 + 1 : Nat) : Int) < (([s] : List Rt.Bs).length : Int)) = false from rfl]; rfl
abbrev zeroT : Tariff := ⟨[], ⟨0, 0, [], []⟩, 0⟩
def PQ (s : Rt.Bs) (r : Tariff × Int × Int) : Prop := (r.2.2 = 0 → r.2.1 = 0 ∧ Wrt r.1 ∧ Fit r.1.Fee) ∧ (r.2.2 ≠ 0 → r.1 = zeroT ∧ 0 ≤ r.2.1 ∧ r.2.1 ≤ (s.length : Int))
theorem Parse_w {s : Rt.Bs} (hs : s.length ≤ 1000000) : Tt (PQ s) (fun n => tariff_Parse n s) := by
  unfold tariff_Parse
  refine Tt.evb (Scan_ev hs) ?_
  have hl : (Lx.scan s).1.length ≤ 1000000 := Nat.le_trans (scan_len s) hs
  have hwf := scan_wf s
  generalize Lx.scan s = sc at hl hwf ⊢
  obtain ⟨l, at_, e⟩ := sc
  dsimp only at hl hwf ⊢
  obtain ⟨hw, hat⟩ := hwf
  refine Tt.bif (fun he => Tt.pure ⟨fun h => (by dsimp only at h; rw [h] at he; cases he), fun _ => ⟨rfl, by dsimp only; omega, by dsimp only; omega⟩⟩) (fun _ => ?_)
  refine Tt.bind (need_w hl (a := 0) (e := 0) (by omega) _ (by simp)) ?_
  rintro _ ⟨a1, e1, rfl, _, h1, s1⟩
  refine Tt.bind (one_w hl h1 (by decide)) ?_
  rintro ⟨_, t⟩ ⟨a2, e2, rfl, _, h2, s2, st⟩
  refine Tt.bind (need_w hl h2 _ (by simp)) ?_
  rintro _ ⟨a3, e3, rfl, _, h3, s3⟩
  refine Tt.bind (expr_all hl (fun t ht => (hw t ht).1) h3) ?_
  rintro ⟨_, x⟩ ⟨a4, e4, rfl, _, h4, s4, sx, fx⟩
  refine Tt.evb (Ev.all fun n => is_n n _ h4) ?_
  dsimp only at fx sx ⊢
  refine Tt.bind (P := fun q : Bool × Int => isT l a4 e4 [59] = true → q.1 = false → dep x ≤ 10 ∧ cnt x ≤ 100) (Tt.bif (fun _ => ?_) (fun h => Tt.pure fun h2 => (by rw [h2] at h; cases h))) ?_
  · refine Tt.bind (sized_x fx 10 100 (by decide) (by decide)) ?_
    rintro ⟨z, b⟩ hz
    exact Tt.pure fun _ hb => (by
      have := hz.1 (by simpa using hb)
      exact ⟨this.1, this.2.1⟩)
  rintro ⟨v7, w⟩ hv7
  dsimp only at hv7 ⊢
  refine Tt.bind (P := fun q : List Token × Int × Int => ∃ e', (⟨q.1, q.2.1, q.2.2⟩ : reader) = Rd l a4 e' ∧ (e' = 0 → e4 = 0 ∧ v7 = false)) (Tt.bif (fun _ => ?_) (fun h => Tt.pure ⟨e4, rfl, fun h0 => ⟨h0, h⟩⟩)) ?_
  · exact Tt.evb (Ev.all fun n => fail_n n l a4 e4 6) (Tt.pure ⟨_, rfl, fun h0 => absurd h0 (fail_ne (by decide))⟩)
  rintro ⟨f1, f2, f3⟩ ⟨e5, hq, s5⟩
  obtain ⟨rfl, rfl, rfl⟩ : f1 = l ∧ f2 = (a4 : Int) ∧ f3 = e5 := by simpa using hq
  dsimp only
  refine Tt.evb (need1_n (e := f3) [59] hl h4) ?_
  have s6 : (bif isT f1 a4 f3 [59] then f3 else failE f3 12) = 0 → f3 = 0 ∧ isT f1 a4 f3 [59] = true := by
    cases isT f1 a4 f3 [59] with
    | false => exact fun h => absurd h (fail_ne (by decide))
    | true => exact fun h => ⟨h, rfl⟩
  have h6 : (bif isT f1 a4 f3 [59] then a4 + 1 else a4) ≤ f1.length := by
    cases h : isT f1 a4 f3 [59] with
    | false => exact h4
    | true => exact (isT_lt h).1
  generalize (bif isT f1 a4 f3 [59] then a4 + 1 else a4) = a6 at h6 ⊢
  generalize (bif isT f1 a4 f3 [59] then f3 else failE f3 12) = e6 at s6 ⊢
  refine Tt.bind (take_w _ hl h6) ?_
  rintro ⟨_, b⟩ ⟨a7, e7, rfl, _, h7, s7⟩
  refine Tt.bind (P := fun q : Int × List Token × Int × Int => InE f1 a7 e7 ⟨q.2.1, q.2.2.1, q.2.2.2⟩ ∧ (q.2.2.2 = 0 → -1 ≤ q.1 ∧ q.1 ≤ 1099511627776)) (Tt.bif (fun _ => ?_) (fun _ => Tt.pure ⟨⟨a7, e7, rfl, Nat.le_refl _, h7, id⟩, fun _ => (show (-1 : Int) ≤ -1 ∧ (-1 : Int) ≤ 1099511627776 by decide)⟩)) ?_
  · refine Tt.bind (need_w hl h7 _ (by simp)) ?_
    rintro _ ⟨a8, e8, rfl, h71, h8, s8⟩
    refine Tt.bind (one_w hl h8 (by decide)) ?_
    rintro ⟨_, t2⟩ ⟨a9, e9, rfl, h81, h9, s9, st2⟩
    refine Tt.bind (need_w hl h9 _ (by simp)) ?_
    rintro _ ⟨a10, e10, rfl, h91, h10, s10⟩
    refine Tt.pure ⟨⟨a10, e10, rfl, by omega, h10, fun q => s8 (s9 (s10 q))⟩, fun q => ?_⟩
    obtain ⟨g1, g2⟩ := st2 (s10 q)
    have := (hw _ g2).1.2 g1
    dsimp only at this ⊢
    omega
  rintro ⟨f5, f6, f7, f8⟩ ⟨⟨a8, e8, hq8, _, h8, s8⟩, hcap⟩
  obtain ⟨rfl, rfl, rfl⟩ : f6 = f1 ∧ f7 = (a8 : Int) ∧ f8 = e8 := by simpa using hq8
  dsimp only at hcap ⊢
  refine Tt.bind (need_w hl h8 _ (by simp)) ?_
  rintro _ ⟨a9, e9, rfl, _, h9, s9⟩
  refine Tt.bind (P := fun q : List Token × Int × Int => q.2.1 = (a9 : Int) ∧ (q.2.2 = 0 → e9 = 0)) (Tt.bif (fun _ => ?_) (fun _ => Tt.pure ⟨rfl, id⟩)) ?_
  · exact Tt.evb (Ev.all fun n => fail_n n f6 a9 e9 12) (Tt.pure ⟨rfl, fun h0 => absurd h0 (fail_ne (by decide))⟩)
  rintro ⟨g1, g2, g3⟩ ⟨rfl, s10⟩
  dsimp only at s10 ⊢
  refine Tt.bif (fun hz => Tt.pure ⟨fun _ => ⟨rfl, ?_, fx⟩, fun h => absurd rfl h⟩) (fun hnz => ?_)
  · have z9 := s10 (by simpa using hz)
    have z8 := s9 z9
    have z6 := s7 (s8 z8)
    obtain ⟨z5, i5⟩ := s6 z6
    obtain ⟨z4, iv⟩ := s5 z5
    rw [z5, ← z4] at i5
    have hd := hv7 i5 iv
    obtain ⟨k1, k2⟩ := st (s3 (s4 z4))
    exact ⟨(hw _ k2).1.1 k1, ⟨hd, sx z4⟩, hcap z8⟩
  have hne : g3 ≠ 0 := by simpa using hnz
  refine Tt.bif (fun h => ?_) (fun _ => Tt.pure ⟨fun h => absurd h hne, fun _ => ⟨rfl, by dsimp only; omega, by dsimp only; omega⟩⟩)
  have hlt := of_decide_eq_true h
  have hm := hw _ (List.getElem_mem (l := f6) (n := a9) (by omega))
  refine Tt.step (ix_some (l := f6) (i := a9) (by omega)) (Tt.pure ⟨fun h => absurd h hne, fun _ => ⟨rfl, hm.2.1, hm.2.2⟩⟩)
theorem Same_L (x : M.Expr) (hx : x.Args.length ≤ 1000000) (kont : Option Bool) : ∀ (us : List M.Expr) (i : Nat), x.Args.drop i = us → (∀ y, y ∈ us → Ev (fun n => ref35_Same n y y) true) →
    ∃ N, ∀ n m, N ≤ n → us.length < m → ref35_Same_L1 n (ref35_Same n) x x kont m (i : Int) = kont
  | [], i, hd, _ => by
    refine ⟨0, fun n m _ hm => ?_⟩
    obtain ⟨m, rfl⟩ := left hm
    rw [ref35_Same_L1_s, more_no hd]; rfl
  | y :: us, i, hd, H => by
    obtain ⟨h1, h2, h3⟩ := Rt.drop_cons hd
    obtain ⟨N1, e1⟩ := H y (by simp)
    obtain ⟨N, ih⟩ := Same_L x hx kont us (i + 1) h2 (fun z hz => H z (by simp [hz]))
    refine ⟨max N N1, fun n m hn hm => ?_⟩
    obtain ⟨m, rfl, hm2⟩ := pred (by simpa using hm)
    have e1 : ref35_Same n y y = some true := e1 n (by omega)
    rw [ref35_Same_L1_s, more_yes hd, cond_true, h1, Option.bind_some, Option.bind_some, e1, Option.bind_some, Bool.not_true, cond_false, inc64 (by omega)]
    exact ih n m (by omega) hm2
theorem Same_ev {x : M.Expr} (hx : Fit x) : Ev (fun n => ref35_Same n x x) true := by
  induction hx with
  | @mk o k s l hl _ ih =>
    refine Ev.suc (fun n => ref35_Same_s n _ _) ?_
    dsimp only
    refine or_pure (by simp) (by simp) (or_pure rfl (by simp) (or_pure rfl (by simp) (Ev.else rfl ?_)))
    obtain ⟨N, h⟩ := Same_L ⟨o, k, s, l⟩ hl (some true) l 0 rfl ih
    exact ⟨N + l.length + 1, fun n hn => h n n (by omega) (by omega)⟩
theorem SameT_ev {t : Tariff} (hx : Fit t.Fee) : Ev (fun n => ref35_SameTariff n t t) true := by
  unfold ref35_SameTariff
  exact and_pure (by simp) (by simp) (and_call rfl (Same_ev hx) (Ev.pure _))
end Go.Proofs.YtpihabofmnnbbaaDoor.Pr
