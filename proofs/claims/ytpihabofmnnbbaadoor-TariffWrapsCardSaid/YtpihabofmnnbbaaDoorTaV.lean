/-
  NAMES, SIZES AND SHAPES: the reference says what the program says.
-/
import Derived.Test.YtpihabofmnnbbaaDoorTaB
namespace Go.Proofs.YtpihabofmnnbbaaDoor.Ta
open Go Rt M

/-! names -/
theorem named1_long {l : List Rt.Bs} (h : ¬ (l.length : Int) ≤ 6) : ∀ (us : List Rt.Bs) (i : Nat), named1 l i us = false
  | [], i => decide_eq_false h
  | s :: us, i => by unfold named1; rw [named1_long h us]; simp
/-! sizes -/
theorem Expr_ind {P : M.Expr → Prop} (h : ∀ (o k : Int) (s : Rt.Bs) (l : List M.Expr), (∀ y, y ∈ l → P y) → P ⟨o, k, s, l⟩) : ∀ x, P x := by
  intro x
  refine M.Expr.rec (motive_1 := P) (motive_2 := fun l => ∀ y, y ∈ l → P y) ?_ ?_ ?_ x
  · exact fun o k s l hl => h o k s l hl
  · exact fun y hy => by cases hy
  · intro y ys h1 h2 z hz
    rcases List.mem_cons.1 hz with rfl | hz
    · exact h1
    · exact h2 z hz
theorem size_L (x : M.Expr) (lv lf : Int) (hlf : lf ≤ 1000000) (hlv : 1 ≤ lv) (hlv2 : lv ≤ 1000) : ∀ (us : List M.Expr) (i : Nat) (nx : Int), x.Args.drop i = us → i ≤ x.Args.length → -1 ≤ nx → nx ≤ lf - 1 - i →
    (∀ y, y ∈ us → ∀ lv lf : Int, 0 ≤ lf → lf ≤ 1000000 → -1 ≤ lv → lv ≤ 1000 → Tt (fun s => -1 ≤ s ∧ s ≤ lf - 1 ∧ (0 ≤ s → Fit y)) (fun n => ref35_size n y lf lv)) →
    ∃ N r, (-1 ≤ r ∧ r ≤ lf - 1 ∧ (0 ≤ r → x.Args.length ≤ 1000000 ∧ ∀ y, y ∈ us → Fit y)) ∧ ∀ n m, N ≤ n → us.length < m → ref35_size_L1 n (ref35_size n) x lv (fun nx3 => some nx3) m nx (i : Int) = some r
  | [], i, nx, hd, hi, h1, h2, _ => by
    have hlen : x.Args.length ≤ i := Rt.drop_nil hd
    refine ⟨0, nx, ⟨h1, by omega, fun h => ⟨by omega, by simp⟩⟩, fun n m _ hm => ?_⟩
    obtain ⟨m, rfl⟩ := left hm
    rw [ref35_size_L1_s, more_no hd]; rfl
  | y :: us, i, nx, hd, hi, h1, h2, H => by
    obtain ⟨g1, g2, g3⟩ := drop_cons hd
    by_cases h0 : 0 ≤ nx
    · obtain ⟨s, ⟨N1, e1⟩, s1, s2, s3⟩ := H y (by simp) (lv - 1) nx h0 (by omega) (by omega) (by omega)
      obtain ⟨N, r, ⟨r1, r2, r3⟩, ih⟩ := size_L x lv lf hlf hlv hlv2 us (i + 1) s g2 (by omega) s1 (by omega) (fun z hz => H z (by simp [hz]))
      refine ⟨max N N1, r, ⟨r1, r2, fun hr => ⟨(r3 hr).1, fun z hz => ?_⟩⟩, fun n m hn hm => ?_⟩
      · rcases List.mem_cons.1 hz with rfl | hz
        · refine s3 ?_
          -- a size below 0 stays
          rcases Int.lt_or_le s 0 with hs | hs
          · exfalso
            have e : s = -1 := by omega
            have := ih (max N N1 + us.length + 2) (us.length + 1) (by omega) (by omega)
            rw [e] at this
            have hstop : ref35_size_L1 (max N N1 + us.length + 2) (ref35_size (max N N1 + us.length + 2)) x lv (fun nx3 => some nx3) (us.length + 1) (-1) ((i + 1 : Nat) : Int) = some (-1) := by
              rw [ref35_size_L1_s]
              cases decide (((i + 1 : Nat) : Int) < (x.Args.length : Int)) <;> rfl
            rw [hstop] at this
            cases this
            omega
          · exact hs
        · exact (r3 hr).2 z hz
      · obtain ⟨m, rfl, hm2⟩ := pred (by simpa using hm)
        have e1 : ref35_size n y nx (lv - 1) = some s := e1 n (by omega)
        rw [ref35_size_L1_s, more_yes hd, cond_true, Option.bind_some, decide_eq_true h0, cond_true, g1, Option.bind_some, isub_i64 (by omega) (by omega), e1, Option.bind_some, inc64 (by omega)]
        exact ih n m (by omega) hm2
    · refine ⟨0, nx, ⟨h1, by omega, fun h => absurd h h0⟩, fun n m _ hm => ?_⟩
      obtain ⟨m, rfl⟩ := left hm
      rw [ref35_size_L1_s, more_yes hd, cond_true, Option.bind_some, decide_eq_false h0]; rfl
theorem size_t : ∀ (x : M.Expr) (lv lf : Int), 0 ≤ lf → lf ≤ 1000000 → -1 ≤ lv → lv ≤ 1000 → Tt (fun s => -1 ≤ s ∧ s ≤ lf - 1 ∧ (0 ≤ s → Fit x)) (fun n => ref35_size n x lf lv) := by
  refine Expr_ind ?_
  intro o k s l ih lv lf h1 h2 h3 h4
  refine Tt.suc (fun n => ref35_size_s n _ _ _) ?_
  refine Tt.bif (fun _ => Tt.pure ⟨by omega, by omega, fun h => by omega⟩) (fun h => ?_)
  have h5 := of_decide_eq_false h
  rw [isub_i64 (by omega) (by omega)]
  obtain ⟨N, r, ⟨r1, r2, r3⟩, hN⟩ := size_L ⟨o, k, s, l⟩ lv lf h2 (by omega) h4 l 0 (lf - 1) rfl (by simp) (by omega) (by omega) ih
  exact ⟨r, ⟨N + l.length + 1, fun n hn => hN n n (by omega) (by omega)⟩, r1, r2, fun h => Fit.mk (r3 h).1 (r3 h).2⟩
theorem FewX_t (x : M.Expr) (a b : Int) (ha : 0 ≤ a) (ha2 : a ≤ 1000000) (hb : 0 ≤ b) (hb2 : b ≤ 1000) : Tt (fun c => c = true → Fit x) (fun n => ref35_Few n x a b) := by
  unfold ref35_Few
  refine Tt.bind (size_t x b a ha ha2 (by omega) hb2) fun s hs => ?_
  exact Tt.pure fun h => hs.2.2 (of_decide_eq_true h)
/-- what the program's count is, by the reference's -/
def Agree (s : Int) (r : Int × Bool) : Prop := (0 ≤ s → r = (s, true)) ∧ (s < 0 → r.2 = false)
theorem both_L (x : M.Expr) (lv lf : Int) (hx : x.Args.length ≤ 1000000) (hlf : lf ≤ 1000000) (hlv : 1 ≤ lv) (hlv2 : lv ≤ 1000) : ∀ (us : List M.Expr) (i : Nat) (nx : Int), x.Args.drop i = us → 0 ≤ nx → nx ≤ lf →
    (∀ y, y ∈ us → ∀ lv lf : Int, 0 ≤ lf → lf ≤ 1000000 → -1 ≤ lv → lv ≤ 1000 → ∃ s r, Ev (fun n => ref35_size n y lf lv) s ∧ Ev (fun n => tariff_sized n y lv lf) r ∧ Agree s r ∧ s ≤ lf - 1) →
    ∃ N s r, Agree s r ∧ s ≤ nx ∧ ∀ n m, N ≤ n → us.length < m → ref35_size_L1 n (ref35_size n) x lv (fun nx3 => some nx3) m nx (i : Int) = some s ∧ tariff_sized_L1 n (tariff_sized n) x lv (fun f2 => some (f2, true)) m (i : Int) nx = some r
  | [], i, nx, hd, h1, h2, _ => by
    refine ⟨0, nx, (nx, true), ⟨fun _ => rfl, fun h => by omega⟩, by omega, fun n m _ hm => ?_⟩
    obtain ⟨m, rfl⟩ := left hm
    rw [ref35_size_L1_s, more_no hd, tariff_sized_L1_s, more_no hd]; exact ⟨rfl, rfl⟩
  | y :: us, i, nx, hd, h1, h2, H => by
    obtain ⟨g1, g2, g3⟩ := drop_cons hd
    obtain ⟨s, ⟨lf', b⟩, ⟨N1, e1⟩, ⟨N2, e2⟩, ⟨A1, A2⟩, hs⟩ := H y (by simp) (lv - 1) nx h1 (by omega) (by omega) (by omega)
    rcases Int.lt_or_le s 0 with h0 | h0
    · have hb : b = false := A2 h0
      subst hb
      refine ⟨max N1 N2, s, (lf', false), ⟨fun h => by omega, fun _ => rfl⟩, by omega, fun n m hn hm => ?_⟩
      obtain ⟨m, rfl, hm2⟩ := pred (by simpa using hm)
      have e1 : ref35_size n y nx (lv - 1) = some s := e1 n (by omega)
      have e2 : tariff_sized n y (lv - 1) nx = some (lf', false) := e2 n (by omega)
      obtain ⟨m', rfl⟩ := left hm2
      constructor
      · rw [ref35_size_L1_s, more_yes hd, cond_true, Option.bind_some, decide_eq_true h1, cond_true, g1, Option.bind_some, isub_i64 (by omega) (by omega), e1, Option.bind_some, inc64 (by omega), ref35_size_L1_s, decide_eq_false (show ¬ 0 ≤ s by omega)]
        cases decide (((i + 1 : Nat) : Int) < (x.Args.length : Int)) <;> rfl
      · rw [tariff_sized_L1_s, more_yes hd, cond_true, g1, Option.bind_some, isub_i64 (by omega) (by omega), e2]; rfl
    · have hb := A1 h0
      simp only [Prod.mk.injEq] at hb
      obtain ⟨rfl, rfl⟩ := hb
      obtain ⟨N, s2, r2, A, hs2, ih⟩ := both_L x lv lf hx hlf hlv hlv2 us (i + 1) lf' g2 h0 (by omega) (fun z hz => H z (by simp [hz]))
      refine ⟨max N (max N1 N2), s2, r2, A, by omega, fun n m hn hm => ?_⟩
      obtain ⟨m, rfl, hm2⟩ := pred (by simpa using hm)
      have e1 : ref35_size n y nx (lv - 1) = some lf' := e1 n (by omega)
      have e2 : tariff_sized n y (lv - 1) nx = some (lf', true) := e2 n (by omega)
      have ih := ih n m (by omega) hm2
      constructor
      · rw [ref35_size_L1_s, more_yes hd, cond_true, Option.bind_some, decide_eq_true h1, cond_true, g1, Option.bind_some, isub_i64 (by omega) (by omega), e1, Option.bind_some, inc64 (by omega)]
        exact ih.1
      · rw [tariff_sized_L1_s, more_yes hd, cond_true, g1, Option.bind_some, isub_i64 (by omega) (by omega), e2, Option.bind_some]
        dsimp only
        rw [Bool.not_true, cond_false, inc64 (by omega)]
        exact ih.2
theorem both_t {x : M.Expr} (hx : Fit x) : ∀ lv lf : Int, 0 ≤ lf → lf ≤ 1000000 → -1 ≤ lv → lv ≤ 1000 → ∃ s r, Ev (fun n => ref35_size n x lf lv) s ∧ Ev (fun n => tariff_sized n x lv lf) r ∧ Agree s r ∧ s ≤ lf - 1 := by
  induction hx with
  | @mk o k s l hl _ ih =>
    intro lv lf h1 h2 h3 h4
    by_cases hlv : lv < 1
    · refine ⟨-1, (lf - 1, false), Ev.suc (fun n => ref35_size_s n _ _ _) (Ev.then (decide_eq_true hlv) (Ev.pure _)), ?_, ⟨fun h => by omega, fun _ => rfl⟩, by omega⟩
      refine Ev.suc (fun n => tariff_sized_s n _ _ _) ?_
      rw [isub_i64 (by omega) (by omega)]
      exact Ev.bind (Ev.then (decide_eq_true hlv) (Ev.pure _)) (Ev.then rfl (Ev.pure _))
    · by_cases hlf : lf - 1 < 0
      · refine ⟨-1, (lf - 1, false), ?_, ?_, ⟨fun h => by omega, fun _ => rfl⟩, by omega⟩
        · refine Ev.suc (fun n => ref35_size_s n _ _ _) (Ev.else (decide_eq_false hlv) ?_)
          rw [isub_i64 (by omega) (by omega)]
          refine ⟨1, fun n hn => ?_⟩
          obtain ⟨m, rfl⟩ := left hn
          show ref35_size_L1 (m + 1) _ _ _ _ (m + 1) _ _ = _
          rw [ref35_size_L1_s, decide_eq_false (show ¬ 0 ≤ lf - 1 by omega), show lf - 1 = -1 by omega]
          cases decide ((0 : Int) < ((⟨o, k, s, l⟩ : M.Expr).Args.length : Int)) <;> rfl
        · refine Ev.suc (fun n => tariff_sized_s n _ _ _) ?_
          rw [isub_i64 (by omega) (by omega)]
          exact Ev.bind (a := true) (Ev.else (decide_eq_false hlv) ((Ev.pure _).eq (decide_eq_true hlf))) (Ev.then rfl (Ev.pure _))
      · obtain ⟨N, s2, r2, A, hs, h⟩ := both_L ⟨o, k, s, l⟩ lv lf hl h2 (by omega) h4 l 0 (lf - 1) rfl (by omega) (by omega) ih
        refine ⟨s2, r2, ?_, ?_, A, by omega⟩
        · refine Ev.suc (fun n => ref35_size_s n _ _ _) (Ev.else (decide_eq_false hlv) ?_)
          rw [isub_i64 (by omega) (by omega)]
          exact ⟨N + l.length + 1, fun n hn => (h n n (by omega) (by omega)).1⟩
        · refine Ev.suc (fun n => tariff_sized_s n _ _ _) ?_
          rw [isub_i64 (x := lf) (by omega) (by omega)]
          refine Ev.bind (a := false) (Ev.else (decide_eq_false hlv) ((Ev.pure _).eq (decide_eq_false hlf))) (Ev.else rfl ?_)
          exact ⟨N + l.length + 1, fun n hn => (h n n (by omega) (by omega)).2⟩
/-- both say whether an expression is too great -/
theorem few_2 {x : M.Expr} (hx : Fit x) : ∃ (b : Bool) (z : Int), Ev (fun n => tariff_sized n x 10 100) (z, b) ∧ Ev (fun n => ref35_Few n x 100 10) b := by
  obtain ⟨s, ⟨z, b⟩, h1, h2, ⟨A1, A2⟩, _⟩ := both_t hx 10 100 (by decide) (by decide) (by decide) (by decide)
  refine ⟨b, z, h2, ?_⟩
  unfold ref35_Few
  refine Ev.bind h1 ((Ev.pure _).eq ?_)
  rcases Int.lt_or_le s 0 with h0 | h0
  · rw [decide_eq_false (by omega)]; exact (A2 h0).symm
  · have := A1 h0
    simp only [Prod.mk.injEq] at this
    rw [decide_eq_true h0]; exact this.2.symm
end Go.Proofs.YtpihabofmnnbbaaDoor.Ta
