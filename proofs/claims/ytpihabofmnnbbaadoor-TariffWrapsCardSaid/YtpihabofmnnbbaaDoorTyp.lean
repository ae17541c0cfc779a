/-
  TYPES, exactly: what an expression is that has a type, and that the program's checks find exactly these.
-/
import Derived.Test.YtpihabofmnnbbaaDoorTaB
namespace Go.Proofs.YtpihabofmnnbbaaDoor.Tp
open Go Rt M Ta

mutual
def cnt : M.Expr → Nat
  | ⟨_, _, _, l⟩ => cnts l + 1
def cnts : List M.Expr → Nat
  | [] => 0
  | x :: l => cnt x + cnts l
 end
mutual
def dep : M.Expr → Nat
  | ⟨_, _, _, l⟩ => deps l + 1
def deps : List M.Expr → Nat
  | [] => 0
  | x :: l => max (dep x) (deps l)
 end

theorem nat_i64 {a : Nat} (h : 1 ≤ a) (h2 : a ≤ 1000000) : isub .i64 (a : Int) 1 = ((a - 1 : Nat) : Int) := by rw [isub_i64 (by omega) (by omega)]; omega
/-- what sized says -/
def Siz (d c lv lf : Nat) (r : Int × Bool) : Prop := (r.2 = true → d ≤ lv ∧ c ≤ lf ∧ r.1 = ((lf - c : Nat) : Int)) ∧ (d ≤ lv → c ≤ lf → r.2 = true)
theorem sized_LX (x : M.Expr) (lv : Nat) (hv1 : 1 ≤ lv) (hv : lv ≤ 1000000) (hx : x.Args.length ≤ 1000000) : ∀ (us : List M.Expr) (i lf : Nat), lf ≤ 1000000 → x.Args.drop i = us → (∀ y, y ∈ us → ∀ lv lf : Nat, lv ≤ 1000000 → lf ≤ 1000000 → Tt (Siz (dep y) (cnt y) lv lf) (fun n => tariff_sized n y lv lf)) →
    ∃ N r, Siz (deps us) (cnts us) (lv - 1) lf r ∧ ∀ n m, N ≤ n → us.length < m → tariff_sized_L1 n (tariff_sized n) x (lv : Int) (fun f2 => some (f2, true)) m (i : Int) (lf : Int) = some r
  | [], i, lf, hlf, hd, _ => by
    refine ⟨0, (lf, true), ⟨fun _ => ⟨Nat.zero_le _, Nat.zero_le _, rfl⟩, fun _ _ => rfl⟩, fun n m _ hm => ?_⟩
    obtain ⟨m, rfl⟩ := left hm
    rw [tariff_sized_L1_s, more_no hd]; rfl
  | y :: us, i, lf, hlf, hd, H => by
    obtain ⟨h1, h2, h3⟩ := drop_cons hd
    obtain ⟨⟨l2, b⟩, ⟨N1, e1⟩, q1, q2⟩ := H y (by simp) (lv - 1) lf (by omega) hlf
    rw [← nat_i64 hv1 hv] at e1
    have hcs : cnts (y :: us) = cnt y + cnts us := rfl
    have hds : deps (y :: us) = max (dep y) (deps us) := rfl
    cases b with
    | false =>
      have h5 : ¬(dep y ≤ lv - 1 ∧ cnt y ≤ lf) := fun h => by have := q2 h.1 h.2; cases this
      refine ⟨N1, (l2, false), ⟨fun h => (by cases h), fun h6 h7 => absurd ⟨by omega, by omega⟩ h5⟩, fun n m hn hm => ?_⟩
      obtain ⟨m, rfl⟩ := left hm
      have e1 : tariff_sized n y (isub .i64 lv 1) lf = some (l2, false) := e1 n (by omega)
      rw [tariff_sized_L1_s, more_yes hd, cond_true, h1, Option.bind_some, e1, Option.bind_some]; rfl
    | true =>
      obtain ⟨h5, h6, h7⟩ := q1 rfl
      dsimp only at h7
      subst h7
      obtain ⟨N, r, ⟨hr1, hr2⟩, ih⟩ := sized_LX x lv hv1 hv hx us (i + 1) (lf - cnt y) (by omega) h2 (fun z hz => H z (by simp [hz]))
      refine ⟨max N N1, r, ⟨fun h => ?_, fun h8 h9 => hr2 (by omega) (by omega)⟩, fun n m hn hm => ?_⟩
      · obtain ⟨g1, g2, g3⟩ := hr1 h
        exact ⟨by omega, by omega, by rw [g3]; congr 1; omega⟩
      · obtain ⟨m, rfl, hm2⟩ := pred (by simpa using hm)
        have e1 : tariff_sized n y (isub .i64 lv 1) lf = some (((lf - cnt y : Nat) : Int), true) := e1 n (by omega)
        rw [tariff_sized_L1_s, more_yes hd, cond_true, h1, Option.bind_some, e1, Option.bind_some]
        dsimp only
        rw [Bool.not_true, cond_false, inc64 (by omega), ih n m (by omega) hm2]
theorem sized_x {x : M.Expr} (hx : Fit x) : ∀ lv lf : Nat, lv ≤ 1000000 → lf ≤ 1000000 → Tt (Siz (dep x) (cnt x) lv lf) (fun n => tariff_sized n x lv lf) := by
  induction hx with
  | @mk o k s l hl _ ih =>
    intro lv lf hv hf
    have hd : dep ⟨o, k, s, l⟩ = deps l + 1 := rfl
    have hc : cnt ⟨o, k, s, l⟩ = cnts l + 1 := rfl
    refine Tt.suc (g := fun n => _) (fun n => tariff_sized_s n _ _ _) ?_
    have hsub : isub .i64 (lf : Int) 1 = (lf : Int) - 1 := isub_i64 (by omega) (by omega)
    rw [hsub]
    refine Tt.bind (P := fun b => b = true ↔ (lv < 1 ∨ lf < 1)) (Tt.bif (fun h => Tt.pure (by have := of_decide_eq_true h; simp only [true_iff]; omega)) (fun h => Tt.pure ?_)) ?_
    · have := of_decide_eq_false h
      rw [decide_eq_true_iff]; omega
    intro b hb
    refine Tt.bif (fun h => Tt.pure ⟨fun h => (by cases h), fun h1 h2 => ?_⟩) (fun h => ?_)
    · have := hb.1 h; omega
    have h3 : ¬(lv < 1 ∨ lf < 1) := fun h4 => by have := hb.2 h4; rw [this] at h; cases h
    have e : (lf : Int) - 1 = ((lf - 1 : Nat) : Int) := by omega
    rw [e]
    obtain ⟨N, r, ⟨hr1, hr2⟩, hh⟩ := sized_LX ⟨o, k, s, l⟩ lv (by omega) hv hl l 0 (lf - 1) (by omega) rfl ih
    refine ⟨r, ⟨N + l.length + 1, fun n hn => hh n n (by omega) (by omega)⟩, fun h => ?_, fun h4 h5 => hr2 (by omega) (by omega)⟩
    obtain ⟨g1, g2, g3⟩ := hr1 h
    exact ⟨by omega, by omega, by rw [g3]; congr 1; omega⟩

/-! shapes -/
def nodeok (o n : Int) (s : Rt.Bs) : Prop := if o = 0 then (0 ≤ n ∧ n ≤ 1099511627776) ∧ s = [] else if o = 1 ∨ o = 4 then n = 0 ∧ Lx.name s = true else n = 0 ∧ s = []
inductive Shx : M.Expr → Prop
  | mk {o n : Int} {s : Rt.Bs} {l : List M.Expr} : 0 ≤ o → o ≤ 16 → (l.length : Int) = argsN o → nodeok o n s → (∀ y, y ∈ l → Shx y) → Shx ⟨o, n, s, l⟩
theorem IndexFunc_X2 (l : List M.Expr) (hl : l.length ≤ 1000000) (f : Nat → M.Expr → Option Bool) (Q : M.Expr → Prop) : ∀ (us : List M.Expr) (i : Nat), l.drop i = us → (∀ y, y ∈ us → Tt (fun b => b = false ↔ Q y) (fun n => f n y)) →
    ∃ N r, (r = -1 ∧ (∀ y, y ∈ us → Q y) ∨ 0 ≤ r ∧ ¬∀ y, y ∈ us → Q y) ∧ ∀ n m, N ≤ n → us.length < m → slices_IndexFunc_api_Expr_api_Expr_L1 n l (f n) (some (-1)) m (i : Int) = some r
  | [], i, hd, _ => by
    refine ⟨0, -1, .inl ⟨rfl, by simp⟩, fun n m _ hm => ?_⟩
    obtain ⟨m, rfl⟩ := left hm
    rw [slices_IndexFunc_api_Expr_api_Expr_L1_s, more_no hd]; rfl
  | y :: us, i, hd, H => by
    obtain ⟨h1, h2, h3⟩ := drop_cons hd
    obtain ⟨b, ⟨N1, e1⟩, hb⟩ := H y (by simp)
    obtain ⟨N, r, hr, ih⟩ := IndexFunc_X2 l hl f Q us (i + 1) h2 (fun z hz => H z (by simp [hz]))
    cases b with
    | true =>
      refine ⟨N1, (i : Int), .inr ⟨by omega, fun h => ?_⟩, fun n m hn hm => ?_⟩
      · have := hb.2 (h y (by simp)); cases this
      obtain ⟨m, rfl⟩ := left hm
      have e1 : f n y = some true := e1 n (by omega)
      rw [slices_IndexFunc_api_Expr_api_Expr_L1_s, more_yes hd, cond_true, h1, Option.bind_some, e1]; rfl
    | false =>
      refine ⟨max N N1, r, hr.imp (fun h => ⟨h.1, by simpa using ⟨hb.1 rfl, h.2⟩⟩) (fun h => ⟨h.1, fun h5 => h.2 fun z hz => h5 z (by simp [hz])⟩), fun n m hn hm => ?_⟩
      obtain ⟨m, rfl, hm2⟩ := pred (by simpa using hm)
      have e1 : f n y = some false := e1 n (by omega)
      rw [slices_IndexFunc_api_Expr_api_Expr_L1_s, more_yes hd, cond_true, h1, Option.bind_some, e1, Option.bind_some, cond_false, inc64 (by omega)]
      exact ih n m (by omega) hm2
theorem ContainsFunc_X2 (l : List M.Expr) (hl : l.length ≤ 1000000) (f : Nat → M.Expr → Option Bool) (Q : M.Expr → Prop) (H : ∀ y, y ∈ l → Tt (fun b => b = false ↔ Q y) (fun n => f n y)) :
    Tt (fun b => b = false ↔ ∀ y, y ∈ l → Q y) (fun n => slices_ContainsFunc_api_Expr_api_Expr n l (f n)) := by
  obtain ⟨N, r, hr, ih⟩ := IndexFunc_X2 l hl f Q l 0 rfl H
  refine ⟨decide (0 ≤ r), ⟨N + l.length + 1, fun n hn => ?_⟩, ?_⟩
  · unfold slices_ContainsFunc_api_Expr_api_Expr slices_IndexFunc_api_Expr_api_Expr
    dsimp only
    have e : slices_IndexFunc_api_Expr_api_Expr_L1 n l (f n) (some (-1)) n 0 = some r := ih n n (by omega) (by omega)
    rw [e]; rfl
  · show decide (0 ≤ r) = false ↔ _
    rw [decide_eq_false_iff_not]
    rcases hr with h | h
    · exact ⟨fun _ => h.2, fun _ => by omega⟩
    · exact ⟨fun h5 => absurd h.1 h5, fun h5 => absurd h5 h.2⟩
theorem Shx.inv {o n : Int} {s : Rt.Bs} {l : List M.Expr} (h : Shx ⟨o, n, s, l⟩) : 0 ≤ o ∧ o ≤ 16 ∧ (l.length : Int) = argsN o ∧ nodeok o n s ∧ ∀ y, y ∈ l → Shx y := by
  cases h with
  | mk h1 h2 h3 h4 h5 => exact ⟨h1, h2, h3, h4, h5⟩
theorem shaped_x {x : M.Expr} (hx : Fit x) : Tt (fun b => b = true ↔ Shx x) (fun n => tariff_shaped n x) := by
  induction hx with
  | @mk o k s l hl _ ih =>
    refine Tt.suc (fun n => tariff_shaped_s n _) ?_
    refine Tt.bind (P := fun b => b = false ↔ 0 ≤ o ∧ o ≤ 16) (Tt.bif (fun h => Tt.pure ?_) (fun h => Tt.pure ?_)) ?_
    · have h1 := of_decide_eq_true h
      dsimp only at h1
      exact ⟨fun h => (by cases h), fun h => by omega⟩
    · have h1 := of_decide_eq_false h
      dsimp only at h1
      rw [decide_eq_false_iff_not]
      dsimp only
      omega
    intro b hb
    refine Tt.bind (P := fun c => c = false ↔ (0 ≤ o ∧ o ≤ 16) ∧ (l.length : Int) = argsN o) (Tt.bif (fun h => Tt.pure ?_) (fun h => ?_)) ?_
    · exact ⟨fun h => (by cases h), fun h5 => by have := hb.2 h5.1; rw [this] at h; cases h⟩
    · refine Tt.evb (Ev.all fun n => args_n n _) (Tt.pure ?_)
      have := hb.1 h
      simp only [bne_eq_false_iff_eq, this, true_and]
    intro c hc
    refine Tt.bif (fun h => Tt.pure ⟨fun h => (by cases h), fun h5 => ?_⟩) (fun h => ?_)
    · have h6 := h5.inv
      have := hc.2 ⟨⟨h6.1, h6.2.1⟩, h6.2.2.1⟩
      rw [this] at h; cases h
    obtain ⟨⟨h1, h2⟩, h3⟩ := hc.1 h
    have fin : ∀ {b : Bool}, (b = true ↔ nodeok o k s ∧ ∀ y, y ∈ l → Shx y) → (b = true ↔ Shx ⟨o, k, s, l⟩) := fun {b} hb => hb.trans ⟨fun h => Shx.mk h1 h2 h3 h.1 h.2, fun h => ⟨h.inv.2.2.2.1, h.inv.2.2.2.2⟩⟩
    refine Tt.bif (fun h0 => ?_) (fun h0 => ?_)
    · have h0' : o = 0 := by simpa using h0
      subst h0'
      have hz : l = [] := by
        have : (l.length : Int) = 0 := h3
        exact List.length_eq_zero_iff.1 (by omega)
      subst hz
      refine Tt.bind (P := fun b => b = true ↔ 0 ≤ k ∧ k ≤ 1099511627776) (Tt.bif (fun h => Tt.pure ?_) (fun h => Tt.pure ?_)) fun b hb => ?_
      · have h5 := of_decide_eq_true h
        rw [decide_eq_true_iff]
        exact ⟨fun h6 => ⟨h5, h6⟩, fun h6 => h6.2⟩
      · have h5 := of_decide_eq_false h
        exact ⟨fun h6 => (by cases h6), fun h6 => absurd h6.1 h5⟩
      refine Tt.bind (P := fun b => b = true ↔ (0 ≤ k ∧ k ≤ 1099511627776) ∧ s = []) (Tt.bif (fun h => Tt.pure ?_) (fun h => Tt.pure ?_)) fun b hb2 => ?_
      · have := hb.1 h
        simp [this]
      · exact ⟨fun h6 => (by cases h6), fun h6 => by rw [hb.2 h6.1] at h; cases h⟩
      refine Tt.pure (fin ?_)
      rw [hb2]
      exact ⟨fun h => ⟨h, by simp⟩, fun h => h.1⟩
    have hn0 : o ≠ 0 := by simpa using h0
    refine Tt.bind (P := fun b => b = true ↔ o = 1 ∨ o = 4) (Tt.bif (fun h => Tt.pure ?_) (fun h => Tt.pure ?_)) ?_
    · have : o = 1 := by simpa using h
      exact ⟨fun _ => .inl this, fun _ => rfl⟩
    · have : o ≠ 1 := by simpa using h
      simp [this]
    intro b1 hb1
    refine Tt.bif (fun h4 => ?_) (fun h4 => ?_)
    · have ho := hb1.1 h4
      have hz : l = [] := by
        have : (l.length : Int) = 0 := by rw [h3]; rcases ho with rfl | rfl <;> rfl
        exact List.length_eq_zero_iff.1 (by omega)
      subst hz
      have hno : nodeok o k s ↔ k = 0 ∧ Lx.name s = true := by unfold nodeok; rw [if_neg hn0, if_pos ho]
      refine Tt.bind (P := fun b => b = true ↔ k = 0 ∧ Lx.name s = true) (Tt.bif (fun h => ?_) (fun h => Tt.pure ?_)) fun b hb => ?_
      · have : k = 0 := by simpa using h
        refine Tt.evb (name_ev _) (Tt.pure ?_)
        simp [this]
      · have : k ≠ 0 := by simpa using h
        exact ⟨fun h => (by cases h), fun h => absurd h.1 this⟩
      refine Tt.pure (fin ?_)
      rw [hb, hno]
      exact ⟨fun h => ⟨h, by simp⟩, fun h => h.1⟩
    have ho : ¬(o = 1 ∨ o = 4) := fun h5 => by rw [hb1.2 h5] at h4; cases h4
    have hno : nodeok o k s ↔ k = 0 ∧ s = [] := by unfold nodeok; rw [if_neg hn0, if_neg ho]
    refine Tt.bind (P := fun b => b = true ↔ k = 0 ∧ s = []) (Tt.bif (fun h => Tt.pure ?_) (fun h => Tt.pure ?_)) fun b hb => ?_
    · have : k = 0 := by simpa using h
      simp [this]
    · have : k ≠ 0 := by simpa using h
      exact ⟨fun h => (by cases h), fun h => absurd h.1 this⟩
    refine Tt.bind (P := fun b => b = true ↔ nodeok o k s ∧ ∀ y, y ∈ l → Shx y) (Tt.bif (fun h => ?_) (fun h => Tt.pure ?_)) ?_
    · refine Tt.bind (ContainsFunc_X2 l hl tariff_shaped_1 Shx (fun y hy => ?_)) ?_
      · refine Tt.suc (fun n => tariff_shaped_1_s n _) ?_
        refine Tt.bind (ih y hy) ?_
        intro b hb
        refine Tt.pure ?_
        rw [← hb]; cases b <;> simp
      · intro b2 hb2
        refine Tt.pure ?_
        rw [hno, ← hb, ← hb2, h]
        cases b2 <;> simp
    · exact ⟨fun h5 => (by cases h5), fun h5 => by rw [hno, ← hb] at h5; rw [h5.1] at h; cases h⟩
    · intro b hb
      exact Tt.pure (fin hb)
def Frm (x : M.Expr) : Prop := (dep x ≤ 10 ∧ cnt x ≤ 100) ∧ Shx x
theorem form_x {x : M.Expr} (hx : Fit x) : Tt (fun b => b = true ↔ Frm x) (fun n => tariff_form n x) := by
  unfold tariff_form
  refine Tt.bind (sized_x hx 10 100 (by decide) (by decide)) fun r hr => ?_
  have h5 : r.2 = true ↔ dep x ≤ 10 ∧ cnt x ≤ 100 := ⟨fun h => ⟨(hr.1 h).1, (hr.1 h).2.1⟩, fun h => hr.2 h.1 h.2⟩
  refine Tt.bind (P := fun b => b = true ↔ Frm x) (Tt.bif (fun h => ?_) (fun h => Tt.pure ?_)) fun b hb => Tt.pure hb
  · refine Tt.bind (shaped_x hx) fun b hb => Tt.pure ?_
    unfold Frm
    rw [hb, ← h5, h]; simp
  · exact ⟨fun h6 => (by cases h6), fun h6 => by rw [h5.2 h6.1] at h; cases h⟩
def Wrt (t : Tariff) : Prop := Lx.name t.Name = true ∧ Frm t.Fee ∧ -1 ≤ t.Cap ∧ t.Cap ≤ 1099511627776
theorem writable_x {t : Tariff} (hx : Fit t.Fee) : Tt (fun b => b = true ↔ Wrt t) (fun n => tariff_writable n t) := by
  unfold tariff_writable
  refine Tt.evb (name_ev _) ?_
  refine Tt.bind (P := fun b => b = true ↔ Lx.name t.Name = true ∧ Frm t.Fee) (Tt.bif (fun h => ?_) (fun h => Tt.pure ?_)) fun b hb => ?_
  · refine Tt.bind (form_x hx) fun b hb => Tt.pure ?_
    rw [hb, h]; simp
  · exact ⟨fun h6 => (by cases h6), fun h6 => by rw [h6.1] at h; cases h⟩
  refine Tt.bind (P := fun b => b = true ↔ (Lx.name t.Name = true ∧ Frm t.Fee) ∧ -1 ≤ t.Cap) (Tt.bif (fun h => Tt.pure ?_) (fun h => Tt.pure ?_)) fun b hb => ?_
  · rw [decide_eq_true_iff, ← hb, h]; simp
  · exact ⟨fun h6 => (by cases h6), fun h6 => by rw [hb.2 h6.1] at h; cases h⟩
  refine Tt.bind (P := fun b => b = true ↔ Wrt t) (Tt.bif (fun h => Tt.pure ?_) (fun h => Tt.pure ?_)) fun b hb => ?_
  · have := hb.1 h
    rw [decide_eq_true_iff]
    exact ⟨fun h5 => ⟨this.1.1, this.1.2, this.2, h5⟩, fun h5 => h5.2.2.2⟩
  · exact ⟨fun h6 => (by cases h6), fun h6 => by rw [hb.2 ⟨⟨h6.1, h6.2.1⟩, h6.2.2.1⟩] at h; cases h⟩
  exact Tt.pure hb
end Go.Proofs.YtpihabofmnnbbaaDoor.Tp
