/-
  READING AND CHECKING A TARIFF always answer; what was read fits.
-/
import Derived.Test.YtpihabofmnnbbaaDoorTaA
namespace Go.Proofs.YtpihabofmnnbbaaDoor.Ta
open Go Rt M

theorem left {k m : Nat} (h : k < m) : ∃ j, m = j + 1 := ⟨m - 1, by omega⟩
theorem pred {k m : Nat} (h : k + 1 < m) : ∃ j, m = j + 1 ∧ k < j := ⟨m - 1, by omega, by omega⟩

/-! names -/
theorem name_ev (s : Rt.Bs) : Ev (fun n => lexer_Name n s) (Lx.name s) := by
  refine ⟨21, fun n hn => ?_⟩
  by_cases h : s.length ≤ 20
  · exact Lx.name_eq (by omega) (by omega)
  · have h0 : s ≠ [] := by intro e; rw [e] at h; simp at h
    have h1 : (s == []) = false := by simpa using h0
    have h2 : Lx.name s = false := by unfold Lx.name; rw [decide_eq_false h]; simp
    rw [h2]
    unfold lexer_Name
    dsimp only
    rw [h1, Bool.not_false, cond_true, Lx.headD_idx h0, Option.bind_some, Lx.letter_eq, Option.bind_some, Option.bind_some]
    cases Lx.isLetter (s.headD 0)
    · rfl
    · rw [cond_true, decide_eq_false (show ¬ (s.length : Int) ≤ 20 by omega)]; rfl
theorem Index_L (n : Nat) (l : List Rt.Bs) (s : Rt.Bs) (hl : l.length < 4611686018427387904) : ∀ (us : List Rt.Bs) (i m : Nat), l.drop i = us → us.length < m →
    slices_Index_string_string_L1 n l s (some (-1)) m (i : Int) = some (if s ∈ us then ((i + us.idxOf s : Nat) : Int) else -1)
  | [], i, m + 1, hd, _ => by rw [slices_Index_string_string_L1_s, more_no hd]; rfl
  | x :: us, i, m + 1, hd, hm => by
    obtain ⟨h1, h2, h3⟩ := drop_cons hd
    have ih := Index_L n l s hl us (i + 1) m h2 (by simp only [List.length_cons] at hm; omega)
    rw [slices_Index_string_string_L1_s, more_yes hd, cond_true, h1, Option.bind_some]
    by_cases h : s = x
    · subst h
      rw [beq_self_eq_true, cond_true, if_pos (by simp)]; simp
    · have e : (s == x) = false := by simpa using h
      rw [e, cond_false, inc64 (by omega), ih]
      by_cases h5 : s ∈ us
      · rw [if_pos h5, if_pos (List.mem_cons_of_mem _ h5), List.idxOf_cons, show (x == s) = false by simpa using fun h6 => h h6.symm]
        simp only [cond_false]; congr 1; omega
      · rw [if_neg h5, if_neg (by simp [h, h5])]
theorem Contains_ev {l : List Rt.Bs} (s : Rt.Bs) (hl : l.length < 4611686018427387904) : Ev (fun n => slices_Contains_string_string n l s) (decide (s ∈ l)) := by
  refine ⟨l.length + 1, fun n hn => ?_⟩
  unfold slices_Contains_string_string slices_Index_string_string
  dsimp only
  have h : slices_Index_string_string_L1 n l s (some (-1)) n 0 = _ := Index_L n l s hl l 0 n rfl (by omega)
  rw [h, Option.bind_some]
  by_cases h5 : s ∈ l
  · rw [if_pos h5, decide_eq_true h5, decide_eq_true (by omega)]
  · rw [if_neg h5, decide_eq_false h5]; rfl
def named1 (l : List Rt.Bs) : Nat → List Rt.Bs → Bool
  | _, [] => decide ((l.length : Int) ≤ 6)
  | i, s :: us => Lx.name s && (!decide (s ∈ l.take i) && named1 l (i + 1) us)
def named (l : List Rt.Bs) : Bool := named1 l 0 l
theorem named_L (l : List Rt.Bs) (hl : l.length < 4611686018427387904) : ∀ (us : List Rt.Bs) (i : Nat), l.drop i = us → ∃ N, ∀ n m, N ≤ n → us.length < m →
    tariff_named_L1 n l (some (decide ((l.length : Int) ≤ 6))) m (i : Int) = some (named1 l i us)
  | [], i, hd => by
    refine ⟨0, fun n m _ hm => ?_⟩
    obtain ⟨m, rfl⟩ := left hm
    rw [tariff_named_L1_s, more_no hd]; rfl
  | s :: us, i, hd => by
    obtain ⟨h1, h2, h3⟩ := drop_cons hd
    obtain ⟨N, ih⟩ := named_L l hl us (i + 1) h2
    obtain ⟨N1, e1⟩ := name_ev s
    obtain ⟨N2, e2⟩ := Contains_ev (l := l.take i) s (by simp; omega)
    refine ⟨max N (max N1 N2), fun n m hn hm => ?_⟩
    obtain ⟨m, rfl, hm2⟩ := pred (by simpa using hm)
    have e1 : lexer_Name n s = some (Lx.name s) := e1 n (by omega)
    have e2 : slices_Contains_string_string n (l.take i) s = some (decide (s ∈ l.take i)) := e2 n (by omega)
    rw [tariff_named_L1_s, more_yes hd, cond_true, h1, Option.bind_some, e1, Option.bind_some]
    unfold named1
    cases Lx.name s with
    | false => rfl
    | true =>
      have e3 : lsl l 0 (i : Int) = some (l.take i) := by
        have := lsl_eq (l := l) (p := 0) (q := i) (by omega) (by omega)
        simpa using this
      rw [Bool.not_true, cond_false, e3, Option.bind_some, e2, Option.bind_some, Option.bind_some, Bool.true_and]
      cases decide (s ∈ l.take i) with
      | true => rfl
      | false => rw [cond_false, inc64 (by omega), ih n m (by omega) hm2]; rfl
theorem named_ev {l : List Rt.Bs} (hl : l.length < 4611686018427387904) : Ev (fun n => tariff_named n l) (named l) := by
  obtain ⟨N, h⟩ := named_L l hl l 0 rfl
  exact ⟨N + l.length + 1, fun n hn => h n n (by omega) (by omega)⟩

/-! sizes and shapes -/
theorem sized_L (x : M.Expr) (lv : Int) (hx : x.Args.length ≤ 1000000) : ∀ (us : List M.Expr) (i : Nat) (lf : Int), x.Args.drop i = us → (∀ y, y ∈ us → ∀ lv lf : Int, Tt (fun _ => True) (fun n => tariff_sized n y lv lf)) →
    ∃ N r, ∀ n m, N ≤ n → us.length < m → tariff_sized_L1 n (tariff_sized n) x lv (fun f2 => some (f2, true)) m (i : Int) lf = some r
  | [], i, lf, hd, _ => by
    refine ⟨0, (lf, true), fun n m _ hm => ?_⟩
    obtain ⟨m, rfl⟩ := left hm
    rw [tariff_sized_L1_s, more_no hd]; rfl
  | y :: us, i, lf, hd, H => by
    obtain ⟨h1, h2, h3⟩ := drop_cons hd
    obtain ⟨⟨l2, b⟩, ⟨N1, e1⟩, _⟩ := H y (by simp) (isub .i64 lv 1) lf
    obtain ⟨N, r, ih⟩ := sized_L x lv hx us (i + 1) l2 h2 (fun z hz => H z (by simp [hz]))
    refine ⟨max N N1, bif b then r else (l2, false), fun n m hn hm => ?_⟩
    obtain ⟨m, rfl, hm2⟩ := pred (by simpa using hm)
    have e1 : tariff_sized n y (isub .i64 lv 1) lf = some (l2, b) := e1 n (by omega)
    rw [tariff_sized_L1_s, more_yes hd, cond_true, h1, Option.bind_some, e1, Option.bind_some]
    dsimp only
    cases b with
    | false => rfl
    | true => rw [Bool.not_true, cond_false, inc64 (by omega), ih n m (by omega) hm2]; rfl
theorem sized_t {x : M.Expr} (hx : Fit x) : ∀ lv lf : Int, Tt (fun _ => True) (fun n => tariff_sized n x lv lf) := by
  induction hx with
  | @mk o k s l hl _ ih =>
    intro lv lf
    refine Tt.suc (g := fun n => _) (fun n => tariff_sized_s n _ _ _) ?_
    refine Tt.cond (fun b => ?_) true
    refine Tt.bif (fun _ => Tt.pure trivial) (fun _ => ?_)
    obtain ⟨N, r, h⟩ := sized_L ⟨o, k, s, l⟩ lv hl l 0 (isub .i64 lf 1) rfl ih
    exact ⟨r, ⟨N + l.length + 1, fun n hn => h n n (by omega) (by omega)⟩, trivial⟩

def argsN (o : Int) : Int := if o ≤ 4 then 0 else if o = 14 then 1 else if o = 11 then 3 else 2
theorem args_n (n : Nat) (o : Int) : tariff_args n o = some (argsN o) := by
  unfold tariff_args argsN
  by_cases h1 : o ≤ 4
  · rw [decide_eq_true h1, if_pos h1]; rfl
  · rw [decide_eq_false h1, if_neg h1, cond_false]
    by_cases h2 : o = 14
    · subst h2; rfl
    · rw [show (o == 14) = false by simpa using h2, if_neg h2, cond_false]
      by_cases h3 : o = 11
      · subst h3; rfl
      · rw [show (o == 11) = false by simpa using h3, if_neg h3]; rfl
/-- all nodes have the Args that they need -/
inductive Shp : M.Expr → Prop
  | mk {o n : Int} {s : Rt.Bs} {l : List M.Expr} : 0 ≤ o → o ≤ 16 → (l.length : Int) = argsN o → (∀ y, y ∈ l → Shp y) → Shp ⟨o, n, s, l⟩
theorem IndexFunc_X (l : List M.Expr) (hl : l.length ≤ 1000000) (f : Nat → M.Expr → Option Bool) (Q : M.Expr → Prop) : ∀ (us : List M.Expr) (i : Nat), l.drop i = us → (∀ y, y ∈ us → Tt (fun b => b = false → Q y) (fun n => f n y)) →
    ∃ N r, (r = -1 ∧ (∀ y, y ∈ us → Q y) ∨ 0 ≤ r) ∧ ∀ n m, N ≤ n → us.length < m → slices_IndexFunc_api_Expr_api_Expr_L1 n l (f n) (some (-1)) m (i : Int) = some r
  | [], i, hd, _ => by
    refine ⟨0, -1, .inl ⟨rfl, by simp⟩, fun n m _ hm => ?_⟩
    obtain ⟨m, rfl⟩ := left hm
    rw [slices_IndexFunc_api_Expr_api_Expr_L1_s, more_no hd]; rfl
  | y :: us, i, hd, H => by
    obtain ⟨h1, h2, h3⟩ := drop_cons hd
    obtain ⟨b, ⟨N1, e1⟩, hb⟩ := H y (by simp)
    obtain ⟨N, r, hr, ih⟩ := IndexFunc_X l hl f Q us (i + 1) h2 (fun z hz => H z (by simp [hz]))
    cases b with
    | true =>
      refine ⟨N1, (i : Int), .inr (by omega), fun n m hn hm => ?_⟩
      obtain ⟨m, rfl⟩ := left hm
      have e1 : f n y = some true := e1 n (by omega)
      rw [slices_IndexFunc_api_Expr_api_Expr_L1_s, more_yes hd, cond_true, h1, Option.bind_some, e1]; rfl
    | false =>
      refine ⟨max N N1, r, hr.imp (fun h => ⟨h.1, by simpa using ⟨hb rfl, h.2⟩⟩) id, fun n m hn hm => ?_⟩
      obtain ⟨m, rfl, hm2⟩ := pred (by simpa using hm)
      have e1 : f n y = some false := e1 n (by omega)
      rw [slices_IndexFunc_api_Expr_api_Expr_L1_s, more_yes hd, cond_true, h1, Option.bind_some, e1, Option.bind_some, cond_false, inc64 (by omega)]
      exact ih n m (by omega) hm2
theorem ContainsFunc_X (l : List M.Expr) (hl : l.length ≤ 1000000) (f : Nat → M.Expr → Option Bool) (Q : M.Expr → Prop) (H : ∀ y, y ∈ l → Tt (fun b => b = false → Q y) (fun n => f n y)) :
    Tt (fun b => b = false → ∀ y, y ∈ l → Q y) (fun n => slices_ContainsFunc_api_Expr_api_Expr n l (f n)) := by
  obtain ⟨N, r, hr, ih⟩ := IndexFunc_X l hl f Q l 0 rfl H
  refine ⟨decide (0 ≤ r), ⟨N + l.length + 1, fun n hn => ?_⟩, fun hb => ?_⟩
  · unfold slices_ContainsFunc_api_Expr_api_Expr slices_IndexFunc_api_Expr_api_Expr
    dsimp only
    have e : slices_IndexFunc_api_Expr_api_Expr_L1 n l (f n) (some (-1)) n 0 = some r := ih n n (by omega) (by omega)
    rw [e]; rfl
  · have := of_decide_eq_false hb
    rcases hr with h | h
    · exact h.2
    · omega
theorem shaped_t {x : M.Expr} (hx : Fit x) : Tt (fun b => b = true → Shp x) (fun n => tariff_shaped n x) := by
  induction hx with
  | @mk o k s l hl _ ih =>
    refine Tt.suc (fun n => tariff_shaped_s n _) ?_
    refine Tt.bind (P := fun b => b = false → 0 ≤ o ∧ o ≤ 16) (Tt.bif (fun h => Tt.pure fun h => by cases h) (fun h => Tt.pure fun h2 => ?_)) ?_
    · have h1 := of_decide_eq_false h
      have h3 := of_decide_eq_false h2
      dsimp only at h1 h3
      omega
    intro b hb
    refine Tt.bind (P := fun c => c = false → (0 ≤ o ∧ o ≤ 16) ∧ (l.length : Int) = argsN o) (Tt.bif (fun h => Tt.pure fun h => by cases h) (fun h => ?_)) ?_
    · refine Tt.evb (Ev.all fun n => args_n n _) (Tt.pure fun h2 => ⟨hb h, by simpa using h2⟩)
    intro c hc
    refine Tt.bif (fun _ => Tt.pure fun h => by cases h) (fun h => ?_)
    obtain ⟨⟨h1, h2⟩, h3⟩ := hc h
    refine Tt.bif (fun h0 => ?_) (fun h0 => ?_)
    · have h0' : o = 0 := by simpa using h0
      subst h0'
      have hz : l = [] := by
        have : (l.length : Int) = 0 := h3
        exact List.length_eq_zero_iff.1 (by omega)
      subst hz
      refine Tt.bind (P := fun _ => True) (Tt.bif (fun _ => Tt.pure trivial) (fun _ => Tt.pure trivial)) fun _ _ => ?_
      refine Tt.bind (P := fun _ => True) (Tt.bif (fun _ => Tt.pure trivial) (fun _ => Tt.pure trivial)) fun _ _ => ?_
      exact Tt.pure fun _ => Shp.mk h1 h2 h3 (by simp)
    refine Tt.bind (P := fun b => b = true → o = 1 ∨ o = 4) (Tt.bif (fun h => Tt.pure fun _ => .inl (by simpa using h)) (fun _ => Tt.pure fun h => .inr (by simpa using h))) ?_
    intro b1 hb1
    refine Tt.bif (fun h4 => ?_) (fun h4 => ?_)
    · have hz : l = [] := by
        have : (l.length : Int) = 0 := by rw [h3]; rcases hb1 h4 with rfl | rfl <;> rfl
        exact List.length_eq_zero_iff.1 (by omega)
      subst hz
      refine Tt.bind (P := fun _ => True) (Tt.bif (fun _ => ?_) (fun _ => Tt.pure trivial)) fun _ _ => ?_
      · exact Tt.evb (name_ev _) (Tt.pure trivial)
      · exact Tt.pure fun _ => Shp.mk h1 h2 h3 (by simp)
    refine Tt.bind (P := fun _ => True) (Tt.bif (fun _ => Tt.pure trivial) (fun _ => Tt.pure trivial)) fun _ _ => ?_
    refine Tt.bind (P := fun b => b = true → ∀ y, y ∈ l → Shp y) (Tt.bif (fun _ => ?_) (fun _ => Tt.pure fun h => by cases h)) ?_
    · refine Tt.bind (ContainsFunc_X l hl tariff_shaped_1 Shp (fun y hy => ?_)) ?_
      · refine Tt.suc (fun n => tariff_shaped_1_s n _) ?_
        refine Tt.bind (ih y hy) ?_
        intro b hb
        exact Tt.pure fun h => hb (by simpa using h)
      · intro b hb
        exact Tt.pure fun h => hb (by simpa using h)
    · intro b hb
      exact Tt.pure fun h => Shp.mk h1 h2 h3 (hb h)
theorem form_t {x : M.Expr} (hx : Fit x) : Tt (fun b => b = true → Shp x) (fun n => tariff_form n x) := by
  unfold tariff_form
  refine Tt.bind (sized_t hx _ _) fun r _ => ?_
  refine Tt.bind (P := fun b => b = true → Shp x) (Tt.bif (fun _ => ?_) (fun _ => Tt.pure fun h => by cases h)) fun b hb => Tt.pure hb
  exact Tt.bind (shaped_t hx) fun b hb => Tt.pure hb
theorem writable_t {t : Tariff} (hx : Fit t.Fee) : Tt (fun b => b = true → Shp t.Fee) (fun n => tariff_writable n t) := by
  unfold tariff_writable
  refine Tt.evb (name_ev _) ?_
  refine Tt.bind (P := fun b => b = true → Shp t.Fee) (Tt.bif (fun _ => ?_) (fun _ => Tt.pure fun h => by cases h)) fun b hb => ?_
  · exact Tt.bind (form_t hx) fun b hb => Tt.pure hb
  refine Tt.bind (P := fun b => b = true → Shp t.Fee) (Tt.bif (fun h => Tt.pure fun _ => hb h) (fun _ => Tt.pure fun h => by cases h)) fun b hb => ?_
  refine Tt.bind (P := fun b => b = true → Shp t.Fee) (Tt.bif (fun h => Tt.pure fun _ => hb h) (fun _ => Tt.pure fun h => by cases h)) fun b hb => ?_
  exact Tt.pure hb

/-! types -/
theorem typed_L (x : M.Expr) (names : List Rt.Bs) (hx : x.Args.length ≤ 1000000) (kont : Nat → List Int → Option (Int × Int)) (hk : ∀ l : List Int, l.length = x.Args.length → Tt (fun _ => True) (fun n => kont n l)) :
    ∀ (us : List M.Expr) (i : Nat) (acc : List Int), x.Args.drop i = us → acc.length = i → i ≤ x.Args.length → (∀ y, y ∈ us → Tt (fun _ => True) (fun n => tariff_typed n y names)) →
    ∃ N r, ∀ n m, N ≤ n → us.length < m → tariff_typed_L1 n (tariff_typed n) x names (kont n) m (i : Int) acc = some r
  | [], i, acc, hd, ha, hi, _ => by
    obtain ⟨r, ⟨N, h⟩, _⟩ := hk acc (by have := Rt.drop_nil hd; omega)
    refine ⟨N, r, fun n m hn hm => ?_⟩
    obtain ⟨m, rfl⟩ := left hm
    rw [tariff_typed_L1_s, more_no hd]; exact h n hn
  | y :: us, i, acc, hd, ha, hi, H => by
    obtain ⟨h1, h2, h3⟩ := drop_cons hd
    obtain ⟨⟨k, e⟩, ⟨N1, e1⟩, _⟩ := H y (by simp)
    obtain ⟨N, r, ih⟩ := typed_L x names hx kont hk us (i + 1) (acc ++ [k]) h2 (by simp [ha]) (by omega) (fun z hz => H z (by simp [hz]))
    refine ⟨max N N1, bif e != 0 then (0, e) else r, fun n m hn hm => ?_⟩
    obtain ⟨m, rfl, hm2⟩ := pred (by simpa using hm)
    have e1 : tariff_typed n y names = some (k, e) := e1 n (by omega)
    rw [tariff_typed_L1_s, more_yes hd, cond_true, h1, Option.bind_some, e1, Option.bind_some]
    dsimp only
    cases e != 0 with
    | true => rfl
    | false => rw [cond_false, app_ok (by simp only [List.length_cons, List.length_nil]; omega), Option.bind_some, inc64 (by omega), ih n m (by omega) hm2]; rfl
theorem IndexFunc_I (l : List Int) (hl : l.length ≤ 1000000) (f : Nat → Int → Option Bool) (p : Int → Bool) (hf : ∀ n x, f n x = some (p x)) : ∀ (us : List Int) (i : Nat), l.drop i = us →
    ∃ r, ∀ n m, us.length < m → slices_IndexFunc_int_int_L1 n l (f n) (some (-1)) m (i : Int) = some r
  | [], i, hd => by
    refine ⟨-1, fun n m hm => ?_⟩
    obtain ⟨m, rfl⟩ := left hm
    rw [slices_IndexFunc_int_int_L1_s, more_no hd]; rfl
  | y :: us, i, hd => by
    obtain ⟨h1, h2, h3⟩ := drop_cons hd
    obtain ⟨r, ih⟩ := IndexFunc_I l hl f p hf us (i + 1) h2
    refine ⟨bif p y then (i : Int) else r, fun n m hm => ?_⟩
    obtain ⟨m, rfl, hm2⟩ := pred (by simpa using hm)
    rw [slices_IndexFunc_int_int_L1_s, more_yes hd, cond_true, h1, Option.bind_some, hf, Option.bind_some]
    cases p y with
    | true => rfl
    | false => rw [cond_false, inc64 (by omega), ih n m hm2]; rfl
theorem all_t (k : Int) {l : List Int} (hl : l.length ≤ 1000000) (w : Int) : Tt (fun _ => True) (fun n => tariff_all n k l w) := by
  unfold tariff_all
  obtain ⟨r, h⟩ := IndexFunc_I l hl (fun n q => tariff_all_1 n q w) (fun q => q != w) (fun _ _ => rfl) l 0 rfl
  refine Tt.evb (a := decide (0 ≤ r)) ⟨l.length + 1, fun n hn => ?_⟩ (Tt.bif (fun _ => Tt.pure trivial) (fun _ => Tt.pure trivial))
  unfold slices_ContainsFunc_int_int slices_IndexFunc_int_int
  dsimp only
  have e : slices_IndexFunc_int_int_L1 n l (fun q => tariff_all_1 n q w) (some (-1)) n 0 = some r := h n n (by omega)
  rw [e]; rfl
theorem join_t (a b : Int) : Tt (fun _ => True) (fun n => tariff_join n a b) := by
  unfold tariff_join
  refine Tt.cond (fun b => ?_) true
  refine Tt.bif (fun _ => Tt.pure trivial) (fun _ => ?_)
  refine Tt.cond (fun b => ?_) true
  exact Tt.bif (fun _ => Tt.pure trivial) (fun _ => Tt.pure trivial)
theorem ix_some {α : Type} {l : List α} {i : Nat} (h : i < l.length) : ix l (i : Int) = some l[i] := by rw [ix_nat, List.getElem?_eq_getElem h]
theorem typed_t {x : M.Expr} (hx : Fit x) (names : List Rt.Bs) (hn : names.length < 4611686018427387904) : Shp x → Tt (fun _ => True) (fun n => tariff_typed n x names) := by
  induction hx with
  | @mk o k s l hl _ ih =>
    intro hs
    cases hs with
    | mk h1 h2 h3 h4 =>
    have key : ∀ l2 : List Int, l2.length = l.length → Tt (fun _ => True) (fun n =>
        (bif o == 1 then some true else some (o == 4)).bind fun v1 =>
        bif v1 then
         (slices_Contains_string_string n names s).bind fun v2 => bif !v2 then some ((0 : Int), (11 : Int)) else bif o == 4 then some (2, 0) else some (1, 0)
        else
         (bif o == 0 then some true else bif o == 2 then some true else some (o == 3)).bind fun v3 =>
         bif v3 then some (1, 0)
         else
          (bif o == 12 then some true else some (o == 13)).bind fun v4 =>
          bif v4 then (tariff_all n 0 l2 1).bind fun v5 => some (v5.1, v5.2)
          else
           (bif o == 14 then some true else bif o == 15 then some true else some (o == 16)).bind fun v6 =>
           bif v6 then (tariff_all n 0 l2 0).bind fun v7 => some (v7.1, v7.2)
           else
            bif o == 11 then
             (ix l2 0).bind fun ex1 =>
             bif ex1 != 0 then some (0, 13)
             else (ix l2 1).bind fun ex2 => (ix l2 2).bind fun ex3 => (tariff_join n ex2 ex3).bind fun v8 => some (v8.1, v8.2)
            else
             bif o == 7 then
              (ix l2 0).bind fun ex4 =>
              (bif ex4 == 2 then (ix l2 1).bind fun ex7 => some (ex7 == 2) else some false).bind fun v9 =>
              bif v9 then some (0, 13)
              else (ix l2 0).bind fun ex5 => (ix l2 1).bind fun ex6 => (tariff_join n ex5 ex6).bind fun v10 => some (v10.1, v10.2)
             else
              bif o == 8 then
               (ix l 1).bind fun ex8 =>
               bif ex8.Op != 0 then some (0, 13)
               else bif ex8.N == 0 then some (0, 14)
                else (ix l2 0).bind fun ex9 => (ix l2 1).bind fun ex10 => (tariff_join n ex9 ex10).bind fun v11 => some (v11.1, v11.2)
              else (ix l2 0).bind fun ex11 => (ix l2 1).bind fun ex12 => (tariff_join n ex11 ex12).bind fun v12 => some (v12.1, v12.2)) := by
      intro l2 hl2
      have jt : ∀ a b : Int, Tt (fun _ => True) (fun n => (tariff_join n a b).bind fun v => some (v.1, v.2)) := fun a b => Tt.bind (join_t a b) fun _ _ => Tt.pure trivial
      refine Tt.bind (P := fun b => b = false → o ≠ 1 ∧ o ≠ 4) (Tt.bif (fun _ => Tt.pure fun h => by cases h) (fun h => Tt.pure fun h2 => ⟨by simpa using h, by simpa using h2⟩)) fun b1 hb1 => ?_
      refine Tt.bif (fun _ => ?_) (fun h5 => ?_)
      · refine Tt.evb (Contains_ev s hn) ?_
        exact Tt.bif (fun _ => Tt.pure trivial) (fun _ => Tt.bif (fun _ => Tt.pure trivial) (fun _ => Tt.pure trivial))
      refine Tt.bind (P := fun b => b = false → o ≠ 0 ∧ o ≠ 2 ∧ o ≠ 3) (Tt.bif (fun _ => Tt.pure fun h => by cases h) (fun h => Tt.bif (fun _ => Tt.pure fun h => by cases h) (fun h2 => Tt.pure fun h3 => ⟨by simpa using h, by simpa using h2, by simpa using h3⟩))) fun b2 hb2 => ?_
      refine Tt.bif (fun _ => Tt.pure trivial) (fun h6 => ?_)
      have g1 := hb1 h5
      have g2 := hb2 h6
      have ho : 5 ≤ o := by omega
      refine Tt.cond (fun b3 => ?_) true
      refine Tt.bif (fun _ => ?_) (fun _ => ?_)
      · exact Tt.bind (all_t 0 (by omega) 1) fun _ _ => Tt.pure trivial
      refine Tt.bind (P := fun b => b = false → o ≠ 14) (Tt.bif (fun _ => Tt.pure fun h => by cases h) (fun h => Tt.weak (P := fun _ => True) (Tt.bif (fun _ => Tt.pure trivial) (fun _ => Tt.pure trivial)) fun _ _ _ => by simpa using h)) fun b4 hb4 => ?_
      refine Tt.bif (fun _ => ?_) (fun h7 => ?_)
      · exact Tt.bind (all_t 0 (by omega) 0) fun _ _ => Tt.pure trivial
      have g3 := hb4 h7
      have hlen : 2 ≤ l2.length := by
        rw [hl2]
        have : (2 : Int) ≤ argsN o := by
          unfold argsN
          rw [if_neg (by omega), if_neg g3]; split <;> decide
        omega
      have i0 : ix l2 0 = some l2[0] := ix_some (i := 0) (by omega)
      have i1 : ix l2 1 = some l2[1] := ix_some (i := 1) (by omega)
      refine Tt.bif (fun h8 => ?_) (fun _ => ?_)
      · have h8' : o = 11 := by simpa using h8
        have hl3 : 2 < l2.length := by
          rw [hl2]
          have : (l.length : Int) = 3 := by rw [h3, h8']; rfl
          omega
        have i2 : ix l2 2 = some l2[2] := ix_some (i := 2) hl3
        refine Tt.step i0 (Tt.bif (fun _ => Tt.pure trivial) (fun _ => ?_))
        exact Tt.step i1 (Tt.step i2 (jt _ _))
      have two : Tt (fun _ => True) (fun n => (ix l2 0).bind fun a => (ix l2 1).bind fun b => (tariff_join n a b).bind fun v => some (v.1, v.2)) := Tt.step i0 (Tt.step i1 (jt _ _))
      refine Tt.bif (fun _ => ?_) (fun _ => ?_)
      · refine Tt.step i0 ?_
        refine Tt.bind (P := fun _ => True) (Tt.bif (fun _ => Tt.step i1 (Tt.pure trivial)) (fun _ => Tt.pure trivial)) fun _ _ => ?_
        exact Tt.bif (fun _ => Tt.pure trivial) (fun _ => two)
      refine Tt.bif (fun _ => ?_) (fun _ => two)
      refine Tt.step (ix_some (l := l) (i := 1) (by omega)) ?_
      exact Tt.bif (fun _ => Tt.pure trivial) (fun _ => Tt.bif (fun _ => Tt.pure trivial) (fun _ => two))
    refine Tt.suc (fun n => tariff_typed_s n _ _) ?_
    obtain ⟨N, r, h⟩ := typed_L ⟨o, k, s, l⟩ names hl _ key l 0 [] rfl rfl (by simp) (fun y hy => ih y hy (h4 y hy))
    exact ⟨r, ⟨N + l.length + 1, fun n hn => h n n (by omega) (by omega)⟩, trivial⟩

theorem Check_t {t : Tariff} (hx : Fit t.Fee) (names : List Rt.Bs) (hn : names.length < 4611686018427387904) : Tt (fun _ => True) (fun n => tariff_Check n t names) := by
  unfold tariff_Check
  refine Tt.evb (named_ev hn) (Tt.bif (fun _ => Tt.pure trivial) (fun _ => ?_))
  refine Tt.bind (writable_t hx) fun b hb => ?_
  refine Tt.bif (fun _ => Tt.pure trivial) (fun h => ?_)
  refine Tt.bind (typed_t hx names hn (hb (by simpa using h))) fun r _ => ?_
  refine Tt.cond (fun b => ?_) _
  exact Tt.bif (fun _ => Tt.pure trivial) (fun _ => Tt.pure trivial)
theorem Type_t {x : M.Expr} (hx : Fit x) (names : List Rt.Bs) (hn : names.length < 4611686018427387904) : Tt (fun _ => True) (fun n => tariff_Type n x names) := by
  unfold tariff_Type
  refine Tt.evb (named_ev hn) (Tt.bif (fun _ => Tt.pure trivial) (fun _ => ?_))
  refine Tt.bind (form_t hx) fun b hb => ?_
  refine Tt.bif (fun _ => Tt.pure trivial) (fun h => ?_)
  exact Tt.bind (typed_t hx names hn (hb (by simpa using h))) fun r _ => Tt.pure trivial

/-! reading -/
theorem scanF_len : ∀ (f : Nat) (r : Rt.Bs) (a : Nat), (Lx.scanF f r a).1.length ≤ r.length
  | 0, r, a => by simp [Lx.scanF]
  | f + 1, r, a => by
    by_cases hend : Lx.gapN false r = r.length
    · rw [Lx.scanF_end hend]; simp
    have hg := Lx.gapN_le false r
    by_cases hx : (Lx.next (r.drop (Lx.gapN false r))).2.2 = 0
    · have h2 : r.drop (Lx.gapN false r) ≠ [] := by
        intro e; have := congrArg List.length e; simp only [List.length_drop, List.length_nil] at this; omega
      have h4 := Lx.next_len h2 hx
      have ih := scanF_len f (r.drop (Lx.gapN false r + (Lx.next (r.drop (Lx.gapN false r))).2.1)) (a + Lx.gapN false r + (Lx.next (r.drop (Lx.gapN false r))).2.1)
      simp only [List.length_drop] at h4 ih
      rw [Lx.scanF_more hend hx]
      split
      · omega
      · simp only [List.length_cons]; omega
    · rw [Lx.scanF_bad hend hx]; simp
theorem scan_len (s : Rt.Bs) : (Lx.scan s).1.length ≤ s.length := by
  unfold Lx.scan
  split
  · simp
  · exact scanF_len _ _ _
theorem Scan_ev {s : Rt.Bs} (hs : s.length ≤ 1000000) : Ev (fun n => lexer_Scan n s) ((Lx.scan s).1, ((Lx.scan s).2.1 : Int), (Lx.scan s).2.2) := ⟨s.length + 14, fun n hn => Lx.scan_eq hs (by omega)⟩
theorem Parse_t {s : Rt.Bs} (hs : s.length ≤ 1000000) : Tt (fun r => Fit r.1.Fee) (fun n => tariff_Parse n s) := by
  unfold tariff_Parse
  refine Tt.evb (Scan_ev hs) ?_
  have hl : (Lx.scan s).1.length ≤ 1000000 := Nat.le_trans (scan_len s) hs
  generalize Lx.scan s = sc at hl ⊢
  obtain ⟨l, at_, e⟩ := sc
  dsimp only at hl ⊢
  refine Tt.bif (fun _ => Tt.pure (Fit.leaf _ _ _)) (fun _ => ?_)
  refine Tt.bind (need_t hl (a := 0) (e := 0) (by omega) _ (by simp)) ?_
  rintro _ ⟨a1, e1, rfl, _, h1⟩
  refine Tt.bind (one_t hl h1 (by decide)) ?_
  rintro ⟨_, t⟩ ⟨a2, e2, rfl, _, h2⟩
  refine Tt.bind (need_t hl h2 _ (by simp)) ?_
  rintro _ ⟨a3, e3, rfl, _, h3⟩
  refine Tt.bind (expr_t hl h3) ?_
  rintro ⟨_, x⟩ ⟨⟨a4, e4, rfl, _, h4⟩, fx⟩
  refine Tt.evb (Ev.all fun n => is_n n _ h4) ?_
  dsimp only at fx ⊢
  refine Tt.bind (P := fun _ => True) (Tt.bif (fun _ => Tt.bind (sized_t fx _ _) fun _ _ => Tt.pure trivial) (fun _ => Tt.pure trivial)) ?_
  rintro ⟨v7, w⟩ _
  dsimp only
  refine Tt.bind (P := fun q : List Token × Int × Int => InR l a4 ⟨q.1, q.2.1, q.2.2⟩) (Tt.bif (fun _ => ?_) (fun _ => Tt.pure (InR.here h4))) ?_
  · exact Tt.evb (Ev.all fun n => fail_n n l a4 e4 6) (Tt.pure (InR.here h4))
  rintro ⟨f1, f2, f3⟩ ⟨a5, e5, hq, _, h5⟩
  obtain ⟨rfl, rfl, rfl⟩ : f1 = l ∧ f2 = (a5 : Int) ∧ f3 = e5 := by simpa using hq
  dsimp only
  refine Tt.bind (need_t hl h5 _ (by simp)) ?_
  rintro _ ⟨a6, e6, rfl, _, h6⟩
  refine Tt.bind (take_t _ hl h6) ?_
  rintro ⟨_, b⟩ ⟨a7, e7, rfl, _, h7⟩
  refine Tt.bind (P := fun q : Int × List Token × Int × Int => InR f1 a7 ⟨q.2.1, q.2.2.1, q.2.2.2⟩) (Tt.bif (fun _ => ?_) (fun _ => Tt.pure (InR.here h7))) ?_
  · refine Tt.bind (need_t hl h7 _ (by simp)) ?_
    rintro _ ⟨a8, e8, rfl, h71, h8⟩
    refine Tt.bind (one_t hl h8 (by decide)) ?_
    rintro ⟨_, t2⟩ ⟨a9, e9, rfl, h81, h9⟩
    refine Tt.bind (need_t hl h9 _ (by simp)) ?_
    rintro _ ⟨a10, e10, rfl, h91, h10⟩
    exact Tt.pure ⟨a10, e10, rfl, by omega, h10⟩
  rintro ⟨f5, f6, f7, f8⟩ ⟨a8, e8, hq8, _, h8⟩
  obtain ⟨rfl, rfl, rfl⟩ : f6 = f1 ∧ f7 = (a8 : Int) ∧ f8 = e8 := by simpa using hq8
  dsimp only
  refine Tt.bind (need_t hl h8 _ (by simp)) ?_
  rintro _ ⟨a9, e9, rfl, _, h9⟩
  refine Tt.bind (P := fun q : List Token × Int × Int => q.2.1 = (a9 : Int)) (Tt.bif (fun _ => ?_) (fun _ => Tt.pure rfl)) ?_
  · exact Tt.evb (Ev.all fun n => fail_n n f6 a9 e9 12) (Tt.pure rfl)
  rintro ⟨g1, g2, g3⟩ rfl
  dsimp only
  refine Tt.bif (fun _ => Tt.pure fx) (fun _ => ?_)
  refine Tt.bif (fun h => ?_) (fun _ => Tt.pure (Fit.leaf _ _ _))
  have hlt := of_decide_eq_true h
  exact Tt.step (ix_some (l := f6) (i := a9) (by omega)) (Tt.pure (Fit.leaf _ _ _))
end Go.Proofs.YtpihabofmnnbbaaDoor.Ta
