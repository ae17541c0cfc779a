/-
  PRINTING: what text and Print return.
-/
import Derived.Test.YtpihabofmnnbbaaDoorTyp2
import Derived.Test.YtpihabofmnnbbaaDoorTaV
import Derived.Test.YtpihabofmnnbbaaDoorMirG
import Derived.Lib.ItoaLen
namespace Go.Proofs.YtpihabofmnnbbaaDoor.Pr
open Go Rt M Ta Tp

/-- the sign or the word of an operator -/
def sgn (o : Int) : Rt.Bs :=
  if o = 5 then [43] else if o = 6 then [45] else if o = 7 then [42] else if o = 8 then [47] else if o = 12 then [60] else if o = 13 then [61] else if o = 15 then [97, 110, 100] else [111, 114]
def txo (o n : Int) (s : Rt.Bs) : List (Rt.Bs × Rt.Bs) → Rt.Bs
  | [] => if o = 0 then Lib.itoa n else if o = 2 then [112, 101, 114, 115, 111, 110, 115] else if o = 3 then [102, 108, 97, 116, 115] else if o = 1 then ([108, 105, 102, 116, 115, 32, 40, 32] ++ s) ++ [32, 41] else ([119, 101, 105, 103, 104, 116, 32, 40, 32] ++ s) ++ [32, 41]
  | [a] => [110, 111, 116, 32] ++ a.2
  | [a, b] => if o = 9 then ((([109, 105, 110, 32, 40, 32] ++ a.1) ++ [32, 44, 32]) ++ b.1) ++ [32, 41] else if o = 10 then ((([109, 97, 120, 32, 40, 32] ++ a.1) ++ [32, 44, 32]) ++ b.1) ++ [32, 41] else (((a.2 ++ [32]) ++ sgn o) ++ [32]) ++ b.2
  | a :: b :: c :: _ => (((([105, 102, 32] ++ a.2) ++ [32, 116, 104, 101, 110, 32]) ++ b.2) ++ [32, 101, 108, 115, 101, 32]) ++ c.2
def ato (o : Int) (l : List M.Expr) (t : Rt.Bs) : Rt.Bs := bif (!l.isEmpty && o != 9) && o != 10 then ([40, 32] ++ t) ++ [32, 41] else t
mutual
/-- the text of an expression, and that of an Arg -/
def ta : M.Expr → Rt.Bs × Rt.Bs
  | ⟨o, n, s, l⟩ => (txo o n s (tas l), ato o l (txo o n s (tas l)))
def tas : List M.Expr → List (Rt.Bs × Rt.Bs)
  | [] => []
  | x :: l => ta x :: tas l
 end
theorem scat_eq {a b : Rt.Bs} (h : a.length + b.length ≤ 1000000000) : scat a b = some (a ++ b) := by unfold scat; rw [if_pos (by omega)]
theorem name_le {s : Rt.Bs} (h : Lx.name s = true) : s.length ≤ 20 := by
  unfold Lx.name at h
  simp only [Bool.and_eq_true, decide_eq_true_eq] at h
  omega
def TxOk (x : M.Expr) : Prop := (Ev (fun n => tariff_text n x) (ta x).1 ∧ Ev (fun n => tariff_atomic n x) (ta x).2) ∧ (ta x).1.length ≤ 80 * cnt x ∧ (ta x).2.length ≤ 80 * cnt x + 4
theorem atomic_of {o n : Int} {s : Rt.Bs} {l : List M.Expr} (ht : Ev (fun m => tariff_text m ⟨o, n, s, l⟩) (ta ⟨o, n, s, l⟩).1) (hl : (ta ⟨o, n, s, l⟩).1.length ≤ 80 * cnt ⟨o, n, s, l⟩) (hc : cnt ⟨o, n, s, l⟩ ≤ 1000) : TxOk ⟨o, n, s, l⟩ := by
  have e : (ta ⟨o, n, s, l⟩).2 = ato o l (ta ⟨o, n, s, l⟩).1 := rfl
  refine ⟨⟨ht, ?_⟩, hl, ?_⟩
  · rw [e]
    refine Ev.suc (fun m => tariff_atomic_s m _) ?_
    have hlen : decide (0 < (l.length : Int)) = !l.isEmpty := by cases l with
      | nil => rfl
      | cons => simp only [List.length_cons, List.isEmpty_cons, Bool.not_false, decide_eq_true_eq]; omega
    have h1 : (bif decide (0 < (l.length : Int)) then some (o != 9) else some false) = some (!l.isEmpty && o != 9) := by rw [hlen]; cases l.isEmpty <;> rfl
    refine Ev.step (a := !l.isEmpty && o != 9) h1 ?_
    have h2 : ∀ c : Bool, (bif c then some (o != 10) else some false) = some (c && o != 10) := fun c => by cases c <;> rfl
    refine Ev.step (h2 _) ?_
    unfold ato
    cases (!l.isEmpty && o != 9) && o != 10 with
    | true => exact Ev.then rfl (Ev.bind ht (Ev.step (scat_eq (by simp only [List.length_cons, List.length_nil]; omega)) (Ev.step (scat_eq (by simp only [List.length_append, List.length_cons, List.length_nil]; omega)) (Ev.pure _))))
    | false => exact Ev.else rfl (Ev.bind ht (Ev.pure _))
  · rw [e]; unfold ato
    cases (!l.isEmpty && o != 9) && o != 10 with
    | true => simp only [cond_true, List.length_append, List.length_cons, List.length_nil]; omega
    | false => simp only [cond_false]; omega
def ops : List (Rt.Bs × Int) := [([43], 5), ([45], 6), ([42], 7), ([47], 8), ([60], 12), ([61], 13), ([97, 110, 100], 15), ([111, 114], 16)]
theorem operators_n (n : Nat) : tariff_operators n = some ops := rfl
theorem shx_len {o : Int} {l : List M.Expr} {k : Nat} (h : (l.length : Int) = argsN o) (hk : argsN o = k) : l.length = k := by omega
theorem text_ok {x : M.Expr} (hs : Shx x) : cnt x ≤ 1000 → TxOk x := by
  induction hs with
  | @mk o n s l h0 h16 hl hno _ ih =>
    intro hc
    have hcc : cnt ⟨o, n, s, l⟩ = cnts l + 1 := rfl
    have bin : (o = 5 ∨ o = 6 ∨ o = 7 ∨ o = 8 ∨ o = 12 ∨ o = 13 ∨ o = 15 ∨ o = 16) → TxOk ⟨o, n, s, l⟩ := by
      intro ho
      have hl2 : l.length = 2 := shx_len hl (by unfold argsN; rw [if_neg (by omega), if_neg (by omega), if_neg (by omega)]; rfl)
      obtain ⟨a, b, rfl⟩ : ∃ a b, l = [a, b] := by
        match l, hl2 with
        | [a, b], _ => exact ⟨a, b, rfl⟩
      have hcab : cnt ⟨o, n, s, [a, b]⟩ = cnt a + (cnt b + 0) + 1 := rfl
      obtain ⟨⟨_, ea⟩, _, la⟩ := ih a (by simp) (by omega)
      obtain ⟨⟨_, eb⟩, _, lb⟩ := ih b (by simp) (by omega)
      have hsg : (sgn o).length ≤ 3 := by rcases ho with rfl | rfl | rfl | rfl | rfl | rfl | rfl | rfl <;> decide
      have hf : List.find? (fun (q : Bs × Int) => q.2 == o) ops = some (sgn o, o) := by rcases ho with rfl | rfl | rfl | rfl | rfl | rfl | rfl | rfl <;> rfl
      have et : (ta ⟨o, n, s, [a, b]⟩).1 = ((((ta a).2 ++ [32]) ++ sgn o) ++ [32]) ++ (ta b).2 := by
        show (if o = 9 then _ else if o = 10 then _ else (((ta a).2 ++ [32]) ++ sgn o) ++ [32] ++ (ta b).2) = _
        rw [if_neg (by omega), if_neg (by omega)]
      refine atomic_of ?_ ?_ hc
      · rw [et]
        refine Ev.suc (fun m => tariff_text_s m _) ?_
        have e : ∀ k : Int, (k = 0 ∨ k = 1 ∨ k = 2 ∨ k = 3 ∨ k = 4 ∨ k = 9 ∨ k = 10 ∨ k = 14 ∨ k = 11) → (o == k) = false := fun k hk => by rw [beq_eq_false_iff_ne]; omega
        refine Ev.else (e 0 (by decide)) (Ev.else (e 2 (by decide)) (Ev.else (e 3 (by decide)) (Ev.else (e 1 (by decide)) (Ev.else (e 4 (by decide)) (Ev.else (e 9 (by decide)) (Ev.else (e 10 (by decide)) (Ev.else (e 14 (by decide)) (Ev.else (e 11 (by decide)) ?_))))))))
        refine Ev.bind (Ev.all fun m => operators_n m) ?_
        refine Ev.from (g := fun m => (ix [a, b] 0).bind fun ex10 => (tariff_atomic m ex10).bind fun v12 => (scat v12 [32]).bind fun t19 => (scat t19 (sgn o)).bind fun t20 => (scat t20 [32]).bind fun t21 => (ix [a, b] 1).bind fun ex11 => (tariff_atomic m ex11).bind fun v13 => (scat t21 v13).bind fun t22 => some t22) 9 (fun m hm => ?_) ?_
        · show mloop m ops.length (match List.find? (fun (q : Bs × Int) => q.2 == o) ops with | none => some [] | some q => _) = _
          unfold mloop
          rw [if_neg (by show ¬m ≤ 8; omega), hf]
        · refine Ev.step (a := a) rfl (Ev.bind ea (Ev.step (scat_eq ?_) (Ev.step (scat_eq ?_) (Ev.step (scat_eq ?_) (Ev.step (a := b) rfl (Ev.bind eb (Ev.step (scat_eq ?_) (Ev.pure _))))))))
          all_goals simp only [List.length_append, List.length_cons, List.length_nil]; omega
      · rw [et]; simp only [List.length_append, List.length_cons, List.length_nil]; omega
    have hcs : o = 0 ∨ o = 1 ∨ o = 2 ∨ o = 3 ∨ o = 4 ∨ o = 9 ∨ o = 10 ∨ o = 11 ∨ o = 14 ∨ (o = 5 ∨ o = 6 ∨ o = 7 ∨ o = 8 ∨ o = 12 ∨ o = 13 ∨ o = 15 ∨ o = 16) := by omega
    rcases hcs with rfl | rfl | rfl | rfl | rfl | rfl | rfl | rfl | rfl | ho
    · obtain rfl : l = [] := List.length_eq_zero_iff.1 (shx_len hl rfl)
      unfold nodeok at hno
      rw [if_pos rfl] at hno
      have hi := Lib.itoa_length_le n (by omega) (by omega)
      refine atomic_of ?_ (by show (Lib.itoa n).length ≤ 80 * 1; omega) hc
      refine Ev.suc (fun m => tariff_text_s m _) (Ev.then rfl (Ev.step (a := Lib.itoa n) ?_ (Ev.pure _)))
      show (if -9223372036854775808 ≤ n ∧ n ≤ 9223372036854775807 then some (Lib.itoa n) else none) = _
      rw [if_pos (by omega)]
    · obtain rfl : l = [] := List.length_eq_zero_iff.1 (shx_len hl rfl)
      unfold nodeok at hno
      rw [if_neg (by decide), if_pos (by decide)] at hno
      have hn := name_le hno.2
      refine atomic_of ?_ (by show (([108, 105, 102, 116, 115, 32, 40, 32] ++ s) ++ [32, 41]).length ≤ 80 * 1; simp only [List.length_append, List.length_cons, List.length_nil]; omega) hc
      refine Ev.suc (fun m => tariff_text_s m _) (Ev.else rfl (Ev.else rfl (Ev.else rfl (Ev.then rfl (Ev.step (scat_eq ?_) (Ev.step (scat_eq ?_) (Ev.pure _)))))))
      all_goals simp only [List.length_append, List.length_cons, List.length_nil]; omega
    · obtain rfl : l = [] := List.length_eq_zero_iff.1 (shx_len hl rfl)
      refine atomic_of ?_ (by show 7 ≤ 80 * 1; decide) hc
      exact Ev.suc (fun m => tariff_text_s m _) (Ev.else rfl (Ev.then rfl (Ev.pure _)))
    · obtain rfl : l = [] := List.length_eq_zero_iff.1 (shx_len hl rfl)
      refine atomic_of ?_ (by show 5 ≤ 80 * 1; decide) hc
      exact Ev.suc (fun m => tariff_text_s m _) (Ev.else rfl (Ev.else rfl (Ev.then rfl (Ev.pure _))))
    · obtain rfl : l = [] := List.length_eq_zero_iff.1 (shx_len hl rfl)
      unfold nodeok at hno
      rw [if_neg (by decide), if_pos (by decide)] at hno
      have hn := name_le hno.2
      refine atomic_of ?_ (by show (([119, 101, 105, 103, 104, 116, 32, 40, 32] ++ s) ++ [32, 41]).length ≤ 80 * 1; simp only [List.length_append, List.length_cons, List.length_nil]; omega) hc
      refine Ev.suc (fun m => tariff_text_s m _) (Ev.else rfl (Ev.else rfl (Ev.else rfl (Ev.else rfl (Ev.then rfl (Ev.step (scat_eq ?_) (Ev.step (scat_eq ?_) (Ev.pure _))))))))
      all_goals simp only [List.length_append, List.length_cons, List.length_nil]; omega
    · have hl2 : l.length = 2 := shx_len hl rfl
      obtain ⟨a, b, rfl⟩ : ∃ a b, l = [a, b] := by
        match l, hl2 with
        | [a, b], _ => exact ⟨a, b, rfl⟩
      have hcab : cnt ⟨9, n, s, [a, b]⟩ = cnt a + (cnt b + 0) + 1 := rfl
      obtain ⟨⟨ea, _⟩, la, _⟩ := ih a (by simp) (by omega)
      obtain ⟨⟨eb, _⟩, lb, _⟩ := ih b (by simp) (by omega)
      have et : (ta ⟨9, n, s, [a, b]⟩).1 = ((([109, 105, 110, 32, 40, 32] ++ (ta a).1) ++ [32, 44, 32]) ++ (ta b).1) ++ [32, 41] := rfl
      refine atomic_of ?_ ?_ hc
      · rw [et]
        refine Ev.suc (fun m => tariff_text_s m _) (Ev.else rfl (Ev.else rfl (Ev.else rfl (Ev.else rfl (Ev.else rfl (Ev.then rfl ?_))))))
        refine Ev.step (a := a) rfl (Ev.bind ea (Ev.step (scat_eq ?_) (Ev.step (scat_eq ?_) (Ev.step (a := b) rfl (Ev.bind eb (Ev.step (scat_eq ?_) (Ev.step (scat_eq ?_) (Ev.pure _))))))))
        all_goals simp only [List.length_append, List.length_cons, List.length_nil]; omega
      · rw [et]; simp only [List.length_append, List.length_cons, List.length_nil]; omega
    · have hl2 : l.length = 2 := shx_len hl rfl
      obtain ⟨a, b, rfl⟩ : ∃ a b, l = [a, b] := by
        match l, hl2 with
        | [a, b], _ => exact ⟨a, b, rfl⟩
      have hcab : cnt ⟨10, n, s, [a, b]⟩ = cnt a + (cnt b + 0) + 1 := rfl
      obtain ⟨⟨ea, _⟩, la, _⟩ := ih a (by simp) (by omega)
      obtain ⟨⟨eb, _⟩, lb, _⟩ := ih b (by simp) (by omega)
      have et : (ta ⟨10, n, s, [a, b]⟩).1 = ((([109, 97, 120, 32, 40, 32] ++ (ta a).1) ++ [32, 44, 32]) ++ (ta b).1) ++ [32, 41] := rfl
      refine atomic_of ?_ ?_ hc
      · rw [et]
        refine Ev.suc (fun m => tariff_text_s m _) (Ev.else rfl (Ev.else rfl (Ev.else rfl (Ev.else rfl (Ev.else rfl (Ev.else rfl (Ev.then rfl ?_)))))))
        refine Ev.step (a := a) rfl (Ev.bind ea (Ev.step (scat_eq ?_) (Ev.step (scat_eq ?_) (Ev.step (a := b) rfl (Ev.bind eb (Ev.step (scat_eq ?_) (Ev.step (scat_eq ?_) (Ev.pure _))))))))
        all_goals simp only [List.length_append, List.length_cons, List.length_nil]; omega
      · rw [et]; simp only [List.length_append, List.length_cons, List.length_nil]; omega
    · have hl3 : l.length = 3 := shx_len hl rfl
      obtain ⟨a, b, c, rfl⟩ : ∃ a b c, l = [a, b, c] := by
        match l, hl3 with
        | [a, b, c], _ => exact ⟨a, b, c, rfl⟩
      have hcab : cnt ⟨11, n, s, [a, b, c]⟩ = cnt a + (cnt b + (cnt c + 0)) + 1 := rfl
      obtain ⟨⟨_, ea⟩, _, la⟩ := ih a (by simp) (by omega)
      obtain ⟨⟨_, eb⟩, _, lb⟩ := ih b (by simp) (by omega)
      obtain ⟨⟨_, ec⟩, _, lc⟩ := ih c (by simp) (by omega)
      have et : (ta ⟨11, n, s, [a, b, c]⟩).1 = (((([105, 102, 32] ++ (ta a).2) ++ [32, 116, 104, 101, 110, 32]) ++ (ta b).2) ++ [32, 101, 108, 115, 101, 32]) ++ (ta c).2 := rfl
      refine atomic_of ?_ ?_ hc
      · rw [et]
        refine Ev.suc (fun m => tariff_text_s m _) (Ev.else rfl (Ev.else rfl (Ev.else rfl (Ev.else rfl (Ev.else rfl (Ev.else rfl (Ev.else rfl (Ev.else rfl (Ev.then rfl ?_)))))))))
        refine Ev.step (a := a) rfl (Ev.bind ea (Ev.step (scat_eq ?_) (Ev.step (scat_eq ?_) (Ev.step (a := b) rfl (Ev.bind eb (Ev.step (scat_eq ?_) (Ev.step (scat_eq ?_) (Ev.step (a := c) rfl (Ev.bind ec (Ev.step (scat_eq ?_) (Ev.pure _)))))))))))
        all_goals simp only [List.length_append, List.length_cons, List.length_nil]; omega
      · rw [et]; simp only [List.length_append, List.length_cons, List.length_nil]; omega
    · have hl1 : l.length = 1 := shx_len hl rfl
      obtain ⟨a, rfl⟩ : ∃ a, l = [a] := by
        match l, hl1 with
        | [a], _ => exact ⟨a, rfl⟩
      have hcab : cnt ⟨14, n, s, [a]⟩ = cnt a + 0 + 1 := rfl
      obtain ⟨⟨_, ea⟩, _, la⟩ := ih a (by simp) (by omega)
      have et : (ta ⟨14, n, s, [a]⟩).1 = [110, 111, 116, 32] ++ (ta a).2 := rfl
      refine atomic_of ?_ ?_ hc
      · rw [et]
        refine Ev.suc (fun m => tariff_text_s m _) (Ev.else rfl (Ev.else rfl (Ev.else rfl (Ev.else rfl (Ev.else rfl (Ev.else rfl (Ev.else rfl (Ev.then rfl ?_))))))))
        refine Ev.step (a := a) rfl (Ev.bind ea (Ev.step (scat_eq ?_) (Ev.pure _)))
        simp only [List.length_cons, List.length_nil]; omega
      · rw [et]; simp only [List.length_append, List.length_cons, List.length_nil]; omega
    · exact bin ho
/-- the text of a tariff -/
def ptx (t : Tariff) : Rt.Bs :=
  ((([116, 97, 114, 105, 102, 102, 32] ++ t.Name) ++ [32, 123, 32, 102, 101, 101, 32, 61, 32]) ++ (ta t.Fee).1 ++ [32, 59]) ++ (if t.Cap ≠ -1 then ([32, 99, 97, 112, 32, 61, 32] ++ Lib.itoa t.Cap) ++ [32, 59] else []) ++ [32, 125]
theorem print_ev {t : Tariff} (hx : Fit t.Fee) : Tt (fun r => (Wrt t ∧ r = (ptx t, true)) ∨ (¬Wrt t ∧ r = ([], false))) (fun n => tariff_Print n t) := by
  unfold tariff_Print
  obtain ⟨b, eb, hb⟩ := writable_x hx
  refine Tt.evb eb ?_
  cases b with
  | false => exact Tt.bif (fun _ => Tt.pure (.inr ⟨fun h => (by have := hb.2 h; cases this), rfl⟩)) (fun h => by cases h)
  | true =>
    refine Tt.bif (fun h => by cases h) (fun _ => ?_)
    have hw : Wrt t := hb.1 rfl
    have hn := name_le hw.1
    have hc := hw.2.1.1.2
    obtain ⟨⟨et, _⟩, lt, _⟩ := text_ok hw.2.1.2 (by omega)
    have hcap := hw.2.2
    have hi := Lib.itoa_length_le t.Cap (by omega) (by omega)
    refine Tt.of (r := (ptx t, true)) ?_ (.inl ⟨hw, rfl⟩)
    refine Ev.step (scat_eq ?_) (Ev.step (scat_eq ?_) (Ev.bind et (Ev.step (scat_eq ?_) (Ev.step (scat_eq ?_) ?_))))
    · simp only [List.length_cons, List.length_nil]; omega
    · simp only [List.length_append, List.length_cons, List.length_nil]; omega
    · simp only [List.length_append, List.length_cons, List.length_nil]; omega
    · simp only [List.length_append, List.length_cons, List.length_nil]; omega
    unfold ptx
    by_cases h1 : t.Cap = -1
    · rw [if_neg (fun h => h h1), List.append_nil]
      refine Ev.bind (Ev.else (by rw [h1]; rfl) (Ev.pure _)) (Ev.step (scat_eq ?_) (Ev.pure _))
      simp only [List.length_append, List.length_cons, List.length_nil]; omega
    · rw [if_pos h1]
      refine Ev.bind (Ev.then (by simpa using h1) (Ev.step (a := Lib.itoa t.Cap) ?_ (Ev.step (scat_eq ?_) (Ev.step (scat_eq ?_) (Ev.step (scat_eq ?_) (Ev.pure _)))))) (Ev.step (scat_eq ?_) (Ev.pure _))
      · show (if -9223372036854775808 ≤ t.Cap ∧ t.Cap ≤ 9223372036854775807 then some (Lib.itoa t.Cap) else none) = _
        rw [if_pos (by omega)]
      all_goals simp only [List.length_append, List.length_cons, List.length_nil]; omega
/-! the limits -/
theorem short_t {x : M.Expr} (hx : Fit x) : Tt (fun _ => True) (fun n => law35_short n x) := by
  have L : ∀ (x : M.Expr), x.Args.length ≤ 1000000 → ∀ (us : List M.Expr) (i : Nat), x.Args.drop i = us → (∀ y, y ∈ us → Tt (fun _ => True) (fun n => law35_short n y)) →
      ∀ (c : Bool), ∃ N r, ∀ n m, N ≤ n → us.length < m → law35_short_L1 n (law35_short n) x (some c) m (i : Int) = some r := by
    intro x hx us
    induction us with
    | nil =>
      intro i hd _ c
      refine ⟨0, c, fun n m _ hm => ?_⟩
      obtain ⟨m, rfl⟩ := left hm
      rw [law35_short_L1_s, more_no hd]; rfl
    | cons y us ih =>
      intro i hd H c
      obtain ⟨h1, h2, h3⟩ := drop_cons hd
      obtain ⟨b, ⟨N1, e1⟩, _⟩ := H y (by simp)
      obtain ⟨N, r, ih⟩ := ih (i + 1) h2 (fun z hz => H z (by simp [hz])) c
      refine ⟨max N N1, bif b then r else false, fun n m hn hm => ?_⟩
      obtain ⟨m, rfl, hm2⟩ := pred (by simpa using hm)
      have e1 : law35_short n y = some b := e1 n (by omega)
      rw [law35_short_L1_s, more_yes hd, cond_true, h1, Option.bind_some, e1, Option.bind_some]
      cases b with
      | false => rfl
      | true => rw [Bool.not_true, cond_false, inc64 (by omega), ih n m (by omega) hm2]; rfl
  induction hx with
  | @mk o k s l hl _ ih =>
    refine Tt.suc (fun n => law35_short_s n _) ?_
    obtain ⟨N, r, h⟩ := L ⟨o, k, s, l⟩ hl l 0 rfl ih (decide ((s.length : Int) ≤ 60))
    exact ⟨r, ⟨N + l.length + 1, fun n hn => h n n (by omega) (by omega)⟩, trivial⟩
theorem limited_t (t : Tariff) : Tt (fun b => b = true → Fit t.Fee) (fun n => law35_limited n t) := by
  unfold law35_limited
  refine Tt.bind (FewX_t t.Fee 130 14 (by decide) (by decide) (by decide) (by decide)) fun v1 h1 => ?_
  refine Tt.bind (P := fun b => b = true → Fit t.Fee) (Tt.bif (fun h => ?_) (fun _ => Tt.pure fun h => (by cases h))) fun v2 h2 => ?_
  · exact Tt.bind (short_t (h1 h)) fun _ _ => Tt.pure fun _ => h1 h
  refine Tt.bind (P := fun b => b = true → Fit t.Fee) (Tt.bif (fun h => Tt.pure fun _ => h2 h) (fun _ => Tt.pure fun h => (by cases h))) fun v3 h3 => ?_
  exact Tt.pure h3
theorem few35_t (l : List Rt.Bs) : Tt (fun b => b = true → l.length ≤ 10) (fun n => law35_few n l) := by
  have L : ∀ (us : List Rt.Bs) (i : Nat), l.drop i = us → i ≤ 10 → ∃ r : Bool, (r = true → l.length ≤ 10) ∧ ∀ n m, 12 - i < m → law35_few_L1 n l (some (decide ((l.length : Int) ≤ 10))) m (i : Int) = some r := by
    intro us
    induction us with
    | nil =>
      intro i hd _
      refine ⟨decide ((l.length : Int) ≤ 10), fun h => by have := of_decide_eq_true h; omega, fun n m hm => ?_⟩
      obtain ⟨m, rfl⟩ := left hm
      rw [law35_few_L1_s, more_no hd]; rfl
    | cons x us ih =>
      intro i hd hi
      obtain ⟨h1, h2, h3⟩ := drop_cons hd
      by_cases h10 : i < 10
      · obtain ⟨r, hr, ih⟩ := ih (i + 1) h2 (by omega)
        refine ⟨bif decide (60 < (x.length : Int)) then false else r, ?_, fun n m hm => ?_⟩
        · cases decide (60 < (x.length : Int)) with
          | true => intro h; cases h
          | false => exact hr
        · obtain ⟨m, rfl⟩ : ∃ j, m = j + 1 := ⟨m - 1, by omega⟩
          rw [law35_few_L1_s, more_yes hd, cond_true, Option.bind_some, decide_eq_true (show (i : Int) < 10 by omega), cond_true, h1, Option.bind_some]
          cases decide (60 < (x.length : Int)) with
          | true => rfl
          | false => rw [cond_false, inc64 (by omega), ih n m (by omega)]; rfl
      · refine ⟨decide ((l.length : Int) ≤ 10), fun h => by have := of_decide_eq_true h; omega, fun n m hm => ?_⟩
        obtain ⟨m, rfl⟩ := left hm
        rw [law35_few_L1_s, more_yes hd, cond_true, Option.bind_some, decide_eq_false (show ¬(i : Int) < 10 by omega)]; rfl
  obtain ⟨r, hr, h⟩ := L l 0 rfl (by omega)
  exact ⟨r, ⟨13, fun n hn => h n n (by omega)⟩, hr⟩
end Go.Proofs.YtpihabofmnnbbaaDoor.Pr
