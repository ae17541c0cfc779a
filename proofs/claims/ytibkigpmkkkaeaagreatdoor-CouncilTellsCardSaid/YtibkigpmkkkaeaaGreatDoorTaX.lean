/-
  SHAPES AND TYPES: the reference says what the program says.
-/
import Derived.Test.YtibkigpmkkkaeaaGreatDoorTaV
namespace Go.Proofs.YtibkigpmkkkaeaaGreatDoor.Ta
open Go Rt M
theorem orT (c d : Bool) : (bif c then some true else some d) = some (c || d) := by cases c <;> rfl
theorem andT (c d : Bool) : (bif c then some d else some false) = some (c && d) := by cases c <;> rfl
theorem Arity_n (n : Nat) {o : Int} (h1 : 0 ≤ o) (h2 : o ≤ 16) : ref35_Arity n o = some (argsN o) := by
  unfold ref35_Arity argsN
  rw [decide_eq_false (show ¬ o < 0 by omega), cond_false, Option.bind_some, decide_eq_false (show ¬ 17 ≤ o by omega), cond_false]
  by_cases h3 : o ≤ 4
  · rw [decide_eq_true h3, if_pos h3]; rfl
  · rw [decide_eq_false h3, if_neg h3, cond_false]
    by_cases h4 : o = 14
    · subst h4; rfl
    · rw [show (o == 14) = false by simpa using h4, if_neg h4, cond_false]
      by_cases h5 : o = 11
      · subst h5; rfl
      · rw [show (o == 11) = false by simpa using h5, if_neg h5]; rfl
theorem Arity_bad (n : Nat) {o : Int} (h : ¬ (0 ≤ o ∧ o ≤ 16)) : ref35_Arity n o = some (-1) := by
  unfold ref35_Arity
  rw [orT, Option.bind_some, show (decide (o < 0) || decide (17 ≤ o)) = true by by_cases h1 : o < 0 <;> simp [h1]; omega]; rfl
theorem shaped_L (x : M.Expr) (hl : x.Args.length ≤ 1000000) : ∀ (us : List M.Expr) (i : Nat), x.Args.drop i = us → (∀ y, y ∈ us → ∃ b, Ev (fun n => tariff_shaped n y) b ∧ Ev (fun n => ref35_shaped n y) b) →
    ∃ N r, ∀ n m, N ≤ n → us.length < m → slices_IndexFunc_api_Expr_api_Expr_L1 n x.Args (tariff_shaped_1 n) (some (-1)) m (i : Int) = some r ∧ ref35_shaped_L1 n (ref35_shaped n) x (some true) m (i : Int) = some (!decide (0 ≤ r))
  | [], i, hd, _ => by
    refine ⟨0, -1, fun n m _ hm => ?_⟩
    obtain ⟨m, rfl⟩ := left hm
    rw [slices_IndexFunc_api_Expr_api_Expr_L1_s, more_no hd, ref35_shaped_L1_s, more_no hd]
    exact ⟨rfl, rfl⟩
  | y :: us, i, hd, H => by
    obtain ⟨h1, h2, h3⟩ := drop_cons hd
    obtain ⟨b, ⟨N1, e1⟩, ⟨N2, e2⟩⟩ := H y (by simp)
    obtain ⟨N, r, ih⟩ := shaped_L x hl us (i + 1) h2 (fun z hz => H z (by simp [hz]))
    refine ⟨max N (max (N1 + 1) N2), if b = true then r else (i : Int), fun n m hn hm => ?_⟩
    obtain ⟨m, rfl, hm2⟩ := pred (by simpa using hm)
    obtain ⟨n', rfl⟩ : ∃ k, n = k + 1 := ⟨n - 1, by omega⟩
    have e1 : tariff_shaped n' y = some b := e1 n' (by omega)
    have e2 : ref35_shaped (n' + 1) y = some b := e2 (n' + 1) (by omega)
    have ih := ih (n' + 1) m (by omega) hm2
    rw [slices_IndexFunc_api_Expr_api_Expr_L1_s, more_yes hd, cond_true, h1, Option.bind_some, tariff_shaped_1_s, e1, Option.bind_some, Option.bind_some, ref35_shaped_L1_s, more_yes hd, cond_true, h1, Option.bind_some, e2, Option.bind_some]
    cases b with
    | true => rw [Bool.not_true, cond_false, cond_false, if_pos rfl, inc64 (by omega)]; exact ih
    | false =>
      rw [if_neg (by decide), decide_eq_true (show (0 : Int) ≤ (i : Int) by omega)]
      exact ⟨rfl, rfl⟩
theorem shaped_2 {x : M.Expr} (hx : Fit x) : ∃ b, Ev (fun n => tariff_shaped n x) b ∧ Ev (fun n => ref35_shaped n x) b := by
  induction hx with
  | @mk o k s l hl _ ih =>
    by_cases hr : 0 ≤ o ∧ o ≤ 16
    rotate_left
    · refine ⟨false, Ev.suc (fun n => tariff_shaped_s n _) ?_, Ev.suc (fun n => ref35_shaped_s n _) ?_⟩
      · refine Ev.bind (a := true) (Ev.all fun n => ?_) (Ev.bind (a := true) (Ev.then rfl (Ev.pure _)) (Ev.then rfl (Ev.pure _)))
        rw [orT]; dsimp only
        congr 1
        by_cases h1 : o < 0 <;> simp [h1]
        omega
      · refine Ev.bind (Ev.all fun n => Arity_bad n hr) ?_
        exact Ev.bind (a := true) (Ev.then (by dsimp only; rw [bne_iff_ne]; omega) (Ev.pure _)) (Ev.then rfl (Ev.pure _))
    have d1 : decide (o < 0) = false := decide_eq_false (by omega)
    have d2 : decide (17 ≤ o) = false := decide_eq_false (by omega)
    by_cases ha : (l.length : Int) = argsN o
    rotate_left
    · have d3 : ((l.length : Int) != argsN o) = true := by simpa using ha
      refine ⟨false, Ev.suc (fun n => tariff_shaped_s n _) ?_, Ev.suc (fun n => ref35_shaped_s n _) ?_⟩
      · exact Ev.bind (a := false) (Ev.else d1 ((Ev.pure _).eq d2)) (Ev.bind (a := true) (Ev.else rfl (Ev.bind (Ev.all fun n => args_n n _) ((Ev.pure _).eq d3))) (Ev.then rfl (Ev.pure _)))
      · exact Ev.bind (Ev.all fun n => Arity_n n hr.1 hr.2) (Ev.bind (a := true) (Ev.then d3 (Ev.pure _)) (Ev.then rfl (Ev.pure _)))
    have d3 : ((l.length : Int) != argsN o) = false := by simpa using ha
    have code : ∀ {b : Bool} {f : Nat → Option Bool}, Ev f b → Ev (fun n => (bif decide (o < 0) then some true else some (decide (17 ≤ o))).bind fun v1 => (bif v1 then some true else (tariff_args n o).bind fun v11 => some ((l.length : Int) != v11)).bind fun v2 => bif v2 then some false else f n) b := fun h =>
      Ev.bind (a := false) (Ev.else d1 ((Ev.pure _).eq d2)) (Ev.bind (a := false) (Ev.else rfl (Ev.bind (Ev.all fun n => args_n n _) ((Ev.pure _).eq d3))) (Ev.else rfl h))
    obtain ⟨N, r, hL⟩ := shaped_L ⟨o, k, s, l⟩ hl l 0 rfl ih
    have loopR : Ev (fun n => ref35_shaped_L1 n (ref35_shaped n) ⟨o, k, s, l⟩ (some true) n 0) (!decide (0 ≤ r)) := ⟨N + l.length + 1, fun n hn => (hL n n (by omega) (by omega)).2⟩
    have loopC : Ev (fun n => slices_ContainsFunc_api_Expr_api_Expr n l (tariff_shaped_1 n)) (decide (0 ≤ r)) := by
      unfold slices_ContainsFunc_api_Expr_api_Expr slices_IndexFunc_api_Expr_api_Expr
      exact Ev.bind (a := r) ⟨N + l.length + 1, fun n hn => (hL n n (by omega) (by omega)).1⟩ (Ev.pure _)
    have loop0 : argsN o = 0 → (!decide (0 ≤ r)) = true := by
      intro h0
      have hz : l = [] := List.length_eq_zero_iff.1 (by omega)
      subst hz
      have h1 := (hL (N + 1) 1 (by omega) (by simp)).1
      rw [slices_IndexFunc_api_Expr_api_Expr_L1_s] at h1
      have h2 : (some (-1) : Option Int) = some r := h1
      cases h2; rfl
    -- what the reference asks of a node
    have ref : ∀ {vn : Bool}, Lx.name s = vn → Ev (fun n => ref35_shaped n ⟨o, k, s, l⟩) (!((o != 0 && k != 0) || ((((o == 1 || o == 4) && !vn) || (!(o == 1 || o == 4) && !(s == []))) || (o == 0 && (decide (k < 0) || decide (1099511627776 < k))))) && !decide (0 ≤ r)) := by
      intro vn hvn
      refine Ev.suc (fun n => ref35_shaped_s n _) ?_
      refine Ev.bind (Ev.all fun n => Arity_n n hr.1 hr.2) ?_
      refine Ev.bind (a := (o != 0 && k != 0)) (Ev.else d3 (Ev.all fun n => by rw [andT]; rfl)) ?_
      cases (o != 0 && k != 0) with
      | true => exact Ev.then rfl ((Ev.pure _).eq rfl)
      | false =>
        refine Ev.else rfl ?_
        refine Ev.bind (a := (o == 1 || o == 4)) (Ev.all fun n => orT _ _) ?_
        refine Ev.bind (a := ((o == 1 || o == 4) && !vn)) ?_ ?_
        · cases (o == 1 || o == 4) with
          | true => exact Ev.then rfl (Ev.bind ((rname_ev s).eq hvn) (Ev.pure _))
          | false => exact Ev.else rfl (Ev.pure _)
        refine Ev.bind (a := (((o == 1 || o == 4) && !vn) || (!(o == 1 || o == 4) && !(s == [])))) ?_ ?_
        · cases ((o == 1 || o == 4) && !vn) with
          | true => exact Ev.then rfl (Ev.pure _)
          | false => exact Ev.else rfl (Ev.all fun n => by rw [andT]; rfl)
        refine Ev.bind (a := ((((o == 1 || o == 4) && !vn) || (!(o == 1 || o == 4) && !(s == []))) || (o == 0 && (decide (k < 0) || decide (1099511627776 < k))))) ?_ ?_
        · cases (((o == 1 || o == 4) && !vn) || (!(o == 1 || o == 4) && !(s == []))) with
          | true => exact Ev.then rfl (Ev.pure _)
          | false =>
            refine Ev.else rfl (Ev.bind (a := (o == 0 && (decide (k < 0) || decide (1099511627776 < k)))) ?_ ((Ev.pure _).eq (by simp)))
            cases o == 0 with
            | true => exact Ev.then rfl (Ev.all fun n => by rw [orT]; rfl)
            | false => exact Ev.else rfl (Ev.pure _)
        cases ((((o == 1 || o == 4) && !vn) || (!(o == 1 || o == 4) && !(s == []))) || (o == 0 && (decide (k < 0) || decide (1099511627776 < k)))) with
        | true => exact Ev.then rfl (Ev.pure _)
        | false => exact Ev.else rfl (loopR.eq (by simp))
    by_cases o0 : o = 0
    · refine ⟨(decide (0 ≤ k) && decide (k ≤ 1099511627776)) && s == [], Ev.suc (fun n => tariff_shaped_s n _) (code (Ev.then (by simpa using o0) ?_)), (ref rfl).eq ?_⟩
      · refine Ev.bind (a := (decide (0 ≤ k) && decide (k ≤ 1099511627776))) (Ev.all fun n => andT _ _) ?_
        exact Ev.bind (a := ((decide (0 ≤ k) && decide (k ≤ 1099511627776)) && s == [])) (Ev.all fun n => andT _ _) (Ev.pure _)
      · rw [loop0 (by rw [o0]; rfl)]
        subst o0
        by_cases k1 : k < 0
        · rw [decide_eq_true k1, decide_eq_false (show ¬ 0 ≤ k by omega)]; simp
        · by_cases k2 : 1099511627776 < k
          · rw [decide_eq_true k2, decide_eq_false (show ¬ k ≤ 1099511627776 by omega)]; simp
          · rw [decide_eq_false k1, decide_eq_false k2, decide_eq_true (show 0 ≤ k by omega), decide_eq_true (show k ≤ 1099511627776 by omega)]; simp
    have f0 : (o == 0) = false := by simpa using o0
    have g0 : (o != 0) = true := by simpa using o0
    by_cases o1 : (o == 1 || o == 4) = true
    · refine ⟨k == 0 && Lx.name s, Ev.suc (fun n => tariff_shaped_s n _) (code (Ev.else f0 (Ev.bind (a := true) ((Ev.all fun n => orT _ _).eq o1) (Ev.then rfl (Ev.bind (a := (k == 0 && Lx.name s)) ?_ (Ev.pure _)))))), (ref rfl).eq ?_⟩
      · cases hk : k == 0 with
        | true => exact Ev.then rfl (Ev.bind (name_ev s) ((Ev.pure _).eq (by simp)))
        | false => exact Ev.else rfl (Ev.pure _)
      · have h4 : o = 1 ∨ o = 4 := by simpa using o1
        rw [loop0 (by rcases h4 with h | h <;> rw [h] <;> rfl), o1, f0, g0]
        cases hk : k == 0 <;> cases Lx.name s <;> simp [bne, hk]
    · have o1' : (o == 1 || o == 4) = false := by simpa using o1
      refine ⟨(k == 0 && s == []) && !decide (0 ≤ r), Ev.suc (fun n => tariff_shaped_s n _) (code (Ev.else f0 (Ev.bind (a := false) ((Ev.all fun n => orT _ _).eq o1') (Ev.else rfl ?_)))), (ref rfl).eq ?_⟩
      · refine Ev.bind (a := (k == 0 && s == [])) (Ev.all fun n => andT _ _) ?_
        refine Ev.bind (a := ((k == 0 && s == []) && !decide (0 ≤ r))) ?_ (Ev.pure _)
        cases (k == 0 && s == []) with
        | true => exact Ev.then rfl (Ev.bind loopC ((Ev.pure _).eq (by simp)))
        | false => exact Ev.else rfl (Ev.pure _)
      · rw [o1', f0, g0]
        cases hk : k == 0 <;> cases s == [] <;> simp [bne, hk]
theorem form_2 {x : M.Expr} (hx : Fit x) : ∃ b, Ev (fun n => tariff_form n x) b ∧ Ev (fun n => ref35_Form n x) b ∧ (b = true → Shp x) := by
  obtain ⟨b1, z, e1, e2⟩ := few_2 hx
  obtain ⟨b2, e3, e4⟩ := shaped_2 hx
  obtain ⟨b3, e5, hS⟩ := shaped_t hx
  have hb : b3 = b2 := e5.uniq e3
  refine ⟨b1 && b2, ?_, ?_, fun h => hS (by rw [hb]; simp at h; exact h.2)⟩
  · unfold tariff_form
    refine Ev.bind e1 (Ev.bind (a := b1 && b2) ?_ (Ev.pure _))
    cases b1 with
    | true => exact Ev.then rfl (Ev.bind e3 ((Ev.pure _).eq (by simp)))
    | false => exact Ev.else rfl (Ev.pure _)
  · unfold ref35_Form
    refine Ev.bind e2 (Ev.bind (a := b1 && b2) ?_ (Ev.pure _))
    cases b1 with
    | true => exact Ev.then rfl (Ev.bind e4 ((Ev.pure _).eq (by simp)))
    | false => exact Ev.else rfl (Ev.pure _)
theorem written_2 {t : Tariff} (hx : Fit t.Fee) : ∃ b, Ev (fun n => tariff_writable n t) b ∧ Ev (fun n => ref35_Written n t) b ∧ (b = true → Shp t.Fee) := by
  obtain ⟨b, e1, e2, hS⟩ := form_2 hx
  refine ⟨((Lx.name t.Name && b) && decide (-1 ≤ t.Cap)) && decide (t.Cap ≤ 1099511627776), ?_, ?_, fun h => hS (by simp at h; exact h.1.1.2)⟩
  · unfold tariff_writable
    refine Ev.bind (name_ev _) (Ev.bind (a := (Lx.name t.Name && b)) ?_ (Ev.bind (Ev.all fun n => andT _ _) (Ev.bind (Ev.all fun n => andT _ _) (Ev.pure _))))
    cases Lx.name t.Name with
    | true => exact Ev.then rfl (Ev.bind e1 ((Ev.pure _).eq (by simp)))
    | false => exact Ev.else rfl (Ev.pure _)
  · unfold ref35_Written
    refine Ev.bind (rname_ev _) (Ev.bind (a := (Lx.name t.Name && b)) ?_ (Ev.bind (Ev.all fun n => andT _ _) (Ev.bind (Ev.all fun n => andT _ _) (Ev.pure _))))
    cases Lx.name t.Name with
    | true => exact Ev.then rfl (Ev.bind e2 ((Ev.pure _).eq (by simp)))
    | false => exact Ev.else rfl (Ev.pure _)
end Go.Proofs.YtibkigpmkkkaeaaGreatDoor.Ta
