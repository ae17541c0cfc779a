/-
  WHAT THE COUNCIL ADOPTS, AND WHAT IS IN FORCE: what the functions compute, in plain Lean.
-/
import Derived.Test.YtibkigpmkkkaeaaGreatDoorCnS
import Derived.Test.YtibkigpmkkkaeaaGreatDoorTaB
namespace Go.Proofs.YtibkigpmkkkaeaaGreatDoor.Cn
open Go Rt M Ta
/-! copies, and what is the same -/
theorem lset_same {α : Type} {l : List α} {i : Nat} {x : α} (h : l[i]? = some x) : lset l (i : Int) x = some l := by
  have hi : i < l.length := by
    rcases Nat.lt_or_ge i l.length with h1 | h1
    · exact h1
    · rw [List.getElem?_eq_none h1] at h; cases h
  unfold lset
  rw [if_pos ⟨by omega, by omega⟩]
  congr 1
  rw [List.getElem?_eq_getElem hi] at h
  injection h with h
  subst h
  simp
theorem clone_L (v : List M.Expr) (hv : v.length ≤ 1000000) (kont : List M.Expr → Option M.Expr) : ∀ (us : List M.Expr) (i : Nat), v.drop i = us → (∀ y, y ∈ us → Ev (fun n => council_clone n y) y) →
    ∃ N, ∀ n m, N ≤ n → us.length < m → council_clone_L1 n (council_clone n) v kont m (i : Int) v = kont v
  | [], i, hd, _ => by
    refine ⟨0, fun n m _ hm => ?_⟩
    obtain ⟨m, rfl⟩ := left hm
    rw [council_clone_L1_s, more_no hd]; rfl
  | y :: us, i, hd, H => by
    obtain ⟨h1, h2, h3⟩ := drop_cons hd
    obtain ⟨N1, e1⟩ := H y (by simp)
    obtain ⟨N, ih⟩ := clone_L v hv kont us (i + 1) h2 (fun z hz => H z (by simp [hz]))
    refine ⟨max N N1, fun n m hn hm => ?_⟩
    obtain ⟨m, rfl, hm2⟩ := pred (by simpa using hm)
    have e1 : council_clone n y = some y := e1 n (by omega)
    rw [council_clone_L1_s, more_yes hd, cond_true, h1, Option.bind_some, e1, Option.bind_some, Option.bind_some, lset_same (by rw [← ix_nat]; exact h1), Option.bind_some, inc64 (by omega)]
    exact ih n m (by omega) hm2
theorem clone_ev {x : M.Expr} (hx : Fit x) : Ev (fun n => council_clone n x) x := by
  induction hx with
  | @mk o k s l hl _ ih =>
    refine Ev.suc (fun n => council_clone_s n _) ?_
    refine Ev.step (show slices_Clone_api_Expr_api_Expr 0 l = some l from ?_) ?_
    · unfold slices_Clone_api_Expr_api_Expr
      rw [app_ok (by simp; omega), List.nil_append]
    obtain ⟨N, h⟩ := clone_L l hl (fun l2 => some ⟨o, k, s, l2⟩) l 0 rfl ih
    exact ⟨N + l.length + 1, fun n hn => h n n (by omega) (by omega)⟩
theorem copied_ev {t : Tariff} (hx : Fit t.Fee) : Ev (fun n => council_copied n t) t := by
  unfold council_copied
  exact Ev.bind (clone_ev hx) (Ev.pure _)
theorem Same_L (x : M.Expr) (hx : x.Args.length ≤ 1000000) (kont : Option Bool) : ∀ (us : List M.Expr) (i : Nat), x.Args.drop i = us → (∀ y, y ∈ us → Ev (fun n => ref35_Same n y y) true) →
    ∃ N, ∀ n m, N ≤ n → us.length < m → ref35_Same_L1 n (ref35_Same n) x x kont m (i : Int) = kont
  | [], i, hd, _ => by
    refine ⟨0, fun n m _ hm => ?_⟩
    obtain ⟨m, rfl⟩ := left hm
    rw [ref35_Same_L1_s, more_no hd]; rfl
  | y :: us, i, hd, H => by
    obtain ⟨h1, h2, h3⟩ := drop_cons hd
    obtain ⟨N1, e1⟩ := H y (by simp)
    obtain ⟨N, ih⟩ := Same_L x hx kont us (i + 1) h2 (fun z hz => H z (by simp [hz]))
    refine ⟨max N N1, fun n m hn hm => ?_⟩
    obtain ⟨m, rfl, hm2⟩ := pred (by simpa using hm)
    have e1 : ref35_Same n y y = some true := e1 n (by omega)
    rw [ref35_Same_L1_s, more_yes hd, cond_true, h1, Option.bind_some, Option.bind_some, e1, Option.bind_some, Bool.not_true, cond_false, inc64 (by omega)]
    exact ih n m (by omega) hm2
theorem Same_ev {x : M.Expr} (hx : Fit x) : Ev (fun n => ref35_Same n x x) true := by
  induction hx with
  | @mk o k s l hl _ ih =>
    refine Ev.suc (fun n => ref35_Same_s n _ _) ?_
    dsimp only
    refine or_pure (by simp) (by simp) (or_pure rfl (by simp) (or_pure rfl (by simp) (Ev.else rfl ?_)))
    obtain ⟨N, h⟩ := Same_L ⟨o, k, s, l⟩ hl (some true) l 0 rfl ih
    exact ⟨N + l.length + 1, fun n hn => h n n (by omega) (by omega)⟩
theorem SameT_ev {t : Tariff} (hx : Fit t.Fee) : Ev (fun n => ref35_SameTariff n t t) true := by
  unfold ref35_SameTariff
  exact and_pure (by simp) (by simp) (and_call rfl (Same_ev hx) (Ev.pure _))
theorem SameErrors_L (n : Nat) (l : List Int) (kont : Option Bool) (hl : l.length ≤ 1000000) : ∀ (us : List Int) (i m : Nat), l.drop i = us → us.length < m → ref40_SameErrors_L1 n l l kont m (i : Int) = kont
  | [], i, m + 1, hd, _ => by rw [ref40_SameErrors_L1_s, more_no hd]; rfl
  | x :: us, i, m + 1, hd, hm => by
    obtain ⟨h1, h2, h3⟩ := drop_cons hd
    have ih := SameErrors_L n l kont hl us (i + 1) m h2 (by simpa using hm)
    rw [ref40_SameErrors_L1_s, more_yes hd, cond_true, h1, Option.bind_some, Option.bind_some, show (x != x) = false by simp, cond_false, inc64 (by omega)]
    exact ih
theorem SameErrors_ev (l : List Int) (hl : l.length ≤ 1000000) : Ev (fun n => ref40_SameErrors n l l) true := by
  refine ⟨l.length + 1, fun n hn => ?_⟩
  show (bif (l.length : Int) != (l.length : Int) then some false else _) = _
  rw [show ((l.length : Int) != (l.length : Int)) = false by simp, cond_false]
  exact SameErrors_L n l (some true) hl l 0 n rfl (by omega)
/-! a motion's tariff -/
theorem within_n (n : Nat) (x m : Int) : council_within n x m = some (decide (0 ≤ x ∧ x ≤ m)) := by
  unfold council_within
  by_cases h1 : 0 ≤ x
  · rw [decide_eq_true h1]; simp [h1]
  · rw [decide_eq_false h1]; simp [h1]
/-- what is known of what a motion gives -/
def Good (names : List Rt.Bs) (notice : Int) (m : Motion) (r : Tariff × Int) : Prop :=
  Fit r.1.Fee ∧ (r.2 = 0 → notice ≤ m.From - m.Day ∧ -1000000 ≤ m.From - m.Day ∧ m.From - m.Day ≤ 1000000 ∧ (∃ p : Int, Ev (fun n => tariff_Parse n m.Text) (r.1, p, 0)) ∧ Ev (fun n => tariff_Check n r.1 names) 0)
theorem read_t {m : Motion} {names : List Rt.Bs} {notice : Int} (hm : m.Text.length ≤ 1000000) (hn : names.length < 4611686018427387904) : Tt (Good names notice m) (fun n => council_read n m names notice) := by
  unfold council_read
  have bad : ∀ e : Int, e ≠ 0 → Good names notice m (⟨[], (⟨0, 0, [], []⟩ : M.Expr), 0⟩, e) := fun e he => ⟨Fit.leaf _ _ _, fun h => absurd h he⟩
  refine Tt.evb (Ev.all fun n => within_n n _ _) ?_
  refine Tt.bind (P := fun b => b = false → 0 ≤ m.Day ∧ m.Day ≤ 100000) (Tt.bif (fun _ => Tt.pure fun h => by cases h) (fun _ => ?_)) fun b hb => ?_
  · exact Tt.evb (Ev.all fun n => within_n n _ _) (Tt.pure fun h => by simpa using h)
  refine Tt.bind (P := fun c => c = false → (0 ≤ m.Day ∧ m.Day ≤ 100000) ∧ 0 ≤ m.From ∧ m.From ≤ 100000) (Tt.bif (fun _ => Tt.pure fun h => by cases h) (fun h => ?_)) fun c hc => ?_
  · exact Tt.evb (Ev.all fun n => within_n n _ _) (Tt.pure fun h2 => ⟨hb h, by simpa using h2⟩)
  refine Tt.bif (fun _ => Tt.pure (bad 1 (by decide))) (fun h => ?_)
  obtain ⟨h1, h2⟩ := hc h
  obtain ⟨⟨t, p, e⟩, hp, fx⟩ := Parse_t (s := m.Text) hm
  refine Tt.evb hp ?_
  dsimp only at fx ⊢
  refine Tt.bif (fun h3 => Tt.pure (bad e (by simpa using h3))) (fun h3 => ?_)
  obtain rfl : e = 0 := by simpa using h3
  obtain ⟨k, hk, _⟩ := Check_t fx names hn
  refine Tt.evb hk ?_
  refine Tt.bif (fun h4 => Tt.pure (bad k (by simpa using h4))) (fun h4 => ?_)
  obtain rfl : k = 0 := by simpa using h4
  rw [isub_i64 (by omega) (by omega)]
  refine Tt.bif (fun h5 => Tt.pure (bad 18 (by decide))) (fun h5 => Tt.pure ?_)
  have h6 := of_decide_eq_false h5
  exact ⟨fx, fun _ => ⟨by omega, by omega, by omega, ⟨p, hp⟩, hk⟩⟩
/-- what each motion gives: one function of the motion -/
theorem reads (names : List Rt.Bs) (notice : Int) (hn : names.length < 4611686018427387904) : ∃ R : Motion → Tariff × Int, ∀ m : Motion, m.Text.length ≤ 1000000 → Ev (fun n => council_read n m names notice) (R m) ∧ Good names notice m (R m) := by
  have h : ∀ m : Motion, ∃ r : Tariff × Int, m.Text.length ≤ 1000000 → Ev (fun n => council_read n m names notice) r ∧ Good names notice m r := by
    intro m
    by_cases hm : m.Text.length ≤ 1000000
    · obtain ⟨r, h1, h2⟩ := read_t (m := m) (names := names) (notice := notice) hm hn
      exact ⟨r, fun _ => ⟨h1, h2⟩⟩
    · exact ⟨⟨⟨[], ⟨0, 0, [], []⟩, 0⟩, 0⟩, fun h => absurd h hm⟩
  exact ⟨fun m => Classical.choose (h m), fun m hm => Classical.choose_spec (h m) hm⟩
/-! what is adopted -/
section
variable (R : Motion → Tariff × Int) (P : Int → Bool)
def errs : Nat → List Motion → List Int
  | _, [] => []
  | i, m :: ms => (if (R m).2 = 0 then (if P (i : Int) = true then 0 else 7) else (R m).2) :: errs (i + 1) ms
def vers : Nat → List Motion → List Version
  | _, [] => []
  | i, m :: ms => (if (R m).2 = 0 ∧ P (i : Int) = true then [⟨m.From, (R m).1⟩] else []) ++ vers (i + 1) ms
theorem errs_len : ∀ (ms : List Motion) (i : Nat), (errs R P i ms).length = ms.length
  | [], _ => rfl
  | m :: ms, i => by simp only [errs, List.length_cons, errs_len ms (i + 1)]
theorem vers_len : ∀ (ms : List Motion) (i : Nat), (vers R P i ms).length ≤ ms.length
  | [], _ => by simp [vers]
  | m :: ms, i => by
    have := vers_len ms (i + 1)
    simp only [vers, List.length_append, List.length_cons]
    split <;> simp <;> omega
theorem Adopt_L (ms : List Motion) (votes : List Vote) (w : List Int) (names : List Rt.Bs) (notice : Int) (hms : ms.length ≤ 1000) (hR : ∀ m, m ∈ ms → Ev (fun n => council_read n m names notice) (R m)) (hP : ∀ i : Int, Ev (fun n => council_Passes n w votes i) (P i))
    (kont : List Int → List Version → Option (List Version × List Int × Int)) : ∀ (us : List Motion) (i : Nat) (l1 : List Int) (l2 : List Version), ms.drop i = us → l1.length ≤ i → l2.length ≤ i →
    ∃ N, ∀ n m, N ≤ n → us.length < m → council_Adopt_L1 n ms votes w names notice kont m (i : Int) l1 l2 = kont (l1 ++ errs R P i us) (l2 ++ vers R P i us)
  | [], i, l1, l2, hd, _, _ => by
    refine ⟨0, fun n m _ hm => ?_⟩
    obtain ⟨m, rfl⟩ := left hm
    rw [council_Adopt_L1_s, more_no hd]; simp [errs, vers]
  | x :: us, i, l1, l2, hd, g1, g2 => by
    obtain ⟨h1, h2, h3⟩ := drop_cons hd
    have hx : x ∈ ms := List.mem_of_mem_drop (i := i) (by rw [hd]; simp)
    obtain ⟨N1, e1⟩ := hR x hx
    obtain ⟨N2, e2⟩ := hP (i : Int)
    obtain ⟨N, ih⟩ := Adopt_L ms votes w names notice hms hR hP kont us (i + 1) (l1 ++ [if (R x).2 = 0 then (if P (i : Int) = true then 0 else 7) else (R x).2]) (l2 ++ (if (R x).2 = 0 ∧ P (i : Int) = true then [⟨x.From, (R x).1⟩] else [])) h2 (by simp; omega) (by simp only [List.length_append]; split <;> simp <;> omega)
    refine ⟨max N (max N1 N2), fun n m hn hm => ?_⟩
    obtain ⟨m, rfl, hm2⟩ := pred (by simpa using hm)
    have e1 : council_read n x names notice = some (R x) := e1 n (by omega)
    have e2 : council_Passes n w votes (i : Int) = some (P (i : Int)) := e2 n (by omega)
    have ih := ih n m (by omega) hm2
    rw [council_Adopt_L1_s, more_yes hd, cond_true, h1, Option.bind_some, e1, Option.bind_some, e2]
    simp only [errs, vers]
    rw [List.append_assoc, List.append_assoc] at ih
    simp only [List.singleton_append] at ih
    rw [← ih]
    by_cases hr : (R x).2 = 0
    · rw [show ((R x).2 == 0) = true by simpa using hr, cond_true, Option.bind_some, Option.bind_some]
      cases hp : P (i : Int) with
      | true =>
        rw [Bool.not_true, cond_false, Option.bind_some, show ((R x).2 == 0) = true by simpa using hr, cond_true, app_ok (by simp only [List.length_cons, List.length_nil]; omega), Option.bind_some, Option.bind_some, app_ok (by simp only [List.length_cons, List.length_nil]; omega), Option.bind_some, inc64 (by omega), if_pos hr, if_pos rfl, if_pos ⟨hr, rfl⟩, hr]
      | false =>
        rw [Bool.not_false, cond_true, Option.bind_some, show ((7 : Int) == 0) = false by decide, cond_false, Option.bind_some, app_ok (by simp only [List.length_cons, List.length_nil]; omega), Option.bind_some, inc64 (by omega), if_pos hr, if_neg (by decide), if_neg (fun h => by cases h.2), List.append_nil]
    · rw [show ((R x).2 == 0) = false by simpa using hr, cond_false, Option.bind_some, cond_false, Option.bind_some, show ((R x).2 == 0) = false by simpa using hr, cond_false, Option.bind_some, app_ok (by simp only [List.length_cons, List.length_nil]; omega), Option.bind_some, inc64 (by omega), if_neg hr, if_neg (fun h => hr h.1), List.append_nil]
end
/-! what is in force -/
def better (day : Int) (b : Option Version) (v : Version) : Option Version :=
  match b with
  | none => if v.From ≤ day then some v else none
  | some u => if v.From ≤ day ∧ u.From ≤ v.From then some v else some u
def best (day : Int) (b : Option Version) (vs : List Version) : Option Version := vs.foldl (better day) b
theorem best_cons (day : Int) (b : Option Version) (v : Version) (vs : List Version) : best day b (v :: vs) = best day (better day b v) vs := rfl
/-- an index, and the version that it means -/
def At (V : List Version) (b : Int) (bo : Option Version) : Prop := b < 0 ∧ bo = none ∨ 0 ≤ b ∧ ∃ v, ix V b = some v ∧ bo = some v
theorem InForce_L (V : List Version) (day : Int) (hV : V.length ≤ 1000000) (n : Nat) (kont : Int → Option (Tariff × Bool)) : ∀ (us : List Version) (i m : Nat) (b : Int) (bo : Option Version), V.drop i = us → us.length < m → At V b bo →
    ∃ b', council_InForce_L1 n V day kont m b (i : Int) = kont b' ∧ At V b' (best day bo us)
  | [], i, m + 1, b, bo, hd, _, hb => ⟨b, by rw [council_InForce_L1_s, more_no hd]; rfl, hb⟩
  | v :: us, i, m + 1, b, bo, hd, hm, hb => by
    obtain ⟨h1, h2, h3⟩ := drop_cons hd
    have hm' : us.length < m := by simpa using hm
    have here : At V (i : Int) (some v) := .inr ⟨by omega, v, h1, rfl⟩
    rw [council_InForce_L1_s, more_yes hd, cond_true, h1, Option.bind_some, best_cons, inc64 (by omega)]
    by_cases hday : v.From ≤ day
    · rw [decide_eq_true hday, cond_true]
      rcases hb with ⟨hb1, rfl⟩ | ⟨hb1, u, hu, rfl⟩
      · obtain ⟨b', e1, e2⟩ := InForce_L V day hV n kont us (i + 1) m (i : Int) (some v) h2 hm' here
        refine ⟨b', ?_, by unfold better; rw [if_pos hday]; exact e2⟩
        rw [decide_eq_true hb1, cond_true, Option.bind_some, Option.bind_some, cond_true]; exact e1
      · rw [decide_eq_false (by omega), cond_false, hu, Option.bind_some, Option.bind_some, Option.bind_some]
        unfold better
        by_cases hv : u.From ≤ v.From
        · obtain ⟨b', e1, e2⟩ := InForce_L V day hV n kont us (i + 1) m (i : Int) (some v) h2 hm' here
          refine ⟨b', ?_, by dsimp only; rw [if_pos ⟨hday, hv⟩]; exact e2⟩
          rw [decide_eq_true hv, cond_true]; exact e1
        · obtain ⟨b', e1, e2⟩ := InForce_L V day hV n kont us (i + 1) m b (some u) h2 hm' (.inr ⟨hb1, u, hu, rfl⟩)
          refine ⟨b', ?_, by dsimp only; rw [if_neg (fun h => hv h.2)]; exact e2⟩
          rw [decide_eq_false hv, cond_false]; exact e1
    · obtain ⟨b', e1, e2⟩ := InForce_L V day hV n kont us (i + 1) m b bo h2 hm' hb
      have hbt : better day bo v = bo := by
        unfold better
        cases bo with
        | none => rw [if_neg hday]
        | some u => dsimp only; rw [if_neg (fun h => hday h.1)]
      refine ⟨b', ?_, by rw [hbt]; exact e2⟩
      rw [decide_eq_false hday, cond_false, Option.bind_some, cond_false]; exact e1
def zeroT : Tariff := ⟨[], (⟨0, 0, [], []⟩ : M.Expr), 0⟩
def forceV (V : List Version) (day : Int) : Tariff × Bool := match best day none V with
  | none => (zeroT, false)
  | some v => (v.Tariff, true)
theorem InForce_ev (V : List Version) (day : Int) (hV : V.length ≤ 1000000) (hF : ∀ v, v ∈ V → Fit v.Tariff.Fee) : Ev (fun n => council_InForce n V day) (forceV V day) := by
  have key : ∀ (N : Nat) (n : Nat), N ≤ n → V.length < n → (∀ v, v ∈ V → council_copied n v.Tariff = some v.Tariff) → council_InForce n V day = some (forceV V day) := by
    intro N n _ hn hc
    unfold council_InForce forceV
    obtain ⟨b', e1, e2⟩ := InForce_L V day hV n (fun (best2 : Int) =>
      bif decide (best2 < 0) then some ((⟨[], (⟨0, 0, [], []⟩ : M.Expr), 0⟩ : Tariff), false)
      else (ix V best2).bind fun ex1 => (council_copied n ex1.Tariff).bind fun v1 => some (v1, true)) V 0 n (-1) none rfl hn (.inl ⟨by omega, rfl⟩)
    refine Eq.trans e1 ?_
    rcases e2 with ⟨h1, h2⟩ | ⟨h1, v, h2, h3⟩
    · rw [h2, decide_eq_true h1]; rfl
    · rw [h3, decide_eq_false (by omega), cond_false, h2, Option.bind_some]
      have hm : v ∈ V := by
        obtain ⟨k, rfl⟩ := Int.eq_ofNat_of_zero_le h1
        rw [ix_nat] at h2
        exact List.mem_of_getElem? h2
      rw [hc v hm]; rfl
  have hall : ∀ us : List Version, (∀ v, v ∈ us → Fit v.Tariff.Fee) → ∃ N, ∀ n, N ≤ n → ∀ v, v ∈ us → council_copied n v.Tariff = some v.Tariff := by
    intro us
    induction us with
    | nil => exact fun _ => ⟨0, fun _ _ v hv => by cases hv⟩
    | cons u us ih =>
      intro h
      obtain ⟨N, hN⟩ := ih (fun v hv => h v (by simp [hv]))
      obtain ⟨M, hM⟩ := copied_ev (h u (by simp))
      refine ⟨max N M, fun n hn v hv => ?_⟩
      rcases List.mem_cons.1 hv with rfl | hv
      · exact hM n (by omega)
      · exact hN n (by omega) v hv
  obtain ⟨N, hN⟩ := hall V hF
  exact ⟨N + V.length + 1, fun n hn => key N n (by omega) (by omega) (hN n (by omega))⟩
theorem vers_fit {R : Motion → Tariff × Int} {P : Int → Bool} : ∀ (ms : List Motion) (i : Nat), (∀ m, m ∈ ms → Fit (R m).1.Fee) → ∀ v, v ∈ vers R P i ms → Fit v.Tariff.Fee
  | [], _, _, v, hv => by cases hv
  | m :: ms, i, h, v, hv => by
    simp only [vers, List.mem_append] at hv
    rcases hv with hv | hv
    · split at hv
      · simp only [List.mem_singleton] at hv
        subst hv
        exact h m (by simp)
      · cases hv
    · exact vers_fit ms (i + 1) (fun m hm => h m (by simp [hm])) v hv
/-! how many -/
theorem Few_L2 (n : Nat) (names : List Rt.Bs) (kont : Option Bool) : ∀ (us : List Rt.Bs) (i m : Nat), names.drop i = us → us.length < m →
    ref40_Few_L2 n names kont m (i : Int) = bif (us.take (10 - i)).all (fun x => decide (x.length ≤ 30)) then kont else some false
  | [], i, m + 1, hd, _ => by rw [ref40_Few_L2_s, more_no hd, cond_false, Option.bind_some, cond_false]; simp
  | x :: us, i, m + 1, hd, hm => by
    obtain ⟨h1, h2, h3⟩ := drop_cons hd
    rw [ref40_Few_L2_s, more_yes hd, cond_true, Option.bind_some]
    by_cases h : i < 10
    · rw [decide_eq_true (by omega), cond_true, h1, Option.bind_some, show 10 - i = (10 - (i + 1)) + 1 by omega, List.take_succ_cons, List.all_cons]
      by_cases h5 : 30 < x.length
      · rw [decide_eq_true (by omega), cond_true, decide_eq_false (by omega), Bool.false_and, cond_false]
      · rw [decide_eq_false (by omega), cond_false, decide_eq_true (by omega), Bool.true_and, inc64 (by omega)]
        exact Few_L2 n names kont us (i + 1) m h2 (by simpa using hm)
    · rw [decide_eq_false (by omega), cond_false, show 10 - i = 0 by omega]; simp
theorem Few_L1 (n : Nat) (ms : List Motion) (kont : Option Bool) : ∀ (us : List Motion) (i m : Nat), ms.drop i = us → us.length < m →
    ref40_Few_L1 n ms kont m (i : Int) = bif (us.take (50 - i)).all (fun x => decide (x.Text.length ≤ 600)) then kont else some false
  | [], i, m + 1, hd, _ => by rw [ref40_Few_L1_s, more_no hd, cond_false, Option.bind_some, cond_false]; simp
  | x :: us, i, m + 1, hd, hm => by
    obtain ⟨h1, h2, h3⟩ := drop_cons hd
    rw [ref40_Few_L1_s, more_yes hd, cond_true, Option.bind_some]
    by_cases h : i < 50
    · rw [decide_eq_true (by omega), cond_true, h1, Option.bind_some, show 50 - i = (50 - (i + 1)) + 1 by omega, List.take_succ_cons, List.all_cons]
      by_cases h5 : 600 < x.Text.length
      · rw [decide_eq_true (by omega), cond_true, decide_eq_false (by omega), Bool.false_and, cond_false]
      · rw [decide_eq_false (by omega), cond_false, decide_eq_true (by omega), Bool.true_and, inc64 (by omega)]
        exact Few_L1 n ms kont us (i + 1) m h2 (by simpa using hm)
    · rw [decide_eq_false (by omega), cond_false, show 50 - i = 0 by omega]; simp
structure FewP (ms : List Motion) (votes : List Vote) (w : List Int) (names : List Rt.Bs) : Prop where
  text : ∀ m, m ∈ ms → m.Text.length ≤ 600
  ms45 : ms.length ≤ 45
  votes1010 : votes.length ≤ 1010
  w25 : w.length ≤ 25
  names8 : names.length ≤ 8
def fewI (ms : List Motion) (votes : List Vote) (w : List Int) (names : List Rt.Bs) : Bool :=
  !(((decide (60 < (votes.length : Int)) && decide ((votes.length : Int) ≤ 1000)) || decide (1010 < (votes.length : Int))) || decide (25 < (w.length : Int)) || decide (8 < (names.length : Int))) &&
    (decide ((ms.length : Int) ≤ 8) || (decide (40 < (ms.length : Int)) && decide ((ms.length : Int) ≤ 45)))
theorem orb (c d : Bool) {α : Type} (g : Bool → Option α) : (bif c then some true else some d).bind g = g (c || d) := by cases c <;> rfl
theorem andb (c d : Bool) {α : Type} (g : Bool → Option α) : (bif c then some d else some false).bind g = g (c && d) := by cases c <;> rfl
theorem Few_t (ms : List Motion) (votes : List Vote) (w : List Int) (names : List Rt.Bs) : Tt (fun b => b = true → FewP ms votes w names) (fun n => ref40_Few n ms votes w names) := by
  refine ⟨(ms.take 50).all (fun x => decide (x.Text.length ≤ 600)) && ((names.take 10).all (fun x => decide (x.length ≤ 30)) && fewI ms votes w names), ⟨ms.length + names.length + 1, fun n hn => ?_⟩, fun hb => ?_⟩
  · show ref40_Few n ms votes w names = _
    unfold ref40_Few
    refine (Few_L1 n ms _ ms 0 n rfl (by omega)).trans ?_
    rw [show 50 - 0 = 50 from rfl]
    cases (ms.take 50).all (fun x => decide (x.Text.length ≤ 600)) with
    | false => rfl
    | true =>
      rw [cond_true, Bool.true_and]
      refine (Few_L2 n names _ names 0 n rfl (by omega)).trans ?_
      rw [show 10 - 0 = 10 from rfl]
      cases (names.take 10).all (fun x => decide (x.length ≤ 30)) with
      | false => rfl
      | true =>
        rw [cond_true, Bool.true_and, andb, orb, orb, orb, andb]
        unfold fewI
        cases ((decide (60 < (votes.length : Int)) && decide ((votes.length : Int) ≤ 1000)) || decide (1010 < (votes.length : Int))) || decide (25 < (w.length : Int)) || decide (8 < (names.length : Int)) with
        | true => rfl
        | false => rw [cond_false, Bool.not_false, Bool.true_and, orb]
  · simp only [Bool.and_eq_true, fewI, Bool.not_eq_true', Bool.or_eq_false_iff, decide_eq_false_iff_not, decide_eq_true_eq, Bool.or_eq_true] at hb
    obtain ⟨ht, _, ⟨⟨⟨_, g1⟩, g2⟩, g3⟩, g4⟩ := hb
    have g5 : ms.length ≤ 45 := by omega
    rw [List.take_of_length_le (by omega)] at ht
    exact ⟨fun m hm => by simpa using List.all_eq_true.1 ht m hm, g5, by omega, by omega, by omega⟩
end Go.Proofs.YtibkigpmkkkaeaaGreatDoor.Cn
