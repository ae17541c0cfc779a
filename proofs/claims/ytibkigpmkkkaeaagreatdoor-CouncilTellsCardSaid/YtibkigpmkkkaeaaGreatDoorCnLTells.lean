/-
  THE LAW CouncilTells, in plain Lean: the mirrored law is true at all arguments.
-/
import Derived.Test.YtibkigpmkkkaeaaGreatDoorCnT
namespace Go.Proofs.YtibkigpmkkkaeaaGreatDoor.Cn
open Go Rt M Ta
theorem Type_leaf (names : List Rt.Bs) (hn : names.length < 4611686018427387904) : Ev (fun n => tariff_Type n (⟨0, 0, [], []⟩ : M.Expr) names) (bif named names then (1, 0) else (0, 1)) := by
  unfold tariff_Type
  refine Ev.bind (named_ev hn) ?_
  cases named names with
  | false => exact Ev.then rfl (Ev.pure _)
  | true =>
    refine Ev.else rfl (Ev.bind (a := true) ⟨10, fun n hn => ?_⟩ (Ev.else rfl (Ev.bind (a := (1, 0)) ⟨10, fun n hn => ?_⟩ (Ev.pure _))))
    · obtain ⟨k, rfl⟩ : ∃ k, n = k + 10 := ⟨n - 10, by omega⟩
      rfl
    · obtain ⟨k, rfl⟩ : ∃ k, n = k + 10 := ⟨n - 10, by omega⟩
      rfl
theorem RAdopt_L {R : Motion → Tariff × Int} {P : Int → Bool} (ms : List Motion) (votes : List Vote) (w : List Int) (names : List Rt.Bs) (notice : Int) (hms : ms.length ≤ 1000) (hR : ∀ m, m ∈ ms → Both names notice m (R m)) (hP : ∀ i : Int, Ev (fun n => ref40_Passes n w votes i) (P i))
    (kont : List Int → List Version → Option (List Version × List Int × Int)) : ∀ (us : List Motion) (i : Nat) (l1 : List Int) (l2 : List Version), ms.drop i = us → l1.length ≤ i → l2.length ≤ i →
    ∃ N, ∀ n m, N ≤ n → us.length < m → ref40_Adopt_L1 n ms votes w names notice kont m (i : Int) l1 l2 = kont (l1 ++ errs R P i us) (l2 ++ vers R P i us)
  | [], i, l1, l2, hd, _, _ => by
    refine ⟨0, fun n m _ hm => ?_⟩
    obtain ⟨m, rfl⟩ := left hm
    rw [ref40_Adopt_L1_s, more_no hd]; simp [errs, vers]
  | x :: us, i, l1, l2, hd, g1, g2 => by
    obtain ⟨h1, h2, h3⟩ := drop_cons hd
    have hx : x ∈ ms := List.mem_of_mem_drop (i := i) (by rw [hd]; simp)
    obtain ⟨_, ⟨N1, e1⟩, _, hp⟩ := hR x hx
    obtain ⟨N2, e2⟩ := hP (i : Int)
    obtain ⟨N, ih⟩ := RAdopt_L ms votes w names notice hms hR hP kont us (i + 1) (l1 ++ [if (R x).2 = 0 then (if P (i : Int) = true then 0 else 7) else (R x).2]) (l2 ++ (if (R x).2 = 0 ∧ P (i : Int) = true then [⟨x.From, (R x).1⟩] else [])) h2 (by simp; omega) (by simp only [List.length_append]; split <;> simp <;> omega)
    have hp2 : ∃ N3, (R x).2 = 0 → ∃ p e : Int, ∀ n, N3 ≤ n → ref35_Parse n x.Text = some ((R x).1, p, e) := by
      by_cases hr : (R x).2 = 0
      · obtain ⟨p, e, N3, h⟩ := hp hr
        exact ⟨N3, fun _ => ⟨p, e, h⟩⟩
      · exact ⟨0, fun h => absurd h hr⟩
    obtain ⟨N3, hp3⟩ := hp2
    refine ⟨max (max N N3) (max N1 N2), fun n m hn hm => ?_⟩
    obtain ⟨m, rfl, hm2⟩ := pred (by simpa using hm)
    have e1 : ref40_Check n x names notice = some (R x).2 := e1 n (by omega)
    have e2 : ref40_Passes n w votes (i : Int) = some (P (i : Int)) := e2 n (by omega)
    have ih := ih n m (by omega) hm2
    rw [ref40_Adopt_L1_s, more_yes hd, cond_true, h1]
    simp only [Option.bind_some]
    rw [e1, Option.bind_some, e2]
    simp only [errs, vers]
    rw [List.append_assoc, List.append_assoc] at ih
    simp only [List.singleton_append] at ih
    rw [← ih]
    by_cases hr : (R x).2 = 0
    · obtain ⟨p, e, hpe⟩ := hp3 hr
      have hpe := hpe n (by omega)
      rw [show ((R x).2 == 0) = true by simpa using hr, cond_true, Option.bind_some, Option.bind_some]
      cases hq : P (i : Int) with
      | true =>
        rw [Bool.not_true, cond_false, Option.bind_some, show ((R x).2 == 0) = true by simpa using hr, cond_true, hpe, Option.bind_some]
        dsimp only
        rw [app_ok (by simp only [List.length_cons, List.length_nil]; omega), Option.bind_some, Option.bind_some, app_ok (by simp only [List.length_cons, List.length_nil]; omega), Option.bind_some, inc64 (by omega), if_pos hr, if_pos rfl, if_pos ⟨hr, rfl⟩, hr]
      | false =>
        rw [Bool.not_false, cond_true, Option.bind_some, show ((7 : Int) == 0) = false by decide, cond_false, Option.bind_some, app_ok (by simp only [List.length_cons, List.length_nil]; omega), Option.bind_some, inc64 (by omega), if_pos hr, if_neg (by decide), if_neg (fun h => by cases h.2), List.append_nil]
    · rw [show ((R x).2 == 0) = false by simpa using hr, cond_false, Option.bind_some, cond_false, Option.bind_some, show ((R x).2 == 0) = false by simpa using hr, cond_false, Option.bind_some, app_ok (by simp only [List.length_cons, List.length_nil]; omega), Option.bind_some, inc64 (by omega), if_neg hr, if_neg (fun h => hr h.1), List.append_nil]
/-- both adopt the same -/
theorem Adopt_both {R : Motion → Tariff × Int} (ms : List Motion) (votes : List Vote) (w : List Int) (names : List Rt.Bs) (notice : Int) (hms : ms.length ≤ 1000) (hv : votes.length < 4611686018427387904) (hwl : w.length < 4611686018427387904) (hn : names.length < 4611686018427387904) (hR : ∀ m, m ∈ ms → Both names notice m (R m)) :
    ∃ r, Ev (fun n => council_Adopt n ms votes w names notice) r ∧ Ev (fun n => ref40_Adopt n ms votes w names notice) r ∧ (r.1 = [] ∧ r.2.1 = [] ∨ r.1 = vers R (passV w votes) 0 ms ∧ r.2.1 = errs R (passV w votes) 0 ms) := by
  unfold council_Adopt ref40_Adopt
  cases hfull : (decide (40 < (ms.length : Int)) || decide (1000 < (votes.length : Int))) with
  | true => exact ⟨([], [], 6), Ev.bind (a := true) ((Ev.all fun n => orT _ _).eq hfull) (Ev.then rfl (Ev.pure _)), Ev.bind (a := true) ((Ev.all fun n => orT _ _).eq hfull) (Ev.then rfl (Ev.pure _)), .inl ⟨rfl, rfl⟩⟩
  | false =>
    have main : ∃ r, Ev (fun n => bif ((!named names || !rightW w) || !decide (0 ≤ notice ∧ notice ≤ 1000)) then some ([], [], 1) else council_Adopt_L1 n ms votes w names notice (fun l3 l4 => some (l4, l3, 0)) n 0 ([] : List Int) ([] : List Version)) r ∧
        Ev (fun n => bif ((!named names || !rightW w) || !decide (0 ≤ notice ∧ notice ≤ 1000)) then some ([], [], 1) else ref40_Adopt_L1 n ms votes w names notice (fun l3 l4 => some (l4, l3, 0)) n 0 ([] : List Int) ([] : List Version)) r ∧ (r.1 = [] ∧ r.2.1 = [] ∨ r.1 = vers R (passV w votes) 0 ms ∧ r.2.1 = errs R (passV w votes) 0 ms) := by
      cases ((!named names || !rightW w) || !decide (0 ≤ notice ∧ notice ≤ 1000)) with
      | true => exact ⟨([], [], 1), Ev.then rfl (Ev.pure _), Ev.then rfl (Ev.pure _), .inl ⟨rfl, rfl⟩⟩
      | false =>
        obtain ⟨N, h⟩ := Adopt_L R (passV w votes) ms votes w names notice hms (fun m hm => (hR m hm).1) (fun i => Passes_ev w votes i hv) (fun l3 l4 => some (l4, l3, 0)) ms 0 [] [] rfl (by simp) (by simp)
        obtain ⟨M, k⟩ := RAdopt_L ms votes w names notice hms hR (P := passV w votes) (fun i => ⟨votes.length + w.length + 31, fun n hn => RPasses_n hwl hv (by omega)⟩) (fun l3 l4 => some (l4, l3, 0)) ms 0 [] [] rfl (by simp) (by simp)
        refine ⟨(vers R (passV w votes) 0 ms, errs R (passV w votes) 0 ms, 0), Ev.else rfl ⟨N + ms.length + 1, fun n hn => ?_⟩, Ev.else rfl ⟨M + ms.length + 1, fun n hn => ?_⟩, .inr ⟨rfl, rfl⟩⟩
        · have := h n n (by omega) (by omega)
          simpa using this
        · have := k n n (by omega) (by omega)
          simpa using this
    obtain ⟨r, m1, m2, m3⟩ := main
    refine ⟨r, Ev.bind (a := false) ((Ev.all fun n => orT _ _).eq hfull) (Ev.else rfl ?_), Ev.bind (a := false) ((Ev.all fun n => orT _ _).eq hfull) (Ev.else rfl ?_), m3⟩
    · refine Ev.bind (Type_leaf names hn) ?_
      have ht : ((bif named names then ((1 : Int), (0 : Int)) else (0, 1)).2 == 1) = !named names := by cases named names <;> rfl
      refine or_any (d := rightW w) (fun _ => ⟨26, fun n hn => right_n (by omega)⟩) ?_
      refine or_any (d := decide (0 ≤ notice ∧ notice ≤ 1000)) (fun _ => Ev.all fun n => within_n n _ _) ?_
      rw [ht]
      exact m1
    · refine Ev.bind ⟨w.length + 1, fun n hn => Weights_n hwl (by omega)⟩ ?_
      refine or_any (d := decide (0 ≤ notice ∧ notice ≤ 1000)) (fun _ => Ev.all fun n => in_n n _ _ _) ?_
      refine or_any (d := named names) (fun _ => Names_ev names) ?_
      have hb : ((!rightW w || !decide (0 ≤ notice ∧ notice ≤ 1000)) || !named names) = ((!named names || !rightW w) || !decide (0 ≤ notice ∧ notice ≤ 1000)) := by cases rightW w <;> cases decide (0 ≤ notice ∧ notice ≤ 1000) <;> cases named names <;> rfl
      rw [hb]
      exact m2
/-! what is in force -/
def outV : Option Version → Version
  | none => ⟨0, zeroT⟩
  | some v => v
theorem RInForce_L (V : List Version) (day : Int) (hV : V.length ≤ 1000000) (n : Nat) (kont : Bool → Int → Rt.Bs → Int → Int → Rt.Bs → List M.Expr → Int → Option (Tariff × Bool)) : ∀ (us : List Version) (i m : Nat) (bo : Option Version), V.drop i = us → us.length < m →
    ref40_InForce_L1 n V day kont m bo.isSome (i : Int) (outV bo).From (outV bo).Tariff.Name (outV bo).Tariff.Fee.Op (outV bo).Tariff.Fee.N (outV bo).Tariff.Fee.Name (outV bo).Tariff.Fee.Args (outV bo).Tariff.Cap =
      kont (best day bo us).isSome (outV (best day bo us)).From (outV (best day bo us)).Tariff.Name (outV (best day bo us)).Tariff.Fee.Op (outV (best day bo us)).Tariff.Fee.N (outV (best day bo us)).Tariff.Fee.Name (outV (best day bo us)).Tariff.Fee.Args (outV (best day bo us)).Tariff.Cap
  | [], i, m + 1, bo, hd, _ => by rw [ref40_InForce_L1_s, more_no hd]; rfl
  | v :: us, i, m + 1, bo, hd, hm => by
    obtain ⟨h1, h2, h3⟩ := drop_cons hd
    have ih := fun bo => RInForce_L V day hV n kont us (i + 1) m bo h2 (by simpa using hm)
    rw [ref40_InForce_L1_s, more_yes hd, cond_true, h1, best_cons]
    simp only [Option.bind_some]
    rw [inc64 (by omega)]
    by_cases hday : v.From ≤ day
    · rw [decide_eq_true hday, cond_true]
      cases bo with
      | none =>
        have hb : better day none v = some v := by unfold better; rw [if_pos hday]
        rw [hb, ← ih (some v)]; rfl
      | some u =>
        show ((some (decide (u.From ≤ v.From))).bind fun v2 => some v2).bind _ = _
        rw [Option.bind_some, Option.bind_some]
        by_cases hv : u.From ≤ v.From
        · have hb : better day (some u) v = some v := by unfold better; dsimp only; rw [if_pos ⟨hday, hv⟩]
          rw [hb, ← ih (some v), decide_eq_true hv]; rfl
        · have hb : better day (some u) v = some u := by unfold better; dsimp only; rw [if_neg (fun h => hv h.2)]
          rw [hb, ← ih (some u), decide_eq_false hv]; rfl
    · have hb : better day bo v = bo := by
        unfold better
        cases bo with
        | none => rw [if_neg hday]
        | some u => dsimp only; rw [if_neg (fun h => hday h.1)]
      rw [hb, ← ih bo, decide_eq_false hday]; rfl
theorem RInForce_ev (V : List Version) (day : Int) (hV : V.length ≤ 1000000) : Ev (fun n => ref40_InForce n V day) (forceV V day) := by
  refine ⟨V.length + 1, fun n hn => ?_⟩
  refine (RInForce_L V day hV n (fun found2 _ f9 f10 f11 f12 f13 f14 => some ((⟨f9, (⟨f10, f11, f12, f13⟩ : M.Expr), f14⟩ : Tariff), found2)) V 0 n none rfl (by omega)).trans ?_
  unfold forceV
  cases best day none V with
  | none => rfl
  | some v =>
    obtain ⟨f, ⟨nm, ⟨o, k, s, l⟩, c⟩⟩ := v
    rfl
theorem SameVersions_L (V : List Version) (kont : Option Bool) (hV : V.length ≤ 1000000) : ∀ (us : List Version) (i : Nat), V.drop i = us → (∀ v, v ∈ us → Fit v.Tariff.Fee) → ∃ N, ∀ n m, N ≤ n → us.length < m → ref40_SameVersions_L1 n V V kont m (i : Int) = kont
  | [], i, hd, _ => by
    refine ⟨0, fun n m _ hm => ?_⟩
    obtain ⟨m, rfl⟩ := left hm
    rw [ref40_SameVersions_L1_s, more_no hd]; rfl
  | v :: us, i, hd, H => by
    obtain ⟨h1, h2, h3⟩ := drop_cons hd
    obtain ⟨N1, e1⟩ := SameT_ev (H v (by simp))
    obtain ⟨N, ih⟩ := SameVersions_L V kont hV us (i + 1) h2 (fun u hu => H u (by simp [hu]))
    refine ⟨max N N1, fun n m hn hm => ?_⟩
    obtain ⟨m, rfl, hm2⟩ := pred (by simpa using hm)
    have e1 : ref35_SameTariff n v.Tariff v.Tariff = some true := e1 n (by omega)
    rw [ref40_SameVersions_L1_s, more_yes hd, cond_true, h1]
    simp only [Option.bind_some]
    rw [show (v.From != v.From) = false by simp, cond_false, e1, Option.bind_some, Option.bind_some, Bool.not_true, cond_false, inc64 (by omega)]
    exact ih n m (by omega) hm2
theorem SameVersions_ev (V : List Version) (hV : V.length ≤ 1000000) (H : ∀ v, v ∈ V → Fit v.Tariff.Fee) : Ev (fun n => ref40_SameVersions n V V) true := by
  unfold ref40_SameVersions
  refine Ev.else (by simp) ?_
  obtain ⟨N, h⟩ := SameVersions_L V (some true) hV V 0 rfl H
  exact ⟨N + V.length + 1, fun n hn => h n n (by omega) (by omega)⟩
theorem FewVersions_L (V : List Version) (b : Bool) : ∀ (us : List Version) (i : Nat), V.drop i = us → ∃ N r, (r = true → b = true ∧ ∀ v, v ∈ us.take (12 - i) → Fit v.Tariff.Fee) ∧ ∀ n m, N ≤ n → us.length < m → ref40_FewVersions_L1 n V (some b) m (i : Int) = some r
  | [], i, hd => by
    refine ⟨0, b, fun h => ⟨h, by simp⟩, fun n m _ hm => ?_⟩
    obtain ⟨m, rfl⟩ := left hm
    rw [ref40_FewVersions_L1_s, more_no hd]; rfl
  | v :: us, i, hd => by
    obtain ⟨h1, h2, h3⟩ := drop_cons hd
    by_cases h12 : i < 12
    · obtain ⟨c, ⟨N1, e1⟩, hc⟩ := FewX_t v.Tariff.Fee 100 12 (by decide) (by decide) (by decide) (by decide)
      obtain ⟨N, r, hr, ih⟩ := FewVersions_L V b us (i + 1) h2
      refine ⟨max N N1, c && r, fun h => ?_, fun n m hn hm => ?_⟩
      · simp only [Bool.and_eq_true] at h
        refine ⟨(hr h.2).1, fun u hu => ?_⟩
        rw [show 12 - i = (12 - (i + 1)) + 1 by omega, List.take_succ_cons] at hu
        rcases List.mem_cons.1 hu with rfl | hu
        · exact hc h.1
        · exact (hr h.2).2 u hu
      · obtain ⟨m, rfl, hm2⟩ := pred (by simpa using hm)
        have e1 : ref35_Few n v.Tariff.Fee 100 12 = some c := e1 n (by omega)
        rw [ref40_FewVersions_L1_s, more_yes hd, cond_true, Option.bind_some, decide_eq_true (by omega), cond_true, h1, Option.bind_some, e1, Option.bind_some]
        cases c with
        | false => rfl
        | true => rw [Bool.not_true, cond_false, inc64 (by omega), ih n m (by omega) hm2]; rfl
    · refine ⟨0, b, fun h => ⟨h, by rw [show 12 - i = 0 by omega]; simp⟩, fun n m _ hm => ?_⟩
      obtain ⟨m, rfl⟩ := left hm
      rw [ref40_FewVersions_L1_s, more_yes hd, cond_true, Option.bind_some, decide_eq_false (by omega), cond_false]
theorem FewVersions_t (V : List Version) : Tt (fun b => b = true → V.length ≤ 10 ∧ ∀ v, v ∈ V → Fit v.Tariff.Fee) (fun n => ref40_FewVersions n V) := by
  obtain ⟨N, r, hr, h⟩ := FewVersions_L V (decide ((V.length : Int) ≤ 10)) V 0 rfl
  refine ⟨r, ⟨N + V.length + 1, fun n hn => h n n (by omega) (by omega)⟩, fun hb => ?_⟩
  have h1 := of_decide_eq_true (hr hb).1
  have h2 := (hr hb).2
  rw [List.take_of_length_le (by omega)] at h2
  exact ⟨by omega, h2⟩
/-! the law -/
theorem Tells_L {R : Motion → Tariff × Int} (ms : List Motion) (names : List Rt.Bs) (notice : Int) (hR : ∀ m, m ∈ ms → Both names notice m (R m)) : ∀ (us : List Motion) (i : Nat), ms.drop i = us → ∃ N, ∀ kont n m, N ≤ n → us.length < m → law40_CouncilTells_L1 n ms names notice kont m (i : Int) = kont
  | [], i, hd => by
    refine ⟨0, fun kont n m _ hm => ?_⟩
    obtain ⟨m, rfl⟩ := left hm
    rw [law40_CouncilTells_L1_s, more_no hd]; rfl
  | x :: us, i, hd => by
    obtain ⟨h1, h2, h3⟩ := drop_cons hd
    have hx : x ∈ ms := List.mem_of_mem_drop (i := i) (by rw [hd]; simp)
    obtain ⟨⟨N1, e1⟩, ⟨N2, e2⟩, _⟩ := hR x hx
    obtain ⟨N, ih⟩ := Tells_L ms names notice hR us (i + 1) h2
    refine ⟨max N (max N1 N2), fun kont n m hn hm => ?_⟩
    obtain ⟨m, rfl, hm2⟩ := pred (by simpa using hm)
    have e1 : council_read n x names notice = some (R x) := e1 n (by omega)
    have e2 : ref40_Check n x names notice = some (R x).2 := e2 n (by omega)
    rw [law40_CouncilTells_L1_s, more_yes hd, cond_true, Option.bind_some]
    by_cases h8 : i < 8
    · rw [decide_eq_true (by omega), cond_true, h1]
      unfold council_Check
      simp only [Option.bind_some]
      rw [e1, e2, Option.bind_some, Option.bind_some, Option.bind_some, show ((R x).2 != (R x).2) = false by simp, cond_false, inc64 (by omega)]
      exact ih kont n m (by omega) hm2
    · rw [decide_eq_false (by omega), cond_false]
theorem tells_ev (ms : List Motion) (votes : List Vote) (w : List Int) (names : List Rt.Bs) (notice which : Int) (V : List Version) (day : Int) : Ev (fun n => law40_CouncilTells n ms votes w names notice which V day) true := by
  unfold law40_CouncilTells
  refine Ev.bind sane_ev ?_
  obtain ⟨few, hfew, hP⟩ := Few_t ms votes w names
  refine Ev.bind hfew ?_
  obtain ⟨fv, hfv, hV⟩ := FewVersions_t V
  refine or_any (d := fv) (fun _ => hfv) ?_
  refine guard fun hG => ?_
  simp only [Bool.or_eq_false_iff, Bool.not_eq_false'] at hG
  obtain ⟨rfl, rfl⟩ := hG
  have hF := hP rfl
  have f1 := hF.ms45
  have f2 := hF.votes1010
  have f3 := hF.w25
  have hl2 : names.length < 4611686018427387904 := by have := hF.names8; omega
  obtain ⟨hV10, hVf⟩ := hV rfl
  obtain ⟨R, hR⟩ := boths names notice hl2
  have hRm : ∀ m, m ∈ ms → Both names notice m (R m) := fun m hm => hR m (by have := hF.text m hm; omega)
  obtain ⟨⟨A, E, e⟩, a1, a2, a3⟩ := Adopt_both (R := R) ms votes w names notice (by omega) (by omega) (by omega) hl2 hRm
  refine Ev.bind a1 (Ev.bind a2 ?_)
  refine Ev.bind (Count_ev w votes which (by omega)) (Ev.bind ⟨votes.length + w.length + 31, fun n hn => RCount_n (by omega) (by omega) (by omega)⟩ ?_)
  refine Ev.bind (InForce_ev V day (by omega) hVf) (Ev.bind (RInForce_ev V day (by omega)) ?_)
  dsimp only at a3 ⊢
  have hA : A.length ≤ 1000000 ∧ (∀ v, v ∈ A → Fit v.Tariff.Fee) ∧ E.length ≤ 1000000 := by
    rcases a3 with ⟨rfl, rfl⟩ | ⟨rfl, rfl⟩
    · exact ⟨by simp, by simp, by simp⟩
    · exact ⟨by have := vers_len R (passV w votes) ms 0; omega, vers_fit ms 0 (fun m hm => (hRm m hm).2.2.1), by rw [errs_len]; omega⟩
  refine or_call (by simp) (SameVersions_ev A hA.1 hA.2.1) ?_
  refine or_call rfl (SameErrors_ev E hA.2.2) ?_
  refine or_pure rfl (by simp) (or_pure rfl (by simp) (or_pure rfl (by simp) ?_))
  refine or_call rfl (SameT_ev ?_) (Ev.else rfl ?_)
  · unfold forceV
    have key : ∀ (vs : List Version) (b : Option Version), (∀ v, v ∈ vs → Fit v.Tariff.Fee) → (∀ v, b = some v → Fit v.Tariff.Fee) → ∀ v, best day b vs = some v → Fit v.Tariff.Fee := by
      intro vs
      induction vs with
      | nil => exact fun b _ hb v h => hb v h
      | cons u us ih =>
        intro b h1 hb v h
        rw [best_cons] at h
        refine ih _ (fun v hv => h1 v (by simp [hv])) (fun z hz => ?_) v h
        unfold better at hz
        cases b with
        | none => dsimp only at hz; split at hz <;> cases hz; exact h1 _ (by simp)
        | some t =>
          dsimp only at hz
          split at hz <;> cases hz
          · exact h1 _ (by simp)
          · exact hb _ rfl
    cases hb : best day none V with
    | none => exact Fit.leaf _ _ _
    | some v => exact key V none hVf (fun v h => by cases h) v hb
  obtain ⟨N, hL⟩ := Tells_L ms names notice hRm ms 0 rfl
  refine Ev.from (N + ms.length + 1) (fun n hn => hL _ n n (by omega) (by omega)) ?_
  refine Ev.bind (a := true) (Ev.then rfl (Ev.bind (Passes_ev w votes which (by omega)) (Ev.bind ⟨votes.length + w.length + 31, fun n hn => RPasses_n (by omega) (by omega) (by omega)⟩ ((Ev.pure _).eq (by simp))))) (Ev.pure _)
end Go.Proofs.YtibkigpmkkkaeaaGreatDoor.Cn
