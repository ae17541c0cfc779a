/-
  THE LAW CouncilAhead, in plain Lean: the mirrored law is true at all arguments.
-/
import Derived.Test.YtibkigpmkkkaeaaDoorCnR
import Derived.Test.YtibkigpmkkkaeaaDoorMirD4
namespace Go.Proofs.YtibkigpmkkkaeaaDoor.Cn
open Go Rt M Ta

/-- what Adopt says of few motions: whether it is an error does not depend on them -/
theorem Adopt_c (w : List Int) (names : List Rt.Bs) (notice : Int) (hn : names.length < 4611686018427387904) : ∃ c : Bool, ∀ (R : Motion → Tariff × Int) (ms : List Motion) (votes : List Vote), ms.length ≤ 40 → votes.length ≤ 1000 → (∀ m, m ∈ ms → Ev (fun n => council_read n m names notice) (R m)) →
    Ev (fun n => council_Adopt n ms votes w names notice) (if c = true then ([], [], 1) else (vers R (passV w votes) 0 ms, errs R (passV w votes) 0 ms, 0)) := by
  obtain ⟨r2, hr2, _⟩ := Type_t (Fit.leaf 0 0 []) names hn
  refine ⟨((r2.2 == 1) || !rightW w) || !decide (0 ≤ notice ∧ notice ≤ 1000), fun R ms votes hms hv hR => ?_⟩
  unfold council_Adopt
  refine or_pure (decide_eq_false (by omega)) (decide_eq_false (by omega)) (Ev.else rfl ?_)
  refine Ev.bind hr2 ?_
  refine or_any (d := rightW w) (fun _ => ⟨26, fun n hn => right_n (by omega)⟩) ?_
  refine or_any (d := decide (0 ≤ notice ∧ notice ≤ 1000)) (fun _ => Ev.all fun n => within_n n _ _) ?_
  generalize (((r2.2 == 1) || !rightW w) || !decide (0 ≤ notice ∧ notice ≤ 1000)) = c
  cases c with
  | true => exact Ev.then rfl (Ev.pure _)
  | false =>
    refine Ev.else rfl ?_
    obtain ⟨N, h⟩ := Adopt_L R (passV w votes) ms votes w names notice (by omega) hR (fun i => Passes_ev w votes i (by omega)) (fun l3 l4 => some (l4, l3, 0)) ms 0 [] [] rfl (by simp) (by simp)
    refine ⟨N + ms.length + 1, fun n hn => ?_⟩
    have := h n n (by omega) (by omega)
    simpa using this

/-! the votes about the further motion -/
theorem Ahead_L1 (n : Nat) (ms : List Motion) (votes : List Vote) (hv : votes.length ≤ 1000000) : ∀ (us : List Vote) (i : Nat), votes.drop i = us →
    (∀ v, v ∈ us → v.Motion ≠ (ms.length : Int)) ∧ (∀ kont n m, us.length < m → law40_CouncilAhead_L1 n ms votes true kont m (i : Int) = kont) ∨ ∀ kont n m, us.length < m → law40_CouncilAhead_L1 n ms votes true kont m (i : Int) = some true
  | [], i, hd => by
    refine .inl ⟨by simp, fun kont n m hm => ?_⟩
    obtain ⟨m, rfl⟩ := left hm
    rw [law40_CouncilAhead_L1_s, more_no hd]; rfl
  | v :: us, i, hd => by
    obtain ⟨h1, h2, h3⟩ := drop_cons hd
    by_cases h : v.Motion = (ms.length : Int)
    · refine .inr fun kont n m hm => ?_
      obtain ⟨m, rfl⟩ := left hm
      rw [law40_CouncilAhead_L1_s, more_yes hd, cond_true, h1, Option.bind_some, show (v.Motion == (ms.length : Int)) = true by simpa using h]; rfl
    · have step : ∀ kont n m, law40_CouncilAhead_L1 n ms votes true kont (m + 1) (i : Int) = law40_CouncilAhead_L1 n ms votes true kont m ((i + 1 : Nat) : Int) := by
        intro kont n m
        rw [law40_CouncilAhead_L1_s, more_yes hd, cond_true, h1, Option.bind_some, show (v.Motion == (ms.length : Int)) = false by simpa using h, cond_false, inc64 (by omega)]
      rcases Ahead_L1 n ms votes hv us (i + 1) h2 with ⟨h4, h5⟩ | h5
      · refine .inl ⟨fun u hu => ?_, fun kont n m hm => ?_⟩
        · rcases List.mem_cons.1 hu with rfl | hu
          · exact h
          · exact h4 u hu
        · obtain ⟨m, rfl, hm2⟩ := pred (by simpa using hm)
          rw [step]; exact h5 kont n m hm2
      · refine .inr fun kont n m hm => ?_
        obtain ⟨m, rfl, hm2⟩ := pred (by simpa using hm)
        rw [step]; exact h5 kont n m hm2
def about1 (k : Int) (us : List Vote) : List Vote := us.map fun v => ⟨k, v.Commune, v.Yes⟩
theorem Ahead_L2 (n : Nat) (ms : List Motion) (ab : List Vote) (kont : List Vote → Option Bool) (hab : ab.length ≤ 1000) : ∀ (us : List Vote) (i m : Nat) (l : List Vote), ab.drop i = us → us.length < m → l.length ≤ 1000 + i →
    law40_CouncilAhead_L2 n ms ab kont m (i : Int) l = kont (l ++ about1 (ms.length : Int) us)
  | [], i, m + 1, l, hd, _, _ => by rw [law40_CouncilAhead_L2_s, more_no hd]; simp [about1]
  | v :: us, i, m + 1, l, hd, hm, hl => by
    obtain ⟨h1, h2, h3⟩ := drop_cons hd
    rw [law40_CouncilAhead_L2_s, more_yes hd, cond_true, h1, Option.bind_some, Option.bind_some, app_ok (by simp only [List.length_cons, List.length_nil]; omega), Option.bind_some, inc64 (by omega), Ahead_L2 n ms ab kont hab us (i + 1) m _ h2 (by simpa using hm) (by simp; omega)]
    simp [about1]
theorem lastV_other (mo c k : Int) (hk : k ≠ mo) : ∀ (us : List Vote) (acc : Option Bool), lastV mo c acc (about1 k us) = acc
  | [], acc => rfl
  | v :: us, acc => by
    show lastV mo c acc (⟨k, v.Commune, v.Yes⟩ :: about1 k us) = acc
    rw [lastV_cons, lastV_other mo c k hk us]
    unfold pickV
    rw [if_neg (fun h => hk h.1)]
theorem passV_other (w : List Int) (votes us : List Vote) (mo k : Int) (hk : k ≠ mo) : passV w (votes ++ about1 k us) mo = passV w votes mo := by
  have h : ∀ c, lastV mo c none (votes ++ about1 k us) = lastV mo c none votes := fun c => by rw [lastV_append, lastV_other mo c k hk]
  unfold passV countV
  simp only [h]

/-! the best version -/
theorem best_isSome (day : Int) : ∀ (vs : List Version) (b : Option Version), b.isSome = true → (best day b vs).isSome = true
  | [], b, h => h
  | v :: vs, b, h => by
    rw [best_cons]
    refine best_isSome day vs _ ?_
    cases b with
    | none => cases h
    | some u => unfold better; dsimp only; split <;> rfl
theorem best_late (day : Int) : ∀ (vs : List Version) (b : Option Version), (∀ v, v ∈ vs → ¬ v.From ≤ day) → best day b vs = b
  | [], b, _ => rfl
  | v :: vs, b, h => by
    rw [best_cons, best_late day vs _ (fun u hu => h u (by simp [hu]))]
    have hv := h v (by simp)
    unfold better
    cases b with
    | none => rw [if_neg hv]
    | some u => dsimp only; rw [if_neg (fun g => hv g.1)]
theorem best_mem (day : Int) : ∀ (vs : List Version) (b : Option Version) (v : Version), best day b vs = some v → v ∈ vs ∨ b = some v
  | [], b, v, h => .inr h
  | u :: vs, b, v, h => by
    rw [best_cons] at h
    rcases best_mem day vs _ v h with h1 | h1
    · exact .inl (by simp [h1])
    · unfold better at h1
      cases b with
      | none =>
        dsimp only at h1
        split at h1
        · cases h1; exact .inl (by simp)
        · cases h1
      | some t =>
        dsimp only at h1
        split at h1
        · cases h1; exact .inl (by simp)
        · exact .inr h1
theorem forceV_fit {V : List Version} {day : Int} (h : ∀ v, v ∈ V → Fit v.Tariff.Fee) : Fit (forceV V day).1.Fee := by
  unfold forceV
  cases hb : best day none V with
  | none => exact Fit.leaf _ _ _
  | some v =>
    rcases best_mem day V none v hb with h1 | h1
    · exact h v h1
    · cases h1
theorem vers_one_late {R : Motion → Tariff × Int} {P : Int → Bool} {k : Nat} {x : Motion} {day : Int} (h : ¬ x.From ≤ day) : ∀ v, v ∈ vers R P k [x] → ¬ v.From ≤ day := by
  intro v hv
  simp only [vers, List.append_nil] at hv
  split at hv
  · simp only [List.mem_singleton] at hv; subst hv; exact h
  · cases hv

theorem ahead_ev (ms : List Motion) (votes : List Vote) (w : List Int) (names : List Rt.Bs) (notice : Int) (x : Motion) (ab : List Vote) (day : Int) : Ev (fun n => law40_CouncilAhead n ms votes w names notice x ab day) true := by
  unfold law40_CouncilAhead
  refine Ev.bind sane_ev ?_
  obtain ⟨few, hfew, hP⟩ := Few_t ms votes w names
  refine Ev.bind hfew ?_
  refine or_both (or_both (or_both (or_both ?_)))
  refine guard fun hV => ?_
  simp only [Bool.or_eq_false_iff, decide_eq_false_iff_not, Bool.not_eq_false'] at hV
  obtain ⟨⟨⟨⟨rfl, g1⟩, g2⟩, g3⟩, g4⟩ := hV
  have hF := hP rfl
  rcases Ahead_L1 0 ms votes (by omega) votes 0 rfl with ⟨hv, hL1⟩ | hL1
  rotate_left
  · exact ⟨votes.length + 1, fun n hn => hL1 _ n n (by omega)⟩
  refine Ev.from (votes.length + 1) (fun n hn => hL1 _ n n (by omega)) ?_
  refine Ev.step (app_ok (by simp; omega)) ?_
  rw [List.nil_append]
  refine Ev.from (ab.length + 1) (fun n hn => Ahead_L2 n ms ab _ (by omega) ab 0 n votes rfl (by omega) (by omega)) ?_
  have hl2 : names.length < 4611686018427387904 := by have := hF.names8; omega
  obtain ⟨R, hR⟩ := reads names notice hl2
  have hRm : ∀ m, m ∈ ms → Ev (fun n => council_read n m names notice) (R m) ∧ Good names notice m (R m) := fun m hm => hR m (by have := hF.text m hm; omega)
  have hRx := hR x (by omega)
  have hRa : ∀ m, m ∈ ms ++ [x] → Ev (fun n => council_read n m names notice) (R m) ∧ Good names notice m (R m) := by
    intro m hm
    rcases List.mem_append.1 hm with hm | hm
    · exact hRm m hm
    · rw [List.mem_singleton] at hm; subst hm; exact hRx
  obtain ⟨c, hA⟩ := Adopt_c w names notice hl2
  have hab : (about1 (ms.length : Int) ab).length = ab.length := by unfold about1; rw [List.length_map]
  have A1 := hA R ms votes (by omega) (by omega) (fun m hm => (hRm m hm).1)
  have A2 := hA R (ms ++ [x]) (votes ++ about1 (ms.length : Int) ab) (by simp; omega) (by simp [hab]; omega) (fun m hm => (hRa m hm).1)
  refine Ev.bind A1 ?_
  refine Ev.bind (a := (if c = true then ([], [], 1) else (vers R (passV w (votes ++ about1 (ms.length : Int) ab)) 0 (ms ++ [x]), errs R (passV w (votes ++ about1 (ms.length : Int) ab)) 0 (ms ++ [x]), 0))) ?_ ?_
  · refine Ev.step (app_ok (by simp; omega)) ?_
    rw [List.nil_append]
    refine Ev.step (app_ok (by simp; omega)) ?_
    exact Ev.bind A2 (Ev.pure _)
  cases c with
  | true => exact or_both (Ev.then rfl (and_pure rfl rfl (Ev.pure _)))
  | false =>
  rw [if_neg (by decide), if_neg (by decide)]
  dsimp only
  refine or_pure rfl rfl (Ev.else rfl ?_)
  have hcg := vers_congr R (passV w (votes ++ about1 (ms.length : Int) ab)) (passV w votes) ms 0 (fun k _ hk => passV_other w votes ab (k : Int) (ms.length : Int) (by omega))
  rw [vers_append, errs_append, hcg.1, hcg.2, Nat.zero_add]
  generalize hX : vers R (passV w (votes ++ about1 (ms.length : Int) ab)) ms.length [x] = X
  generalize hY : errs R (passV w (votes ++ about1 (ms.length : Int) ab)) ms.length [x] = Y
  have hXl : X.length ≤ 1 := by rw [← hX]; exact vers_len R _ [x] _
  have hYl : Y.length = 1 := by rw [← hY]; exact errs_len R _ [x] _
  have hVl := vers_len R (passV w votes) ms 0
  have hEl := errs_len R (passV w votes) ms 0
  have hXfit : ∀ v, v ∈ X → Fit v.Tariff.Fee := by rw [← hX]; exact vers_fit [x] _ (fun m hm => by rw [List.mem_singleton] at hm; subst hm; exact hRx.2.1)
  have hVfit : ∀ v, v ∈ vers R (passV w votes) 0 ms → Fit v.Tariff.Fee := vers_fit ms 0 (fun m hm => (hRm m hm).2.1)
  have hXlate : ¬ x.From ≤ day → ∀ v, v ∈ X → ¬ v.From ≤ day := by rw [← hX]; exact fun h => vers_one_late h
  generalize vers R (passV w votes) 0 ms = V at *
  generalize errs R (passV w votes) 0 ms = E at *
  refine Ev.bind (a := false) (Ev.else ?_ ?_) ?_
  · rw [iadd_i64 (by omega) (by omega)]; simp; omega
  · have hs : isub .i64 ((E ++ Y).length : Int) 1 = (E.length : Int) := by rw [isub_i64 (by omega) (by simp; omega)]; simp; omega
    rw [hs]
    have hl : lsl (E ++ Y) 0 (E.length : Int) = some E := by
      have := lsl_eq (l := E ++ Y) (p := 0) (q := E.length) (by omega) (by simp)
      simpa using this
    refine Ev.step hl ?_
    exact Ev.bind (SameErrors_ev E (by omega)) (Ev.pure _)
  refine or_pure rfl (decide_eq_false (by simp; omega)) (or_pure rfl (decide_eq_false (by rw [iadd_i64 (by omega) (by omega)]; simp; omega)) (Ev.else rfl ?_))
  have hall : ∀ v, v ∈ V ++ X → Fit v.Tariff.Fee := fun v hv => by
    rcases List.mem_append.1 hv with h | h
    · exact hVfit v h
    · exact hXfit v h
  refine Ev.bind (InForce_ev V day (by omega) hVfit) ?_
  refine Ev.bind (InForce_ev (V ++ X) day (by simp; omega) hall) ?_
  by_cases hday : x.From ≤ day
  · refine Ev.then (decide_eq_true hday) ?_
    refine Ev.bind (a := true) (Ev.then rfl (Ev.bind (a := true) ?_ (Ev.pure _))) (Ev.pure _)
    unfold forceV
    rw [best_append]
    cases hb : best day none V with
    | none => exact Ev.then rfl (Ev.pure _)
    | some u =>
      refine Ev.else rfl ((Ev.pure _).eq ?_)
      have := best_isSome day X (some u) rfl
      cases hc : best day (some u) X with
      | none => rw [hc] at this; cases this
      | some z => rfl
  · refine Ev.else (decide_eq_false hday) ?_
    have he : forceV (V ++ X) day = forceV V day := by
      unfold forceV
      rw [best_append, best_late day X _ (hXlate hday)]
    rw [he]
    refine and_pure rfl (by simp) ?_
    exact and_call rfl (SameT_ev (forceV_fit hVfit)) (Ev.pure _)
end Go.Proofs.YtibkigpmkkkaeaaDoor.Cn
