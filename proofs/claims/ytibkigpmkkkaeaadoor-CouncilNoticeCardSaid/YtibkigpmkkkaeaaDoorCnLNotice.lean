/-
  THE LAW CouncilNotice, in plain Lean: the mirrored law is true at all arguments.
-/
import Derived.Test.YtibkigpmkkkaeaaDoorCnR
import Derived.Test.YtibkigpmkkkaeaaDoorMirD1
namespace Go.Proofs.YtibkigpmkkkaeaaDoor.Cn
open Go Rt M Ta

/-- what Adopt says -/
theorem Adopt_t {R : Motion → Tariff × Int} (ms : List Motion) (votes : List Vote) (w : List Int) (names : List Rt.Bs) (notice : Int) (hms : ms.length ≤ 1000) (hv : votes.length < 4611686018427387904) (hn : names.length < 4611686018427387904) (hR : ∀ m, m ∈ ms → Ev (fun n => council_read n m names notice) (R m)) :
    Tt (fun r => (r.2.2 ≠ 0 ∧ r.1 = [] ∧ r.2.1 = []) ∨ (r.2.2 = 0 ∧ r.2.1 = errs R (passV w votes) 0 ms ∧ r.1 = vers R (passV w votes) 0 ms)) (fun n => council_Adopt n ms votes w names notice) := by
  unfold council_Adopt
  refine Tt.cond (fun b => ?_) _
  refine Tt.bif (fun _ => Tt.pure (.inl ⟨by decide, rfl, rfl⟩)) (fun _ => ?_)
  refine Tt.bind (Type_t (Fit.leaf 0 0 []) names hn) fun r2 _ => ?_
  refine Tt.bind (P := fun _ => True) (Tt.bif (fun _ => Tt.pure trivial) (fun _ => ?_)) fun b3 _ => ?_
  · exact Tt.evb ⟨26, fun n hn => right_n (by omega)⟩ (Tt.pure trivial)
  refine Tt.bind (P := fun _ => True) (Tt.bif (fun _ => Tt.pure trivial) (fun _ => ?_)) fun b4 _ => ?_
  · exact Tt.evb (Ev.all fun n => within_n n _ _) (Tt.pure trivial)
  refine Tt.bif (fun _ => Tt.pure (.inl ⟨by decide, rfl, rfl⟩)) (fun _ => ?_)
  obtain ⟨N, h⟩ := Adopt_L R (passV w votes) ms votes w names notice hms hR (fun i => Passes_ev w votes i hv) (fun l3 l4 => some (l4, l3, 0)) ms 0 [] [] rfl (by simp) (by simp)
  refine ⟨(vers R (passV w votes) 0 ms, errs R (passV w votes) 0 ms, 0), ⟨N + ms.length + 1, fun n hn => ?_⟩, .inr ⟨rfl, rfl, rfl⟩⟩
  have := h n n (by omega) (by omega)
  simpa using this

/-- a motion's index, and the version that it leads to -/
def AtM (R : Motion → Tariff × Int) (ms : List Motion) (b : Int) (bo : Option Version) : Prop := b < 0 ∧ bo = none ∨ 0 ≤ b ∧ ∃ mo, ix ms b = some mo ∧ bo = some ⟨mo.From, (R mo).1⟩ ∧ (R mo).2 = 0
theorem errs_ix (R : Motion → Tariff × Int) (P : Int → Bool) : ∀ (ms : List Motion) (k i : Nat) (x : Motion), ms[i]? = some x → (errs R P k ms)[i]? = some (if (R x).2 = 0 then (if P ((k + i : Nat) : Int) = true then 0 else 7) else (R x).2)
  | m :: ms, k, 0, x, h => by
    simp only [List.getElem?_cons_zero, Option.some.injEq] at h
    subst h
    simp [errs]
  | m :: ms, k, i + 1, x, h => by
    simp only [List.getElem?_cons_succ] at h
    simp only [errs, List.getElem?_cons_succ]
    rw [errs_ix R P ms (k + 1) i x h, show k + 1 + i = k + (i + 1) by omega]
theorem Notice_L {R : Motion → Tariff × Int} {ms : List Motion} {votes : List Vote} {w : List Int} {names : List Rt.Bs} {notice day : Int} (hms : ms.length ≤ 1000) (hv : votes.length < 4611686018427387904) (hR : ∀ m, m ∈ ms → Ev (fun n => council_read n m names notice) (R m) ∧ Good names notice m (R m))
    (v3 : List Version × List Int × Int) (hv3 : v3.2.1 = errs R (passV w votes) 0 ms) : ∀ (us : List Motion) (i : Nat) (b : Int) (bo : Option Version), ms.drop i = us → AtM R ms b bo →
    ∃ b', AtM R ms b' (best day bo (vers R (passV w votes) i us)) ∧ ∃ N, ∀ kont n m, N ≤ n → us.length < m → law40_CouncilNotice_L1 n ms votes w names notice day v3 kont m b (i : Int) = kont b'
  | [], i, b, bo, hd, hb => by
    refine ⟨b, hb, 0, fun kont n m _ hm => ?_⟩
    obtain ⟨m, rfl⟩ := left hm
    rw [law40_CouncilNotice_L1_s, more_no hd]; rfl
  | x :: us, i, b, bo, hd, hb => by
    obtain ⟨h1, h2, h3⟩ := drop_cons hd
    have hx : x ∈ ms := List.mem_of_mem_drop (i := i) (by rw [hd]; simp)
    obtain ⟨⟨N1, e1⟩, hG⟩ := hR x hx
    obtain ⟨N2, e2⟩ := Passes_ev w votes (i : Int) hv
    have hix : ix v3.2.1 (i : Int) = some (if (R x).2 = 0 then (if passV w votes (i : Int) = true then 0 else 7) else (R x).2) := by
      rw [hv3, ix_nat, errs_ix R (passV w votes) ms 0 i x (by rw [← ix_nat]; exact h1), Nat.zero_add]
    have step : ∀ kont n m, max N1 N2 ≤ n → law40_CouncilNotice_L1 n ms votes w names notice day v3 kont (m + 1) b (i : Int) =
        if (R x).2 = 0 ∧ passV w votes (i : Int) = true then
          (if x.From ≤ day ∧ (b < 0 ∨ ∃ mo, ix ms b = some mo ∧ mo.From ≤ x.From) then law40_CouncilNotice_L1 n ms votes w names notice day v3 kont m (i : Int) ((i + 1 : Nat) : Int)
           else law40_CouncilNotice_L1 n ms votes w names notice day v3 kont m b ((i + 1 : Nat) : Int))
        else law40_CouncilNotice_L1 n ms votes w names notice day v3 kont m b ((i + 1 : Nat) : Int) := by
      intro kont n m hn
      have e1 : council_read n x names notice = some (R x) := e1 n (by omega)
      have e2 : council_Passes n w votes (i : Int) = some (passV w votes (i : Int)) := e2 n (by omega)
      rw [law40_CouncilNotice_L1_s, more_yes hd, cond_true]
      unfold council_Check
      rw [h1]
      simp only [Option.bind_some]
      rw [e1, e2, hix, inc64 (by omega)]
      simp only [Option.bind_some]
      by_cases hr : (R x).2 = 0
      · obtain ⟨g1, g2, g3, _, _⟩ := hG.2 hr
        rw [show ((R x).2 == 0) = true by simpa using hr, cond_true, if_pos hr, Option.bind_some]
        cases hp : passV w votes (i : Int) with
        | false => rw [if_neg (by decide), if_neg (fun h => by cases h.2)]; rfl
        | true =>
          rw [if_pos rfl, if_pos ⟨hr, rfl⟩, isub_i64 (by omega) (by omega), decide_eq_false (by omega)]
          simp only [beq_self_eq_true, Bool.not_true, cond_false]
          by_cases hday : x.From ≤ day
          · rw [decide_eq_true hday, cond_true]
            rcases hb with ⟨hb1, _⟩ | ⟨hb1, mo, hmo, _⟩
            · rw [decide_eq_true hb1, cond_true, if_pos ⟨hday, .inl hb1⟩]; rfl
            · have e : imax b 0 = b := by unfold imax; rw [if_neg (by omega)]
              rw [decide_eq_false (by omega), cond_false, e, hmo, Option.bind_some, Option.bind_some, Option.bind_some]
              by_cases hf : mo.From ≤ x.From
              · rw [decide_eq_true hf, cond_true, if_pos ⟨hday, .inr ⟨mo, rfl, hf⟩⟩]
              · rw [decide_eq_false hf, cond_false, if_neg]
                rintro ⟨_, h | ⟨mo', h, h'⟩⟩
                · omega
                · cases h; exact hf h'
          · rw [decide_eq_false hday, if_neg (fun h => hday h.1)]; rfl
      · rw [show ((R x).2 == 0) = false by simpa using hr, cond_false, if_neg hr, Option.bind_some, show ((R x).2 == 0) = false by simpa using hr, if_neg (fun h => hr h.1)]; rfl
    by_cases may : (R x).2 = 0 ∧ passV w votes (i : Int) = true
    · have hvers : vers R (passV w votes) i (x :: us) = ⟨x.From, (R x).1⟩ :: vers R (passV w votes) (i + 1) us := by
        simp only [vers]; rw [if_pos may]; rfl
      have hbetter : better day bo ⟨x.From, (R x).1⟩ = if x.From ≤ day ∧ (b < 0 ∨ ∃ mo, ix ms b = some mo ∧ mo.From ≤ x.From) then some ⟨x.From, (R x).1⟩ else bo := by
        rcases hb with ⟨hb1, rfl⟩ | ⟨hb1, mo, hmo, rfl, _⟩
        · unfold better
          dsimp only
          by_cases hday : x.From ≤ day
          · rw [if_pos hday, if_pos ⟨hday, .inl hb1⟩]
          · rw [if_neg hday, if_neg (fun h => hday h.1)]
        · unfold better
          dsimp only
          by_cases hday : x.From ≤ day ∧ mo.From ≤ x.From
          · rw [if_pos hday, if_pos ⟨hday.1, .inr ⟨mo, hmo, hday.2⟩⟩]
          · rw [if_neg hday, if_neg]
            rintro ⟨h, h' | ⟨mo', h', h''⟩⟩
            · omega
            · rw [hmo] at h'; cases h'; exact hday ⟨h, h''⟩
      rw [hvers, best_cons, hbetter]
      by_cases take : x.From ≤ day ∧ (b < 0 ∨ ∃ mo, ix ms b = some mo ∧ mo.From ≤ x.From)
      · rw [if_pos take]
        obtain ⟨b', hb', N, ih⟩ := Notice_L (day := day) hms hv hR v3 hv3 us (i + 1) (i : Int) (some ⟨x.From, (R x).1⟩) h2 (.inr ⟨by omega, x, h1, rfl, may.1⟩)
        refine ⟨b', hb', max N (max N1 N2), fun kont n m hn hm => ?_⟩
        obtain ⟨m, rfl, hm2⟩ := pred (by simpa using hm)
        rw [step kont n m (by omega), if_pos may, if_pos take]
        exact ih kont n m (by omega) hm2
      · rw [if_neg take]
        obtain ⟨b', hb', N, ih⟩ := Notice_L (day := day) hms hv hR v3 hv3 us (i + 1) b bo h2 hb
        refine ⟨b', hb', max N (max N1 N2), fun kont n m hn hm => ?_⟩
        obtain ⟨m, rfl, hm2⟩ := pred (by simpa using hm)
        rw [step kont n m (by omega), if_pos may, if_neg take]
        exact ih kont n m (by omega) hm2
    · have hvers : vers R (passV w votes) i (x :: us) = vers R (passV w votes) (i + 1) us := by
        simp only [vers]; rw [if_neg may]; rfl
      rw [hvers]
      obtain ⟨b', hb', N, ih⟩ := Notice_L (day := day) hms hv hR v3 hv3 us (i + 1) b bo h2 hb
      refine ⟨b', hb', max N (max N1 N2), fun kont n m hn hm => ?_⟩
      obtain ⟨m, rfl, hm2⟩ := pred (by simpa using hm)
      rw [step kont n m (by omega), if_neg may]
      exact ih kont n m (by omega) hm2
theorem notice_ev (ms : List Motion) (votes : List Vote) (w : List Int) (names : List Rt.Bs) (notice day : Int) : Ev (fun n => law40_CouncilNotice n ms votes w names notice day) true := by
  unfold law40_CouncilNotice
  refine Ev.bind sane_ev ?_
  obtain ⟨few, hfew, hP⟩ := Few_t ms votes w names
  refine Ev.bind hfew ?_
  cases few with
  | false => exact Ev.then rfl (Ev.pure _)
  | true =>
  have hF := hP rfl
  have f1 := hF.ms45
  have f2 := hF.votes1010
  refine Ev.else rfl ?_
  have hl2 : names.length < 4611686018427387904 := by have := hF.names8; omega
  obtain ⟨R, hR⟩ := reads names notice hl2
  have hR' : ∀ m, m ∈ ms → Ev (fun n => council_read n m names notice) (R m) ∧ Good names notice m (R m) := fun m hm => hR m (by have := hF.text m hm; omega)
  obtain ⟨⟨V, E, e⟩, hA, hAdopt⟩ := Adopt_t (R := R) ms votes w names notice (by omega) (by omega) hl2 (fun m hm => (hR' m hm).1)
  refine Ev.bind hA ?_
  dsimp only at hAdopt ⊢
  rcases hAdopt with ⟨he, rfl, rfl⟩ | ⟨rfl, rfl, rfl⟩
  · exact Ev.then (by simpa using he) (and_pure rfl rfl (and_pure rfl rfl (Ev.pure _)))
  refine Ev.else rfl (Ev.else (by rw [errs_len]; simp) ?_)
  have hVl := vers_len R (passV w votes) ms 0
  have hfit : ∀ v, v ∈ vers R (passV w votes) 0 ms → Fit v.Tariff.Fee := vers_fit ms 0 (fun m hm => (hR' m hm).2.1)
  refine Ev.bind (InForce_ev _ day (by omega) hfit) ?_
  obtain ⟨b', hb', N, hL⟩ := Notice_L (day := day) (w := w) (votes := votes) (by omega) (by omega) hR' (vers R (passV w votes) 0 ms, errs R (passV w votes) 0 ms, 0) rfl ms 0 (-1) none rfl (.inl ⟨by omega, rfl⟩)
  refine Ev.from (N + ms.length + 1) (fun n hn => hL _ n n (by omega) (by omega)) ?_
  unfold forceV
  rcases hb' with ⟨h1, h2⟩ | ⟨h1, mo, h2, h3, h4⟩
  · rw [h2]
    exact Ev.then (decide_eq_true h1) (and_pure rfl rfl (Ev.pure _))
  · rw [h3]
    dsimp only
    refine Ev.else (decide_eq_false (by omega)) (Ev.step h2 ?_)
    have hmo : mo ∈ ms := by
      obtain ⟨k, rfl⟩ := Int.eq_ofNat_of_zero_le h1
      rw [ix_nat] at h2
      exact List.mem_of_getElem? h2
    obtain ⟨hfx, hg⟩ := (hR' mo hmo).2
    obtain ⟨_, _, _, ⟨p, hp⟩, hc⟩ := hg h4
    refine Ev.bind hp ?_
    refine and_pure rfl rfl (and_pure rfl rfl ?_)
    refine and_call rfl (SameT_ev hfx) ?_
    exact Ev.bind (a := true) (Ev.then rfl (Ev.bind hc (Ev.pure _))) (Ev.pure _)
end Go.Proofs.YtibkigpmkkkaeaaDoor.Cn
