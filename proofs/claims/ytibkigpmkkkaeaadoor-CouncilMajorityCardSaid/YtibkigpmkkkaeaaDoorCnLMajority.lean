/-
  THE LAW CouncilMajority, in plain Lean: the mirrored law is true at all arguments.
-/
import Derived.Test.YtibkigpmkkkaeaaDoorCnS
import Derived.Test.YtibkigpmkkkaeaaDoorMirD2
namespace Go.Proofs.YtibkigpmkkkaeaaDoor.Cn
open Go Rt M

theorem Majority_L (n : Nat) (w : List Int) (kont : Int → Option Bool) (hl : w.length ≤ 20) (hw : w.all okw = true) : ∀ (us : List Int) (i m : Nat) (y : Int), w.drop i = us → us.length < m → 0 ≤ y → y ≤ 1000 * i → law40_CouncilMajority_L1 n w kont m y (i : Int) = kont (y + sumS us)
  | [], i, m + 1, y, hd, _, _, _ => by
    rw [law40_CouncilMajority_L1_s, more_no hd]
    show kont y = kont (y + 0)
    rw [Int.add_zero]
  | x :: us, i, m + 1, y, hd, hm, hy, hy1 => by
    obtain ⟨h1, h2, h3⟩ := drop_cons hd
    have hx := okw_range (List.all_eq_true.1 hw x (List.mem_of_mem_drop (i := i) (by rw [hd]; simp)))
    have ih := Majority_L n w kont hl hw us (i + 1) m (y + x) h2 (by simp only [List.length_cons] at hm; omega) (by omega) (by omega)
    rw [law40_CouncilMajority_L1_s, more_yes hd, cond_true, h1, Option.bind_some, inc64 (by omega), iadd_i64 (by omega) (by omega), ih]
    simp only [sumS, Int.add_assoc]
/-- one more voice for it -/
theorem more_yesS (f g : Int → Option Bool) (k : Int) (hk : ∀ c, g c = if c = k then some true else f c) : ∀ (ws : List Int) (i : Int), ws.all okw = true → i ≤ k → ∀ j : Nat, k = i + j → (hj : j < ws.length) →
    yesS f i ws ≤ yesS g i ws ∧ yesS g i ws ≤ yesS f i ws + ws[j] ∧ ws[j] ≤ yesS g i ws
  | w :: ws, i, h, _, 0, hki, _ => by
    simp only [List.all_cons, Bool.and_eq_true] at h
    have hw := okw_range h.1
    have hik : k = i := by omega
    have same : ∀ (ws : List Int) (i : Int), k < i → yesS g i ws = yesS f i ws := by
      intro ws
      induction ws with
      | nil => intro i _; rfl
      | cons x xs ih =>
        intro i hi
        simp only [yesS]
        have hg : g i = f i := by rw [hk i, if_neg (by omega)]
        rw [ih (i + 1) (by omega), hg]
    have hs := sums_le f ws (i + 1) h.2
    simp only [yesS, List.getElem_cons_zero]
    have hg : g i = some true := by rw [hk i, if_pos hik.symm]
    rw [same ws (i + 1) (by omega), hg, if_pos rfl]
    split <;> omega
  | w :: ws, i, h, hi, j + 1, hki, hj => by
    simp only [List.all_cons, Bool.and_eq_true] at h
    have hw := okw_range h.1
    obtain ⟨h1, h2, h3⟩ := more_yesS f g k hk ws (i + 1) h.2 (by omega) j (by omega) (by simpa using hj)
    have hs := sums_le f ws (i + 1) h.2
    simp only [yesS, List.getElem_cons_succ]
    have hg : g i = f i := by rw [hk i, if_neg (by omega)]
    rw [hg]
    split <;> omega
theorem majority_ev (w : List Int) (votes : List Vote) (mo : Int) (c : Int) (hc0 : 0 ≤ c) (hc1 : c ≤ 255) : Ev (fun n => law40_CouncilMajority n w votes mo c) true := by
  unfold law40_CouncilMajority
  refine Ev.bind sane_ev ?_
  refine or_both ?_
  refine guard fun hV => ?_
  simp only [Bool.or_eq_false_iff, decide_eq_false_iff_not] at hV
  have hw : w.length ≤ 25 := by omega
  have hv : votes.length ≤ 60 := by omega
  refine Ev.bind (Count_ev w votes mo (by omega)) ?_
  refine Ev.bind (Weights_ev w (by omega)) ?_
  cases hr : rightW w with
  | false =>
    have e1 : countV w votes mo = (0, 0) := by unfold countV; rw [hr]; rfl
    have e2 : passV w votes mo = false := by unfold passV; rw [hr]; rfl
    refine Ev.then rfl ?_
    rw [e1]
    refine and_pure rfl rfl (and_pure rfl rfl ?_)
    exact Ev.bind (a := true) (Ev.then rfl (Ev.bind ((Passes_ev w votes mo (by omega)).eq e2) (Ev.pure _))) (Ev.pure _)
  | true =>
    refine Ev.else rfl ?_
    have hr' := hr
    unfold rightW at hr'
    simp only [Bool.and_eq_true, decide_eq_true_eq] at hr'
    obtain ⟨hl, hall⟩ := hr'
    have hs := sums_le (fun c => lastV mo c none votes) w 0 hall
    have e1 : countV w votes mo = (yesS (fun c => lastV mo c none votes) 0 w, noS (fun c => lastV mo c none votes) 0 w) := by unfold countV; rw [if_pos hr]
    have e2 : passV w votes mo = decide (sumS w < 2 * yesS (fun c => lastV mo c none votes) 0 w) := by unfold passV; rw [hr, e1]; rfl
    have hK : ∀ kont : Nat → Int → Option Bool, Ev (fun n => kont n (sumS w)) true → Ev (fun n => law40_CouncilMajority_L1 n w (kont n) n 0 0) true := by
      intro kont hk
      refine Ev.from 30 (fun n hn => ?_) hk
      have := Majority_L n w (kont n) hl hall w 0 n 0 rfl (by omega) (by omega) (by omega)
      rw [Int.zero_add] at this
      exact this
    refine hK _ ?_
    rw [e1]
    generalize hY : yesS (fun c => lastV mo c none votes) 0 w = Y at *
    generalize hZ : noS (fun c => lastV mo c none votes) 0 w = Z at *
    refine or_pure (decide_eq_false (show ¬ Y < 0 by omega)) (decide_eq_false (show ¬ Z < 0 by omega)) ?_
    refine or_pure rfl (by
      show decide (sumS w < iadd .i64 Y Z) = false
      rw [iadd_i64 (by omega) (by omega)]
      exact decide_eq_false (by omega)) ?_
    refine Ev.bind (a := false) (Ev.else rfl (Ev.bind ((Passes_ev w votes mo (by omega)).eq e2) ((Ev.pure _).eq (by
      show (!(decide (sumS w < 2 * Y) == decide (sumS w < imul .i64 2 Y))) = false
      rw [imul_i64 (by omega) (by omega)]; simp)))) ?_
    refine Ev.else rfl ?_
    by_cases h0 : w.length = 0
    · have hw0 : w = [] := List.eq_nil_of_length_eq_zero h0
      have hY0 : Y = 0 := by rw [← hY, hw0]; rfl
      refine Ev.then (by rw [h0]; rfl) ?_
      exact and_pure rfl (by rw [hY0]; rfl) (Ev.pure _)
    · refine Ev.else (by simpa using h0) ?_
      have hwrap : IntKind.i64.wrap c = c := wrap_i64 (by omega) (by omega)
      obtain ⟨q, hq⟩ : ∃ q : Nat, c % (w.length : Int) = (q : Int) := ⟨(c % (w.length : Int)).toNat, by have := Int.emod_nonneg c (show (w.length : Int) ≠ 0 by omega); omega⟩
      have hq1 : q < w.length := by have := Int.emod_lt_of_pos c (show 0 < (w.length : Int) by omega); omega
      refine Ev.step (a := (q : Int)) (by rw [hwrap, rem_pos hc0 (by omega), hq]) ?_
      refine Ev.step (a := votes) (by rw [app_ok (by simp; omega)]; rfl) ?_
      refine Ev.step (a := votes ++ [⟨mo, (q : Int), true⟩]) (app_ok (by simp; omega)) ?_
      have e3 : countV w (votes ++ [⟨mo, (q : Int), true⟩]) mo = (yesS (fun c => lastV mo c none (votes ++ [⟨mo, (q : Int), true⟩])) 0 w, noS (fun c => lastV mo c none (votes ++ [⟨mo, (q : Int), true⟩])) 0 w) := by unfold countV; rw [if_pos hr]
      refine Ev.bind ((Count_ev w (votes ++ [⟨mo, (q : Int), true⟩]) mo (by simp; omega)).eq e3) ?_
      have hm := more_yesS (fun c => lastV mo c none votes) (fun c => lastV mo c none (votes ++ [⟨mo, (q : Int), true⟩])) (q : Int) (fun c => by
        show lastV mo c none (votes ++ [⟨mo, (q : Int), true⟩]) = _
        rw [lastV_append]
        show pickV mo c (lastV mo c none votes) ⟨mo, (q : Int), true⟩ = _
        unfold pickV
        by_cases h : c = (q : Int)
        · rw [if_pos ⟨rfl, h.symm⟩, if_pos h]
        · rw [if_neg (fun h2 => h h2.2.symm), if_neg h]) w 0 hall (by omega) q (by omega) hq1
      rw [hY] at hm
      have hwq := okw_range (List.all_eq_true.1 hall _ (List.getElem_mem hq1))
      generalize yesS (fun c => lastV mo c none (votes ++ [⟨mo, (q : Int), true⟩])) 0 w = Y2 at *
      have hix : ix w (q : Int) = some w[q] := by rw [ix_nat, List.getElem?_eq_getElem hq1]
      refine and_pure rfl (decide_eq_true hm.1) ?_
      refine Ev.bind (a := true) (Ev.then rfl (Ev.step hix ((Ev.pure _).eq ?_))) ?_
      · rw [iadd_i64 (by omega) (by omega)]
        exact decide_eq_true hm.2.1
      exact Ev.bind (a := true) (Ev.then rfl (Ev.step hix ((Ev.pure _).eq (decide_eq_true hm.2.2)))) (Ev.pure _)
theorem wfu8 {x : Int} (h : (Lit.int .u8 x).wf = true) : 0 ≤ x ∧ x ≤ 255 := by
  have h2 : IntKind.u8.min ≤ x ∧ x ≤ IntKind.u8.max := by simpa [Lit.wf] using h
  rw [show IntKind.u8.min = 0 by decide, show IntKind.u8.max = 255 by decide] at h2
  exact h2
theorem majority_ev' (w : List Int) (votes : List Vote) (mo : Int) (c : Int) (hc : (Lit.int .u8 c).wf = true) : Ev (fun n => law40_CouncilMajority n w votes mo c) true := majority_ev w votes mo c (wfu8 hc).1 (wfu8 hc).2
end Go.Proofs.YtibkigpmkkkaeaaDoor.Cn
