/-
  THE LAW CouncilTells, in plain Lean: the reference says what the council says.
-/
import Derived.Test.YtibkigpmkkkaeaaGreatDoorCnR
import Derived.Test.YtibkigpmkkkaeaaGreatDoorTaP
import Derived.Test.YtibkigpmkkkaeaaGreatDoorMirT2
namespace Go.Proofs.YtibkigpmkkkaeaaGreatDoor.Cn
open Go Rt M Ta
theorem in_n (n : Nat) (x a b : Int) : ref40_in n x a b = some (decide (a ≤ x ∧ x ≤ b)) := by
  unfold ref40_in
  by_cases h1 : a ≤ x
  · rw [decide_eq_true h1]; simp [h1]
  · rw [decide_eq_false h1]; simp [h1]
/-- what a motion gives, for both -/
def Both (names : List Rt.Bs) (notice : Int) (m : Motion) (r : Tariff × Int) : Prop :=
  Ev (fun n => council_read n m names notice) r ∧ Ev (fun n => ref40_Check n m names notice) r.2 ∧ Fit r.1.Fee ∧ (r.2 = 0 → ∃ p e : Int, Ev (fun n => ref35_Parse n m.Text) (r.1, p, e))
theorem both_read {m : Motion} {names : List Rt.Bs} {notice : Int} (hm : m.Text.length ≤ 1000000) (hn : names.length < 4611686018427387904) : ∃ r, Both names notice m r := by
  have Z : Fit (⟨[], (⟨0, 0, [], []⟩ : M.Expr), 0⟩ : Tariff).Fee := Fit.leaf _ _ _
  -- the numbers
  by_cases hr : (0 ≤ notice ∧ notice ≤ 1000) ∧ (0 ≤ m.Day ∧ m.Day ≤ 100000) ∧ (0 ≤ m.From ∧ m.From ≤ 100000)
  rotate_left
  · refine ⟨(⟨[], (⟨0, 0, [], []⟩ : M.Expr), 0⟩, 1), ?_, ?_, Z, fun h => by cases h⟩
    · unfold council_read
      refine Ev.bind (Ev.all fun n => within_n n _ _) ?_
      refine Ev.bind (a := !decide (0 ≤ notice ∧ notice ≤ 1000) || !decide (0 ≤ m.Day ∧ m.Day ≤ 100000)) ?_ ?_
      · cases decide (0 ≤ notice ∧ notice ≤ 1000) with
        | false => exact Ev.then rfl (Ev.pure _)
        | true => exact Ev.else rfl (Ev.bind (Ev.all fun n => within_n n _ _) (Ev.pure _))
      refine Ev.bind (a := true) ?_ (Ev.then rfl (Ev.pure _))
      by_cases h1 : 0 ≤ notice ∧ notice ≤ 1000
      · by_cases h2 : 0 ≤ m.Day ∧ m.Day ≤ 100000
        · refine Ev.else (by simp [h1, h2]) (Ev.bind (Ev.all fun n => within_n n _ _) ((Ev.pure _).eq ?_))
          rw [decide_eq_false (fun h3 => hr ⟨h1, h2, h3⟩)]; rfl
        · exact Ev.then (by rw [decide_eq_false h2]; simp) (Ev.pure _)
      · exact Ev.then (by rw [decide_eq_false h1]; simp) (Ev.pure _)
    · unfold ref40_Check
      refine Ev.bind (Ev.all fun n => in_n n _ _ _) ?_
      refine Ev.bind (a := !decide (0 ≤ notice ∧ notice ≤ 1000) || !decide (0 ≤ m.Day ∧ m.Day ≤ 100000)) ?_ ?_
      · cases decide (0 ≤ notice ∧ notice ≤ 1000) with
        | false => exact Ev.then rfl (Ev.pure _)
        | true => exact Ev.else rfl (Ev.bind (Ev.all fun n => in_n n _ _ _) (Ev.pure _))
      refine Ev.bind (a := true) ?_ (Ev.then rfl (Ev.pure _))
      by_cases h1 : 0 ≤ notice ∧ notice ≤ 1000
      · by_cases h2 : 0 ≤ m.Day ∧ m.Day ≤ 100000
        · refine Ev.else (by simp [h1, h2]) (Ev.bind (Ev.all fun n => in_n n _ _ _) ((Ev.pure _).eq ?_))
          rw [decide_eq_false (fun h3 => hr ⟨h1, h2, h3⟩)]; rfl
        · exact Ev.then (by rw [decide_eq_false h2]; simp) (Ev.pure _)
      · exact Ev.then (by rw [decide_eq_false h1]; simp) (Ev.pure _)
  obtain ⟨r1, r2, r3⟩ := hr
  have C : ∀ {r : Tariff × Int} {f : Nat → Option (Tariff × Int)}, Ev f r → Ev (fun n => (council_within n notice 1000).bind fun v1 => (bif !v1 then some true else (council_within n m.Day 100000).bind fun v7 => some (!v7)).bind fun v2 => (bif v2 then some true else (council_within n m.From 100000).bind fun v6 => some (!v6)).bind fun v3 => bif v3 then some ((⟨[], (⟨0, 0, [], []⟩ : M.Expr), 0⟩ : Tariff), 1) else f n) r := fun h =>
    Ev.bind (a := true) ((Ev.all fun n => within_n n _ _).eq (decide_eq_true r1)) (Ev.bind (a := false) (Ev.else rfl (Ev.bind (a := true) ((Ev.all fun n => within_n n _ _).eq (decide_eq_true r2)) (Ev.pure _))) (Ev.bind (a := false) (Ev.else rfl (Ev.bind (a := true) ((Ev.all fun n => within_n n _ _).eq (decide_eq_true r3)) (Ev.pure _))) (Ev.else rfl h)))
  have D : ∀ {r : Int} {f : Nat → Option Int}, Ev f r → Ev (fun n => (ref40_in n notice 0 1000).bind fun v1 => (bif !v1 then some true else (ref40_in n m.Day 0 100000).bind fun v7 => some (!v7)).bind fun v2 => (bif v2 then some true else (ref40_in n m.From 0 100000).bind fun v6 => some (!v6)).bind fun v3 => bif v3 then some 1 else f n) r := fun h =>
    Ev.bind (a := true) ((Ev.all fun n => in_n n _ _ _).eq (decide_eq_true r1)) (Ev.bind (a := false) (Ev.else rfl (Ev.bind (a := true) ((Ev.all fun n => in_n n _ _ _).eq (decide_eq_true r2)) (Ev.pure _))) (Ev.bind (a := false) (Ev.else rfl (Ev.bind (a := true) ((Ev.all fun n => in_n n _ _ _).eq (decide_eq_true r3)) (Ev.pure _))) (Ev.else rfl h)))
  obtain ⟨⟨t, p, e⟩, _, p1, p2, rfl, fx⟩ := Parse_2 hm
  dsimp only at fx
  by_cases he : e = 0
  rotate_left
  · have hb : (e != 0) = true := by simpa using he
    exact ⟨(⟨[], (⟨0, 0, [], []⟩ : M.Expr), 0⟩, e), C (Ev.bind p1 (Ev.then hb (Ev.pure _))), D (Ev.bind p2 (Ev.then hb (Ev.pure _))), Z, fun h => absurd h he⟩
  subst he
  obtain ⟨k, k1, k2⟩ := Check_2 fx names hn
  by_cases hk : k = 0
  rotate_left
  · have hb : (k != 0) = true := by simpa using hk
    exact ⟨(⟨[], (⟨0, 0, [], []⟩ : M.Expr), 0⟩, k), C (Ev.bind p1 (Ev.else rfl (Ev.bind k1 (Ev.then hb (Ev.pure _))))), D (Ev.bind p2 (Ev.else rfl (Ev.bind k2 (Ev.then hb (Ev.pure _))))), Z, fun h => absurd h hk⟩
  subst hk
  have s1 : isub .i64 m.From m.Day = m.From - m.Day := isub_i64 (by omega) (by omega)
  have s2 : iadd .i64 m.Day notice = m.Day + notice := iadd_i64 (by omega) (by omega)
  by_cases hd : m.From - m.Day < notice
  · exact ⟨(⟨[], (⟨0, 0, [], []⟩ : M.Expr), 0⟩, 18), C (Ev.bind p1 (Ev.else rfl (Ev.bind k1 (Ev.else rfl (Ev.then (by rw [s1]; exact decide_eq_true hd) (Ev.pure _)))))), D (Ev.bind p2 (Ev.else rfl (Ev.bind k2 (Ev.else rfl (Ev.then (by rw [s2]; exact decide_eq_true (by omega)) (Ev.pure _)))))), Z, fun h => by cases h⟩
  · exact ⟨(t, 0), C (Ev.bind p1 (Ev.else rfl (Ev.bind k1 (Ev.else rfl (Ev.else (by rw [s1]; exact decide_eq_false hd) (Ev.pure _)))))), D (Ev.bind p2 (Ev.else rfl (Ev.bind k2 (Ev.else rfl (Ev.else (by rw [s2]; exact decide_eq_false (by omega)) (Ev.pure _)))))), fx, fun _ => ⟨p, 0, p2⟩⟩
theorem boths (names : List Rt.Bs) (notice : Int) (hn : names.length < 4611686018427387904) : ∃ R : Motion → Tariff × Int, ∀ m : Motion, m.Text.length ≤ 1000000 → Both names notice m (R m) := by
  have h : ∀ m : Motion, ∃ r : Tariff × Int, m.Text.length ≤ 1000000 → Both names notice m r := by
    intro m
    by_cases hm : m.Text.length ≤ 1000000
    · obtain ⟨r, hr⟩ := both_read (m := m) (names := names) (notice := notice) hm hn
      exact ⟨r, fun _ => hr⟩
    · exact ⟨⟨⟨[], ⟨0, 0, [], []⟩, 0⟩, 0⟩, fun h => absurd h hm⟩
  exact ⟨fun m => Classical.choose (h m), fun m hm => Classical.choose_spec (h m) hm⟩
/-! counting -/
def encV : Option Bool → Int
  | none => 0
  | some true => 2
  | some false => 1
theorem Vote_L (n : Nat) (votes : List Vote) (c mo : Int) (kont : Int → Option Int) (hv : votes.length < 4611686018427387904) : ∀ (us : List Vote) (i m : Nat) (acc : Option Bool), votes.drop i = us → us.length < m →
    ref40_Vote_L1 n votes c mo kont m (encV acc) (i : Int) = kont (encV (lastV mo c acc us))
  | [], i, m + 1, acc, hd, _ => by rw [ref40_Vote_L1_s, more_no hd]; rfl
  | v :: us, i, m + 1, acc, hd, hm => by
    obtain ⟨h1, h2, h3⟩ := drop_cons hd
    have ih := fun acc => Vote_L n votes c mo kont hv us (i + 1) m acc h2 (by simpa using hm)
    rw [ref40_Vote_L1_s, more_yes hd, cond_true, h1]
    simp only [Option.bind_some]
    rw [andT, Option.bind_some, lastV_cons]
    unfold pickV
    by_cases a : v.Motion = mo ∧ v.Commune = c
    · rw [show (v.Commune == c && v.Motion == mo) = true by simp [a.1, a.2], cond_true, if_pos a, inc64 (by omega), ← ih (some v.Yes)]
      cases v.Yes <;> rfl
    · rw [if_neg a, show (v.Commune == c && v.Motion == mo) = false by
        by_cases h5 : v.Commune = c
        · have : ¬ v.Motion = mo := fun h6 => a ⟨h6, h5⟩
          simp [this]
        · simp [h5], cond_false, inc64 (by omega)]
      exact ih acc
theorem RCount_L (n : Nat) (w : List Int) (votes : List Vote) (mo : Int) (kont : List Int → Option (Int × Int)) (hv : votes.length < 4611686018427387904) (hn : votes.length < n) (hl : w.length ≤ 20) (hw : w.all okw = true) : ∀ (us : List Int) (i m : Nat) (x y z : Int), w.drop i = us → us.length < m → 0 ≤ x → x ≤ 1000 * i → 0 ≤ y → y ≤ 1000 * i → 0 ≤ z → z ≤ 1000 * i →
    ∃ x', ref40_Count_L1 n w votes mo kont m (i : Int) [x, y, z] = kont [x', y + noS (fun c => lastV mo c none votes) i us, z + yesS (fun c => lastV mo c none votes) i us]
  | [], i, m + 1, x, y, z, hd, _, _, _, _, _, _, _ => ⟨x, by
    rw [ref40_Count_L1_s, more_no hd]
    show kont [x, y, z] = kont [x, y + 0, z + 0]
    rw [Int.add_zero, Int.add_zero]⟩
  | u :: us, i, m + 1, x, y, z, hd, hm, hx, hx1, hy, hy1, hz, hz1 => by
    obtain ⟨h1, h2, h3⟩ := drop_cons hd
    have hu := okw_range (List.all_eq_true.1 hw u (List.mem_of_mem_drop (i := i) (by rw [hd]; simp)))
    have hm' : us.length < m := by simpa using hm
    have hV : ref40_Vote n votes (i : Int) mo = some (encV (lastV mo (i : Int) none votes)) := Vote_L n votes (i : Int) mo _ hv votes 0 n none rfl hn
    have e : ((i : Int) + 1) = ((i + 1 : Nat) : Int) := by omega
    have ih := fun x y z => RCount_L n w votes mo kont hv hn hl hw us (i + 1) m x y z h2 hm'
    rw [ref40_Count_L1_s, more_yes hd, cond_true, hV, Option.bind_some, h1]
    simp only [yesS, noS]
    rw [e]
    have hq : lastV mo (i : Int) none votes = none ∨ lastV mo (i : Int) none votes = some true ∨ lastV mo (i : Int) none votes = some false := by
      cases lastV mo (i : Int) none votes with
      | none => exact .inl rfl
      | some b => cases b <;> simp
    rcases hq with hq | hq | hq
    · obtain ⟨x', h5⟩ := ih (x + u) y z (by omega) (by omega) (by omega) (by omega) (by omega) (by omega)
      refine ⟨x', ?_⟩
      simp only [hq]
      show (lset [x, y, z] 0 (iadd .i64 x u)).bind _ = _
      rw [iadd_i64 (by omega) (by omega)]
      show ref40_Count_L1 n w votes mo kont m (iadd .i64 (i : Int) 1) [x + u, y, z] = _
      rw [inc64 (by omega), h5]; simp
    · obtain ⟨x', h5⟩ := ih x y (z + u) (by omega) (by omega) (by omega) (by omega) (by omega) (by omega)
      refine ⟨x', ?_⟩
      simp only [hq]
      show (lset [x, y, z] 2 (iadd .i64 z u)).bind _ = _
      rw [iadd_i64 (by omega) (by omega)]
      show ref40_Count_L1 n w votes mo kont m (iadd .i64 (i : Int) 1) [x, y, z + u] = _
      rw [inc64 (by omega), h5]; simp [Int.add_assoc]
    · obtain ⟨x', h5⟩ := ih x (y + u) z (by omega) (by omega) (by omega) (by omega) (by omega) (by omega)
      refine ⟨x', ?_⟩
      simp only [hq]
      show (lset [x, y, z] 1 (iadd .i64 y u)).bind _ = _
      rw [iadd_i64 (by omega) (by omega)]
      show ref40_Count_L1 n w votes mo kont m (iadd .i64 (i : Int) 1) [x, y + u, z] = _
      rw [inc64 (by omega), h5]; simp [Int.add_assoc]
theorem RCount_n {w : List Int} {votes : List Vote} {mo : Int} {n : Nat} (hwl : w.length < 4611686018427387904) (hv : votes.length < 4611686018427387904) (hn : votes.length + w.length + 30 < n) : ref40_Count n w votes mo = some (countV w votes mo) := by
  unfold ref40_Count countV
  rw [Weights_n hwl (by omega), Option.bind_some]
  cases hr : rightW w with
  | false => rfl
  | true =>
    have hr' := hr
    unfold rightW at hr'
    simp only [Bool.and_eq_true, decide_eq_true_eq] at hr'
    obtain ⟨x', h⟩ := RCount_L n w votes mo (fun l2 => (ix l2 2).bind fun ex1 => (ix l2 1).bind fun ex2 => some (ex1, ex2)) hv (by omega) hr'.1 hr'.2 w 0 n 0 0 0 rfl (by omega) (by omega) (by omega) (by omega) (by omega) (by omega) (by omega)
    rw [Bool.not_true, cond_false, if_pos rfl]
    refine Eq.trans h ?_
    show some (0 + _, 0 + _) = _
    rw [Int.zero_add, Int.zero_add]; rfl
theorem RPasses_L (n : Nat) (w : List Int) (kont : Int → Option Bool) (hn : w.length < n) (hl : w.length ≤ 20) (hw : w.all okw = true) : ∀ (us : List Int) (i m : Nat) (y : Int), w.drop i = us → us.length < m → 0 ≤ y → y ≤ 1000 * i → ref40_Passes_L1 n w kont m y (i : Int) = kont (y + sumS us)
  | [], i, m + 1, y, hd, _, _, _ => by
    rw [ref40_Passes_L1_s, more_no hd]
    show kont y = kont (y + 0)
    rw [Int.add_zero]
  | x :: us, i, m + 1, y, hd, hm, hy, hy1 => by
    obtain ⟨h1, h2, h3⟩ := drop_cons hd
    have hx := okw_range (List.all_eq_true.1 hw x (List.mem_of_mem_drop (i := i) (by rw [hd]; simp)))
    have ih := RPasses_L n w kont hn hl hw us (i + 1) m (y + x) h2 (by simpa using hm) (by omega) (by omega)
    have hr : rightW w = true := by unfold rightW; rw [decide_eq_true hl, hw]; rfl
    rw [ref40_Passes_L1_s, more_yes hd, cond_true, Weights_n (by omega) hn, Option.bind_some, hr, Option.bind_some, cond_true, h1, Option.bind_some, inc64 (by omega), iadd_i64 (by omega) (by omega), ih]
    simp only [sumS, Int.add_assoc]
theorem RPasses_n {w : List Int} {votes : List Vote} {mo : Int} {n : Nat} (hwl : w.length < 4611686018427387904) (hv : votes.length < 4611686018427387904) (hn : votes.length + w.length + 30 < n) : ref40_Passes n w votes mo = some (passV w votes mo) := by
  unfold ref40_Passes passV
  rw [RCount_n hwl hv hn, Option.bind_some]
  cases hr : rightW w with
  | false =>
    have hc : (countV w votes mo).1 = 0 := by unfold countV; rw [if_neg (by rw [hr]; decide)]
    obtain ⟨k, rfl⟩ := left hn
    rw [hc, ref40_Passes_L1_s, Weights_n hwl (by omega), hr]
    cases decide ((0 : Int) < (w.length : Int)) <;> rfl
  | true =>
    have hr' := hr
    unfold rightW at hr'
    simp only [Bool.and_eq_true, decide_eq_true_eq] at hr'
    rw [Bool.true_and]
    refine Eq.trans (RPasses_L n w _ (by omega) hr'.1 hr'.2 w 0 n 0 rfl (by omega) (by omega) (by omega)) ?_
    have hs := sums_le (fun c => lastV mo c none votes) w 0 hr'.2
    have e : (countV w votes mo).1 = yesS (fun c => lastV mo c none votes) 0 w := by unfold countV; rw [if_pos hr]
    rw [Int.zero_add, e, imul_i64 (by omega) (by omega)]
end Go.Proofs.YtibkigpmkkkaeaaGreatDoor.Cn
