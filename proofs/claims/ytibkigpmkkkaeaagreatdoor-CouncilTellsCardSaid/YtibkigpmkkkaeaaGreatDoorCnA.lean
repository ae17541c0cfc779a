/-
  COUNTING VOTES: what the council's functions compute, in plain Lean.
-/
import Derived.Test.YtibkigpmkkkaeaaGreatDoorLp
import Derived.Test.YtibkigpmkkkaeaaGreatDoorMirG
namespace Go.Proofs.YtibkigpmkkkaeaaGreatDoor.Cn
open Go Rt M
/-- right weights -/
def okw (x : Int) : Bool := decide (1 ≤ x) && decide (x ≤ 1000)
def rightW (w : List Int) : Bool := decide (w.length ≤ 20) && w.all okw
theorem right1_n (n : Nat) (x : Int) : council_right_1 n x = some (!okw x) := by
  unfold council_right_1 okw
  by_cases h1 : x < 1
  · rw [decide_eq_true h1, cond_true, Option.bind_some, decide_eq_false (show ¬ 1 ≤ x by omega)]; rfl
  · rw [decide_eq_false h1, cond_false, Option.bind_some, decide_eq_true (show 1 ≤ x by omega), Bool.true_and]
    by_cases h2 : 1000 < x
    · rw [decide_eq_true h2, decide_eq_false (by omega)]; rfl
    · rw [decide_eq_false h2, decide_eq_true (by omega)]; rfl
theorem IndexFunc_L (n : Nat) (s : List Int) (f : Int → Option Bool) (p : Int → Bool) (hf : ∀ x ∈ s, f x = some (p x)) (hl : s.length < 4611686018427387904) (kont : Option Int) : ∀ (us : List Int) (i m : Nat), s.drop i = us → us.length < m →
    (us.any p = false → slices_IndexFunc_int_int_L1 n s f kont m (i : Int) = kont) ∧ (us.any p = true → ∃ j : Nat, slices_IndexFunc_int_int_L1 n s f kont m (i : Int) = some (j : Int))
  | [], i, m + 1, hd, _ => by
    rw [slices_IndexFunc_int_int_L1_s, more_no hd]
    exact ⟨fun _ => rfl, fun h => by simp at h⟩
  | x :: us, i, m + 1, hd, hm => by
    obtain ⟨h1, h2, h3⟩ := drop_cons hd
    have hx : x ∈ s := List.mem_of_mem_drop (i := i) (by rw [hd]; simp)
    have ih := IndexFunc_L n s f p hf hl kont us (i + 1) m h2 (by simp only [List.length_cons] at hm; omega)
    rw [slices_IndexFunc_int_int_L1_s, more_yes hd, cond_true, h1, Option.bind_some, hf x hx, Option.bind_some, List.any_cons]
    cases hp : p x with
    | true => exact ⟨fun h => by simp at h, fun _ => ⟨i, rfl⟩⟩
    | false => rw [cond_false, Bool.false_or, inc64 (by omega)]; exact ih
theorem ContainsFunc_n (n : Nat) (s : List Int) (f : Int → Option Bool) (p : Int → Bool) (hf : ∀ x ∈ s, f x = some (p x)) (hl : s.length < 4611686018427387904) (hn : s.length < n) : slices_ContainsFunc_int_int n s f = some (s.any p) := by
  unfold slices_ContainsFunc_int_int slices_IndexFunc_int_int
  obtain ⟨h1, h2⟩ := IndexFunc_L n s f p hf hl (some (-1)) s 0 n rfl hn
  cases h : s.any p with
  | false =>
    have e : slices_IndexFunc_int_int_L1 n s f (some (-1)) n 0 = some (-1) := h1 h
    rw [e]; rfl
  | true =>
    obtain ⟨j, hj⟩ := h2 h
    have e : slices_IndexFunc_int_int_L1 n s f (some (-1)) n 0 = some (j : Int) := hj
    rw [e, Option.bind_some, decide_eq_true (by omega)]
theorem right_n {w : List Int} {n : Nat} (hn : 25 < n) : council_right n w = some (rightW w) := by
  unfold council_right rightW
  by_cases hl : w.length ≤ 20
  · rw [decide_eq_true (show (w.length : Int) ≤ 20 by omega), cond_true, ContainsFunc_n n w _ (fun x => !okw x) (fun x _ => right1_n n x) (by omega) (by omega), Option.bind_some, Option.bind_some, decide_eq_true hl, Bool.true_and]
    congr 1
    rw [List.not_any_eq_all_not]
    congr 1; funext x; simp
  · rw [decide_eq_false (show ¬ (w.length : Int) ≤ 20 by omega), cond_false, Option.bind_some, decide_eq_false hl]; rfl
theorem Weights_L (n : Nat) (w : List Int) (kont : Option Bool) (hl : w.length < 4611686018427387904) : ∀ (us : List Int) (i m : Nat), w.drop i = us → us.length < m → ref40_Weights_L1 n w kont m (i : Int) = bif us.all okw then kont else some false
  | [], i, m + 1, hd, _ => by rw [ref40_Weights_L1_s, more_no hd]; rfl
  | x :: us, i, m + 1, hd, hm => by
    obtain ⟨h1, h2, h3⟩ := drop_cons hd
    have ih := Weights_L n w kont hl us (i + 1) m h2 (by simp only [List.length_cons] at hm; omega)
    have e : ref40_in n x 1 1000 = some (okw x) := by
      unfold ref40_in okw
      cases decide (1 ≤ x) <;> rfl
    rw [ref40_Weights_L1_s, more_yes hd, cond_true, h1, Option.bind_some, e, Option.bind_some, List.all_cons]
    cases okw x with
    | true => rw [Bool.not_true, cond_false, Bool.true_and, inc64 (by omega)]; exact ih
    | false => rfl
theorem Weights_n {w : List Int} {n : Nat} (hl : w.length < 4611686018427387904) (hn : w.length < n) : ref40_Weights n w = some (rightW w) := by
  unfold ref40_Weights rightW
  have h := Weights_L n w (some (decide ((w.length : Int) ≤ 20))) hl w 0 n rfl hn
  refine Eq.trans h ?_
  have e : decide ((w.length : Int) ≤ 20) = decide (w.length ≤ 20) := by by_cases h : w.length ≤ 20 <;> simp [h] <;> omega
  rw [e]
  cases w.all okw <;> cases decide (w.length ≤ 20) <;> rfl
/-- how a commune votes: the last vote counts -/
def pickV (m c : Int) (acc : Option Bool) (v : Vote) : Option Bool := if v.Motion = m ∧ v.Commune = c then some v.Yes else acc
def lastV (m c : Int) (acc : Option Bool) (vs : List Vote) : Option Bool := vs.foldl (pickV m c) acc
theorem lastV_cons (m c : Int) (acc : Option Bool) (v : Vote) (vs : List Vote) : lastV m c acc (v :: vs) = lastV m c (pickV m c acc v) vs := by unfold lastV; rw [List.foldl_cons]
theorem mget_nil (c : Int) : mget ([] : List (Int × Bool)) c = none := rfl
theorem mget_mput : ∀ (l : List (Int × Bool)) (k c : Int) (v : Bool), mget (mput l k v) c = if c = k then some v else mget l c
  | [], k, c, v => by
    show ((([(k, v)] : List (Int × Bool)).find? fun p => c == p.1).map (·.2)) = _
    by_cases h : c = k <;> simp [h, mget]
  | p :: l, k, c, v => by
    unfold mput
    by_cases hk : k = p.1
    · subst hk
      rw [if_pos (by simp)]
      unfold mget
      by_cases h : c = p.1 <;> simp [h]
    · rw [if_neg (by simpa using hk)]
      have ih := mget_mput l k c v
      unfold mget at ih ⊢
      by_cases h : c = p.1
      · subst h
        rw [if_neg (fun e => hk e.symm)]; simp
      · rw [List.find?_cons_of_neg (by simpa using h), List.find?_cons_of_neg (by simpa using h)]; exact ih
theorem Count_L1 (n : Nat) (votes : List Vote) (mo : Int) (kont : List (Int × Bool) → Option (Int × Int)) (hl : votes.length < 4611686018427387904) : ∀ (us : List Vote) (i m : Nat) (mp : List (Int × Bool)), votes.drop i = us → us.length < m →
    ∃ mp', council_Count_L1 n votes mo kont m (i : Int) mp = kont mp' ∧ ∀ c, mget mp' c = lastV mo c (mget mp c) us
  | [], i, m + 1, mp, hd, _ => ⟨mp, by rw [council_Count_L1_s, more_no hd]; rfl, fun c => rfl⟩
  | v :: us, i, m + 1, mp, hd, hm => by
    obtain ⟨h1, h2, h3⟩ := drop_cons hd
    rw [council_Count_L1_s, more_yes hd, cond_true, h1, Option.bind_some]
    by_cases h : v.Motion = mo
    · obtain ⟨mp', e1, e2⟩ := Count_L1 n votes mo kont hl us (i + 1) m (mput mp v.Commune v.Yes) h2 (by simp only [List.length_cons] at hm; omega)
      refine ⟨mp', ?_, fun c => ?_⟩
      · rw [show (v.Motion == mo) = true by simpa using h, cond_true, inc64 (by omega)]; exact e1
      · rw [e2 c, lastV_cons, mget_mput]
        unfold pickV
        by_cases hc : c = v.Commune
        · rw [if_pos hc, if_pos ⟨h, hc.symm⟩]
        · rw [if_neg hc, if_neg (fun h => hc h.2.symm)]
    · obtain ⟨mp', e1, e2⟩ := Count_L1 n votes mo kont hl us (i + 1) m mp h2 (by simp only [List.length_cons] at hm; omega)
      refine ⟨mp', ?_, fun c => ?_⟩
      · rw [show (v.Motion == mo) = false by simpa using h, cond_false, inc64 (by omega)]; exact e1
      · rw [e2 c, lastV_cons]
        unfold pickV
        rw [if_neg (fun h2 => h h2.1)]
/-- the weights of those for it, and against it -/
def yesS (f : Int → Option Bool) : Int → List Int → Int
  | _, [] => 0
  | i, w :: ws => (if f i = some true then w else 0) + yesS f (i + 1) ws
def noS (f : Int → Option Bool) : Int → List Int → Int
  | _, [] => 0
  | i, w :: ws => (if f i = some false then w else 0) + noS f (i + 1) ws
def sumS : List Int → Int
  | [] => 0
  | w :: ws => w + sumS ws
theorem okw_range {x : Int} (h : okw x = true) : 1 ≤ x ∧ x ≤ 1000 := by unfold okw at h; simpa using h
theorem sums_le (f : Int → Option Bool) : ∀ (ws : List Int) (i : Int), ws.all okw = true → 0 ≤ yesS f i ws ∧ 0 ≤ noS f i ws ∧ yesS f i ws + noS f i ws ≤ sumS ws ∧ sumS ws ≤ 1000 * ws.length
  | [], _, _ => by simp [yesS, noS, sumS]
  | w :: ws, i, h => by
    simp only [List.all_cons, Bool.and_eq_true] at h
    obtain ⟨h1, h2, h3, h4⟩ := sums_le f ws (i + 1) h.2
    have hw := okw_range h.1
    simp only [yesS, noS, sumS, List.length_cons]
    cases hf : f i with
    | none => simp; omega
    | some b => cases b <;> simp <;> omega
theorem Count_L2 (n : Nat) (w : List Int) (mp : List (Int × Bool)) (f : Int → Option Bool) (hmp : ∀ c, mget mp c = f c) (kont : Int → Int → Option (Int × Int)) (hl : w.length ≤ 20) (hw : w.all okw = true) : ∀ (us : List Int) (i m : Nat) (y z : Int), w.drop i = us → us.length < m →
    0 ≤ y → y ≤ 1000 * i → 0 ≤ z → z ≤ 1000 * i → council_Count_L2 n w mp kont m y z (i : Int) = kont (y + yesS f i us) (z + noS f i us)
  | [], i, m + 1, y, z, hd, _, _, _, _, _ => by
    rw [council_Count_L2_s, more_no hd]
    show kont y z = kont (y + 0) (z + 0)
    rw [Int.add_zero, Int.add_zero]
  | x :: us, i, m + 1, y, z, hd, hm, hy, hy1, hz, hz1 => by
    obtain ⟨h1, h2, h3⟩ := drop_cons hd
    have hx := okw_range (List.all_eq_true.1 hw x (List.mem_of_mem_drop (i := i) (by rw [hd]; simp)))
    have hm' : us.length < m := by simp only [List.length_cons] at hm; omega
    have e : ((i : Int) + 1) = ((i + 1 : Nat) : Int) := by omega
    rw [council_Count_L2_s, more_yes hd, cond_true, h1, Option.bind_some, hmp]
    simp only [yesS, noS]
    rw [e]
    cases hf : f (i : Int) with
    | none =>
      rw [inc64 (by omega)]
      have ih := Count_L2 n w mp f hmp kont hl hw us (i + 1) m y z h2 hm' hy (by omega) hz (by omega)
      simpa using ih
    | some b =>
      cases b with
      | true =>
        have ih := Count_L2 n w mp f hmp kont hl hw us (i + 1) m (y + x) z h2 hm' (by omega) (by omega) hz (by omega)
        rw [inc64 (by omega), iadd_i64 (by omega) (by omega)]
        simpa [Int.add_assoc] using ih
      | false =>
        have ih := Count_L2 n w mp f hmp kont hl hw us (i + 1) m y (z + x) h2 hm' hy (by omega) (by omega) (by omega)
        rw [inc64 (by omega), iadd_i64 (x := z) (y := x) (by omega) (by omega)]
        simpa [Int.add_assoc] using ih
/-- what Count returns -/
def countV (w : List Int) (votes : List Vote) (mo : Int) : Int × Int :=
  if rightW w = true then (yesS (fun c => lastV mo c none votes) 0 w, noS (fun c => lastV mo c none votes) 0 w) else (0, 0)
theorem Count_n {w : List Int} {votes : List Vote} {mo : Int} {n : Nat} (hv : votes.length < 4611686018427387904) (hn : votes.length + 30 < n) : council_Count n w votes mo = some (countV w votes mo) := by
  unfold council_Count countV
  rw [right_n (by omega), Option.bind_some]
  cases hr : rightW w with
  | false => rfl
  | true =>
    rw [Bool.not_true, cond_false]
    unfold rightW at hr
    simp only [Bool.and_eq_true, decide_eq_true_eq] at hr
    obtain ⟨mp', e1, e2⟩ := Count_L1 n votes mo (fun (mp2 : (List (Int × Bool))) => council_Count_L2 n w mp2 (fun (yes2 : Int) (no2 : Int) => some (yes2, no2)) n 0 0 0) hv votes 0 n [] rfl (by omega)
    refine Eq.trans e1 ?_
    have h := Count_L2 n w mp' (fun c => lastV mo c none votes) (fun c => by rw [e2 c, mget_nil]) (fun (yes2 : Int) (no2 : Int) => some (yes2, no2)) hr.1 hr.2 w 0 n 0 0 rfl (by omega) (by omega) (by omega) (by omega) (by omega)
    refine Eq.trans h ?_
    rw [if_pos rfl, Int.zero_add, Int.zero_add]; rfl
theorem Passes_L (n : Nat) (w : List Int) (kont : Int → Option Bool) (hl : w.length ≤ 20) (hw : w.all okw = true) : ∀ (us : List Int) (i m : Nat) (y : Int), w.drop i = us → us.length < m → 0 ≤ y → y ≤ 1000 * i → council_Passes_L1 n w kont m y (i : Int) = kont (y + sumS us)
  | [], i, m + 1, y, hd, _, _, _ => by
    rw [council_Passes_L1_s, more_no hd]
    show kont y = kont (y + 0)
    rw [Int.add_zero]
  | x :: us, i, m + 1, y, hd, hm, hy, hy1 => by
    obtain ⟨h1, h2, h3⟩ := drop_cons hd
    have hx := okw_range (List.all_eq_true.1 hw x (List.mem_of_mem_drop (i := i) (by rw [hd]; simp)))
    have ih := Passes_L n w kont hl hw us (i + 1) m (y + x) h2 (by simp only [List.length_cons] at hm; omega) (by omega) (by omega)
    rw [council_Passes_L1_s, more_yes hd, cond_true, h1, Option.bind_some, inc64 (by omega), iadd_i64 (by omega) (by omega), ih]
    simp only [sumS, Int.add_assoc]
def passV (w : List Int) (votes : List Vote) (mo : Int) : Bool := rightW w && decide (sumS w < 2 * (countV w votes mo).1)
theorem Passes_n {w : List Int} {votes : List Vote} {mo : Int} {n : Nat} (hv : votes.length < 4611686018427387904) (hn : votes.length + 30 < n) : council_Passes n w votes mo = some (passV w votes mo) := by
  unfold council_Passes passV
  rw [right_n (by omega), Option.bind_some]
  cases hr : rightW w with
  | false => rfl
  | true =>
    rw [Bool.not_true, cond_false, Count_n hv hn, Option.bind_some, Bool.true_and]
    have hr' := hr
    unfold rightW at hr'
    simp only [Bool.and_eq_true, decide_eq_true_eq] at hr'
    have h := Passes_L n w (fun (all2 : Int) => some (decide (all2 < (imul .i64 2 (countV w votes mo).1)))) hr'.1 hr'.2 w 0 n 0 rfl (by omega) (by omega) (by omega)
    refine Eq.trans h ?_
    have hs := sums_le (fun c => lastV mo c none votes) w 0 hr'.2
    have e : (countV w votes mo).1 = yesS (fun c => lastV mo c none votes) 0 w := by unfold countV; rw [if_pos hr]
    show some (decide (0 + sumS w < imul .i64 2 (countV w votes mo).1)) = _
    rw [Int.zero_add, e, imul_i64 (by omega) (by omega)]
theorem Count_ev (w : List Int) (votes : List Vote) (mo : Int) (hv : votes.length < 4611686018427387904) : Ev (fun n => council_Count n w votes mo) (countV w votes mo) := ⟨votes.length + 31, fun _ hn => Count_n hv (by omega)⟩
theorem Passes_ev (w : List Int) (votes : List Vote) (mo : Int) (hv : votes.length < 4611686018427387904) : Ev (fun n => council_Passes n w votes mo) (passV w votes mo) := ⟨votes.length + 31, fun _ hn => Passes_n hv (by omega)⟩
end Go.Proofs.YtibkigpmkkkaeaaGreatDoor.Cn
