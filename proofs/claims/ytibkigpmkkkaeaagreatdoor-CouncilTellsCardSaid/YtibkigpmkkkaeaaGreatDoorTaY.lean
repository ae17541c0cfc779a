/-
  TYPES, CHECKS AND PARSING: the reference says what the program says.
-/
import Derived.Test.YtibkigpmkkkaeaaGreatDoorTaX
namespace Go.Proofs.YtibkigpmkkkaeaaGreatDoor.Ta
open Go Rt M
def wideV (a b : Int) : Int := bif a == 2 || b == 2 then 2 else 1
theorem wide_n (n : Nat) (a b : Int) : ref35_wide n a b = some (wideV a b) := by
  unfold ref35_wide wideV
  rw [orT, Option.bind_some]
  cases a == 2 || b == 2 <;> rfl
theorem join_n (n : Nat) (a b : Int) : tariff_join n a b = some (bif a == 0 || b == 0 then (0, 13) else (wideV a b, 0)) := by
  unfold tariff_join wideV
  rw [orT, Option.bind_some, orT, Option.bind_some]
  cases a == 0 || b == 0 <;> cases a == 2 || b == 2 <;> rfl
theorem wideV_range (a b : Int) : 0 ≤ wideV a b ∧ wideV a b ≤ 2 := by
  unfold wideV
  cases a == 2 || b == 2 <;> decide
theorem fit_less (n : Nat) (p q : Int) : ref35_fit n 12 [p, q] = some (0, p == 1 && q == 1) ∧ ref35_fit n 13 [p, q] = some (0, p == 1 && q == 1) := by
  constructor <;> (show ((bif p == 1 then some (q == 1) else some false).bind fun v4 => some ((0 : Int), v4)) = _; rw [andT]; rfl)
theorem fit_and (n : Nat) (p q : Int) : ref35_fit n 15 [p, q] = some (0, p == 0 && q == 0) ∧ ref35_fit n 16 [p, q] = some (0, p == 0 && q == 0) := by
  constructor <;> (show ((bif p == 0 then some (q == 0) else some false).bind fun v4 => some ((0 : Int), v4)) = _; rw [andT]; rfl)
theorem fit_not (n : Nat) (p : Int) : ref35_fit n 14 [p] = some (0, p == 0) := rfl
theorem fit_if (n : Nat) (p q r : Int) : ref35_fit n 11 [p, q, r] = some (wideV q r, (p == 0 && q != 0) && r != 0) := by
  show ((ref35_wide n q r).bind fun v5 => (bif p == 0 then some (q != 0) else some false).bind fun v6 => (bif v6 then some (r != 0) else some false).bind fun v7 => some (v5, v7)) = _
  rw [wide_n, Option.bind_some, andT, Option.bind_some, andT]; rfl
theorem fit_mul (n : Nat) (p q : Int) : ref35_fit n 7 [p, q] = some (wideV p q, (p != 0 && q != 0) && (p == 1 || q == 1)) := by
  show ((bif p != 0 then some (q != 0) else some false).bind fun v8 => ((bif v8 then (bif p == 1 then some true else some (q == 1)).bind fun v11 => some v11 else some false).bind fun v10 => some v10).bind fun numbers1 => (ref35_wide n p q).bind fun v9 => some (v9, numbers1)) = _
  rw [andT, Option.bind_some, orT, wide_n]
  cases p != 0 && q != 0 <;> rfl
theorem fit_num (n : Nat) (p q : Int) {o : Int} (ho : o = 5 ∨ o = 6 ∨ o = 8 ∨ o = 9 ∨ o = 10) : ref35_fit n o [p, q] = some (wideV p q, p != 0 && q != 0) := by
  have h : (bif p != 0 then some (q != 0) else some false).bind (fun v8 => (some v8).bind fun numbers1 => (ref35_wide n p q).bind fun v9 => some (v9, numbers1)) = some (wideV p q, p != 0 && q != 0) := by
    rw [andT, Option.bind_some, Option.bind_some, wide_n]; rfl
  rcases ho with rfl | rfl | rfl | rfl | rfl <;> exact h
theorem all2 (k p q w : Int) : Ev (fun n => tariff_all n k [p, q] w) (bif p == w && q == w then (k, 0) else (0, 13)) := by
  refine ⟨3, fun n hn => ?_⟩
  obtain ⟨n, rfl⟩ : ∃ j, n = j + 3 := ⟨n - 3, by omega⟩
  show ((bif p != w then some (0 : Int) else bif q != w then some 1 else some (-1)).bind fun v1 => some (decide (0 ≤ v1))).bind (fun v1 => bif v1 then some ((0 : Int), (13 : Int)) else some (k, 0)) = _
  cases hp : p == w <;> cases hq : q == w <;> simp [bne, hp, hq]
theorem all1 (k p w : Int) : Ev (fun n => tariff_all n k [p] w) (bif p == w then (k, 0) else (0, 13)) := by
  refine ⟨3, fun n hn => ?_⟩
  obtain ⟨n, rfl⟩ : ∃ j, n = j + 3 := ⟨n - 3, by omega⟩
  show ((bif p != w then some (0 : Int) else some (-1)).bind fun v1 => some (decide (0 ≤ v1))).bind (fun v1 => bif v1 then some ((0 : Int), (13 : Int)) else some (k, 0)) = _
  cases hp : p == w <;> simp [bne, hp]
theorem Number_L (n : Nat) (l : List Rt.Bs) (s : Rt.Bs) (hl : l.length < 4611686018427387904) : ∀ (us : List Rt.Bs) (i m : Nat), l.drop i = us → us.length < m →
    ref35_Number_L1 n l s (some (-1)) m (i : Int) = some (if s ∈ us then ((i + us.idxOf s : Nat) : Int) else -1)
  | [], i, m + 1, hd, _ => by rw [ref35_Number_L1_s, more_no hd]; rfl
  | x :: us, i, m + 1, hd, hm => by
    obtain ⟨h1, h2, h3⟩ := drop_cons hd
    have ih := Number_L n l s hl us (i + 1) m h2 (by simp only [List.length_cons] at hm; omega)
    rw [ref35_Number_L1_s, more_yes hd, cond_true, h1, Option.bind_some]
    by_cases h : x = s
    · subst h
      rw [beq_self_eq_true, cond_true, if_pos (by simp)]; simp
    · have e : (x == s) = false := by simpa using h
      rw [e, cond_false, inc64 (by omega), ih]
      by_cases h5 : s ∈ us
      · rw [if_pos h5, if_pos (List.mem_cons_of_mem _ h5), List.idxOf_cons, e]
        simp only [cond_false]; congr 1; omega
      · rw [if_neg h5, if_neg (by simp only [List.mem_cons, not_or]; exact ⟨fun h6 => h h6.symm, h5⟩)]
theorem Number_ev {l : List Rt.Bs} (s : Rt.Bs) (hl : l.length < 4611686018427387904) : Ev (fun n => (ref35_Number n l s).bind fun v6 => some (decide (v6 < 0))) (!decide (s ∈ l)) := by
  refine ⟨l.length + 1, fun n hn => ?_⟩
  unfold ref35_Number
  dsimp only
  have h : ref35_Number_L1 n l s (some (-1)) n 0 = _ := Number_L n l s hl l 0 n rfl (by omega)
  rw [h, Option.bind_some]
  by_cases h5 : s ∈ l
  · rw [if_pos h5, decide_eq_true h5, decide_eq_false (by omega)]; rfl
  · rw [if_neg h5, decide_eq_false h5]; rfl
def Ty (r : Int × Int) : Prop := r.2 = 0 → 0 ≤ r.1 ∧ r.1 ≤ 2
theorem types_L (x : M.Expr) (names : List Rt.Bs) (hx : x.Args.length ≤ 1000000) : ∀ (us : List M.Expr) (i : Nat) (acc : List Int), x.Args.drop i = us → acc.length = i → i ≤ x.Args.length → (∀ t, t ∈ acc → 0 ≤ t ∧ t ≤ 2) →
    (∀ y, y ∈ us → ∃ r, Ev (fun n => tariff_typed n y names) r ∧ Ev (fun n => ref35_typed n y names) r ∧ Ty r) →
    (∃ (N : Nat) (e : Int), e ≠ 0 ∧ ∀ n m kont kont', N ≤ n → us.length < m → tariff_typed_L1 n (tariff_typed n) x names kont m (i : Int) acc = some (0, e) ∧ ref35_typed_L1 n (ref35_typed n) x names kont' m (i : Int) acc = some (0, e)) ∨
    ∃ (N : Nat) (l2 : List Int), l2.length = x.Args.length ∧ (∀ t, t ∈ l2 → 0 ≤ t ∧ t ≤ 2) ∧ ∀ n m kont kont', N ≤ n → us.length < m → tariff_typed_L1 n (tariff_typed n) x names kont m (i : Int) acc = kont l2 ∧ ref35_typed_L1 n (ref35_typed n) x names kont' m (i : Int) acc = kont' l2
  | [], i, acc, hd, ha, hi, ht, _ => by
    refine .inr ⟨0, acc, by have := Rt.drop_nil hd; omega, ht, fun n m kont kont' _ hm => ?_⟩
    obtain ⟨m, rfl⟩ := left hm
    rw [tariff_typed_L1_s, more_no hd, ref35_typed_L1_s, more_no hd]; exact ⟨rfl, rfl⟩
  | y :: us, i, acc, hd, ha, hi, ht, H => by
    obtain ⟨h1, h2, h3⟩ := drop_cons hd
    obtain ⟨⟨k, e⟩, ⟨N1, e1⟩, ⟨N2, e2⟩, hty⟩ := H y (by simp)
    by_cases he : e = 0
    · subst he
      have hk := hty rfl
      have step : ∀ n m kont kont', max N1 N2 ≤ n → tariff_typed_L1 n (tariff_typed n) x names kont (m + 1) (i : Int) acc = tariff_typed_L1 n (tariff_typed n) x names kont m ((i + 1 : Nat) : Int) (acc ++ [k]) ∧ ref35_typed_L1 n (ref35_typed n) x names kont' (m + 1) (i : Int) acc = ref35_typed_L1 n (ref35_typed n) x names kont' m ((i + 1 : Nat) : Int) (acc ++ [k]) := by
        intro n m kont kont' hn
        have e1 : tariff_typed n y names = some (k, 0) := e1 n (by omega)
        have e2 : ref35_typed n y names = some (k, 0) := e2 n (by omega)
        constructor
        · rw [tariff_typed_L1_s, more_yes hd, cond_true, h1, Option.bind_some, e1, Option.bind_some]
          show ((app 8 acc [k]).bind fun l3 => _) = _
          rw [app_ok (by simp only [List.length_cons, List.length_nil]; omega), Option.bind_some, inc64 (by omega)]
        · rw [ref35_typed_L1_s, more_yes hd, cond_true, h1, Option.bind_some, e2, Option.bind_some]
          show ((app 8 acc [k]).bind fun l3 => _) = _
          rw [app_ok (by simp only [List.length_cons, List.length_nil]; omega), Option.bind_some, inc64 (by omega)]
      have ht2 : ∀ t, t ∈ acc ++ [k] → 0 ≤ t ∧ t ≤ 2 := by
        intro t h
        rcases List.mem_append.1 h with h | h
        · exact ht t h
        · rw [List.mem_singleton] at h; subst h; exact hk
      rcases types_L x names hx us (i + 1) (acc ++ [k]) h2 (by simp [ha]) (by omega) ht2 (fun z hz => H z (by simp [hz])) with ⟨N, e, he, ih⟩ | ⟨N, l2, hl2, ht3, ih⟩
      · refine .inl ⟨max N (max N1 N2), e, he, fun n m kont kont' hn hm => ?_⟩
        obtain ⟨m, rfl, hm2⟩ := pred (by simpa using hm)
        have h5 := step n m kont kont' (by omega)
        rw [h5.1, h5.2]
        exact ih n m kont kont' (by omega) hm2
      · refine .inr ⟨max N (max N1 N2), l2, hl2, ht3, fun n m kont kont' hn hm => ?_⟩
        obtain ⟨m, rfl, hm2⟩ := pred (by simpa using hm)
        have h5 := step n m kont kont' (by omega)
        rw [h5.1, h5.2]
        exact ih n m kont kont' (by omega) hm2
    · refine .inl ⟨max N1 N2, e, he, fun n m kont kont' hn hm => ?_⟩
      obtain ⟨m, rfl⟩ := left hm
      have e1 : tariff_typed n y names = some (k, e) := e1 n (by omega)
      have e2 : ref35_typed n y names = some (k, e) := e2 n (by omega)
      have hb : (e != 0) = true := by simpa using he
      constructor
      · rw [tariff_typed_L1_s, more_yes hd, cond_true, h1, Option.bind_some, e1, Option.bind_some]
        dsimp only
        rw [hb]; rfl
      · rw [ref35_typed_L1_s, more_yes hd, cond_true, h1, Option.bind_some, e2, Option.bind_some]
        dsimp only
        rw [hb]; rfl
end Go.Proofs.YtibkigpmkkkaeaaGreatDoor.Ta
