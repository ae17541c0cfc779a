/-
  THE REFERENCE's FUNCTIONS, as arithmetic, eighth part: ints.
-/
import Derived.Test.YtaiiclbemlmmaaaGreatDoorRefG
import Derived.Test.YtaiiclbemlmmaaaGreatDoorBigU
namespace Go.Proofs.YtaiiclbemlmmaaaGreatDoor.D
open Go Rt M

theorem rem_s {s : Int} (hs : s = 1 ∨ s = -1) (u : Nat) : rem (s * u) 1048576 = some (s * ((u % 1048576 : Nat) : Int)) := by
  have h := rem_pos (x := (u : Int)) (y := 1048576) (by omega) (by decide)
  rcases hs with rfl | rfl
  · rw [Int.one_mul, Int.one_mul, h]; congr 1
  · unfold rem at h ⊢
    rw [if_neg (by decide)] at h ⊢
    have h2 := Option.some.inj h
    rw [show (-1 : Int) * (u : Int) = -(u : Int) by omega, Int.neg_tmod, h2]
    congr 1; omega
theorem quo_s {s : Int} (hs : s = 1 ∨ s = -1) {u : Nat} (hu : u ≤ 9223372036854775808) : quo .i64 (s * u) 1048576 = some (s * ((u / 1048576 : Nat) : Int)) := by
  have h : (u : Int).tdiv 1048576 = ((u / 1048576 : Nat) : Int) := by rw [Int.tdiv_eq_ediv_of_nonneg (by omega)]; omega
  unfold quo
  rw [if_neg (by decide)]
  rcases hs with rfl | rfl
  · rw [Int.one_mul, Int.one_mul, h, wrap_i64 (by omega) (by omega)]
  · rw [show (-1 : Int) * (u : Int) = -(u : Int) by omega, Int.neg_tdiv, h, wrap_i64 (by omega) (by omega)]
    congr 1; omega
theorem ROf_L (n : Nat) (kont : List Int → Option Big) {s : Int} (hs : s = 1 ∨ s = -1) : ∀ (u m : Nat) (acc : List Int), u ≤ 9223372036854775808 → (dig u).length < m → acc.length + (dig u).length < 1099511627776 → ref04_Of_L1 n kont m (s * (u : Int)) acc = kont (acc ++ dig u) := by
  intro u
  induction u using Nat.strongRecOn with
  | ind u ih =>
    intro m acc hu hm ha
    obtain ⟨m, rfl⟩ : ∃ m', m = m' + 1 := ⟨m - 1, by omega⟩
    unfold ref04_Of_L1
    by_cases h : u = 0
    · subst h
      rw [dig_zero, List.append_nil, show (s * ((0 : Nat) : Int) != 0) = false by simp]; rfl
    · have hd := dig_pos h
      rw [hd] at hm ha
      simp only [List.length_cons] at hm ha
      have hne : (s * (u : Int) != 0) = true := by
        rw [bne_iff_ne]; rcases hs with rfl | rfl <;> omega
      rw [hne, cond_true, rem_s hs, Option.bind_some]
      have e1 : (bif decide (s * ((u % 1048576 : Nat) : Int) < 0) then some (IntKind.i64.wrap (0 - s * ((u % 1048576 : Nat) : Int))) else some (s * ((u % 1048576 : Nat) : Int))) = some ((u % 1048576 : Nat) : Int) := by
        have hlt := Nat.mod_lt u (show 1048576 > 0 by decide)
        generalize u % 1048576 = r at *
        by_cases hn : s * (r : Int) < 0
        · rw [decide_eq_true hn, cond_true]
          congr 1
          rcases hs with rfl | rfl
          · omega
          · rw [wrap_i64 (by omega) (by omega)]; omega
        · rw [decide_eq_false hn, cond_false]
          congr 1
          rcases hs with rfl | rfl <;> omega
      rw [e1, Option.bind_some, app_eq (by simp; omega), Option.bind_some, quo_s hs hu, Option.bind_some, ih (u / 1048576) (by omega) m _ (by omega) (by omega) (by simp; omega), hd]
      simp
theorem ROf_ev {x : Int} (h1 : -9223372036854775808 ≤ x) (h2 : x ≤ 9223372036854775807) : Ev (fun n => ref04_Of n x) (toB x) := by
  have hl := len64 (u := x.natAbs) (by omega)
  by_cases h0 : x = 0
  · subst h0
    exact (Ev.pure _).eq toB_zero.symm
  have hm : ∀ s : Int, s = sg x → Ev (fun n => (ref04_made n s (dig x.natAbs)).bind fun v1 => some (⟨v1.Sign, v1.Digits⟩ : Big)) (toB x) := fun s hs => Ev.bind (made_toB (by omega) x rfl (fun _ => hs)) (Ev.pure _)
  refine Ev.from (g := fun n => (ref04_made n (sg x) (dig x.natAbs)).bind fun v1 => some (⟨v1.Sign, v1.Digits⟩ : Big)) 5 (fun n hn => ?_) (hm _ rfl)
  show ref04_Of n x = _
  unfold ref04_Of
  rw [show (x == 0) = false from beq_false_of_ne h0, cond_false]
  by_cases hx : x < 0
  · rw [decide_eq_true hx, cond_true, Option.bind_some, sg_neg hx]
    have h3 := ROf_L n (fun (l2 : List Int) => (ref04_made n (-1) l2).bind fun v1 => some (⟨v1.Sign, v1.Digits⟩ : Big)) (s := -1) (.inr rfl) x.natAbs n [] (by omega) (by omega) (by simp; omega)
    rw [show (-1 : Int) * (x.natAbs : Int) = x by omega, List.nil_append] at h3
    exact h3
  · rw [decide_eq_false hx, cond_false, Option.bind_some, sg_pos (by omega)]
    have h3 := ROf_L n (fun (l2 : List Int) => (ref04_made n 1 l2).bind fun v1 => some (⟨v1.Sign, v1.Digits⟩ : Big)) (s := 1) (.inl rfl) x.natAbs n [] (by omega) (by omega) (by simp; omega)
    rw [show (1 : Int) * (x.natAbs : Int) = x by omega, List.nil_append] at h3
    exact h3

theorem val_drop_le {l : List Int} (hl : InR l) (i : Nat) : 0 ≤ val (l.drop i) ∧ val (l.drop i) ≤ val l := by
  refine ⟨val_nonneg (InR.drop hl i), ?_⟩
  induction i with
  | zero => simp
  | succ i ih =>
    have h1 := val_drop l i
    have h2 := (InR.drop hl i).headD
    have h3 := val_nonneg (InR.drop hl (i + 1))
    omega
theorem RInt_L (n : Nat) (x : Int) (kont : Int → Option (Int × Bool)) (h1 : -9223372036854775808 ≤ x) (h2 : x ≤ 9223372036854775807) : ∀ (i m : Nat), i ≤ (dig x.natAbs).length → i < m →
    ref04_Int_L1 n (toB x) kont m (sg x * val ((dig x.natAbs).drop i)) ((i : Int) - 1) = kont x
  | 0, m + 1, _, _ => by
    unfold ref04_Int_L1
    rw [show decide ((0 : Int) ≤ ((0 : Nat) : Int) - 1) = false by decide, cond_false, List.drop_zero, val_dig, sg_natAbs]
  | i + 1, m + 1, hi, hm => by
    unfold ref04_Int_L1
    have hl := len64 (u := x.natAbs) (by omega)
    have hia : i < (dig x.natAbs).length := by omega
    have hvd := val_drop (dig x.natAbs) i
    have hle := val_drop_le (InR_dig x.natAbs) i
    have hle1 := val_drop_le (InR_dig x.natAbs) (i + 1)
    rw [val_dig] at hle hle1
    have hix : ix (toB x).Digits (i : Int) = some (((dig x.natAbs).drop i).headD 0) := by
      show ix (dig x.natAbs) (i : Int) = _
      rw [ix_nat, List.getElem?_eq_getElem hia, List.drop_eq_getElem_cons hia]; rfl
    have hr := (InR.drop (InR_dig x.natAbs) i).headD
    rw [show ((i + 1 : Nat) : Int) - 1 = (i : Int) by omega, show decide (0 ≤ (i : Int)) = true by simp, cond_true, hix, Option.bind_some]
    show ref04_Int_L1 n (toB x) kont m (iadd .i64 (imul .i64 (sg x * val ((dig x.natAbs).drop (i + 1))) 1048576) (imul .i64 (sg x) (((dig x.natAbs).drop i).headD 0))) (isub .i64 (i : Int) 1) = _
    have hnext := RInt_L n x kont h1 h2 i m (by omega) (by omega)
    generalize ((dig x.natAbs).drop i).headD 0 = d at *
    rw [hvd] at hnext
    rw [hvd] at hle
    generalize val ((dig x.natAbs).drop (i + 1)) = A at *
    rw [isub_i64 (by omega) (by omega), ← hnext]
    congr 1
    rcases sg_cases x with ⟨a, b⟩ | ⟨a, b⟩ | ⟨a, b⟩ <;> rw [b]
    · rw [imul_i64 (x := -1 * A) (by omega) (by omega), imul_i64 (x := -1) (by omega) (by omega), iadd_i64 (by omega) (by omega)]; omega
    · rw [imul_i64 (x := 0 * A) (by omega) (by omega), imul_i64 (x := 0) (by omega) (by omega), iadd_i64 (by omega) (by omega)]; omega
    · rw [imul_i64 (x := 1 * A) (by omega) (by omega), imul_i64 (x := 1) (by omega) (by omega), iadd_i64 (by omega) (by omega)]; omega
theorem RInt_ev {x : Int} {k : Nat} (h : Sm k x) (hk : k < 536870000) : Ev (fun n => ref04_Int n (toB x)) (if -9223372036854775808 ≤ x ∧ x ≤ 9223372036854775807 then (x, true) else (0, false)) := by
  have hk' : Sm (k + 4) x := h.mono (by omega)
  have s1 : Sm (k + 4) (-9223372036854775808) := Sm.mono (k := 4) (by unfold Sm; decide) (by omega)
  have s2 : Sm (k + 4) 9223372036854775807 := Sm.mono (k := 4) (by unfold Sm; decide) (by omega)
  unfold ref04_Int
  refine Ev.bind (RRight_toB h (by omega)) ?_
  refine Ev.else rfl ?_
  refine Ev.bind (ROf_ev (x := -9223372036854775808) (by omega) (by omega)) ?_
  refine Ev.bind (RCompare_ev hk' s1 (by omega)) ?_
  by_cases hlo : x < -9223372036854775808
  · refine Ev.bind (a := true) (Ev.then (by rw [sg_neg (by omega)]; rfl) (Ev.pure _)) ?_
    exact Ev.then rfl ((Ev.pure _).eq (by rw [if_neg (by omega)]))
  have e1 : decide (sg (x - -9223372036854775808) < 0) = false := by
    rcases sg_cases (x - -9223372036854775808) with ⟨a, b⟩ | ⟨a, b⟩ | ⟨a, b⟩ <;> rw [b] <;> first | rfl | omega
  by_cases hhi : 9223372036854775807 < x
  · refine Ev.bind (a := true) (Ev.else e1 (Ev.bind (ROf_ev (x := 9223372036854775807) (by omega) (by omega)) (Ev.bind (RCompare_ev hk' s2 (by omega)) ((Ev.pure _).eq (by rw [sg_pos (by omega)]; rfl))))) ?_
    exact Ev.then rfl ((Ev.pure _).eq (by rw [if_neg (by omega)]))
  refine Ev.bind (a := false) (Ev.else e1 (Ev.bind (ROf_ev (x := 9223372036854775807) (by omega) (by omega)) (Ev.bind (RCompare_ev hk' s2 (by omega)) ((Ev.pure _).eq (by rcases sg_cases (x - 9223372036854775807) with ⟨a, b⟩ | ⟨a, b⟩ | ⟨a, b⟩ <;> rw [b] <;> first | rfl | omega))))) ?_
  refine Ev.else rfl ?_
  rw [if_pos (by omega)]
  have hl := len64 (u := x.natAbs) (by omega)
  refine Ev.from (g := fun _ => some (x, true)) 6 (fun n hn => ?_) (Ev.pure _)
  have h3 := RInt_L n x (fun nx2 => some (nx2, true)) (by omega) (by omega) (dig x.natAbs).length n (Nat.le_refl _) (by omega)
  rw [val_past (Nat.le_refl _), Int.mul_zero] at h3
  show ref04_Int_L1 n (toB x) (fun nx2 => some (nx2, true)) n 0 (isub .i64 ((dig x.natAbs).length : Int) 1) = _
  rw [isub_i64 (by omega) (by omega)]
  exact h3
end Go.Proofs.YtaiiclbemlmmaaaGreatDoor.D
