/-
  THE REFERENCE's FUNCTIONS, as arithmetic, sixth part: what is exported, at right big integers.
-/
import Derived.Test.YtaiiclbemlmmaaaGreatDoorRefE
import Derived.Test.YtaiiclbemlmmaaaGreatDoorBigT
namespace Go.Proofs.YtaiiclbemlmmaaaGreatDoor.D
open Go Rt M

theorem RRight_ev {a : Big} (hl : a.Digits.length < 1099511627776) : Ev (fun n => ref04_Right n a) (rightb a) := ⟨a.Digits.length + 1, fun _ hn => RRight_n hl hn⟩
theorem RRight_toB {x : Int} {k : Nat} (h : Sm k x) (hk : k < 1099511627776) : Ev (fun n => ref04_Right n (toB x)) true := by
  have := len_of_sm h
  exact (RRight_ev (a := toB x) (by simp only [toB]; omega)).eq (rightb_toB x)
theorem made_ev (s : Int) {v : Nat} (h : (dig v).length < 1099511627776) : Ev (fun n => ref04_made n s (dig v)) (if v = 0 then ⟨0, []⟩ else ⟨s, dig v⟩) := by
  refine ⟨(dig v).length + 1, fun n hn => ?_⟩
  have h1 := made_n s (InR_dig v) h (n := n) (by omega)
  rw [val_dig, Int.toNat_natCast] at h1
  exact h1
theorem made_toB {s : Int} {v : Nat} (h : (dig v).length < 1099511627776) (z : Int) (hz : z.natAbs = v) (hs : v ≠ 0 → s = sg z) : Ev (fun n => ref04_made n s (dig v)) (toB z) := (made_ev s h).eq (signed_toB z hz hs)
theorem plus_nat (u v : Nat) (hu : (dig u).length < 1073741824) (hv : (dig v).length < 1073741824) : Ev (fun n => ref04_plus n (dig u) (dig v)) (dig (u + v)) :=
  (plus_ev (InR_dig u) (InR_dig v) hu hv).eq (by rw [val_dig, val_dig, ← Int.natCast_add, Int.toNat_natCast])
theorem minus_nat (u v : Nat) (hu : (dig u).length < 1073741824) (h : v ≤ u) : Ev (fun n => ref04_minus n (dig u) (dig v)) (dig (u - v)) :=
  (minus_ev (InR_dig u) (InR_dig v) hu (len_mono h) (by rw [val_dig, val_dig]; omega)).eq (by rw [val_dig, val_dig]; congr 1; omega)
theorem less_nat (u v : Nat) (hu : (dig u).length < 1099511627776) (hv : (dig v).length < 1099511627776) : Ev (fun n => ref04_less n (dig u) (dig v)) (decide (u < v)) :=
  ⟨max (dig u).length (dig v).length + 1, fun n hn => by
    show ref04_less n (dig u) (dig v) = _
    rw [less_n (InR_dig u) (InR_dig v) hu hv (by omega), val_dig, val_dig]
    congr 1
    by_cases h : u < v <;> simp [h]⟩
theorem times_nat (u v : Nat) (hu : (dig u).length < 536870912) (hv : (dig v).length < 536870912) : Ev (fun n => ref04_times n (dig u) (dig v)) (dig (u * v)) :=
  ⟨(dig u).length + (dig v).length + 3, fun n hn => times_dig hu hv (by omega)⟩
theorem over_nat (u v : Nat) (h : v ≠ 0) (hu : (dig u).length < 536870800) (hv : (dig v).length < 536870800) : Ev (fun n => ref04_over n (dig u) (dig v)) (dig (u / v), dig (u % v)) :=
  ⟨(dig u).length + 2 * (dig v).length + 1048601, fun n hn => over_n (by omega) hu hv (by omega)⟩

theorem RNeg_ev {x : Int} {k : Nat} (h : Sm k x) (hk : k < 1073741824) : Ev (fun n => ref04_Neg n (toB x)) (toB (-x)) := by
  have hl := len_of_sm h
  unfold ref04_Neg
  refine Ev.bind (RRight_toB h (by omega)) ?_
  refine Ev.else rfl ?_
  refine Ev.bind (made_toB (v := x.natAbs) (by omega) (-x) (by omega) (fun hne => ?_)) (Ev.pure _)
  show IntKind.i64.wrap (0 - sg x) = sg (-x)
  rcases sg_cases x with ⟨a, b⟩ | ⟨a, b⟩ | ⟨a, b⟩ <;> rw [b]
  · rw [sg_pos (by omega)]; decide
  · omega
  · rw [sg_neg (by omega)]; decide
theorem RMul_ev {x y : Int} {k : Nat} (hx : Sm k x) (hy : Sm k y) (hk : k < 268435456) : Ev (fun n => ref04_Mul n (toB x) (toB y)) (toB (x * y), 0) := by
  have lx := len_of_sm hx
  have ly := len_of_sm hy
  unfold ref04_Mul
  refine Ev.bind (RRight_toB hx (by omega)) ?_
  refine Ev.bind (a := false) (Ev.else rfl (Ev.bind (RRight_toB hy (by omega)) (Ev.pure _))) ?_
  refine Ev.else rfl ?_
  refine Ev.bind (times_nat x.natAbs y.natAbs (by omega) (by omega)) ?_
  have lm : (dig (x.natAbs * y.natAbs)).length ≤ k + k := by
    have := len_of_sm (hx.mul hy)
    rwa [Int.natAbs_mul] at this
  refine Ev.bind (made_toB (by omega) (x * y) (Int.natAbs_mul x y) (fun _ => ?_)) (Ev.pure _)
  exact imul_sg x y
theorem RAdd_ev {x y : Int} {k : Nat} (hx : Sm k x) (hy : Sm k y) (hk : k < 536870912) : Ev (fun n => ref04_Add n (toB x) (toB y)) (toB (x + y), 0) := by
  have lx := len_of_sm hx
  have ly := len_of_sm hy
  unfold ref04_Add
  refine Ev.bind (RRight_toB hx (by omega)) ?_
  refine Ev.bind (a := false) (Ev.else rfl (Ev.bind (RRight_toB hy (by omega)) (Ev.pure _))) ?_
  refine Ev.else rfl ?_
  have hplus : ∀ s, (x.natAbs + y.natAbs ≠ 0 → s = sg (x + y)) → (x + y).natAbs = x.natAbs + y.natAbs → Ev (fun n => (ref04_plus n (dig x.natAbs) (dig y.natAbs)).bind fun v5 => (ref04_made n s v5).bind fun v6 => some ((⟨v6.Sign, v6.Digits⟩ : Big), (0 : Int))) (toB (x + y), 0) := by
    intro s hs hz
    have lp : (dig (x.natAbs + y.natAbs)).length ≤ k + 1 := by
      have := len_of_sm (hx.add hy)
      rwa [hz] at this
    refine Ev.bind (plus_nat x.natAbs y.natAbs (by omega) (by omega)) ?_
    exact Ev.bind (made_toB (by omega) (x + y) hz hs) (Ev.pure _)
  have hless : (0 < x ∧ y < 0) ∨ (x < 0 ∧ 0 < y) → Ev (fun n => (ref04_less n (dig x.natAbs) (dig y.natAbs)).bind fun v7 =>
      bif v7 then
        (ref04_minus n (dig y.natAbs) (dig x.natAbs)).bind fun v8 =>
        (ref04_made n (sg y) v8).bind fun v9 =>
        some ((⟨v9.Sign, v9.Digits⟩ : Big), (0 : Int))
      else
        (ref04_minus n (dig x.natAbs) (dig y.natAbs)).bind fun v10 =>
        (ref04_made n (sg x) v10).bind fun v11 =>
        some ((⟨v11.Sign, v11.Digits⟩ : Big), 0)) (toB (x + y), 0) := by
    intro hs
    refine Ev.bind (less_nat x.natAbs y.natAbs (by omega) (by omega)) ?_
    by_cases hl : x.natAbs < y.natAbs
    · have l1 := len_mono (Nat.sub_le y.natAbs x.natAbs)
      refine Ev.then (by simpa using hl) ?_
      refine Ev.bind (minus_nat y.natAbs x.natAbs (by omega) (by omega)) ?_
      refine Ev.bind (made_toB (by omega) (x + y) (by omega) (fun _ => ?_)) (Ev.pure _)
      rcases hs with ⟨h1, h2⟩ | ⟨h1, h2⟩
      · rw [sg_neg h2, sg_neg (by omega)]
      · rw [sg_pos h2, sg_pos (by omega)]
    · have l1 := len_mono (Nat.sub_le x.natAbs y.natAbs)
      refine Ev.else (by simpa using hl) ?_
      refine Ev.bind (minus_nat x.natAbs y.natAbs (by omega) (by omega)) ?_
      refine Ev.bind (made_toB (by omega) (x + y) (by omega) (fun hne => ?_)) (Ev.pure _)
      rcases hs with ⟨h1, h2⟩ | ⟨h1, h2⟩
      · rw [sg_pos h1, sg_pos (by omega)]
      · rw [sg_neg h1, sg_neg (by omega)]
  rcases sg_cases x with ⟨a, b⟩ | ⟨a, b⟩ | ⟨a, b⟩ <;> rcases sg_cases y with ⟨c, d⟩ | ⟨c, d⟩ | ⟨c, d⟩
  · refine Ev.bind (a := false) (Ev.else (by show (sg x == 0) = false; rw [b]; rfl) ((Ev.pure _).eq (by show (sg y == 0) = false; rw [d]; rfl))) ?_
    refine Ev.bind (a := true) (Ev.else rfl ((Ev.pure _).eq (by show (sg x == sg y) = true; rw [b, d]; rfl))) ?_
    exact Ev.then rfl (hplus _ (fun _ => by show ior .i64 (sg x) (sg y) = _; rw [b, d, sg_neg (by omega)]; decide) (by omega))
  · refine Ev.bind (a := true) (Ev.else (by show (sg x == 0) = false; rw [b]; rfl) ((Ev.pure _).eq (by show (sg y == 0) = true; rw [d]; rfl))) ?_
    refine Ev.bind (a := true) (Ev.then rfl (Ev.pure _)) ?_
    exact Ev.then rfl (hplus _ (fun _ => by show ior .i64 (sg x) (sg y) = _; rw [b, d, sg_neg (by omega)]; decide) (by omega))
  · refine Ev.bind (a := false) (Ev.else (by show (sg x == 0) = false; rw [b]; rfl) ((Ev.pure _).eq (by show (sg y == 0) = false; rw [d]; rfl))) ?_
    refine Ev.bind (a := false) (Ev.else rfl ((Ev.pure _).eq (by show (sg x == sg y) = false; rw [b, d]; rfl))) ?_
    exact Ev.else rfl (hless (.inr ⟨a, c⟩))
  · refine Ev.bind (a := true) (Ev.then (by show (sg x == 0) = true; rw [b]; rfl) (Ev.pure _)) ?_
    refine Ev.bind (a := true) (Ev.then rfl (Ev.pure _)) ?_
    exact Ev.then rfl (hplus _ (fun _ => by show ior .i64 (sg x) (sg y) = _; rw [b, d, sg_neg (by omega)]; decide) (by omega))
  · refine Ev.bind (a := true) (Ev.then (by show (sg x == 0) = true; rw [b]; rfl) (Ev.pure _)) ?_
    refine Ev.bind (a := true) (Ev.then rfl (Ev.pure _)) ?_
    exact Ev.then rfl (hplus _ (fun h => by omega) (by omega))
  · refine Ev.bind (a := true) (Ev.then (by show (sg x == 0) = true; rw [b]; rfl) (Ev.pure _)) ?_
    refine Ev.bind (a := true) (Ev.then rfl (Ev.pure _)) ?_
    exact Ev.then rfl (hplus _ (fun _ => by show ior .i64 (sg x) (sg y) = _; rw [b, d, sg_pos (by omega)]; decide) (by omega))
  · refine Ev.bind (a := false) (Ev.else (by show (sg x == 0) = false; rw [b]; rfl) ((Ev.pure _).eq (by show (sg y == 0) = false; rw [d]; rfl))) ?_
    refine Ev.bind (a := false) (Ev.else rfl ((Ev.pure _).eq (by show (sg x == sg y) = false; rw [b, d]; rfl))) ?_
    exact Ev.else rfl (hless (.inl ⟨a, c⟩))
  · refine Ev.bind (a := true) (Ev.else (by show (sg x == 0) = false; rw [b]; rfl) ((Ev.pure _).eq (by show (sg y == 0) = true; rw [d]; rfl))) ?_
    refine Ev.bind (a := true) (Ev.then rfl (Ev.pure _)) ?_
    exact Ev.then rfl (hplus _ (fun _ => by show ior .i64 (sg x) (sg y) = _; rw [b, d, sg_pos (by omega)]; decide) (by omega))
  · refine Ev.bind (a := false) (Ev.else (by show (sg x == 0) = false; rw [b]; rfl) ((Ev.pure _).eq (by show (sg y == 0) = false; rw [d]; rfl))) ?_
    refine Ev.bind (a := true) (Ev.else rfl ((Ev.pure _).eq (by show (sg x == sg y) = true; rw [b, d]; rfl))) ?_
    exact Ev.then rfl (hplus _ (fun _ => by show ior .i64 (sg x) (sg y) = _; rw [b, d, sg_pos (by omega)]; decide) (by omega))
theorem RSub_ev {x y : Int} {k : Nat} (hx : Sm k x) (hy : Sm k y) (hk : k < 536870912) : Ev (fun n => ref04_Sub n (toB x) (toB y)) (toB (x - y), 0) := by
  unfold ref04_Sub
  refine Ev.bind (RRight_toB hy (by omega)) ?_
  refine Ev.else rfl ?_
  refine Ev.bind (Ev.bind (RNeg_ev hy (by omega)) (Ev.bind (RAdd_ev hx hy.neg hk) (Ev.pure _))) ((Ev.pure _).eq ?_)
  rw [Int.sub_eq_add_neg]
theorem RDiv_ev {x y : Int} {k : Nat} (hx : Sm k x) (hy : Sm k y) (hk : k < 8388608) (hy0 : y ≠ 0) : Ev (fun n => ref04_Div n (toB x) (toB y)) (toB (dq x y), toB (dr x y), 0) := by
  have lx := len_of_sm hx
  have ly := len_of_sm hy
  have hyn : y.natAbs ≠ 0 := by omega
  have hmod := Nat.mod_lt x.natAbs (show y.natAbs > 0 by omega)
  have hdivle : x.natAbs / y.natAbs ≤ x.natAbs := Nat.div_le_self _ _
  have lq := len_mono hdivle
  have lr := len_mono (Nat.le_of_lt hmod)
  have lq1 : (dig (x.natAbs / y.natAbs + 1)).length ≤ k + 1 := by
    have h : Sm (k + 1) ((x.natAbs / y.natAbs + 1 : Nat) : Int) := by
      generalize x.natAbs / y.natAbs = q at *
      unfold Sm at *
      rw [Int.natAbs_natCast]
      simp only [pw]; have := pw_pos k; omega
    have := len_of_sm h
    rwa [Int.natAbs_natCast] at this
  have ls := len_mono (show y.natAbs - x.natAbs % y.natAbs ≤ y.natAbs by omega)
  unfold ref04_Div
  refine Ev.bind (RRight_toB hx (by omega)) ?_
  refine Ev.bind (a := false) (Ev.else rfl (Ev.bind (RRight_toB hy (by omega)) (Ev.pure _))) ?_
  refine Ev.else rfl ?_
  refine Ev.else (by show (sg y == 0) = false; rcases sg_cases y with h | h | h <;> first | (rw [h.2]; rfl) | omega) ?_
  refine Ev.bind (over_nat x.natAbs y.natAbs hyn (by omega) (by omega)) ?_
  refine Ev.step (a := !odd x y) (by
    show (bif decide (0 ≤ imul .i64 (sg x) (sg y)) then some true else some (((dig (x.natAbs % y.natAbs)).length : Int) == 0)) = _
    rw [imul_sg]
    unfold odd
    have e1 : decide (0 ≤ sg (x * y)) = !decide (x * y < 0) := by
      rcases sg_cases (x * y) with ⟨h1, h2⟩ | ⟨h1, h2⟩ | ⟨h1, h2⟩ <;> rw [h2] <;> simp <;> omega
    have e2 : (((dig (x.natAbs % y.natAbs)).length : Int) == 0) = !decide (x.natAbs % y.natAbs ≠ 0) := by
      by_cases h : x.natAbs % y.natAbs = 0
      · rw [h, dig_zero]; rfl
      · have := dig_ne h
        have h3 : 0 < (dig (x.natAbs % y.natAbs)).length := List.length_pos_iff.2 this
        rw [beq_false_of_ne (by omega), decide_eq_true h]; rfl
    rw [e1, e2]
    cases decide (x * y < 0) <;> rfl) ?_
  by_cases ho : odd x y = true
  · refine Ev.else (by rw [ho]; rfl) ?_
    refine Ev.bind (a := dig (x.natAbs / y.natAbs + 1)) (by
      have := plus_nat (x.natAbs / y.natAbs) 1 (by omega) (by rw [dig_one]; simp)
      rwa [dig_one] at this) ?_
    refine Ev.bind (made_toB (by omega) (dq x y) (dq_odd ho).1 (fun _ => (dq_odd ho).2.symm)) ?_
    refine Ev.bind (minus_nat y.natAbs (x.natAbs % y.natAbs) (by omega) (by omega)) ?_
    exact Ev.bind (made_toB (by omega) (dr x y) (dr_odd hy0 ho).1 (fun _ => (dr_odd hy0 ho).2.symm)) (Ev.pure _)
  · refine Ev.then (by simpa using ho) ?_
    refine Ev.bind (made_toB (by omega) (dq x y) (dq_even hy0 ho).1 (fun h => by show imul .i64 (sg x) (sg y) = _; rw [imul_sg]; exact (dq_even hy0 ho).2 h)) ?_
    exact Ev.bind (made_toB (by omega) (dr x y) (dr_even ho).1 (dr_even ho).2) (Ev.pure _)
end Go.Proofs.YtaiiclbemlmmaaaGreatDoor.D
