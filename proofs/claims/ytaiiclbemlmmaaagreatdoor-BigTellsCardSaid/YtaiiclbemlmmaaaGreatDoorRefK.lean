/-
  THE PROGRAM's AND THE REFERENCE's FUNCTIONS return the same, for big integers right or not.
-/
import Derived.Test.YtaiiclbemlmmaaaGreatDoorRefJ
import Derived.Test.YtaiiclbemlmmaaaGreatDoorBigV
namespace Go.Proofs.YtaiiclbemlmmaaaGreatDoor.D
open Go Rt M

theorem Div0_ev {x : Int} {k : Nat} (hx : Sm k x) (hk : k < 8388608) : Ev (fun n => big_Div n (toB x) (toB 0)) (⟨0, []⟩, ⟨0, []⟩, 14) := by
  unfold big_Div
  refine Ev.bind (Right_toB hx (by omega)) ?_
  refine Ev.bind (a := false) (Ev.else rfl (Ev.bind (Right_toB (x := 0) (k := 1) (by unfold Sm; decide) (by decide)) (Ev.pure _))) ?_
  refine Ev.else rfl ?_
  exact Ev.then rfl (Ev.pure _)
theorem dq_sm {x y : Int} {k : Nat} (hx : Sm k x) : Sm (k + 1) (dq x y) := by
  have h := Nat.div_le_self x.natAbs y.natAbs
  have hp := pw_pos k
  have h2 : (dq x y).natAbs ≤ x.natAbs / y.natAbs + 1 := by
    unfold dq
    generalize x.natAbs / y.natAbs = q
    split
    · omega
    · rw [Int.natAbs_mul]
      have h3 : (sg (x * y)).natAbs ≤ 1 := by have := sg_range (x * y); omega
      have h4 := Nat.mul_le_mul_right ((q : Int).natAbs) h3
      omega
  generalize x.natAbs / y.natAbs = q at *
  unfold Sm at *
  simp only [pw]
  omega

theorem wf64 {x : Int} (h : (Lit.int .i64 x).wf = true) : -9223372036854775808 ≤ x ∧ x ≤ 9223372036854775807 := by
  have h2 : IntKind.i64.min ≤ x ∧ x ≤ IntKind.i64.max := by simpa [Lit.wf] using h
  rw [show IntKind.i64.min = -9223372036854775808 by decide, show IntKind.i64.max = 9223372036854775807 by decide] at h2
  exact h2

def Two {R : Type} (f g : Nat → Option R) (P : R → Prop) : Prop := ∃ r, Ev f r ∧ Ev g r ∧ P r
section
variable {β : Type}
theorem bad1 {A : Nat → Option Bool} {x : Nat → Option β} {y : Nat → Bool → Option β} {r : β} (hA : Ev A false) (hx : Ev x r) :
    Ev (fun n => (A n).bind fun v1 => bif !v1 then x n else y n v1) r := Ev.bind hA (Ev.then rfl hx)
theorem bad2 {A B : Nat → Option Bool} {ra rb : Bool} {x : Nat → Option β} {y : Nat → Bool → Bool → Option β} {r : β} (hA : Ev A ra) (hB : Ev B rb) (h : (ra && rb) = false) (hx : Ev x r) :
    Ev (fun n => (A n).bind fun v1 => (bif !v1 then some true else (B n).bind fun v => some (!v)).bind fun v2 => bif v2 then x n else y n v1 v2) r := by
  refine Ev.bind hA ?_
  cases ra with
  | false => exact Ev.bind (a := true) (Ev.then rfl (Ev.pure _)) (Ev.then rfl hx)
  | true =>
    have hb : rb = false := by simpa using h
    subst hb
    exact Ev.bind (a := true) (Ev.else rfl (Ev.bind hB (Ev.pure _))) (Ev.then rfl hx)
end
theorem right_or {a b : Big} (ha : a.Digits.length ≤ 62) (hb : b.Digits.length ≤ 62) : (rightb a && rightb b) = false ∨ ∃ x y, a = toB x ∧ b = toB y ∧ Sm 62 x ∧ Sm 62 y := by
  cases h : rightb a && rightb b with
  | false => exact .inl rfl
  | true =>
    right
    simp only [Bool.and_eq_true] at h
    obtain ⟨x, rfl⟩ := toB_of_right h.1
    obtain ⟨y, rfl⟩ := toB_of_right h.2
    exact ⟨x, y, rfl, rfl, sm_of_len ha, sm_of_len hb⟩
theorem lt62 {n : Nat} (h : n ≤ 62) : n < 1099511627776 := by omega
theorem toB_len {x : Int} {k : Nat} (h : Sm k x) : (toB x).Digits.length ≤ k := len_of_sm h
section
variable {a b : Big} (ha : a.Digits.length ≤ 62) (hb : b.Digits.length ≤ 62)
include ha hb
theorem Add_both : Two (fun n => big_Add n a b) (fun n => ref04_Add n a b) (fun r => r.1.Digits.length ≤ 1000) := by
  rcases right_or ha hb with h | ⟨x, y, rfl, rfl, hx, hy⟩
  · refine ⟨(⟨0, []⟩, 1), ?_, ?_, by simp⟩
    · unfold big_Add
      exact bad2 (Right_ev (a := a) (lt62 ha)) (Right_ev (a := b) (lt62 hb)) h (Ev.pure _)
    · unfold ref04_Add
      exact bad2 (RRight_ev (a := a) (lt62 ha)) (RRight_ev (a := b) (lt62 hb)) h (Ev.pure _)
  · have := toB_len (hx.add hy)
    exact ⟨_, Add_ev hx hy (by decide), RAdd_ev hx hy (by decide), by show (toB (x + y)).Digits.length ≤ 1000; omega⟩
theorem Sub_both : Two (fun n => big_Sub n a b) (fun n => ref04_Sub n a b) (fun r => r.1.Digits.length ≤ 1000) := by
  cases hr : rightb b with
  | false =>
    refine ⟨(⟨0, []⟩, 1), ?_, ?_, by simp⟩
    · unfold big_Sub
      exact bad1 ((Right_ev (a := b) (lt62 hb)).eq hr) (Ev.pure _)
    · unfold ref04_Sub
      exact bad1 ((RRight_ev (a := b) (lt62 hb)).eq hr) (Ev.pure _)
  | true =>
    obtain ⟨y, rfl⟩ := toB_of_right hr
    have hy := sm_of_len hb
    rcases right_or (a := a) (b := toB (-y)) ha (toB_len hy.neg) with h | ⟨x, z, rfl, _, hx, _⟩
    · have hr2 : rightb (toB (-y)) = true := rightb_toB _
      rw [hr2, Bool.and_true] at h
      refine ⟨(⟨0, []⟩, 1), ?_, ?_, by simp⟩
      · unfold big_Sub
        refine Ev.bind (Right_toB hy (by decide)) (Ev.else rfl (Ev.bind (Neg_ev hy (by decide)) (Ev.bind (a := (⟨0, []⟩, 1)) ?_ (Ev.pure _))))
        show Ev (fun n => big_Add n a (toB (-y))) _
        unfold big_Add
        exact bad2 (Right_ev (a := a) (lt62 ha)) (Right_toB hy.neg (by decide)) (by rw [h]; rfl) (Ev.pure _)
      · unfold ref04_Sub
        refine Ev.bind (RRight_toB hy (by decide)) (Ev.else rfl (Ev.bind (a := (0, [], 1)) (Ev.bind (RNeg_ev hy (by decide)) (Ev.bind (a := (⟨0, []⟩, 1)) ?_ (Ev.pure _))) (Ev.pure _)))
        show Ev (fun n => ref04_Add n a (toB (-y))) _
        unfold ref04_Add
        exact bad2 (RRight_ev (a := a) (lt62 ha)) (RRight_toB hy.neg (by decide)) (by rw [h]; rfl) (Ev.pure _)
    · have := toB_len (hx.sub hy)
      exact ⟨_, Sub_ev hx hy (by decide), RSub_ev hx hy (by decide), by show (toB (x - y)).Digits.length ≤ 1000; omega⟩
theorem Mul_both : Two (fun n => big_Mul n a b) (fun n => ref04_Mul n a b) (fun r => r.1.Digits.length ≤ 1000) := by
  rcases right_or ha hb with h | ⟨x, y, rfl, rfl, hx, hy⟩
  · refine ⟨(⟨0, []⟩, 1), ?_, ?_, by simp⟩
    · unfold big_Mul
      exact bad2 (Right_ev (a := a) (lt62 ha)) (Right_ev (a := b) (lt62 hb)) h (Ev.pure _)
    · unfold ref04_Mul
      exact bad2 (RRight_ev (a := a) (lt62 ha)) (RRight_ev (a := b) (lt62 hb)) h (Ev.pure _)
  · have := toB_len (hx.mul hy)
    exact ⟨_, Mul_ev hx hy (by decide), RMul_ev hx hy (by decide), by show (toB (x * y)).Digits.length ≤ 1000; omega⟩
theorem Gcd_both : Two (fun n => big_Gcd n a b) (fun n => ref04_Gcd n a b) (fun r => r.1.Digits.length ≤ 1000) := by
  rcases right_or ha hb with h | ⟨x, y, rfl, rfl, hx, hy⟩
  · refine ⟨(⟨0, []⟩, 1), ?_, ?_, by simp⟩
    · unfold big_Gcd
      exact bad2 (Right_ev (a := a) (lt62 ha)) (Right_ev (a := b) (lt62 hb)) h (Ev.pure _)
    · unfold ref04_Gcd
      exact bad2 (RRight_ev (a := a) (lt62 ha)) (RRight_ev (a := b) (lt62 hb)) h (Ev.pure _)
  · refine ⟨_, Gcd_ev hx hy (by decide), RGcd_ev hx hy (by decide), ?_⟩
    show (toB (Nat.gcd x.natAbs y.natAbs : Nat)).Digits.length ≤ 1000
    have hg : Sm 62 ((Nat.gcd x.natAbs y.natAbs : Nat) : Int) := by
      by_cases h0 : x.natAbs = 0
      · rw [h0, Nat.gcd_zero_left]; exact hy.le (by omega)
      · exact hx.le (by have := Nat.gcd_le_left y.natAbs (Nat.pos_of_ne_zero h0); omega)
    have := toB_len hg
    omega
theorem Div_both : Two (fun n => big_Div n a b) (fun n => ref04_Div n a b) (fun r => r.1.Digits.length ≤ 1000 ∧ r.2.1.Digits.length ≤ 1000) := by
  rcases right_or ha hb with h | ⟨x, y, rfl, rfl, hx, hy⟩
  · refine ⟨(⟨0, []⟩, ⟨0, []⟩, 1), ?_, ?_, by simp⟩
    · unfold big_Div
      exact bad2 (Right_ev (a := a) (lt62 ha)) (Right_ev (a := b) (lt62 hb)) h (Ev.pure _)
    · unfold ref04_Div
      exact bad2 (RRight_ev (a := a) (lt62 ha)) (RRight_ev (a := b) (lt62 hb)) h (Ev.pure _)
  · by_cases hy0 : y = 0
    · subst hy0
      refine ⟨(⟨0, []⟩, ⟨0, []⟩, 14), Div0_ev hx (by decide), ?_, by simp⟩
      unfold ref04_Div
      exact Ev.bind (RRight_toB hx (by decide)) (or_call rfl (RRight_toB hy (by decide)) (Ev.else rfl (Ev.then rfl (Ev.pure _))))
    · have h1 := toB_len (dq_sm (y := y) hx)
      have h2 := toB_len (hy.le (show (dr x y).natAbs ≤ y.natAbs by have := (dq_dr (x := x) hy0).2.2; omega))
      exact ⟨_, Div_ev hx hy (by decide) hy0, RDiv_ev hx hy (by decide) hy0, by show (toB (dq x y)).Digits.length ≤ 1000; omega, by show (toB (dr x y)).Digits.length ≤ 1000; omega⟩
theorem Compare_both : Two (fun n => big_Compare n a b) (fun n => ref04_Compare n a b) (fun _ => True) := by
  rcases right_or ha hb with h | ⟨x, y, rfl, rfl, hx, hy⟩
  · refine ⟨0, ?_, ?_, trivial⟩
    · unfold big_Compare
      exact bad2 (Right_ev (a := a) (lt62 ha)) (Right_ev (a := b) (lt62 hb)) h (Ev.pure _)
    · unfold ref04_Compare
      refine Ev.bind (RRight_ev (a := a) (lt62 ha)) ?_
      refine Ev.bind (a := true) ?_ (Ev.bind (a := true) (Ev.then rfl (Ev.pure _)) (Ev.then rfl (Ev.pure _)))
      show Ev (fun n => bif !(rightb a) then some true else (ref04_Right n b).bind fun v => some (!v)) true
      cases hra : rightb a with
      | false => exact Ev.then rfl (Ev.pure _)
      | true =>
        rw [hra, Bool.true_and] at h
        exact Ev.else rfl (Ev.bind ((RRight_ev (a := b) (lt62 hb)).eq h) (Ev.pure _))
  · exact ⟨_, Compare_ev hx hy (by decide), RCompare_ev hx hy (by decide), trivial⟩
omit hb in
theorem Neg_both : Two (fun n => big_Neg n a) (fun n => ref04_Neg n a) (fun r => r.Digits.length ≤ 1000) := by
  cases hr : rightb a with
  | false =>
    refine ⟨⟨0, []⟩, ?_, ?_, by simp⟩
    · unfold big_Neg
      exact bad1 ((Right_ev (a := a) (lt62 ha)).eq hr) (Ev.pure _)
    · unfold ref04_Neg
      exact bad1 ((RRight_ev (a := a) (lt62 ha)).eq hr) (Ev.pure _)
  | true =>
    obtain ⟨x, rfl⟩ := toB_of_right hr
    have hx := sm_of_len ha
    have := toB_len hx.neg
    exact ⟨_, Neg_ev hx (by decide), RNeg_ev hx (by decide), by omega⟩
omit hb in
theorem Int_both : Two (fun n => big_Int n a) (fun n => ref04_Int n a) (fun _ => True) := by
  cases hr : rightb a with
  | false =>
    refine ⟨(0, false), ?_, ?_, trivial⟩
    · unfold big_Int
      exact Ev.bind ((Right_ev (a := a) (lt62 ha)).eq hr) (Ev.bind (a := true) (Ev.then rfl (Ev.pure _)) (Ev.then rfl (Ev.pure _)))
    · unfold ref04_Int
      exact bad1 ((RRight_ev (a := a) (lt62 ha)).eq hr) (Ev.pure _)
  | true =>
    obtain ⟨x, rfl⟩ := toB_of_right hr
    have hx := sm_of_len ha
    exact ⟨_, Int_ev hx (by decide), RInt_ev hx (by decide), trivial⟩
omit hb in
theorem Text_both : Two (fun n => big_Text n a) (fun n => ref04_Text n a) (fun _ => True) := by
  cases hr : rightb a with
  | false =>
    refine ⟨[], Text_not (by omega) hr, ?_, trivial⟩
    unfold ref04_Text
    exact bad1 ((RRight_ev (a := a) (lt62 ha)).eq hr) (Ev.pure _)
  | true =>
    obtain ⟨x, rfl⟩ := toB_of_right hr
    have hx := sm_of_len ha
    exact ⟨_, Text_ev hx (by decide), RText_ev hx (by decide), trivial⟩
end
theorem readB_len (s : Bs) (hl : s.length ≤ 500) : (readB s).1.Digits.length ≤ 1000 := by
  unfold readB
  split
  · simp
  · split
    · rename_i hg
      have hall : List.all (cut s).1 isd = true := by unfold good at hg; simp only [Bool.and_eq_true] at hg; exact hg.2
      have hsm := dv_sm hall (by have := cut_len s; omega)
      have h1 := toB_len hsm
      have h2 := toB_len hsm.neg
      split <;> simp only <;> omega
    · simp
theorem RSame_self {r s : Big} (h : r.Digits.length ≤ 1000) (e : r = s) : Ev (fun n => ref04_Same n r s) true := (RSame_ev (by omega)).eq (by simp [e])
end Go.Proofs.YtaiiclbemlmmaaaGreatDoor.D
