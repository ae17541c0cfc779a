/-
  THE LAW FracOrder, in plain Lean: the mirrored law is true at all arguments.
-/
import Derived.Test.YtaanocaobllohaaGreatDoorFrC
import Derived.Test.YtaanocaobllohaaGreatDoorMirD2
namespace Go.Proofs.YtaanocaobllohaaGreatDoor.D
open Go Rt M

theorem and_callE {β : Type} {r : β} {c : Bool} {y : Nat → Option Int} {g : Int → Bool} {f : Nat → Bool → Option β} {d : Int} (hc : c = true) (hy : Ev y d) (hd : g d = true) (hf : Ev (fun n => f n true) r) : Ev (fun n => (bif c then (y n).bind fun v => some (g v) else some false).bind (f n)) r :=
  Ev.bind (a := true) (Ev.then hc (Ev.bind hy ((Ev.pure _).eq hd))) hf
theorem order05_ev (a b c : Frac) : Ev (fun n => law05_FracOrder n a b c) true := by
  unfold law05_FracOrder
  refine Ev.bind small05 ?_
  refine Ev.bind (few05 a 12) ?_
  refine or_any (fun _ => few05 b 12) ?_
  refine or_any (fun _ => few05 c 12) ?_
  refine or_any (d := rightf a) (fun h => ?_) ?_
  · simp only [Bool.or_eq_false_iff, Bool.not_eq_false'] at h
    have h1 := few05_len (k := 12) h.1.1
    exact FRight_ev (f := a) h1.1 h1.2 (by decide)
  refine or_any (d := rightf b) (fun h => ?_) ?_
  · simp only [Bool.or_eq_false_iff, Bool.not_eq_false'] at h
    have h1 := few05_len (k := 12) h.1.1.2
    exact FRight_ev (f := b) h1.1 h1.2 (by decide)
  refine or_any (d := rightf c) (fun h => ?_) ?_
  · simp only [Bool.or_eq_false_iff, Bool.not_eq_false'] at h
    have h1 := few05_len (k := 12) h.1.1.2
    exact FRight_ev (f := c) h1.1 h1.2 (by decide)
  refine guard fun hV => ?_
  simp only [Bool.or_eq_false_iff, Bool.not_eq_false'] at hV
  obtain ⟨⟨⟨⟨⟨g1, g2⟩, g3⟩, g4⟩, g5⟩, g6⟩ := hV
  obtain ⟨x, rfl, hx⟩ := rat_of (few05_len (k := 12) g1) g4
  obtain ⟨y, rfl, hy⟩ := rat_of (few05_len (k := 12) g2) g5
  obtain ⟨z, rfl, hz⟩ := rat_of (few05_len (k := 12) g3) g6
  clear g1 g2 g3 g4 g5 g6
  have hr := cmpQ_range x y
  refine Ev.bind (FCompare_ev hx hy (by decide)) ?_
  refine Ev.bind (FQSame_toF (b := y) hx (by decide)) ?_
  refine or_callE (d := cmpQ y x) (by rw [cmpQ_zero]; simp) (FCompare_ev hy hx (by decide)) (by
    show (cmpQ y x != IntKind.i64.wrap (0 - cmpQ x y)) = false
    rw [wrap_neg, cmpQ_swap]; simp) ?_
  refine or_pure rfl (decide_eq_false (by omega)) ?_
  refine or_pure rfl (decide_eq_false (by omega)) ?_
  refine Ev.else rfl ?_
  refine Ev.bind (a := decide (cmpQ x y ≤ 0) && decide (cmpQ y z ≤ 0)) ?_ ?_
  · cases decide (cmpQ x y ≤ 0) with
    | true => exact Ev.then rfl (Ev.bind (FCompare_ev hy hz (by decide)) (Ev.pure _))
    | false => exact Ev.else rfl (Ev.pure _)
  refine Ev.bind (a := false) ?_ (Ev.else rfl ?_)
  · cases hc : decide (cmpQ x y ≤ 0) && decide (cmpQ y z ≤ 0) with
    | false => exact Ev.else rfl (Ev.pure _)
    | true =>
      simp only [Bool.and_eq_true, decide_eq_true_eq] at hc
      refine Ev.then rfl (Ev.bind (FCompare_ev hx hz (by decide)) ((Ev.pure _).eq ?_))
      have h1 := (cmpQ_le x y).1 hc.1
      have h2 := (cmpQ_le y z).1 hc.2
      have h3 := (cmpQ_le x z).2 (Rat.le_trans h1 h2)
      exact decide_eq_false (by omega)
  have a1 : SmF 25 (x - y) := (hx.sub hy).mono (by decide)
  have a2 : SmF 25 (x + z) := (hx.add hz).mono (by decide)
  have a3 : SmF 25 (y + z) := (hy.add hz).mono (by decide)
  have a4 : SmF 24 (x * z) := (hx.mul hz).mono (by decide)
  have a5 : SmF 24 (y * z) := (hy.mul hz).mono (by decide)
  refine Ev.bind (FSub_ev hx hy (by decide)) (Ev.bind (LRight a1 (by decide)) ?_)
  refine Ev.bind (FAdd_ev hx hz (by decide)) (Ev.bind (LRight a2 (by decide)) ?_)
  refine Ev.bind (FAdd_ev hy hz (by decide)) (Ev.bind (LRight a3 (by decide)) ?_)
  refine Ev.bind (FMul_ev hx hz (by decide)) (Ev.bind (LRight a4 (by decide)) ?_)
  refine Ev.bind (FMul_ev hy hz (by decide)) (Ev.bind (LRight a5 (by decide)) ?_)
  refine or_pure rfl rfl (or_pure rfl rfl (or_pure rfl rfl (or_pure rfl rfl ?_)))
  refine or_pure rfl (by show (sg (x - y).num != cmpQ x y) = false; rw [sg_sub]; simp) ?_
  refine or_callE (d := cmpQ (x + z) (y + z)) rfl (FCompare_ev a2 a3 (by decide)) (by show (cmpQ (x + z) (y + z) != cmpQ x y) = false; rw [cmpQ_add]; simp) ?_
  refine Ev.else rfl ?_
  refine Ev.bind (FCompare_ev a4 a5 (by decide)) ?_
  refine Ev.bind (a := false) (Ev.else (by show (cmpQ (x * z) (y * z) != imul .i64 (cmpQ x y) (sg z.num)) = false; rw [imul_cmp, cmpQ_mul]; simp) (Ev.bind (FNeg_ev hx (by decide)) (Ev.bind (FNeg_ev hy (by decide)) (Ev.bind (FCompare_ev hx.neg hy.neg (by decide)) ((Ev.pure _).eq ?_))))) ?_
  · rw [cmpQ_neg, wrap_neg]; simp
  refine or_callE (d := sg (x - y).num) rfl (FSign_ev a1 (by decide)) (by show (sg (x - y).num != cmpQ x y) = false; rw [sg_sub]; simp) ?_
  refine Ev.else rfl ?_
  have hlow : SmF 12 (if y < x then y else x) := by split; exact hy; exact hx
  have hhigh : SmF 12 (if x < y then y else x) := by split; exact hy; exact hx
  have hsum : SmF 25 ((if y < x then y else x) + (if x < y then y else x)) := (hlow.add hhigh).mono (by decide)
  have hall : SmF 25 (x + y) := (hx.add hy).mono (by decide)
  have hz0 : SmF 25 (x + -x) := (hx.add hx.neg).mono (by decide)
  refine Ev.bind (FMin_ev hx hy (by decide)) (Ev.bind (LRight hlow (by decide)) ?_)
  refine Ev.bind (FMax_ev hx hy (by decide)) (Ev.bind (LRight hhigh (by decide)) ?_)
  refine Ev.bind (FAdd_ev hlow hhigh (by decide)) (Ev.bind (LRight hsum (by decide)) ?_)
  refine Ev.bind (FAdd_ev hx hy (by decide)) (Ev.bind (LRight hall (by decide)) ?_)
  refine Ev.bind (Ev.bind (FNeg_ev hx (by decide)) (Ev.bind (FAdd_ev hx hx.neg (by decide)) (Ev.bind (LRight hz0 (by decide)) (Ev.pure _)))) ?_
  have hlh : (if y < x then y else x) + (if x < y then y else x) = x + y ∧ (if y < x then y else x) ≤ (if x < y then y else x) ∧ ((if y < x then y else x) = x ∧ (if x < y then y else x) = y ∨ (if y < x then y else x) = y ∧ (if x < y then y else x) = x) := by
    grind
  generalize (if y < x then y else x) = low at *
  generalize (if x < y then y else x) = high at *
  obtain ⟨e1, e2, e3⟩ := hlh
  refine Ev.bind (FQSame_toF (b := x) hlow (by decide)) ?_
  refine Ev.bind (a := decide (low = x) && decide (high = y)) ?_ ?_
  · cases decide (low = x) with
    | true => exact Ev.then rfl (Ev.bind (FQSame_toF (b := y) hhigh (by decide)) (Ev.pure _))
    | false => exact Ev.else rfl (Ev.pure _)
  refine Ev.bind (a := true) ?_ ?_
  · cases hc : decide (low = x) && decide (high = y) with
    | true => exact Ev.then rfl (Ev.pure _)
    | false =>
      have e4 : low = y ∧ high = x := by
        rcases e3 with ⟨h1, h2⟩ | h
        · rw [decide_eq_true h1, decide_eq_true h2] at hc; cases hc
        · exact h
      exact Ev.else rfl (Ev.bind (FQSame_yes hlow (by decide) e4.1) (Ev.bind (Ev.then rfl (Ev.bind (FQSame_yes hhigh (by decide) e4.2) (Ev.pure _))) (Ev.pure _)))
  refine and_pure rfl rfl (and_pure rfl rfl (and_pure rfl rfl (and_pure rfl rfl (and_pure rfl rfl (and_pure rfl rfl ?_)))))
  refine and_call rfl (FQSame_yes hsum (by decide) e1) ?_
  refine and_callE (d := cmpQ low high) rfl (FCompare_ev hlow hhigh (by decide)) (decide_eq_true ((cmpQ_le low high).2 e2)) ?_
  exact Ev.bind (a := true) (Ev.then rfl (Ev.bind (FInt_ev (x := 0) (by decide) (by decide)) (Ev.bind (FQSame_yes hz0 (by decide) (by rw [Rat.intCast_zero]; grind)) (Ev.pure _)))) (Ev.pure _)
end Go.Proofs.YtaanocaobllohaaGreatDoor.D
