/-
  THE LAW FracBack, in plain Lean: the mirrored law is true at all arguments.
-/
import Derived.Test.YtaanocaobllohaaGreatDoorFrC
import Derived.Test.YtaanocaobllohaaGreatDoorMirD3
namespace Go.Proofs.YtaanocaobllohaaGreatDoor.D
open Go Rt M

theorem readF_len (s : Bs) (h1 : (cutS s).1.length ≤ 500) (h2 : (cutS s).2.1.length ≤ 500) : (readF s).1.P.Digits.length ≤ 1000 ∧ (readF s).1.Q.Digits.length ≤ 1000 := by
  have l1 := readB_len (cutS s).1 h1
  have l2 := readB_len (cutS s).2.1 h2
  unfold readF
  split
  · exact ⟨l1, l2⟩
  · exact ⟨by decide, by decide⟩
theorem fback_ev (f : Frac) (z : Int) (hz1 : -9223372036854775808 ≤ z) (hz2 : z ≤ 9223372036854775807) (s : Bs) : Ev (fun n => law05_FracBack n f z s) true := by
  unfold law05_FracBack
  refine Ev.bind small05 ?_
  refine Ev.bind (few05 f 40) ?_
  refine Ev.bind (a := !(decide ((f.P.Digits.length : Int) ≤ 40) && decide ((f.Q.Digits.length : Int) ≤ 40)) || decide (300 < (s.length : Int))) ?_ ?_
  · cases (decide ((f.P.Digits.length : Int) ≤ 40) && decide ((f.Q.Digits.length : Int) ≤ 40)) with
    | true => exact Ev.else rfl (Ev.pure _)
    | false => exact Ev.then rfl (Ev.pure _)
  refine guard fun hV => ?_
  simp only [Bool.or_eq_false_iff, Bool.not_eq_false', decide_eq_false_iff_not] at hV
  have hf := few05_len (k := 40) hV.1
  have hs : s.length ≤ 300 := by omega
  clear hV
  have hc := cutS_len s
  refine Ev.bind (FRead_ev (s := s) (by omega) (by omega) (by omega)) ?_
  have hl := readF_len s (by omega) (by omega)
  refine Ev.bind (a := false) ?_ (Ev.bind (a := false) ?_ (Ev.else rfl ?_))
  · rcases readF_all s with ⟨r, e, ht⟩ | e
    · rw [e] at hl ⊢
      refine Ev.then rfl ?_
      refine Ev.bind ((FRight_ev (f := toF r) hl.1 hl.2 (by decide)).eq (rightf_toF r)) ?_
      refine Ev.bind (a := false) (Ev.else rfl (Ev.bind (FText_ev (f := toF r) hl.1 hl.2 (by decide)) ((Ev.pure _).eq ?_))) (Ev.pure _)
      rw [ht]; simp
    · rw [e]
      exact Ev.else rfl (Ev.pure _)
  · refine Ev.else rfl ?_
    rcases readF_all s with ⟨r, e, ht⟩ | e
    · rw [e]
      exact Ev.bind (a := false) (Ev.else rfl (Ev.pure _)) (Ev.pure _)
    · rw [e]
      refine Ev.bind (a := false) (Ev.then rfl ?_) (Ev.pure _)
      refine Ev.bind (a := false) (Ev.else rfl (Ev.bind ((FQSame_ev (f := zeroF) (g := zeroF) (by decide) (by decide)).eq (s := true) (by simp)) (Ev.pure _))) (Ev.pure _)
  refine Ev.bind (FText_ev hf.1 hf.2 (by decide)) ?_
  refine Ev.bind (FRight_ev hf.1 hf.2 (by decide)) ?_
  cases hrf : rightf f with
  | false =>
    refine Ev.then rfl (Ev.bind (a := true) (Ev.then rfl ((Ev.pure _).eq ?_)) (Ev.pure _))
    unfold textF
    rw [hrf]; rfl
  | true =>
    refine Ev.else rfl ?_
    obtain ⟨r, rfl, hr⟩ := rat_of hf hrf
    rw [textF_toF]
    have t1 := txt_len hr.1
    have t2 := txt_len hr.2
    have hcut := cutS_append (txt r.num) (txt (r.den : Int)) (txt_no r.num)
    have hrd := FRead_ev (s := txt r.num ++ 47 :: txt (r.den : Int)) (by simp; omega) (by rw [hcut]; show (txt r.num).length ≤ 500; omega) (by rw [hcut]; show (txt (r.den : Int)).length ≤ 500; omega)
    rw [readF_text (by omega) (by omega)] at hrd
    refine Ev.bind hrd ?_
    have hnew := FNew_ev hr.1 hr.2 (by decide) (den_ne r)
    rw [Rat.num_divInt_den] at hnew
    refine Ev.bind hnew ?_
    have sz : Sm 40 z := (sm_of_len (len64 (by omega)) : Sm 4 z).mono (by decide)
    have m1 : Sm 80 (r.num * z) := (hr.1.mul sz).mono (by decide)
    have m2 : Sm 80 ((r.den : Int) * z) := (hr.2.mul sz).mono (by decide)
    refine Ev.bind (Ev.bind (Of_ev hz1 hz2) (Ev.bind (Mul_ev hr.1 sz (by decide)) (Ev.pure _))) ?_
    refine Ev.bind (Ev.bind (Of_ev hz1 hz2) (Ev.bind (Mul_ev hr.2 sz (by decide)) (Ev.pure _))) ?_
    by_cases h0 : z = 0
    · subst h0
      have hz := FNew_zero m1 (by decide)
      refine Ev.bind (a := (zeroF, 14)) (by rw [Int.mul_zero] at hz ⊢; exact hz) ?_
      refine or_pure rfl rfl ?_
      refine or_call rfl (FQSame_yes hr (by decide) rfl) (or_call rfl (FQSame_yes hr (by decide) rfl) ?_)
      refine Ev.else rfl ?_
      refine and_pure rfl rfl (and_pure rfl rfl ?_)
      exact Ev.bind (a := true) (Ev.then rfl (Ev.bind (a := true) (Ev.then rfl (Ev.pure _)) (Ev.bind (a := true) (Ev.then rfl (Ev.pure _)) (Ev.pure _)))) (Ev.pure _)
    · have hz := FNew_ev m1 m2 (by decide) (mul_ne (den_ne r) h0)
      rw [Rat.divInt_mul_right h0, Rat.num_divInt_den] at hz
      refine Ev.bind hz ?_
      refine or_pure rfl rfl ?_
      refine or_call rfl (FQSame_yes hr (by decide) rfl) (or_call rfl (FQSame_yes hr (by decide) rfl) ?_)
      refine Ev.else rfl ?_
      refine and_pure rfl rfl (and_pure rfl rfl ?_)
      have e1 : (z == 0) = false := by simpa using h0
      have e2 : (z != 0) = true := by simpa using h0
      exact Ev.bind (a := true) (Ev.then rfl (Ev.bind (a := false) (Ev.else e1 (Ev.pure _)) (Ev.bind (a := true) (Ev.else rfl (Ev.bind (a := true) (Ev.then e2 (Ev.pure _)) (Ev.bind (a := true) (Ev.then rfl (Ev.bind (FQSame_yes hr (by decide) rfl) (Ev.pure _))) (Ev.pure _)))) (Ev.pure _)))) (Ev.pure _)
theorem fback_ev' (f : Frac) (z : Int) (hz : (Lit.int .i64 z).wf = true) (s : Bs) : Ev (fun n => law05_FracBack n f z s) true := fback_ev f z (wf64 hz).1 (wf64 hz).2 s
end Go.Proofs.YtaanocaobllohaaGreatDoor.D
