/-
  THE LAW BigTells, in plain Lean: the mirrored law is true at all arguments.
-/
import Derived.Test.YtaiiclbemlmmaaaGreatDoorRefK
import Derived.Test.YtaiiclbemlmmaaaGreatDoorMirT2
namespace Go.Proofs.YtaiiclbemlmmaaaGreatDoor.D
open Go Rt M

theorem ne_self (x : Int) : (x != x) = false := by simp
theorem tells_tail {a b : Big} (ha : a.Digits.length ≤ 62) (hb : b.Digits.length ≤ 62) (k : Int) (hk1 : -9223372036854775808 ≤ k) (hk2 : k ≤ 9223372036854775807) : Ev (fun n =>
          (big_Right n (⟨a.Sign, a.Digits⟩ : Big)).bind fun v54 =>
          (ref04_Right n (⟨a.Sign, a.Digits⟩ : Big)).bind fun v55 =>
          (bif v54 == v55 then
            (big_Compare n (⟨a.Sign, a.Digits⟩ : Big) (⟨b.Sign, b.Digits⟩ : Big)).bind fun v72 =>
            (ref04_Compare n (⟨a.Sign, a.Digits⟩ : Big) (⟨b.Sign, b.Digits⟩ : Big)).bind fun v73 =>
            some (v72 == v73)
          else
            some false).bind fun v56 =>
          (bif v56 then
            (big_Same n (⟨a.Sign, a.Digits⟩ : Big) (⟨b.Sign, b.Digits⟩ : Big)).bind fun v70 =>
            (ref04_Same n (⟨a.Sign, a.Digits⟩ : Big) (⟨b.Sign, b.Digits⟩ : Big)).bind fun v71 =>
            some (v70 == v71)
          else
            some false).bind fun v57 =>
          (bif v57 then
            (big_Text n (⟨a.Sign, a.Digits⟩ : Big)).bind fun v68 =>
            (ref04_Text n (⟨a.Sign, a.Digits⟩ : Big)).bind fun v69 =>
            some (v68 == v69)
          else
            some false).bind fun v58 =>
          (bif true then
            some v58
          else
            some false).bind fun v59 =>
          (bif v59 then
            (big_Neg n (⟨a.Sign, a.Digits⟩ : Big)).bind fun v65 =>
            (ref04_Neg n (⟨a.Sign, a.Digits⟩ : Big)).bind fun v66 =>
            (ref04_Same n v65 v66).bind fun v67 =>
            some v67
          else
            some false).bind fun v60 =>
          (bif v60 then
            (big_Of n k).bind fun v62 =>
            (ref04_Of n k).bind fun v63 =>
            (ref04_Same n v62 v63).bind fun v64 =>
            some v64
          else
            some false).bind fun v61 =>
          some v61) true := by
  refine Ev.bind (Right_ev (a := a) (by omega)) ?_
  refine Ev.bind (RRight_ev (a := a) (by omega)) ?_
  obtain ⟨rc, c1, c2, _⟩ := Compare_both ha hb
  refine Ev.bind (a := true) (Ev.then (by simp) (Ev.bind c1 (Ev.bind c2 ((Ev.pure _).eq (by simp))))) ?_
  refine Ev.bind (a := true) (Ev.then rfl (Ev.bind (Same_ev (a := a) (b := b) (by omega)) (Ev.bind (RSame_ev (a := a) (b := b) (by omega)) ((Ev.pure _).eq (by simp))))) ?_
  obtain ⟨rt, t1, t2, _⟩ := Text_both ha
  refine Ev.bind (a := true) (Ev.then rfl (Ev.bind t1 (Ev.bind t2 ((Ev.pure _).eq (by simp))))) ?_
  refine Ev.bind (a := true) (Ev.then rfl (Ev.pure _)) ?_
  obtain ⟨rn, n1, n2, n3⟩ := Neg_both ha
  refine Ev.bind (a := true) (Ev.then rfl (Ev.bind n1 (Ev.bind n2 (Ev.bind (RSame_self n3 rfl) (Ev.pure _))))) ?_
  have hl : (toB k).Digits.length ≤ 1000 := by have := len64 (u := k.natAbs) (by omega); show (dig k.natAbs).length ≤ 1000; omega
  refine Ev.bind (a := true) (Ev.then rfl (Ev.bind (Of_ev hk1 hk2) (Ev.bind (ROf_ev hk1 hk2) (Ev.bind (RSame_self hl rfl) (Ev.pure _))))) ?_
  exact Ev.pure _
theorem tells_ev (a b : Big) (k : Int) (hk1 : -9223372036854775808 ≤ k) (hk2 : k ≤ 9223372036854775807) (s : Bs) : Ev (fun n => law04_BigTells n a b k s) true := by
  unfold law04_BigTells
  refine Ev.bind small_ev ?_
  refine Ev.bind (few_ev a 62) ?_
  refine or_any (fun _ => few_ev b 62) ?_
  refine Ev.bind (a := (!decide ((a.Digits.length : Int) ≤ 62) || !decide ((b.Digits.length : Int) ≤ 62)) || decide (400 < (s.length : Int))) ?_ ?_
  · cases (!decide ((a.Digits.length : Int) ≤ 62) || !decide ((b.Digits.length : Int) ≤ 62)) with
    | true => exact Ev.then rfl (Ev.pure _)
    | false => exact Ev.else rfl (Ev.pure _)
  refine guard fun hV => ?_
  simp only [Bool.or_eq_false_iff, Bool.not_eq_false', decide_eq_false_iff_not] at hV
  obtain ⟨⟨g1, g2⟩, g3⟩ := hV
  have ha := few_len (k := 62) g1
  have hb := few_len (k := 62) g2
  have hs : s.length ≤ 400 := by omega
  clear g1 g2 g3
  obtain ⟨r1, h1, h1', l1⟩ := Add_both ha hb
  obtain ⟨r2, h2, h2', l2⟩ := Sub_both ha hb
  obtain ⟨r3, h3, h3', l3⟩ := Mul_both ha hb
  refine Ev.bind h1 (Ev.bind h1' (Ev.bind h2 (Ev.bind h2' (Ev.bind h3 (Ev.bind h3' ?_)))))
  refine or_pure (ne_self _) (ne_self _) ?_
  refine or_pure rfl (ne_self _) ?_
  refine or_call rfl (RSame_self l1 rfl) ?_
  refine or_call rfl (RSame_self l2 rfl) ?_
  refine or_call rfl (RSame_self l3 rfl) ?_
  refine Ev.else rfl ?_
  obtain ⟨r4, h4, h4', l4, l5⟩ := Div_both ha hb
  obtain ⟨r5, h5, h5', _⟩ := Int_both ha
  refine Ev.bind h4 (Ev.bind h4' (Ev.bind h5 (Ev.bind h5' (Ev.bind (Read_ev (by omega)) (Ev.bind (RRead_ev (by omega)) ?_)))))
  refine or_call (ne_self _) (RSame_self l4 rfl) ?_
  refine or_call rfl (RSame_self l5 rfl) ?_
  refine or_pure rfl (ne_self _) ?_
  refine or_pure rfl (by simp) ?_
  refine or_pure rfl (ne_self _) ?_
  refine or_call rfl (RSame_self (readB_len s (by omega)) rfl) ?_
  refine Ev.else rfl ?_
  refine Ev.bind (few_ev a 16) ?_
  refine Ev.bind (a := decide ((a.Digits.length : Int) ≤ 16) && decide ((b.Digits.length : Int) ≤ 16)) ?_ ?_
  · cases decide ((a.Digits.length : Int) ≤ 16) with
    | true => exact Ev.then rfl (Ev.bind (few_ev b 16) (Ev.pure _))
    | false => exact Ev.else rfl (Ev.pure _)
  cases decide ((a.Digits.length : Int) ≤ 16) && decide ((b.Digits.length : Int) ≤ 16) with
  | true =>
    refine Ev.then rfl ?_
    obtain ⟨r6, h6, h6', l6⟩ := Gcd_both ha hb
    refine Ev.bind h6 (Ev.bind h6' ?_)
    refine or_call (ne_self _) (RSame_self l6 rfl) ?_
    exact Ev.else rfl (tells_tail ha hb k hk1 hk2)
  | false => exact Ev.else rfl (tells_tail ha hb k hk1 hk2)
theorem tells_ev' (a b : Big) (k : Int) (hk : (Lit.int .i64 k).wf = true) (s : Bs) : Ev (fun n => law04_BigTells n a b k s) true := tells_ev a b k (wf64 hk).1 (wf64 hk).2 s
end Go.Proofs.YtaiiclbemlmmaaaGreatDoor.D
