/-
  FRACTIONS, second part: their texts, and reading.
-/
import Derived.Test.YtaanocaobllohaaGreatDoorFrA
namespace Go.Proofs.YtaanocaobllohaaGreatDoor.D
open Go Rt M

def textF (f : Frac) : Bs := if rightf f = true then txt (ofB f.P) ++ 47 :: txt (ofB f.Q) else []
theorem textF_toF (r : Rat) : textF (toF r) = txt r.num ++ 47 :: txt (r.den : Int) := by
  unfold textF
  rw [if_pos (rightf_toF r)]
  show txt (ofB (toB r.num)) ++ 47 :: txt (ofB (toB (r.den : Int))) = _
  rw [ofB_toB, ofB_toB]
theorem FText_toF {r : Rat} {k : Nat} (h : SmF k r) (hk : k < 1000000) : Ev (fun n => frac_Text n (toF r)) (txt r.num ++ 47 :: txt (r.den : Int)) := by
  have t1 := txt_len h.1
  have t2 := txt_len h.2
  unfold frac_Text
  refine Ev.bind (FRight_toF h (by omega)) (Ev.else rfl ?_)
  refine Ev.bind (Text_ev h.1 hk) ?_
  refine Ev.step (a := txt r.num ++ [47]) (by unfold scat; rw [if_pos (by simp; omega)]) ?_
  refine Ev.bind (Text_ev h.2 hk) ?_
  refine Ev.step (a := (txt r.num ++ [47]) ++ txt (r.den : Int)) (by unfold scat; rw [if_pos (by simp; omega)]) ((Ev.pure _).eq (by simp))
theorem FText_ev {f : Frac} {k : Nat} (hp : f.P.Digits.length ≤ k) (hq : f.Q.Digits.length ≤ k) (hk : k < 1000000) : Ev (fun n => frac_Text n f) (textF f) := by
  cases hr : rightf f with
  | false =>
    unfold frac_Text
    refine Ev.bind ((FRight_ev hp hq (by omega)).eq hr) (Ev.then rfl ((Ev.pure _).eq ?_))
    unfold textF
    rw [hr]; rfl
  | true =>
    obtain ⟨r, rfl⟩ := toF_of_rightf hr
    rw [textF_toF]
    exact FText_toF (k := k) ⟨sm_of_len hp, sm_of_len hq⟩ hk

/- where a text is cut -/
def cutS : Bs → Bs × Bs × Bool
  | [] => ([], [], false)
  | b :: l => if b = 47 then ([], l, true) else (b :: (cutS l).1, (cutS l).2.1, (cutS l).2.2)
theorem cutS_spec : ∀ s : Bs, ((cutS s).2.2 = true ∧ Lib.indexByte s 47 = ((cutS s).1.length : Int) ∧ s = (cutS s).1 ++ 47 :: (cutS s).2.1) ∨ ((cutS s).2.2 = false ∧ Lib.indexByte s 47 = -1 ∧ (cutS s).1 = s ∧ (cutS s).2.1 = [])
  | [] => .inr ⟨rfl, rfl, rfl, rfl⟩
  | b :: l => by
    by_cases hb : b = 47
    · subst hb
      exact .inl ⟨rfl, rfl, rfl⟩
    · have e : cutS (b :: l) = (b :: (cutS l).1, (cutS l).2.1, (cutS l).2.2) := by unfold cutS; rw [if_neg hb]; cases l <;> rfl
      have e2 : Lib.indexByte (b :: l) 47 = if Lib.indexByte l 47 == -1 then -1 else Lib.indexByte l 47 + 1 := by
        have e3 : Lib.indexByte (b :: l) 47 = if (b == 47) = true then 0 else if Lib.indexByte l 47 == -1 then -1 else Lib.indexByte l 47 + 1 := rfl
        rw [e3, if_neg (by simpa using hb)]
      rw [e, e2]
      rcases cutS_spec l with ⟨h1, h2, h3⟩ | ⟨h1, h2, h3, h4⟩
      · refine .inl ⟨h1, ?_, ?_⟩
        · rw [h2, if_neg (by simp)]; rfl
        · show b :: l = b :: ((cutS l).1 ++ 47 :: (cutS l).2.1)
          rw [← h3]
      · refine .inr ⟨h1, ?_, ?_, h4⟩
        · rw [h2]; rfl
        · show b :: (cutS l).1 = b :: l
          rw [h3]
theorem Index_n (n : Nat) (s : Bs) : internal_stringslite_Index n s = some (Lib.indexByte s 47) := by
  unfold internal_stringslite_Index
  by_cases h : s = [47]
  · subst h; rfl
  · rw [show ((([47] : Bs) == s) = false) from beq_false_of_ne (fun e => h e.symm), cond_false]
    have e : sidx [47] 0 = some 47 := rfl
    rw [e, Option.bind_some]; rfl
theorem ssl_cut1 (u v : Bs) : ssl (u ++ 47 :: v) 0 (u.length : Int) = some u := by
  unfold ssl
  rw [if_pos ⟨by omega, by omega, by simp; omega⟩]
  simp
theorem ssl_cut2 (u v : Bs) (h : u.length < 1099511627776) : ssl (u ++ 47 :: v) (iadd .i64 (u.length : Int) 1) (u ++ 47 :: v).length = some v := by
  rw [iadd_i64 (by omega) (by omega)]
  unfold ssl
  rw [if_pos ⟨by omega, by simp; omega, by omega⟩, show ((u.length : Int) + 1).toNat = u.length + 1 by omega, Int.toNat_natCast, List.take_length]
  simp
theorem Cut_n (n : Nat) (s : Bs) (hl : s.length < 1099511627776) : strings_Cut n s = some (cutS s) := by
  unfold strings_Cut internal_stringslite_Cut
  rw [Index_n, Option.bind_some]
  rcases cutS_spec s with ⟨h1, h2, h3⟩ | ⟨h1, h2, h3, h4⟩
  · rw [h2]
    have hlen := congrArg List.length h3
    simp only [List.length_append, List.length_cons] at hlen
    have e1 := ssl_cut1 (cutS s).1 (cutS s).2.1
    have e2 := ssl_cut2 (cutS s).1 (cutS s).2.1 (by omega)
    rw [← h3] at e1 e2
    rw [show decide ((0 : Int) ≤ ((cutS s).1.length : Int)) = true by simp, cond_true, e1, Option.bind_some, e2, Option.bind_some, Option.bind_some]
    congr 1
    rw [← h1]
  · rw [h2]
    show some (s, ([] : Bs), false) = some (cutS s)
    congr 1
    rw [show cutS s = ((cutS s).1, (cutS s).2.1, (cutS s).2.2) from rfl, h1, h3, h4]
theorem cutS_len (s : Bs) : (cutS s).1.length ≤ s.length ∧ (cutS s).2.1.length ≤ s.length := by
  rcases cutS_spec s with ⟨h1, h2, h3⟩ | ⟨h1, h2, h3, h4⟩
  · have := congrArg List.length h3
    simp only [List.length_append, List.length_cons] at this
    omega
  · rw [h3, h4]; simp
theorem cutS_append : ∀ (u v : Bs), (∀ b ∈ u, b ≠ 47) → cutS (u ++ 47 :: v) = (u, v, true)
  | [], _, _ => rfl
  | b :: u, v, h => by
    have hb : b ≠ 47 := h b (by simp)
    show cutS (b :: (u ++ 47 :: v)) = _
    unfold cutS
    rw [if_neg hb, cutS_append u v fun c hc => h c (by simp [hc])]
theorem txt_no (x : Int) : ∀ b ∈ txt x, b ≠ 47 := by
  have hd : ∀ b ∈ Lib.decDigits x.natAbs, b ≠ 47 := by
    intro b hb
    have := List.all_eq_true.1 (isd_dec x.natAbs) b hb
    have hr := isd_range this
    intro e
    subst e
    have : (47 : UInt8).toNat = 47 := rfl
    omega
  unfold txt
  split
  · intro b hb
    rcases List.mem_cons.1 hb with rfl | hb
    · decide
    · exact hd b hb
  · exact hd

/-- what is read -/
def readF (s : Bs) : Frac × Int :=
  if (readB (cutS s).1).2 = 0 ∧ (readB (cutS s).2.1).2 = 0 ∧ rightf ⟨(readB (cutS s).1).1, (readB (cutS s).2.1).1⟩ = true ∧ textF ⟨(readB (cutS s).1).1, (readB (cutS s).2.1).1⟩ = s then (⟨(readB (cutS s).1).1, (readB (cutS s).2.1).1⟩, 0) else (zeroF, 2)
theorem FRead_ev {s : Bs} (hl : s.length < 1099511627776) (h1 : (cutS s).1.length ≤ 500) (h2 : (cutS s).2.1.length ≤ 500) : Ev (fun n => frac_Read n s) (readF s) := by
  have l1 := readB_len (cutS s).1 h1
  have l2 := readB_len (cutS s).2.1 h2
  unfold frac_Read
  refine Ev.bind (Ev.all fun n => Cut_n n s hl) ?_
  refine Ev.bind (Read_ev h1) (Ev.bind (Read_ev h2) ?_)
  unfold readF
  generalize readB (cutS s).1 = p at *
  generalize readB (cutS s).2.1 = q at *
  by_cases e1 : p.2 = 0
  · refine Ev.bind (a := decide (q.2 = 0)) (Ev.then (by simpa using e1) ((Ev.pure _).eq (by by_cases e : q.2 = 0 <;> simp [e]))) ?_
    by_cases e2 : q.2 = 0
    · rw [decide_eq_true e2]
      refine Ev.bind (Ev.then rfl (Ev.bind (FRight_ev (f := ⟨p.1, q.1⟩) l1 l2 (by decide)) (Ev.pure _))) ?_
      cases hr : rightf ⟨p.1, q.1⟩ with
      | false =>
        rw [if_neg (by simp)]
        exact Ev.bind (a := false) (Ev.else rfl (Ev.pure _)) (Ev.else rfl (Ev.pure _))
      | true =>
        refine Ev.bind (a := (textF ⟨p.1, q.1⟩ == s)) (Ev.then rfl (Ev.bind (FText_ev (f := ⟨p.1, q.1⟩) l1 l2 (by decide)) (Ev.pure _))) ?_
        by_cases ht : textF ⟨p.1, q.1⟩ = s
        · rw [if_pos ⟨e1, e2, rfl, ht⟩]
          exact Ev.then (by simpa using ht) (Ev.pure _)
        · rw [if_neg (fun h => ht h.2.2.2)]
          exact Ev.else (beq_false_of_ne ht) (Ev.pure _)
    · rw [decide_eq_false e2, if_neg (fun h => e2 h.2.1)]
      exact Ev.bind (a := false) (Ev.else rfl (Ev.pure _)) (Ev.bind (a := false) (Ev.else rfl (Ev.pure _)) (Ev.else rfl (Ev.pure _)))
  · rw [if_neg (fun h => e1 h.1)]
    refine Ev.bind (a := false) (Ev.else (by simpa using e1) (Ev.pure _)) ?_
    exact Ev.bind (a := false) (Ev.else rfl (Ev.pure _)) (Ev.bind (a := false) (Ev.else rfl (Ev.pure _)) (Ev.else rfl (Ev.pure _)))
/-- what is read, in full -/
theorem readF_all (s : Bs) : (∃ r, readF s = (toF r, 0) ∧ textF (toF r) = s) ∨ readF s = (zeroF, 2) := by
  unfold readF
  split
  · rename_i h
    obtain ⟨r, hr⟩ := toF_of_rightf h.2.2.1
    left
    refine ⟨r, by rw [hr], ?_⟩
    rw [← hr]; exact h.2.2.2
  · exact .inr rfl
theorem readB_txt {x : Int} (hl : (txt x).length ≤ 500) : readB (txt x) = (toB x, 0) := by
  have h1 := Read_ev hl
  by_cases hx : x = 0
  · subst hx
    have h0 : txt 0 = [48] := by unfold txt; rw [if_neg (by omega), show (0 : Int).natAbs = 0 from rfl, dec_small (by decide)]; rfl
    rw [h0] at h1 ⊢
    rw [h1.uniq Read_zero, toB_zero]
  · have h2 := Read_digits (x := x) (l := []) hx rfl (by simpa using hl)
    rw [List.append_nil] at h2
    rw [h1.uniq h2]
    congr 2
    show sg x * ((x.natAbs : Nat) : Int) = x
    exact sg_natAbs x
theorem readF_text {r : Rat} (h1 : (txt r.num).length ≤ 500) (h2 : (txt (r.den : Int)).length ≤ 500) : readF (txt r.num ++ 47 :: txt (r.den : Int)) = (toF r, 0) := by
  unfold readF
  rw [cutS_append _ _ (txt_no r.num)]
  simp only
  rw [readB_txt h1, readB_txt h2]
  exact if_pos ⟨rfl, rfl, rightf_toF r, textF_toF r⟩

/- what the laws share -/
theorem few05 (f : Frac) (k : Int) : Ev (fun n => ref05_Few n f k) (decide ((f.P.Digits.length : Int) ≤ k) && decide ((f.Q.Digits.length : Int) ≤ k)) := by
  refine Ev.all fun n => ?_
  unfold ref05_Few
  cases decide ((f.P.Digits.length : Int) ≤ k) <;> rfl
theorem few05_len {f : Frac} {k : Nat} (h : (decide ((f.P.Digits.length : Int) ≤ k) && decide ((f.Q.Digits.length : Int) ≤ k)) = true) : f.P.Digits.length ≤ k ∧ f.Q.Digits.length ≤ k := by
  simpa using h
theorem rat_of {f : Frac} {k : Nat} (h : f.P.Digits.length ≤ k ∧ f.Q.Digits.length ≤ k) (hr : rightf f = true) : ∃ r, f = toF r ∧ SmF k r := by
  obtain ⟨r, rfl⟩ := toF_of_rightf hr
  exact ⟨r, rfl, sm_of_len h.1, sm_of_len h.2⟩
theorem LRight {r : Rat} {k : Nat} (h : SmF k r) (hk : k < 8388608) : Ev (fun n => law05_right n (toF r) 0) (toF r, true) := by
  unfold law05_right
  exact Ev.bind (Ev.then rfl (Ev.bind (FRight_toF h hk) (Ev.pure _))) (Ev.pure _)
theorem Lof {x y : Int} (h1 : -9223372036854775808 ≤ x) (h2 : x ≤ 9223372036854775807) (h3 : -9223372036854775808 ≤ y) (h4 : y ≤ 9223372036854775807) (h0 : y ≠ 0) : Ev (fun n => law05_of n x y) (toF (Rat.divInt x y)) := by
  unfold law05_of
  exact Ev.bind (FOf_ev h1 h2 h3 h4 h0) (Ev.pure _)
end Go.Proofs.YtaanocaobllohaaGreatDoor.D
