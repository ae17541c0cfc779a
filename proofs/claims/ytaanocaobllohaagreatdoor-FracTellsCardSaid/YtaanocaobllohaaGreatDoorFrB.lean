/-
  FRACTIONS, second part: their texts, and reading.
-/
import Derived.Test.YtaanocaobllohaaGreatDoorFrA
namespace Go.Proofs.YtaanocaobllohaaGreatDoor.D
open Go Rt M
def b6d (f : Frac) : Bs := if a4l f = true then txt (ofB f.P) ++ 47 :: txt (ofB f.Q) else []
theorem c0g (r : Rat) : b6d (toF r) = txt r.num ++ 47 :: txt (r.den : Int) := by
  unfold b6d
  rw [if_pos (b5s r)]
  show txt (ofB (toB r.num)) ++ 47 :: txt (ofB (toB (r.den : Int))) = _
  rw [b1k, b1k]
theorem c5j {r : Rat} {k : Nat} (h : SmF k r) (hk : k < 1000000) : Ev (fun n => a5a n (toF r)) (txt r.num ++ 47 :: txt (r.den : Int)) := by
  have t1 := b5o h.1
  have t2 := b5o h.2
  unfold a5a
  refine Ev.bind (a3h h (by omega)) (Ev.else rfl ?_)
  refine Ev.bind (c4h h.1 hk) ?_
  refine Ev.step (a := txt r.num ++ [47]) (by unfold scat; rw [if_pos (by simp; omega)]) ?_
  refine Ev.bind (c4h h.2 hk) ?_
  refine Ev.step (a := (txt r.num ++ [47]) ++ txt (r.den : Int)) (by unfold scat; rw [if_pos (by simp; omega)]) ((Ev.pure _).eq (by simp))
theorem c2n {f : Frac} {k : Nat} (hp : f.P.Digits.length ≤ k) (hq : f.Q.Digits.length ≤ k) (hk : k < 1000000) : Ev (fun n => a5a n f) (b6d f) := by
  cases hr : a4l f with
  | false =>
    unfold a5a
    refine Ev.bind ((b4x hp hq (by omega)).eq hr) (Ev.then rfl ((Ev.pure _).eq ?_))
    unfold b6d
    rw [hr]; rfl
  | true =>
    obtain ⟨r, rfl⟩ := b1y hr
    rw [c0g]
    exact c5j (k := k) ⟨a3d hp, a3d hq⟩ hk
/- where a text is cut -/
def cutS : Bs → Bs × Bs × Bool
  | [] => ([], [], false)
  | b :: l => if b = 47 then ([], l, true) else (b :: (cutS l).1, (cutS l).2.1, (cutS l).2.2)
theorem cutS_spec : ∀ s : Bs, ((cutS s).2.2 = true ∧ Lib.indexByte s 47 = ((cutS s).1.length : Int) ∧ s = (cutS s).1 ++ 47 :: (cutS s).2.1) ∨ ((cutS s).2.2 = false ∧ Lib.indexByte s 47 = -1 ∧ (cutS s).1 = s ∧ (cutS s).2.1 = [])
  | [] => .inr ⟨rfl, rfl, rfl, rfl⟩
  | b :: l => by
    by_cases hb : b = 47
    · subst hb
      exact .inl ⟨rfl, rfl, rfl⟩
    · have e : cutS (b :: l) = (b :: (cutS l).1, (cutS l).2.1, (cutS l).2.2) := by unfold cutS; rw [if_neg hb]; cases l <;> rfl
      have e2 : Lib.indexByte (b :: l) 47 = if Lib.indexByte l 47 == -1 then -1 else Lib.indexByte l 47 + 1 := by
        have e3 : Lib.indexByte (b :: l) 47 = if (b == 47) = true then 0 else if Lib.indexByte l 47 == -1 then -1 else Lib.indexByte l 47 + 1 := rfl
        rw [e3, if_neg (by simpa using hb)]
      rw [e, e2]
      rcases cutS_spec l with ⟨h1, h2, h3⟩ | ⟨h1, h2, h3, h4⟩
      · refine .inl ⟨h1, ?_, ?_⟩
        · rw [h2, if_neg (by simp)]; rfl
        · show b :: l = b :: ((cutS l).1 ++ 47 :: (cutS l).2.1)
          rw [← h3]
      · refine .inr ⟨h1, ?_, ?_, h4⟩
        · rw [h2]; rfl
        · show b :: (cutS l).1 = b :: l
          rw [h3]
theorem c7t (n : Nat) (s : Bs) : a3c n s = some (Lib.indexByte s 47) := by
  unfold a3c
  by_cases h : s = [47]
  · subst h; rfl
  · rw [show ((([47] : Bs) == s) = false) from beq_false_of_ne (fun e => h e.symm), cond_false]
    have e : sidx [47] 0 = some 47 := rfl
    rw [e, Option.bind_some]; rfl
theorem c2c (u v : Bs) : ssl (u ++ 47 :: v) 0 (u.length : Int) = some u := by
  unfold ssl
  rw [if_pos ⟨by omega, by omega, by simp; omega⟩]
  simp
theorem c2k (u v : Bs) (h : u.length < 1099511627776) : ssl (u ++ 47 :: v) (iadd .i64 (u.length : Int) 1) (u ++ 47 :: v).length = some v := by
  rw [a2q (by omega) (by omega)]
  unfold ssl
  rw [if_pos ⟨by omega, by simp; omega, by omega⟩, show ((u.length : Int) + 1).toNat = u.length + 1 by omega, Int.toNat_natCast, List.take_length]
  simp
theorem d0s (n : Nat) (s : Bs) (hl : s.length < 1099511627776) : a9r n s = some (cutS s) := by
  unfold a9r a4f
  rw [c7t, Option.bind_some]
  rcases cutS_spec s with ⟨h1, h2, h3⟩ | ⟨h1, h2, h3, h4⟩
  · rw [h2]
    have hlen := congrArg List.length h3
    simp only [List.length_append, List.length_cons] at hlen
    have e1 := c2c (cutS s).1 (cutS s).2.1
    have e2 := c2k (cutS s).1 (cutS s).2.1 (by omega)
    rw [← h3] at e1 e2
    rw [show decide ((0 : Int) ≤ ((cutS s).1.length : Int)) = true by simp, cond_true, e1, Option.bind_some, e2, Option.bind_some, Option.bind_some]
    congr 1
    rw [← h1]
  · rw [h2]
    show some (s, ([] : Bs), false) = some (cutS s)
    congr 1
    rw [show cutS s = ((cutS s).1, (cutS s).2.1, (cutS s).2.2) from rfl, h1, h3, h4]
theorem c6e (s : Bs) : (cutS s).1.length ≤ s.length ∧ (cutS s).2.1.length ≤ s.length := by
  rcases cutS_spec s with ⟨h1, h2, h3⟩ | ⟨h1, h2, h3, h4⟩
  · have := congrArg List.length h3
    simp only [List.length_append, List.length_cons] at this
    omega
  · rw [h3, h4]; simp
/-- what is read -/
def c0s (s : Bs) : Frac × Int :=
  if (b2j (cutS s).1).2 = 0 ∧ (b2j (cutS s).2.1).2 = 0 ∧ a4l ⟨(b2j (cutS s).1).1, (b2j (cutS s).2.1).1⟩ = true ∧ b6d ⟨(b2j (cutS s).1).1, (b2j (cutS s).2.1).1⟩ = s then (⟨(b2j (cutS s).1).1, (b2j (cutS s).2.1).1⟩, 0) else (zeroF, 2)
theorem c6i {s : Bs} (hl : s.length < 1099511627776) (h1 : (cutS s).1.length ≤ 500) (h2 : (cutS s).2.1.length ≤ 500) : Ev (fun n => a9q n s) (c0s s) := by
  have l1 := b1u (cutS s).1 h1
  have l2 := b1u (cutS s).2.1 h2
  unfold a9q
  refine Ev.bind (Ev.all fun n => d0s n s hl) ?_
  refine Ev.bind (c4s h1) (Ev.bind (c4s h2) ?_)
  unfold c0s
  generalize b2j (cutS s).1 = p at *
  generalize b2j (cutS s).2.1 = q at *
  by_cases e1 : p.2 = 0
  · refine Ev.bind (a := decide (q.2 = 0)) (Ev.then (by simpa using e1) ((Ev.pure _).eq (by by_cases e : q.2 = 0 <;> simp [e]))) ?_
    by_cases e2 : q.2 = 0
    · rw [decide_eq_true e2]
      refine Ev.bind (Ev.then rfl (Ev.bind (b4x (f := ⟨p.1, q.1⟩) l1 l2 (by decide)) (Ev.pure _))) ?_
      cases hr : a4l ⟨p.1, q.1⟩ with
      | false =>
        rw [if_neg (by simp)]
        exact Ev.bind (a := false) (Ev.else rfl (Ev.pure _)) (Ev.else rfl (Ev.pure _))
      | true =>
        refine Ev.bind (a := (b6d ⟨p.1, q.1⟩ == s)) (Ev.then rfl (Ev.bind (c2n (f := ⟨p.1, q.1⟩) l1 l2 (by decide)) (Ev.pure _))) ?_
        by_cases ht : b6d ⟨p.1, q.1⟩ = s
        · rw [if_pos ⟨e1, e2, rfl, ht⟩]
          exact Ev.then (by simpa using ht) (Ev.pure _)
        · rw [if_neg (fun h => ht h.2.2.2)]
          exact Ev.else (beq_false_of_ne ht) (Ev.pure _)
    · rw [decide_eq_false e2, if_neg (fun h => e2 h.2.1)]
      exact Ev.bind (a := false) (Ev.else rfl (Ev.pure _)) (Ev.bind (a := false) (Ev.else rfl (Ev.pure _)) (Ev.else rfl (Ev.pure _)))
  · rw [if_neg (fun h => e1 h.1)]
    refine Ev.bind (a := false) (Ev.else (by simpa using e1) (Ev.pure _)) ?_
    exact Ev.bind (a := false) (Ev.else rfl (Ev.pure _)) (Ev.bind (a := false) (Ev.else rfl (Ev.pure _)) (Ev.else rfl (Ev.pure _)))
/- what the laws share -/
theorem d0a (f : Frac) (k : Int) : Ev (fun n => b1m n f k) (decide ((f.P.Digits.length : Int) ≤ k) && decide ((f.Q.Digits.length : Int) ≤ k)) := by
  refine Ev.all fun n => ?_
  unfold b1m
  cases decide ((f.P.Digits.length : Int) ≤ k) <;> rfl
theorem c0u {f : Frac} {k : Nat} (h : (decide ((f.P.Digits.length : Int) ≤ k) && decide ((f.Q.Digits.length : Int) ≤ k)) = true) : f.P.Digits.length ≤ k ∧ f.Q.Digits.length ≤ k := by
  simpa using h
theorem c0k {f : Frac} {k : Nat} (h : f.P.Digits.length ≤ k ∧ f.Q.Digits.length ≤ k) (hr : a4l f = true) : ∃ r, f = toF r ∧ SmF k r := by
  obtain ⟨r, rfl⟩ := b1y hr
  exact ⟨r, rfl, a3d h.1, a3d h.2⟩
end Go.Proofs.YtaanocaobllohaaGreatDoor.D
