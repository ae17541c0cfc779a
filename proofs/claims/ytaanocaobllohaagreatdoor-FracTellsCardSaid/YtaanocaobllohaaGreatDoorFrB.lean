/-
  FRACTIONS, second part: their texts, and reading.
-/
import Derived.Test.YtaanocaobllohaaGreatDoorFrA
namespace Go.Proofs.YtaanocaobllohaaGreatDoor.D
open Go Rt M
def b6h (f : Frac) : Bs := if a4q f = true then txt (ofB f.P) ++ 47 :: txt (ofB f.Q) else []
theorem c1d (r : Rat) : b6h (toF r) = txt r.num ++ 47 :: txt (r.den : Int) := by
  unfold b6h
  rw [if_pos (b5r r)]
  show txt (ofB (toB r.num)) ++ 47 :: txt (ofB (toB (r.den : Int))) = _
  rw [b1e, b1e]
theorem c5r {r : Rat} {k : Nat} (h : SmF k r) (hk : k < 1000000) : Ev (fun n => a5e n (toF r)) (txt r.num ++ 47 :: txt (r.den : Int)) := by
  have t1 := b5l h.1
  have t2 := b5l h.2
  unfold a5e
  refine Ev.bind (a3k h (by omega)) (Ev.else rfl ?_)
  refine Ev.bind (c5n h.1 hk) ?_
  refine Ev.step (a := txt r.num ++ [47]) (by unfold scat; rw [if_pos (by simp; omega)]) ?_
  refine Ev.bind (c5n h.2 hk) ?_
  refine Ev.step (a := (txt r.num ++ [47]) ++ txt (r.den : Int)) (by unfold scat; rw [if_pos (by simp; omega)]) ((Ev.pure _).eq (by simp))
theorem c3c {f : Frac} {k : Nat} (hp : f.P.Digits.length ≤ k) (hq : f.Q.Digits.length ≤ k) (hk : k < 1000000) : Ev (fun n => a5e n f) (b6h f) := by
  cases hr : a4q f with
  | false =>
    unfold a5e
    refine Ev.bind ((b4u hp hq (by omega)).eq hr) (Ev.then rfl ((Ev.pure _).eq ?_))
    unfold b6h
    rw [hr]; rfl
  | true =>
    obtain ⟨r, rfl⟩ := b1u hr
    rw [c1d]
    exact c5r (k := k) ⟨a3g hp, a3g hq⟩ hk
/- where a text is cut -/
def cutS : Bs → Bs × Bs × Bool
  | [] => ([], [], false)
  | b :: l => if b = 47 then ([], l, true) else (b :: (cutS l).1, (cutS l).2.1, (cutS l).2.2)
theorem cutS_spec : ∀ s : Bs, ((cutS s).2.2 = true ∧ Lib.indexByte s 47 = ((cutS s).1.length : Int) ∧ s = (cutS s).1 ++ 47 :: (cutS s).2.1) ∨ ((cutS s).2.2 = false ∧ Lib.indexByte s 47 = -1 ∧ (cutS s).1 = s ∧ (cutS s).2.1 = [])
  | [] => .inr ⟨rfl, rfl, rfl, rfl⟩
  | b :: l => by
    by_cases hb : b = 47
    · subst hb
      exact .inl ⟨rfl, rfl, rfl⟩
    · have e : cutS (b :: l) = (b :: (cutS l).1, (cutS l).2.1, (cutS l).2.2) := by unfold cutS; rw [if_neg hb]; cases l <;> rfl
      have e2 : Lib.indexByte (b :: l) 47 = if Lib.indexByte l 47 == -1 then -1 else Lib.indexByte l 47 + 1 := by
        have e3 : Lib.indexByte (b :: l) 47 = if (b == 47) = true then 0 else if Lib.indexByte l 47 == -1 then -1 else Lib.indexByte l 47 + 1 := rfl
        rw [e3, if_neg (by simpa using hb)]
      rw [e, e2]
      rcases cutS_spec l with ⟨h1, h2, h3⟩ | ⟨h1, h2, h3, h4⟩
      · refine .inl ⟨h1, ?_, ?_⟩
        · rw [h2, if_neg (by simp)]; rfl
        · show b :: l = b :: ((cutS l).1 ++ 47 :: (cutS l).2.1)
          rw [← h3]
      · refine .inr ⟨h1, ?_, ?_, h4⟩
        · rw [h2]; rfl
        · show b :: (cutS l).1 = b :: l
          rw [h3]
theorem c8f (n : Nat) (s : Bs) : a3f n s = some (Lib.indexByte s 47) := by
  unfold a3f
  by_cases h : s = [47]
  · subst h; rfl
  · rw [show ((([47] : Bs) == s) = false) from beq_false_of_ne (fun e => h e.symm), cond_false]
    have e : sidx [47] 0 = some 47 := rfl
    rw [e, Option.bind_some]; rfl
theorem c2v (u v : Bs) : ssl (u ++ 47 :: v) 0 (u.length : Int) = some u := by
  unfold ssl
  rw [if_pos ⟨by omega, by omega, by simp; omega⟩]
  simp
theorem c2w (u v : Bs) (h : u.length < 1099511627776) : ssl (u ++ 47 :: v) (iadd .i64 (u.length : Int) 1) (u ++ 47 :: v).length = some v := by
  rw [a2q (by omega) (by omega)]
  unfold ssl
  rw [if_pos ⟨by omega, by simp; omega, by omega⟩, show ((u.length : Int) + 1).toNat = u.length + 1 by omega, Int.toNat_natCast, List.take_length]
  simp
theorem d1b (n : Nat) (s : Bs) (hl : s.length < 1099511627776) : strings_Cut n s = some (cutS s) := by
  unfold strings_Cut a4n
  rw [c8f, Option.bind_some]
  rcases cutS_spec s with ⟨h1, h2, h3⟩ | ⟨h1, h2, h3, h4⟩
  · rw [h2]
    have hlen := congrArg List.length h3
    simp only [List.length_append, List.length_cons] at hlen
    have e1 := c2v (cutS s).1 (cutS s).2.1
    have e2 := c2w (cutS s).1 (cutS s).2.1 (by omega)
    rw [← h3] at e1 e2
    rw [show decide ((0 : Int) ≤ ((cutS s).1.length : Int)) = true by simp, cond_true, e1, Option.bind_some, e2, Option.bind_some, Option.bind_some]
    congr 1
    rw [← h1]
  · rw [h2]
    show some (s, ([] : Bs), false) = some (cutS s)
    congr 1
    rw [show cutS s = ((cutS s).1, (cutS s).2.1, (cutS s).2.2) from rfl, h1, h3, h4]
theorem c6c (s : Bs) : (cutS s).1.length ≤ s.length ∧ (cutS s).2.1.length ≤ s.length := by
  rcases cutS_spec s with ⟨h1, h2, h3⟩ | ⟨h1, h2, h3, h4⟩
  · have := congrArg List.length h3
    simp only [List.length_append, List.length_cons] at this
    omega
  · rw [h3, h4]; simp
/-- what is read -/
def c1h (s : Bs) : Frac × Int :=
  if (b2i (cutS s).1).2 = 0 ∧ (b2i (cutS s).2.1).2 = 0 ∧ a4q ⟨(b2i (cutS s).1).1, (b2i (cutS s).2.1).1⟩ = true ∧ b6h ⟨(b2i (cutS s).1).1, (b2i (cutS s).2.1).1⟩ = s then (⟨(b2i (cutS s).1).1, (b2i (cutS s).2.1).1⟩, 0) else (zeroF, 2)
theorem c7b {s : Bs} (hl : s.length < 1099511627776) (h1 : (cutS s).1.length ≤ 500) (h2 : (cutS s).2.1.length ≤ 500) : Ev (fun n => b0n n s) (c1h s) := by
  have l1 := b1s (cutS s).1 h1
  have l2 := b1s (cutS s).2.1 h2
  unfold b0n
  refine Ev.bind (Ev.all fun n => d1b n s hl) ?_
  refine Ev.bind (c5d h1) (Ev.bind (c5d h2) ?_)
  unfold c1h
  generalize b2i (cutS s).1 = p at *
  generalize b2i (cutS s).2.1 = q at *
  by_cases e1 : p.2 = 0
  · refine Ev.bind (a := decide (q.2 = 0)) (Ev.then (by simpa using e1) ((Ev.pure _).eq (by by_cases e : q.2 = 0 <;> simp [e]))) ?_
    by_cases e2 : q.2 = 0
    · rw [decide_eq_true e2]
      refine Ev.bind (Ev.then rfl (Ev.bind (b4u (f := ⟨p.1, q.1⟩) l1 l2 (by decide)) (Ev.pure _))) ?_
      cases hr : a4q ⟨p.1, q.1⟩ with
      | false =>
        rw [if_neg (by simp)]
        exact Ev.bind (a := false) (Ev.else rfl (Ev.pure _)) (Ev.else rfl (Ev.pure _))
      | true =>
        refine Ev.bind (a := (b6h ⟨p.1, q.1⟩ == s)) (Ev.then rfl (Ev.bind (c3c (f := ⟨p.1, q.1⟩) l1 l2 (by decide)) (Ev.pure _))) ?_
        by_cases ht : b6h ⟨p.1, q.1⟩ = s
        · rw [if_pos ⟨e1, e2, rfl, ht⟩]
          exact Ev.then (by simpa using ht) (Ev.pure _)
        · rw [if_neg (fun h => ht h.2.2.2)]
          exact Ev.else (beq_false_of_ne ht) (Ev.pure _)
    · rw [decide_eq_false e2, if_neg (fun h => e2 h.2.1)]
      exact Ev.bind (a := false) (Ev.else rfl (Ev.pure _)) (Ev.bind (a := false) (Ev.else rfl (Ev.pure _)) (Ev.else rfl (Ev.pure _)))
  · rw [if_neg (fun h => e1 h.1)]
    refine Ev.bind (a := false) (Ev.else (by simpa using e1) (Ev.pure _)) ?_
    exact Ev.bind (a := false) (Ev.else rfl (Ev.pure _)) (Ev.bind (a := false) (Ev.else rfl (Ev.pure _)) (Ev.else rfl (Ev.pure _)))
/- what the laws share -/
theorem d0o (f : Frac) (k : Int) : Ev (fun n => b1o n f k) (decide ((f.P.Digits.length : Int) ≤ k) && decide ((f.Q.Digits.length : Int) ≤ k)) := by
  refine Ev.all fun n => ?_
  unfold b1o
  cases decide ((f.P.Digits.length : Int) ≤ k) <;> rfl
theorem c0r {f : Frac} {k : Nat} (h : (decide ((f.P.Digits.length : Int) ≤ k) && decide ((f.Q.Digits.length : Int) ≤ k)) = true) : f.P.Digits.length ≤ k ∧ f.Q.Digits.length ≤ k := by
  simpa using h
theorem c0n {f : Frac} {k : Nat} (h : f.P.Digits.length ≤ k ∧ f.Q.Digits.length ≤ k) (hr : a4q f = true) : ∃ r, f = toF r ∧ SmF k r := by
  obtain ⟨r, rfl⟩ := b1u hr
  exact ⟨r, rfl, a3g h.1, a3g h.2⟩
end Go.Proofs.YtaanocaobllohaaGreatDoor.D
