/-
  THE LAW FracTells, in plain Lean: the mirrored law is true at all arguments.
-/
import Derived.Test.YtaanocaobllohaaGreatDoorFrQ
import Derived.Test.YtaanocaobllohaaGreatDoorMirT2
namespace Go.Proofs.YtaanocaobllohaaGreatDoor.D
open Go Rt M
def FewL (r : Frac) : Prop := r.P.Digits.length ≤ 1000 ∧ r.Q.Digits.length ≤ 1000
theorem a8s {r : Rat} {k : Nat} (h : SmF k r) (hk : k ≤ 1000) : FewL (toF r) := by
  have := b7f h
  exact ⟨by omega, by omega⟩
theorem FewL_zero : FewL zeroF := ⟨by decide, by decide⟩
def b9l (f : Frac) : Prop := f.P.Digits.length ≤ 40 ∧ f.Q.Digits.length ≤ 40
theorem b0h {f g : Frac} (hf : b9l f) (hg : b9l g) : (a4q f && a4q g) = false ∨ ∃ a b, f = toF a ∧ g = toF b ∧ SmF 40 a ∧ SmF 40 b := by
  cases h : a4q f && a4q g with
  | false => exact .inl rfl
  | true =>
    right
    simp only [Bool.and_eq_true] at h
    obtain ⟨a, rfl, ha⟩ := c0n hf h.1
    obtain ⟨b, rfl, hb⟩ := c0n hg h.2
    exact ⟨a, b, rfl, rfl, ha, hb⟩
theorem PR {f : Frac} (h : b9l f) : Ev (fun n => a2n n f) (a4q f) := b4u h.1 h.2 (by decide)
theorem QR {f : Frac} (h : b9l f) : Ev (fun n => a2f n f) (a4q f) := b6z h.1 h.2 (by decide)
section
variable {f g : Frac} (hf : b9l f) (hg : b9l g)
include hf hg
theorem FAdd_both : Two (fun n => a9i n f g) (fun n => a9r n f g) (fun r => FewL r.1) := by
  rcases b0h hf hg with h | ⟨a, b, rfl, rfl, ha, hb⟩
  · refine ⟨(zeroF, 1), ?_, ?_, FewL_zero⟩
    · unfold a9i
      exact bad2 (PR hf) (PR hg) h (Ev.pure _)
    · unfold a9r
      exact bad2 (QR hf) (QR hg) h (Ev.pure _)
  · exact ⟨_, FAdd_ev ha hb (by decide), QAdd_ev ha hb (by decide), a8s (ha.add hb) (by decide)⟩
theorem FSub_both : Two (fun n => b0u n f g) (fun n => b0b n f g) (fun r => FewL r.1) := by
  rcases b0h hf hg with h | ⟨a, b, rfl, rfl, ha, hb⟩
  · refine ⟨(zeroF, 1), ?_, ?_, FewL_zero⟩
    · unfold b0u
      exact bad2 (PR hf) (PR hg) h (Ev.pure _)
    · unfold b0b
      exact bad2 (QR hf) (QR hg) h (Ev.pure _)
  · exact ⟨_, FSub_ev ha hb (by decide), QSub_ev ha hb (by decide), a8s (ha.sub hb) (by decide)⟩
theorem FMul_both : Two (fun n => b0v n f g) (fun n => a9w n f g) (fun r => FewL r.1) := by
  rcases b0h hf hg with h | ⟨a, b, rfl, rfl, ha, hb⟩
  · refine ⟨(zeroF, 1), ?_, ?_, FewL_zero⟩
    · unfold b0v
      exact bad2 (PR hf) (PR hg) h (Ev.pure _)
    · unfold a9w
      exact bad2 (QR hf) (QR hg) h (Ev.pure _)
  · exact ⟨_, FMul_ev ha hb (by decide), QMul_ev ha hb (by decide), a8s (ha.mul hb) (by decide)⟩
theorem FDiv_both : Two (fun n => a8u n f g) (fun n => a8j n f g) (fun r => FewL r.1) := by
  rcases b0h hf hg with h | ⟨a, b, rfl, rfl, ha, hb⟩
  · refine ⟨(zeroF, 1), ?_, ?_, FewL_zero⟩
    · unfold a8u
      exact bad2 (PR hf) (PR hg) h (Ev.pure _)
    · unfold a8j
      exact bad2 (QR hf) (QR hg) h (Ev.pure _)
  · by_cases h0 : b.num = 0
    · exact ⟨_, c3y ha hb (by decide) h0, c5g ha hb (by decide) h0, FewL_zero⟩
    · refine ⟨_, c9a ha hb (by decide) h0, c9c ha hb (by decide) h0, ?_⟩
      rw [c1t]
      exact a8s (b1q (ha.1.mul hb.2) (ha.2.mul hb.1) (b3z (a7x _) h0)) (by decide)
theorem FCompare_both : Two (fun n => a5f n f g) (fun n => a4w n f g) (fun _ => True) := by
  rcases b0h hf hg with h | ⟨a, b, rfl, rfl, ha, hb⟩
  · refine ⟨0, ?_, ?_, trivial⟩
    · unfold a5f
      exact bad2 (PR hf) (PR hg) h (Ev.pure _)
    · unfold a4w
      exact bad2 (QR hf) (QR hg) h (Ev.pure _)
  · exact ⟨_, FCompare_ev ha hb (by decide), QCompare_ev ha hb (by decide), trivial⟩
theorem b9f (s : Int) (h : (a4q f && a4q g) = false) : Ev (fun n => a6v n f g s) (zeroF, 1) := by
  unfold a6v
  exact bad2 (PR hf) (PR hg) h (Ev.pure _)
theorem FMin_both : Two (fun n => b1a n f g) (fun n => b0f n f g) (fun r => FewL r.1) := by
  rcases b0h hf hg with h | ⟨a, b, rfl, rfl, ha, hb⟩
  · refine ⟨(zeroF, 1), ?_, ?_, FewL_zero⟩
    · unfold b1a
      exact Ev.bind (b9f hf hg (-1) h) (Ev.pure _)
    · unfold b0f
      exact bad2 (QR hf) (QR hg) h (Ev.pure _)
  · exact ⟨_, FMin_ev ha hb (by decide), QMin_ev ha hb (by decide), a8s (k := 40) (by split; exact hb; exact ha) (by decide)⟩
theorem FMax_both : Two (fun n => b0t n f g) (fun n => a9s n f g) (fun r => FewL r.1) := by
  rcases b0h hf hg with h | ⟨a, b, rfl, rfl, ha, hb⟩
  · refine ⟨(zeroF, 1), ?_, ?_, FewL_zero⟩
    · unfold b0t
      exact Ev.bind (b9f hf hg 1 h) (Ev.pure _)
    · unfold a9s
      exact bad2 (QR hf) (QR hg) h (Ev.pure _)
  · exact ⟨_, FMax_ev ha hb (by decide), QMax_ev ha hb (by decide), a8s (k := 40) (by split; exact hb; exact ha) (by decide)⟩
theorem FNew_both : Two (fun n => a7b n f.P g.P) (fun n => a5g n f.P g.P) (fun r => FewL r.1) := by
  have h1 : f.P.Digits.length ≤ 62 := by have := hf.1; omega
  have h2 : g.P.Digits.length ≤ 62 := by have := hg.1; omega
  rcases c6w h1 h2 with h | ⟨x, y, e1, e2, hx, hy⟩
  · refine ⟨(zeroF, 1), ?_, ?_, FewL_zero⟩
    · unfold a7b
      exact bad2 (b4n (a := f.P) (lt62 h1)) (b4n (a := g.P) (lt62 h2)) h (Ev.pure _)
    · unfold a5g
      exact bad2 (b4q (a := f.P) (lt62 h1)) (b4q (a := g.P) (lt62 h2)) h (Ev.pure _)
  · rw [e1, e2]
    by_cases h0 : y = 0
    · subst h0
      exact ⟨_, FNew_zero hx (by decide), QNew_zero hx (by decide), FewL_zero⟩
    · exact ⟨_, b8b hx hy (by decide) h0, b5q hx hy (by decide) h0, a8s (b1q hx hy h0) (by decide)⟩
omit hg in
theorem FNeg_both : Two (fun n => a9l n f) (fun n => b0d n f) FewL := by
  cases hr : a4q f with
  | false =>
    refine ⟨zeroF, ?_, ?_, FewL_zero⟩
    · unfold a9l
      exact bad1 ((PR hf).eq hr) (Ev.pure _)
    · unfold b0d
      exact bad1 ((QR hf).eq hr) (Ev.pure _)
  | true =>
    obtain ⟨a, rfl, ha⟩ := c0n hf hr
    exact ⟨_, FNeg_ev ha (by decide), QNeg_ev ha (by decide), a8s ha.neg (by decide)⟩
omit hg in
theorem FSign_both : Two (fun n => a8f n f) (fun n => a8l n f) (fun _ => True) := by
  cases hr : a4q f with
  | false =>
    refine ⟨0, ?_, ?_, trivial⟩
    · unfold a8f
      exact bad1 ((PR hf).eq hr) (Ev.pure _)
    · unfold a8l
      exact bad1 ((QR hf).eq hr) (Ev.pure _)
  | true =>
    obtain ⟨a, rfl, ha⟩ := c0n hf hr
    exact ⟨_, FSign_ev ha (by decide), QSign_ev ha (by decide), trivial⟩
omit hg in
theorem FFloor_both : Two (fun n => a7r n f) (fun n => a7n n f) (fun r => r.Digits.length ≤ 1000) := by
  cases hr : a4q f with
  | false =>
    refine ⟨⟨0, []⟩, ?_, ?_, by simp⟩
    · unfold a7r
      exact bad1 ((PR hf).eq hr) (Ev.pure _)
    · unfold a7n
      exact bad1 ((QR hf).eq hr) (Ev.pure _)
  | true =>
    obtain ⟨a, rfl, ha⟩ := c0n hf hr
    have := c1q (b6t (y := (a.den : Int)) ha.1)
    exact ⟨_, FFloor_ev ha (by decide), QFloor_ev ha (by decide), by omega⟩
end
theorem c6u {x y : Int} (h1 : -9223372036854775808 ≤ x) (h2 : x ≤ 9223372036854775807) (h3 : -9223372036854775808 ≤ y) (h4 : y ≤ 9223372036854775807) : Two (fun n => b1c n x y) (fun n => a9k n x y) (fun r => FewL r.1) := by
  have s1 : Sm 4 x := a3g (b6c (by omega))
  have s2 : Sm 4 y := a3g (b6c (by omega))
  by_cases h0 : y = 0
  · subst h0
    exact ⟨_, c6e h1 h2, c7d h1 h2, FewL_zero⟩
  · exact ⟨_, d0g h1 h2 h3 h4 h0, c7t h1 h2 h3 h4 h0, a8s (b1q s1 s2 h0) (by decide)⟩
theorem c4t (s : Bs) (h1 : (cutS s).1.length ≤ 500) (h2 : (cutS s).2.1.length ≤ 500) : FewL (c1h s).1 := by
  have l1 := b1s (cutS s).1 h1
  have l2 := b1s (cutS s).2.1 h2
  unfold c1h
  split
  · exact ⟨l1, l2⟩
  · exact FewL_zero
theorem b8j {r s : Frac} (h : FewL r) (e : r = s) : Ev (fun n => a3j n r s) true := (c1f (f := r) (g := s) (by have := h.1; omega) (by have := h.2; omega)).eq (by simp [e])
theorem c6t {f g : Frac} (hf : b9l f) : Ev (fun n => a8g n f g) (decide (f = g)) := by
  unfold a8g
  refine Ev.bind (c4w (a := f.P) (b := g.P) (by have := hf.1; omega)) ?_
  have hq := hf.2
  obtain ⟨P, Q⟩ := f
  obtain ⟨P', Q'⟩ := g
  refine Ev.bind (a := decide ((⟨P, Q⟩ : Frac) = ⟨P', Q'⟩)) ?_ (Ev.pure _)
  by_cases h : P = P'
  · subst h
    refine Ev.then (by simp) (Ev.bind (c4w (a := Q) (b := Q') (by have h3 : Q.Digits.length ≤ 40 := hq; omega)) ((Ev.pure _).eq (by simp)))
  · exact Ev.else (by simpa using h) ((Ev.pure _).eq (by simp [h]))
section
variable {R : Type} {β : Type} {c d : Bool} {f : Nat → Bool → Option β} {r : β}
/-- both give the same, in a conjunction -/
theorem b7n [BEq R] [ReflBEq R] {A B : Nat → Option R} {v : R} (hc : c = true) (hA : Ev A v) (hB : Ev B v) (hf : Ev (fun n => f n true) r) : Ev (fun n => (bif c then (A n).bind fun x => (B n).bind fun y => some (x == y) else some false).bind (f n)) r :=
  Ev.bind (a := true) (Ev.then hc (Ev.bind hA (Ev.bind hB ((Ev.pure _).eq (by simp))))) hf
end
theorem b1x (x : Int) : (x == x) = true := by simp
theorem c5k (f g : Frac) (p q : Int) (hp1 : -9223372036854775808 ≤ p) (hp2 : p ≤ 9223372036854775807) (hq1 : -9223372036854775808 ≤ q) (hq2 : q ≤ 9223372036854775807) (s : Bs) : Ev (fun n => a6q n f g p q s) true := by
  unfold a6q
  refine Ev.bind small05 ?_
  refine Ev.bind (d0o f 40) ?_
  refine d0q (fun _ => d0o g 40) ?_
  refine Ev.bind (a := (!(decide ((f.P.Digits.length : Int) ≤ 40) && decide ((f.Q.Digits.length : Int) ≤ 40)) || !(decide ((g.P.Digits.length : Int) ≤ 40) && decide ((g.Q.Digits.length : Int) ≤ 40))) || decide (300 < (s.length : Int))) ?_ ?_
  · cases (!(decide ((f.P.Digits.length : Int) ≤ 40) && decide ((f.Q.Digits.length : Int) ≤ 40)) || !(decide ((g.P.Digits.length : Int) ≤ 40) && decide ((g.Q.Digits.length : Int) ≤ 40))) with
    | true => exact Ev.then rfl (Ev.pure _)
    | false => exact Ev.else rfl (Ev.pure _)
  refine guard fun hV => ?_
  simp only [Bool.or_eq_false_iff, Bool.not_eq_false', decide_eq_false_iff_not] at hV
  obtain ⟨⟨g1, g2⟩, g3⟩ := hV
  have hf : b9l f := c0r (k := 40) g1
  have hg : b9l g := c0r (k := 40) g2
  have hs : s.length ≤ 300 := by omega
  clear g1 g2 g3
  have hc := c6c s
  obtain ⟨r1, h1, h1', l1⟩ := FAdd_both hf hg
  obtain ⟨r2, h2, h2', l2⟩ := FSub_both hf hg
  refine Ev.bind h1 (Ev.bind h1' (Ev.bind h2 (Ev.bind h2' ?_)))
  refine a9h (b1x _) (b1x _) ?_
  refine a9g rfl (b8j l1 rfl) (a9g rfl (b8j l2 rfl) ?_)
  obtain ⟨r3, h3, h3', l3⟩ := FMul_both hf hg
  obtain ⟨r4, h4, h4', l4⟩ := FDiv_both hf hg
  refine Ev.bind h3 (Ev.bind h3' (Ev.bind h4 (Ev.bind h4' ?_)))
  refine a9h (b1x _) (b1x _) ?_
  refine a9g rfl (b8j l3 rfl) (a9g rfl (b8j l4 rfl) ?_)
  obtain ⟨r5, h5, h5', l5⟩ := c6u hp1 hp2 hq1 hq2
  refine Ev.bind h5 (Ev.bind h5' (Ev.bind (c7b (s := s) (by omega) (by omega) (by omega)) (Ev.bind (c6k (s := s) (by omega) (by omega) (by omega)) ?_)))
  refine a9h (b1x _) (b1x _) ?_
  refine a9g rfl (b8j l5 rfl) (a9g rfl (b8j (c4t s (by omega) (by omega)) rfl) ?_)
  obtain ⟨r6, h6, h6', l6⟩ := FNew_both hf hg
  refine Ev.bind h6 (Ev.bind h6' ?_)
  refine a9g (b1x _) (b8j l6 rfl) ?_
  refine b7n rfl (PR hf) (QR hf) ?_
  obtain ⟨r7, h7, h7', _⟩ := FCompare_both hf hg
  refine b7n rfl h7 h7' ?_
  refine b7n rfl (c6t (g := g) hf) (c1f (f := f) (g := g) (by have := hf.1; omega) (by have := hf.2; omega)) ?_
  obtain ⟨r8, h8, h8', l8⟩ := FMin_both hf hg
  obtain ⟨r9, h9, h9', l9⟩ := FMax_both hf hg
  refine Ev.bind h8 (Ev.bind h8' (Ev.bind h9 (Ev.bind h9' ?_)))
  refine a9h (b1x _) (b1x _) ?_
  refine a9g rfl (b8j l8 rfl) (a9g rfl (b8j l9 rfl) ?_)
  obtain ⟨rA, hA, hA', lA⟩ := FNeg_both hf
  refine Ev.bind (a := true) (Ev.then rfl (Ev.bind hA (Ev.bind hA' (Ev.bind (b8j lA rfl) (Ev.pure _))))) ?_
  obtain ⟨rB, hB, hB', _⟩ := FSign_both hf
  refine b7n rfl hB hB' ?_
  have sp : Sm 4 p := a3g (b6c (by omega))
  refine Ev.bind (a := true) (Ev.then rfl (Ev.bind (c9h hp1 hp2) (Ev.bind (c9i hp1 hp2) (Ev.bind (b8j (a8s (c8m sp (by decide)) (by decide)) rfl) (Ev.pure _))))) ?_
  refine a9h rfl rfl (a9h rfl rfl (a9h rfl rfl (a9h rfl rfl (a9h rfl rfl ?_))))
  refine b7n rfl (c3c hf.1 hf.2 (by decide)) (c3b hf.1 hf.2 (by decide)) ?_
  obtain ⟨rC, hC, hC', lC⟩ := FFloor_both hf
  exact Ev.bind (a := true) (Ev.then rfl (Ev.bind hC (Ev.bind hC' (Ev.bind ((b9i (a := rC) (b := rC) (by omega)).eq (s := true) (by simp)) (Ev.pure _))))) (Ev.pure _)
theorem ftells_ev' (f g : Frac) (p q : Int) (hp : (Lit.int .i64 p).wf = true) (hq : (Lit.int .i64 q).wf = true) (s : Bs) : Ev (fun n => a6q n f g p q s) true := c5k f g p q (wf64 hp).1 (wf64 hp).2 (wf64 hq).1 (wf64 hq).2 s
end Go.Proofs.YtaanocaobllohaaGreatDoor.D
