/-
  THE REFERENCE's expressions are the program's: expr, atom, both side by side.
-/
import Derived.Test.YtibkigpmkkkaeaaGreatDoorTaR
namespace Go.Proofs.YtibkigpmkkkaeaaGreatDoor.Ta
open Go Rt M
/-! operators -/
def ops8 : List (Int × Rt.Bs) := [(5, [43]), (6, [45]), (7, [42]), (8, [47]), (12, [60]), (13, [61]), (15, [97, 110, 100]), (16, [111, 114])]
theorem sign_n : ∀ k : Nat, k < 17 → ∀ n : Nat, ref35_sign (n + 9) (k : Int) = some (((ops8.find? fun p => p.1 == (k : Int)).map (·.2)).getD []) := by
  intro k hk n
  match k, hk with
  | 0, _ | 1, _ | 2, _ | 3, _ | 4, _ | 5, _ | 6, _ | 7, _ | 8, _ | 9, _ | 10, _ | 11, _ | 12, _ | 13, _ | 14, _ | 15, _ | 16, _ => rfl
  | k + 17, h => exact absurd h (by omega)
/-- the reference's search: the first operator whose sign is the next token -/
def opS (l : List Token) (a : Nat) (e : Int) : List (Int × Rt.Bs) → Nat × Int
  | [] => (a, -1)
  | p :: ps => if isT l a e p.2 = true then (a + 1, p.1) else opS l a e ps
theorem operator_ev {l : List Token} (hl : l.length ≤ 1000000) (a : Nat) (e : Int) : Ev (fun n => ref35_Reader_operator n (RR l a e)) (RR l (opS l a e ops8).1 e, (opS l a e ops8).2) := by
  refine ⟨30, fun n hn => ?_⟩
  obtain ⟨n, rfl⟩ : ∃ k, n = k + 30 := ⟨n - 30, by omega⟩
  show ref35_Reader_operator_L1 (n + 30) (fun f4 f5 f6 => some ((⟨f4, f5, f6⟩ : Reader), -1)) (n + 30) 0 l (a : Int) e = _
  have skip : ∀ (k m : Nat), k < 17 → ((ops8.find? fun p => p.1 == (k : Int)).map (·.2)).getD [] = [] →
      ref35_Reader_operator_L1 (n + 30) (fun f4 f5 f6 => some ((⟨f4, f5, f6⟩ : Reader), -1)) (m + 1) (k : Int) l (a : Int) e = ref35_Reader_operator_L1 (n + 30) (fun f4 f5 f6 => some ((⟨f4, f5, f6⟩ : Reader), -1)) m ((k + 1 : Nat) : Int) l (a : Int) e := by
    intro k m hk h
    have hs := sign_n k hk (n + 21)
    rw [h] at hs
    rw [ref35_Reader_operator_L1_s, decide_eq_true (by omega), cond_true, hs, Option.bind_some, show (!(([] : Rt.Bs) == [])) = false from rfl, cond_false, Option.bind_some]
    dsimp only
    rw [cond_false, inc64 (by omega)]
  have test : ∀ (k m : Nat) (s : Rt.Bs), k < 17 → ((ops8.find? fun p => p.1 == (k : Int)).map (·.2)).getD [] = s → s ≠ [] →
      ref35_Reader_operator_L1 (n + 30) (fun f4 f5 f6 => some ((⟨f4, f5, f6⟩ : Reader), -1)) (m + 1) (k : Int) l (a : Int) e = if isT l a e s = true then some (RR l (a + 1) e, (k : Int)) else
        ref35_Reader_operator_L1 (n + 30) (fun f4 f5 f6 => some ((⟨f4, f5, f6⟩ : Reader), -1)) m ((k + 1 : Nat) : Int) l (a : Int) e := by
    intro k m s hk h hs0
    have hs := sign_n k hk (n + 21)
    rw [h] at hs
    rw [ref35_Reader_operator_L1_s, decide_eq_true (by omega), cond_true, hs, Option.bind_some, show (!(s == [])) = true by simpa using hs0, cond_true, Option.bind_some, rtake_n _ s hl, Option.bind_some, Option.bind_some]
    dsimp only
    cases hT : isT l a e s with
    | true => rw [if_pos rfl]; rfl
    | false => rw [if_neg (by decide), cond_false, cond_false, inc64 (by omega)]
  have h0 := skip 0 (n + 29) (by omega) rfl
  have h1 := skip 1 (n + 28) (by omega) rfl
  have h2 := skip 2 (n + 27) (by omega) rfl
  have h3 := skip 3 (n + 26) (by omega) rfl
  have h4 := skip 4 (n + 25) (by omega) rfl
  have h5 := test 5 (n + 24) [43] (by omega) rfl (by decide)
  have h6 := test 6 (n + 23) [45] (by omega) rfl (by decide)
  have h7 := test 7 (n + 22) [42] (by omega) rfl (by decide)
  have h8 := test 8 (n + 21) [47] (by omega) rfl (by decide)
  have h9 := skip 9 (n + 20) (by omega) rfl
  have h10 := skip 10 (n + 19) (by omega) rfl
  have h11 := skip 11 (n + 18) (by omega) rfl
  have h12 := test 12 (n + 17) [60] (by omega) rfl (by decide)
  have h13 := test 13 (n + 16) [61] (by omega) rfl (by decide)
  have h14 := skip 14 (n + 15) (by omega) rfl
  have h15 := test 15 (n + 14) [97, 110, 100] (by omega) rfl (by decide)
  have h16 := test 16 (n + 13) [111, 114] (by omega) rfl (by decide)
  have h17 : ref35_Reader_operator_L1 (n + 30) (fun f4 f5 f6 => some ((⟨f4, f5, f6⟩ : Reader), -1)) (n + 13) ((17 : Nat) : Int) l (a : Int) e = some (RR l a e, -1) := rfl
  refine (h0.trans (h1.trans (h2.trans (h3.trans (h4.trans h5))))).trans ?_
  unfold ops8
  simp only [opS]
  by_cases t5 : isT l a e [43] = true
  · rw [if_pos t5, if_pos t5]; rfl
  rw [if_neg t5, if_neg t5]
  refine h6.trans ?_
  by_cases t6 : isT l a e [45] = true
  · rw [if_pos t6, if_pos t6]; rfl
  rw [if_neg t6, if_neg t6]
  refine h7.trans ?_
  by_cases t7 : isT l a e [42] = true
  · rw [if_pos t7, if_pos t7]; rfl
  rw [if_neg t7, if_neg t7]
  refine h8.trans ?_
  by_cases t8 : isT l a e [47] = true
  · rw [if_pos t8, if_pos t8]; rfl
  rw [if_neg t8, if_neg t8]
  refine (h9.trans (h10.trans (h11.trans h12))).trans ?_
  by_cases t12 : isT l a e [60] = true
  · rw [if_pos t12, if_pos t12]; rfl
  rw [if_neg t12, if_neg t12]
  refine h13.trans ?_
  by_cases t13 : isT l a e [61] = true
  · rw [if_pos t13, if_pos t13]; rfl
  rw [if_neg t13, if_neg t13]
  refine (h14.trans h15).trans ?_
  by_cases t15 : isT l a e [97, 110, 100] = true
  · rw [if_pos t15, if_pos t15]; rfl
  rw [if_neg t15, if_neg t15]
  refine h16.trans ?_
  by_cases t16 : isT l a e [111, 114] = true
  · rw [if_pos t16, if_pos t16]; rfl
  rw [if_neg t16, if_neg t16]
  exact h17
def opMap : List (Rt.Bs × Int) := mput (mput (mput (mput (mput (mput (mput (mput ([] : (List (Rt.Bs × Int))) [43] 5) [45] 6) [42] 7) [47] 8) [60] 12) [61] 13) [97, 110, 100] 15) [111, 114] 16
theorem opMap_eq : opMap = [([43], 5), ([45], 6), ([42], 7), ([47], 8), ([60], 12), ([61], 13), ([97, 110, 100], 15), ([111, 114], 16)] := by decide
/-- the token that is an operator, or none -/
theorem op_cases (l : List Token) (a : Nat) (e : Int) : (mget opMap (nextT l a e).Text = none ∧ opS l a e ops8 = (a, -1)) ∨
    ∃ o : Int, mget opMap (nextT l a e).Text = some o ∧ 0 ≤ o ∧ opS l a e ops8 = if isT l a e (nextT l a e).Text = true then (a + 1, o) else (a, -1) := by
  have hm : ∀ t : Rt.Bs, mget opMap t = (ops8.find? fun p => t == p.2).map (·.1) := by
    intro t
    rw [opMap_eq]
    unfold mget ops8
    simp only [List.find?_cons, List.find?_nil]
    cases t == [43] <;> cases t == [45] <;> cases t == [42] <;> cases t == [47] <;> cases t == [60] <;> cases t == [61] <;> cases t == [97, 110, 100] <;> cases t == [111, 114] <;> rfl
  rw [hm]
  have hi : ∀ s, isT l a e s = ((nextT l a e).Text == s && isT l a e (nextT l a e).Text) := by
    intro s
    unfold isT
    rw [beq_self_eq_true, Bool.true_and]
  generalize (nextT l a e).Text = t at hi ⊢
  have key : ∀ ps : List (Int × Rt.Bs), (∀ p ∈ ps, 0 ≤ p.1) → (ps.find? (fun p => t == p.2) = none ∧ opS l a e ps = (a, -1)) ∨ ∃ p, ps.find? (fun p => t == p.2) = some p ∧ 0 ≤ p.1 ∧ opS l a e ps = if isT l a e t = true then (a + 1, p.1) else (a, -1) := by
    intro ps
    induction ps with
    | nil => exact fun _ => .inl ⟨rfl, rfl⟩
    | cons p ps ih =>
      intro hp
      have ih := ih (fun q hq => hp q (by simp [hq]))
      rw [List.find?_cons]
      unfold opS
      rw [hi p.2]
      by_cases h : t = p.2
      · have hb : (t == p.2) = true := by simpa using h
        rw [hb, Bool.true_and]
        refine .inr ⟨p, rfl, hp p (by simp), ?_⟩
        by_cases h2 : isT l a e t = true
        · rw [if_pos h2, if_pos h2]
        · rw [if_neg h2, if_neg h2]
          have hall : ∀ qs : List (Int × Rt.Bs), opS l a e qs = (a, -1) := by
            intro qs
            induction qs with
            | nil => rfl
            | cons q qs ih2 =>
              unfold opS
              rw [hi q.2, if_neg, ih2]
              intro h3
              simp only [Bool.and_eq_true] at h3
              exact h2 h3.2
          exact hall ps
      · have hb : (t == p.2) = false := by simpa using h
        rw [hb, Bool.false_and, if_neg (by decide)]
        exact ih
  rcases key ops8 (by decide) with ⟨h1, h2⟩ | ⟨p, h1, h2, h3⟩
  · exact .inl ⟨by rw [h1]; rfl, h2⟩
  · exact .inr ⟨p.1, by rw [h1]; rfl, h2, h3⟩
/-! expressions -/
theorem expr_2 {l : List Token} (hl : l.length ≤ 1000000) {k : Nat} (H : ∀ (a : Nat) (e : Int), a ≤ l.length → l.length - a ≤ k → T2 (InX2 l a) (fun n => tariff_reader_atom n (Rd l a e)) (fun n => ref35_Reader_atom n (RR l a e))) (a : Nat) (e : Int) (ha : a ≤ l.length) (hk : l.length - a ≤ k) :
    T2 (InX2 l a) (fun n => tariff_reader_expr n (Rd l a e)) (fun n => ref35_Reader_expr n (RR l a e)) := by
  refine T2.suc (fun n => tariff_reader_expr_s n _) (fun n => ref35_Reader_expr_s n _) ?_
  refine T2.bind (take_2 _ hl ha) ?_
  rintro ⟨_, b⟩ ⟨_, b'⟩ ⟨⟨a1, e1, rfl, rfl, h1, h2⟩, hb⟩
  obtain rfl : b = b' := hb
  refine T2.bif (fun _ => ?_) (fun _ => ?_)
  · refine T2.bind (H a1 e1 h2 (by omega)) ?_
    rintro ⟨_, x⟩ ⟨_, x'⟩ ⟨⟨a2, e2, rfl, rfl, h3, h4⟩, hx, fx⟩
    obtain rfl : x = x' := hx
    exact T2.pure ⟨⟨a2, e2, rfl, rfl, by omega, h4⟩, rfl, Fit.one _ _ _ fx⟩
  refine T2.bind (take_2 _ hl h2) ?_
  rintro ⟨_, b2⟩ ⟨_, b2'⟩ ⟨⟨a2, e2, rfl, rfl, h3, h4⟩, hb2⟩
  obtain rfl : b2 = b2' := hb2
  refine T2.bif (fun _ => ?_) (fun _ => ?_)
  · refine T2.bind (H a2 e2 h4 (by omega)) ?_
    rintro ⟨_, x⟩ ⟨_, x'⟩ ⟨⟨a3, e3, rfl, rfl, h5, h6⟩, hx, fx⟩
    obtain rfl : x = x' := hx
    refine T2.bind (need_2 hl h6 _) ?_
    rintro _ _ ⟨a4, e4, rfl, rfl, h7, h8⟩
    refine T2.bind (H a4 e4 h8 (by omega)) ?_
    rintro ⟨_, y⟩ ⟨_, y'⟩ ⟨⟨a5, e5, rfl, rfl, h9, h10⟩, hy, fy⟩
    obtain rfl : y = y' := hy
    refine T2.bind (need_2 hl h10 _) ?_
    rintro _ _ ⟨a6, e6, rfl, rfl, h11, h12⟩
    refine T2.bind (H a6 e6 h12 (by omega)) ?_
    rintro ⟨_, z⟩ ⟨_, z'⟩ ⟨⟨a7, e7, rfl, rfl, h13, h14⟩, hz, fz⟩
    obtain rfl : z = z' := hz
    exact T2.pure ⟨⟨a7, e7, rfl, rfl, by omega, h14⟩, rfl, Fit.three _ _ _ fx fy fz⟩
  refine T2.bind (H a2 e2 h4 (by omega)) ?_
  rintro ⟨_, x⟩ ⟨_, x'⟩ ⟨⟨a3, e3, rfl, rfl, h5, h6⟩, hx, fx⟩
  obtain rfl : x = x' := hx
  refine T2.r (operator_ev hl a3 e3) ?_
  refine T2.l (Ev.all fun n => next_n n h6) (T2.l (a := opMap) (Ev.all fun n => rfl) ?_)
  dsimp only
  rcases op_cases l a3 e3 with ⟨h1, h2⟩ | ⟨o, h1, h2, h3⟩
  · rw [h1, h2]
    refine T2.rt rfl ?_
    exact T2.l (a := (true, l, (a3 : Int), e3)) (Ev.then rfl (Ev.pure _)) (T2.lt rfl (T2.pure ⟨⟨a3, e3, rfl, rfl, by omega, h6⟩, rfl, fx⟩))
  · rw [h1, h3]
    cases hT : isT l a3 e3 (nextT l a3 e3).Text with
    | false =>
      rw [if_neg (by decide)]
      refine T2.rt rfl ?_
      refine T2.l (a := (true, l, (a3 : Int), e3)) (Ev.else rfl (Ev.bind (Ev.all fun n => take_n n _ hl h6) ?_)) (T2.lt rfl (T2.pure ⟨⟨a3, e3, rfl, rfl, by omega, h6⟩, rfl, fx⟩))
      rw [hT]; exact Ev.pure _
    | true =>
      have h7 := (isT_lt hT).1
      rw [if_pos rfl]
      refine T2.rf (decide_eq_false (by omega)) ?_
      refine T2.l (a := (false, l, ((a3 + 1 : Nat) : Int), e3)) (Ev.else rfl (Ev.bind (Ev.all fun n => take_n n _ hl h6) ?_)) (T2.lf rfl ?_)
      · rw [hT]; exact Ev.pure _
      refine T2.bind (H (a3 + 1) e3 h7 (by omega)) ?_
      rintro ⟨_, y⟩ ⟨_, y'⟩ ⟨⟨a5, e5, rfl, rfl, h9, h10⟩, hy, fy⟩
      obtain rfl : y = y' := hy
      exact T2.pure ⟨⟨a5, e5, rfl, rfl, by omega, h10⟩, rfl, Fit.two _ _ _ fx fy⟩
theorem pair_2 {l : List Token} (hl : l.length ≤ 1000000) {a : Nat} (e : Int) (ha : a ≤ l.length) (o : Int) (H : ∀ (b : Nat) (e : Int), a ≤ b → b ≤ l.length → T2 (InX2 l b) (fun n => tariff_reader_expr n (Rd l b e)) (fun n => ref35_Reader_expr n (RR l b e))) :
    T2 (InX2 l a) (fun n => (tariff_reader_need n (Rd l a e) [[40]]).bind fun v11 =>
         ((tariff_reader_expr n v11).bind fun v15 =>
         (app 56 ([] : List M.Expr) [v15.2]).bind fun l4 =>
         some (l4, v15.1.l, v15.1.at_, v15.1.e)).bind fun (l1, f3, f4, f5) =>
         (tariff_reader_need n (⟨f3, f4, f5⟩ : reader) [[44]]).bind fun v12 =>
         ((tariff_reader_expr n v12).bind fun v14 =>
         (app 56 l1 [v14.2]).bind fun l3 =>
         some (l3, v14.1.l, v14.1.at_, v14.1.e)).bind fun (l2, f6, f7, f8) =>
         (tariff_reader_need n (⟨f6, f7, f8⟩ : reader) [[41]]).bind fun v13 =>
         some (v13, (⟨o, 0, [], l2⟩ : M.Expr))) (fun n => ref35_Reader_pair n (RR l a e) o) := by
  refine T2.sucr (fun n => ref35_Reader_pair_s n _ _) ?_
  refine T2.bind (need_2 hl ha _) ?_
  rintro _ _ ⟨a4, e4, rfl, rfl, h7, h8⟩
  refine T2.bind (P := fun (q : List M.Expr × List Token × Int × Int) q' => InX2 l a4 (⟨q.2.1, q.2.2.1, q.2.2.2⟩, q'.2) q' ∧ q.1 = [q'.2]) ?_ ?_
  · obtain ⟨⟨_, x⟩, ⟨_, x'⟩, E1, E2, ⟨a5, e5, rfl, rfl, h9, h10⟩, hx, fx⟩ := H a4 e4 h7 h8
    obtain rfl : x = x' := hx
    exact ⟨_, _, Ev.bind E1 (Ev.step (app_ok (by simp)) (Ev.pure _)), E2, ⟨⟨a5, e5, rfl, rfl, h9, h10⟩, rfl, fx⟩, rfl⟩
  rintro ⟨l1, f3, f4, f5⟩ ⟨_, x⟩ ⟨⟨⟨a5, e5, hq, rfl, h9, h10⟩, _, fx⟩, hl1⟩
  obtain ⟨rfl, rfl, rfl⟩ : f3 = l ∧ f4 = (a5 : Int) ∧ f5 = e5 := by simpa using hq
  obtain rfl : l1 = [x] := hl1
  dsimp only
  refine T2.bind (need_2 hl h10 _) ?_
  rintro _ _ ⟨a6, e6, rfl, rfl, h11, h12⟩
  refine T2.bind (P := fun (q : List M.Expr × List Token × Int × Int) q' => InX2 f3 a6 (⟨q.2.1, q.2.2.1, q.2.2.2⟩, q'.2) q' ∧ q.1 = [x, q'.2]) ?_ ?_
  · obtain ⟨⟨_, y⟩, ⟨_, y'⟩, E1, E2, ⟨a7, e7, rfl, rfl, h13, h14⟩, hy, fy⟩ := H a6 e6 (by omega) h12
    obtain rfl : y = y' := hy
    exact ⟨_, _, Ev.bind E1 (Ev.step (app_ok (by simp)) (Ev.pure _)), E2, ⟨⟨a7, e7, rfl, rfl, h13, h14⟩, rfl, fy⟩, rfl⟩
  rintro ⟨l2, f6, f7, f8⟩ ⟨_, y⟩ ⟨⟨⟨a7, e7, hq2, rfl, h13, h14⟩, _, fy⟩, hl2⟩
  obtain ⟨rfl, rfl, rfl⟩ : f6 = f3 ∧ f7 = (a7 : Int) ∧ f8 = e7 := by simpa using hq2
  obtain rfl : l2 = [x, y] := hl2
  dsimp only
  refine T2.bind (need_2 hl h14 _) ?_
  rintro _ _ ⟨a8, e8, rfl, rfl, h15, h16⟩
  exact T2.pure ⟨⟨a8, e8, rfl, rfl, by omega, h16⟩, rfl, Fit.two _ _ _ fx fy⟩
end Go.Proofs.YtibkigpmkkkaeaaGreatDoor.Ta
