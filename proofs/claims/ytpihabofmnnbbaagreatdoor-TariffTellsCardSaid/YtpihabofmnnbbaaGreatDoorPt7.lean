/- Several texts in one, for TariffTells.card: what the theorem leans on. -/
import Derived.Lib.ItoaLen
import Derived.Test.YtpihabofmnnbbaaGreatDoorPt6
namespace Go.Proofs.YtpihabofmnnbbaaGreatDoor.Ta
open Go Rt M
def ops8 : List (Int × Rt.Bs) := [(5, [43]), (6, [45]), (7, [42]), (8, [47]), (12, [60]), (13, [61]), (15, [97, 110, 100]), (16, [111, 114])]
theorem sign_n : ∀ k : Nat, k < 17 → ∀ n : Nat, ref35_sign (n + 9) (k : Int) = some (((ops8.find? fun p => p.1 == (k : Int)).map (·.2)).getD []) := by
  intro k hk n
  match k, hk with
  | 0, _ | 1, _ | 2, _ | 3, _ | 4, _ | 5, _ | 6, _ | 7, _ | 8, _ | 9, _ | 10, _ | 11, _ | 12, _ | 13, _ | 14, _ | 15, _ | 16, _ => rfl
  | k + 17, h => exact absurd h (by omega)
def opS (l : List Token) (a : Nat) (e : Int) : List (Int × Rt.Bs) → Nat × Int
  | [] => (a, -1)
  | p :: ps => if isT l a e p.2 = true then (a + 1, p.1) else opS l a e ps
theorem operator_ev {l : List Token} (hl : l.length ≤ 1000000) (a : Nat) (e : Int) : Ev (fun n => ref35_Reader_operator n (RR l a e)) (RR l (opS l a e ops8).1 e, (opS l a e ops8).2) := by
  refine ⟨30, fun n hn => ?_⟩
  obtain ⟨n, rfl⟩ : ∃ k, n = k + 30 := ⟨n - 30, by omega⟩
  show ref35_Reader_operator_L1 (n + 30) (fun f4 f5 f6 => some ((⟨f4, f5, f6⟩ : Reader), -1)) (n + 30) 0 l (a : Int) e = _
  have skip : ∀ (k m : Nat), k < 17 → ((ops8.find? fun p => p.1 == (k : Int)).map (·.2)).getD [] = [] →
      ref35_Reader_operator_L1 (n + 30) (fun f4 f5 f6 => some ((⟨f4, f5, f6⟩ : Reader), -1)) (m + 1) (k : Int) l (a : Int) e = ref35_Reader_operator_L1 (n + 30) (fun f4 f5 f6 => some ((⟨f4, f5, f6⟩ : Reader), -1)) m ((k + 1 : Nat) : Int) l (a : Int) e := by
    intro k m hk h
    have hs := sign_n k hk (n + 21)
    rw [h] at hs
    rw [ref35_Reader_operator_L1_s, decide_eq_true (by omega), cond_true, hs, Option.bind_some, show (!(([] : Rt.Bs) == [])) = false from rfl, cond_false, Option.bind_some]
    dsimp only
    rw [cond_false, inc64 (by omega)]
  have test : ∀ (k m : Nat) (s : Rt.Bs), k < 17 → ((ops8.find? fun p => p.1 == (k : Int)).map (·.2)).getD [] = s → s ≠ [] →
      ref35_Reader_operator_L1 (n + 30) (fun f4 f5 f6 => some ((⟨f4, f5, f6⟩ : Reader), -1)) (m + 1) (k : Int) l (a : Int) e = if isT l a e s = true then some (RR l (a + 1) e, (k : Int)) else
        ref35_Reader_operator_L1 (n + 30) (fun f4 f5 f6 => some ((⟨f4, f5, f6⟩ : Reader), -1)) m ((k + 1 : Nat) : Int) l (a : Int) e := by
    intro k m s hk h hs0
    have hs := sign_n k hk (n + 21)
    rw [h] at hs
    rw [ref35_Reader_operator_L1_s, decide_eq_true (by omega), cond_true, hs, Option.bind_some, show (!(s == [])) = true by simpa using hs0, cond_true, Option.bind_some, rtake_n _ s hl, Option.bind_some, Option.bind_some]
    dsimp only
    cases hT : isT l a e s with
    | true => rw [if_pos rfl]; rfl
    | false => rw [if_neg (by decide), cond_false, cond_false, inc64 (by omega)]
  have h0 := skip 0 (n + 29) (by omega) rfl
  have h1 := skip 1 (n + 28) (by omega) rfl
  have h2 := skip 2 (n + 27) (by omega) rfl
  have h3 := skip 3 (n + 26) (by omega) rfl
  have h4 := skip 4 (n + 25) (by omega) rfl
  have h5 := test 5 (n + 24) [43] (by omega) rfl (by decide)
  have h6 := test 6 (n + 23) [45] (by omega) rfl (by decide)
  have h7 := test 7 (n + 22) [42] (by omega) rfl (by decide)
  have h8 := test 8 (n + 21) [47] (by omega) rfl (by decide)
  have h9 := skip 9 (n + 20) (by omega) rfl
  have h10 := skip 10 (n + 19) (by omega) rfl
  have h11 := skip 11 (n + 18) (by omega) rfl
  have h12 := test 12 (n + 17) [60] (by omega) rfl (by decide)
  have h13 := test 13 (n + 16) [61] (by omega) rfl (by decide)
  have h14 := skip 14 (n + 15) (by omega) rfl
  have h15 := test 15 (n + 14) [97, 110, 100] (by omega) rfl (by decide)
  have h16 := test 16 (n + 13) [111, 114] (by omega) rfl (by decide)
  have h17 : ref35_Reader_operator_L1 (n + 30) (fun f4 f5 f6 => some ((⟨f4, f5, f6⟩ : Reader), -1)) (n + 13) ((17 : Nat) : Int) l (a : Int) e = some (RR l a e, -1) := rfl
  refine (h0.trans (h1.trans (h2.trans (h3.trans (h4.trans h5))))).trans ?_
  unfold ops8
  simp only [opS]
  by_cases t5 : isT l a e [43] = true
  · rw [if_pos t5, if_pos t5]; rfl
  rw [if_neg t5, if_neg t5]
  refine h6.trans ?_
  by_cases t6 : isT l a e [45] = true
  · rw [if_pos t6, if_pos t6]; rfl
  rw [if_neg t6, if_neg t6]
  refine h7.trans ?_
  by_cases t7 : isT l a e [42] = true
  · rw [if_pos t7, if_pos t7]; rfl
  rw [if_neg t7, if_neg t7]
  refine h8.trans ?_
  by_cases t8 : isT l a e [47] = true
  · rw [if_pos t8, if_pos t8]; rfl
  rw [if_neg t8, if_neg t8]
  refine (h9.trans (h10.trans (h11.trans h12))).trans ?_
  by_cases t12 : isT l a e [60] = true
  · rw [if_pos t12, if_pos t12]; rfl
  rw [if_neg t12, if_neg t12]
  refine h13.trans ?_
  by_cases t13 : isT l a e [61] = true
  · rw [if_pos t13, if_pos t13]; rfl
  rw [if_neg t13, if_neg t13]
  refine (h14.trans h15).trans ?_
  by_cases t15 : isT l a e [97, 110, 100] = true
  · rw [if_pos t15, if_pos t15]; rfl
  rw [if_neg t15, if_neg t15]
  refine h16.trans ?_
  by_cases t16 : isT l a e [111, 114] = true
  · rw [if_pos t16, if_pos t16]; rfl
  rw [if_neg t16, if_neg t16]
  exact h17
def opMap : List (Rt.Bs × Int) := mput (mput (mput (mput (mput (mput (mput (mput ([] : (List (Rt.Bs × Int))) [43] 5) [45] 6) [42] 7) [47] 8) [60] 12) [61] 13) [97, 110, 100] 15) [111, 114] 16
theorem opMap_eq : opMap = [([43], 5), ([45], 6), ([42], 7), ([47], 8), ([60], 12), ([61], 13), ([97, 110, 100], 15), ([111, 114], 16)] := by decide
theorem op_cases (l : List Token) (a : Nat) (e : Int) : (mget opMap (nextT l a e).Text = none ∧ opS l a e ops8 = (a, -1)) ∨
    ∃ o : Int, mget opMap (nextT l a e).Text = some o ∧ 0 ≤ o ∧ opS l a e ops8 = if isT l a e (nextT l a e).Text = true then (a + 1, o) else (a, -1) := by
  have hm : ∀ t : Rt.Bs, mget opMap t = (ops8.find? fun p => t == p.2).map (·.1) := by
    intro t
    rw [opMap_eq]
    unfold mget ops8
    simp only [List.find?_cons, List.find?_nil]
    cases t == [43] <;> cases t == [45] <;> cases t == [42] <;> cases t == [47] <;> cases t == [60] <;> cases t == [61] <;> cases t == [97, 110, 100] <;> cases t == [111, 114] <;> rfl
  rw [hm]
  have hi : ∀ s, isT l a e s = ((nextT l a e).Text == s && isT l a e (nextT l a e).Text) := by
    intro s
    unfold isT
    rw [beq_self_eq_true, Bool.true_and]
  generalize (nextT l a e).Text = t at hi ⊢
  have key : ∀ ps : List (Int × Rt.Bs), (∀ p ∈ ps, 0 ≤ p.1) → (ps.find? (fun p => t == p.2) = none ∧ opS l a e ps = (a, -1)) ∨ ∃ p, ps.find? (fun p => t == p.2) = some p ∧ 0 ≤ p.1 ∧ opS l a e ps = if isT l a e t = true then (a + 1, p.1) else (a, -1) := by
    intro ps
    induction ps with
    | nil => exact fun _ => .inl ⟨rfl, rfl⟩
    | cons p ps ih =>
      intro hp
      have ih := ih (fun q hq => hp q (by simp [hq]))
      rw [List.find?_cons]
      unfold opS
      rw [hi p.2]
      by_cases h : t = p.2
      · have hb : (t == p.2) = true := by simpa using h
        rw [hb, Bool.true_and]
        refine .inr ⟨p, rfl, hp p (by simp), ?_⟩
        by_cases h2 : isT l a e t = true
        · rw [if_pos h2, if_pos h2]
        · rw [if_neg h2, if_neg h2]
          have hall : ∀ qs : List (Int × Rt.Bs), opS l a e qs = (a, -1) := by
            intro qs
            induction qs with
            | nil => rfl
            | cons q qs ih2 =>
              unfold opS
              rw [hi q.2, if_neg, ih2]
              intro h3
              simp only [Bool.and_eq_true] at h3
              exact h2 h3.2
          exact hall ps
      · have hb : (t == p.2) = false := by simpa using h
        rw [hb, Bool.false_and, if_neg (by decide)]
        exact ih
  rcases key ops8 (by decide) with ⟨h1, h2⟩ | ⟨p, h1, h2, h3⟩
  · exact .inl ⟨by rw [h1]; rfl, h2⟩
  · exact .inr ⟨p.1, by rw [h1]; rfl, h2, h3⟩
theorem expr_2 {l : List Token} (hl : l.length ≤ 1000000) {k : Nat} (H : ∀ (a : Nat) (e : Int), a ≤ l.length → l.length - a ≤ k → T2 (InX2 l a) (fun n => tariff_reader_atom n (Rd l a e)) (fun n => ref35_Reader_atom n (RR l a e))) (a : Nat) (e : Int) (ha : a ≤ l.length) (hk : l.length - a ≤ k) :
    T2 (InX2 l a) (fun n => tariff_reader_expr n (Rd l a e)) (fun n => ref35_Reader_expr n (RR l a e)) := by
  refine T2.suc (fun n => tariff_reader_expr_s n _) (fun n => ref35_Reader_expr_s n _) ?_
  refine T2.bind (take_2 _ hl ha) ?_
  rintro ⟨_, b⟩ ⟨_, b'⟩ ⟨⟨a1, e1, rfl, rfl, h1, h2⟩, hb⟩
  obtain rfl : b = b' := hb
  refine T2.bif (fun _ => ?_) (fun _ => ?_)
  · refine T2.bind (H a1 e1 h2 (by omega)) ?_
    rintro ⟨_, x⟩ ⟨_, x'⟩ ⟨⟨a2, e2, rfl, rfl, h3, h4⟩, hx, fx⟩
    obtain rfl : x = x' := hx
    exact T2.pure ⟨⟨a2, e2, rfl, rfl, by omega, h4⟩, rfl, Fit.one _ _ _ fx⟩
  refine T2.bind (take_2 _ hl h2) ?_
  rintro ⟨_, b2⟩ ⟨_, b2'⟩ ⟨⟨a2, e2, rfl, rfl, h3, h4⟩, hb2⟩
  obtain rfl : b2 = b2' := hb2
  refine T2.bif (fun _ => ?_) (fun _ => ?_)
  · refine T2.bind (H a2 e2 h4 (by omega)) ?_
    rintro ⟨_, x⟩ ⟨_, x'⟩ ⟨⟨a3, e3, rfl, rfl, h5, h6⟩, hx, fx⟩
    obtain rfl : x = x' := hx
    refine T2.bind (need_2 hl h6 _) ?_
    rintro _ _ ⟨a4, e4, rfl, rfl, h7, h8⟩
    refine T2.bind (H a4 e4 h8 (by omega)) ?_
    rintro ⟨_, y⟩ ⟨_, y'⟩ ⟨⟨a5, e5, rfl, rfl, h9, h10⟩, hy, fy⟩
    obtain rfl : y = y' := hy
    refine T2.bind (need_2 hl h10 _) ?_
    rintro _ _ ⟨a6, e6, rfl, rfl, h11, h12⟩
    refine T2.bind (H a6 e6 h12 (by omega)) ?_
    rintro ⟨_, z⟩ ⟨_, z'⟩ ⟨⟨a7, e7, rfl, rfl, h13, h14⟩, hz, fz⟩
    obtain rfl : z = z' := hz
    exact T2.pure ⟨⟨a7, e7, rfl, rfl, by omega, h14⟩, rfl, Fit.three _ _ _ fx fy fz⟩
  refine T2.bind (H a2 e2 h4 (by omega)) ?_
  rintro ⟨_, x⟩ ⟨_, x'⟩ ⟨⟨a3, e3, rfl, rfl, h5, h6⟩, hx, fx⟩
  obtain rfl : x = x' := hx
  refine T2.r (operator_ev hl a3 e3) ?_
  refine T2.l (Ev.all fun n => next_n n h6) (T2.l (a := opMap) (Ev.all fun n => rfl) ?_)
  dsimp only
  rcases op_cases l a3 e3 with ⟨h1, h2⟩ | ⟨o, h1, h2, h3⟩
  · rw [h1, h2]
    refine T2.rt rfl ?_
    exact T2.l (a := (true, l, (a3 : Int), e3)) (Ev.then rfl (Ev.pure _)) (T2.lt rfl (T2.pure ⟨⟨a3, e3, rfl, rfl, by omega, h6⟩, rfl, fx⟩))
  · rw [h1, h3]
    cases hT : isT l a3 e3 (nextT l a3 e3).Text with
    | false =>
      rw [if_neg (by decide)]
      refine T2.rt rfl ?_
      refine T2.l (a := (true, l, (a3 : Int), e3)) (Ev.else rfl (Ev.bind (Ev.all fun n => take_n n _ hl h6) ?_)) (T2.lt rfl (T2.pure ⟨⟨a3, e3, rfl, rfl, by omega, h6⟩, rfl, fx⟩))
      rw [hT]; exact Ev.pure _
    | true =>
      have h7 := (isT_lt hT).1
      rw [if_pos rfl]
      refine T2.rf (decide_eq_false (by omega)) ?_
      refine T2.l (a := (false, l, ((a3 + 1 : Nat) : Int), e3)) (Ev.else rfl (Ev.bind (Ev.all fun n => take_n n _ hl h6) ?_)) (T2.lf rfl ?_)
      · rw [hT]; exact Ev.pure _
      refine T2.bind (H (a3 + 1) e3 h7 (by omega)) ?_
      rintro ⟨_, y⟩ ⟨_, y'⟩ ⟨⟨a5, e5, rfl, rfl, h9, h10⟩, hy, fy⟩
      obtain rfl : y = y' := hy
      exact T2.pure ⟨⟨a5, e5, rfl, rfl, by omega, h10⟩, rfl, Fit.two _ _ _ fx fy⟩
theorem pair_2 {l : List Token} (hl : l.length ≤ 1000000) {a : Nat} (e : Int) (ha : a ≤ l.length) (o : Int) (H : ∀ (b : Nat) (e : Int), a ≤ b → b ≤ l.length → T2 (InX2 l b) (fun n => tariff_reader_expr n (Rd l b e)) (fun n => ref35_Reader_expr n (RR l b e))) :
    T2 (InX2 l a) (fun n => (tariff_reader_need n (Rd l a e) [[40]]).bind fun v11 =>
         ((tariff_reader_expr n v11).bind fun v15 =>
         (app 56 ([] : List M.Expr) [v15.2]).bind fun l4 =>
         some (l4, v15.1.l, v15.1.at_, v15.1.e)).bind fun (l1, f3, f4, f5) =>
         (tariff_reader_need n (⟨f3, f4, f5⟩ : reader) [[44]]).bind fun v12 =>
         ((tariff_reader_expr n v12).bind fun v14 =>
         (app 56 l1 [v14.2]).bind fun l3 =>
         some (l3, v14.1.l, v14.1.at_, v14.1.e)).bind fun (l2, f6, f7, f8) =>
         (tariff_reader_need n (⟨f6, f7, f8⟩ : reader) [[41]]).bind fun v13 =>
         some (v13, (⟨o, 0, [], l2⟩ : M.Expr))) (fun n => ref35_Reader_pair n (RR l a e) o) := by
  refine T2.sucr (fun n => ref35_Reader_pair_s n _ _) ?_
  refine T2.bind (need_2 hl ha _) ?_
  rintro _ _ ⟨a4, e4, rfl, rfl, h7, h8⟩
  refine T2.bind (P := fun (q : List M.Expr × List Token × Int × Int) q' => InX2 l a4 (⟨q.2.1, q.2.2.1, q.2.2.2⟩, q'.2) q' ∧ q.1 = [q'.2]) ?_ ?_
  · obtain ⟨⟨_, x⟩, ⟨_, x'⟩, E1, E2, ⟨a5, e5, rfl, rfl, h9, h10⟩, hx, fx⟩ := H a4 e4 h7 h8
    obtain rfl : x = x' := hx
    exact ⟨_, _, Ev.bind E1 (Ev.step (app_ok (by simp)) (Ev.pure _)), E2, ⟨⟨a5, e5, rfl, rfl, h9, h10⟩, rfl, fx⟩, rfl⟩
  rintro ⟨l1, f3, f4, f5⟩ ⟨_, x⟩ ⟨⟨⟨a5, e5, hq, rfl, h9, h10⟩, _, fx⟩, hl1⟩
  obtain ⟨rfl, rfl, rfl⟩ : f3 = l ∧ f4 = (a5 : Int) ∧ f5 = e5 := by simpa using hq
  obtain rfl : l1 = [x] := hl1
  dsimp only
  refine T2.bind (need_2 hl h10 _) ?_
  rintro _ _ ⟨a6, e6, rfl, rfl, h11, h12⟩
  refine T2.bind (P := fun (q : List M.Expr × List Token × Int × Int) q' => InX2 f3 a6 (⟨q.2.1, q.2.2.1, q.2.2.2⟩, q'.2) q' ∧ q.1 = [x, q'.2]) ?_ ?_
  · obtain ⟨⟨_, y⟩, ⟨_, y'⟩, E1, E2, ⟨a7, e7, rfl, rfl, h13, h14⟩, hy, fy⟩ := H a6 e6 (by omega) h12
    obtain rfl : y = y' := hy
    exact ⟨_, _, Ev.bind E1 (Ev.step (app_ok (by simp)) (Ev.pure _)), E2, ⟨⟨a7, e7, rfl, rfl, h13, h14⟩, rfl, fy⟩, rfl⟩
  rintro ⟨l2, f6, f7, f8⟩ ⟨_, y⟩ ⟨⟨⟨a7, e7, hq2, rfl, h13, h14⟩, _, fy⟩, hl2⟩
  obtain ⟨rfl, rfl, rfl⟩ : f6 = f3 ∧ f7 = (a7 : Int) ∧ f8 = e7 := by simpa using hq2
  obtain rfl : l2 = [x, y] := hl2
  dsimp only
  refine T2.bind (need_2 hl h14 _) ?_
  rintro _ _ ⟨a8, e8, rfl, rfl, h15, h16⟩
  exact T2.pure ⟨⟨a8, e8, rfl, rfl, by omega, h16⟩, rfl, Fit.two _ _ _ fx fy⟩
end Go.Proofs.YtpihabofmnnbbaaGreatDoor.Ta

namespace Go.Proofs.YtpihabofmnnbbaaGreatDoor.Ta
open Go Rt M
theorem named_2 {l : List Token} (hl : l.length ≤ 1000000) {a : Nat} (e : Int) (ha : a ≤ l.length) (o : Int) :
    T2 (InX2 l a) (fun n => (tariff_reader_need n (Rd l a e) [[40]]).bind fun v7 => (tariff_reader_one n v7 0).bind fun v8 => (tariff_reader_need n v8.1 [[41]]).bind fun v9 => some (v9, (⟨o, 0, v8.2.Text, []⟩ : M.Expr))) (fun n => ref35_Reader_named n (RR l a e) o) := by
  unfold ref35_Reader_named
  refine T2.bind (need_2 hl ha _) ?_
  rintro _ _ ⟨a4, e4, rfl, rfl, h7, h8⟩
  refine T2.bind (one_2 hl h8 (by decide)) ?_
  rintro ⟨_, t⟩ ⟨_, t'⟩ ⟨⟨a5, e5, rfl, rfl, h9, h10⟩, ht⟩
  obtain rfl : t = t' := ht
  refine T2.bind (need_2 hl h10 _) ?_
  rintro _ _ ⟨a6, e6, rfl, rfl, h11, h12⟩
  exact T2.pure ⟨⟨a6, e6, rfl, rfl, by omega, h12⟩, rfl, Fit.leaf _ _ _⟩
theorem atom_2 {l : List Token} (hl : l.length ≤ 1000000) {a : Nat} (e : Int) (ha : a ≤ l.length) (H : ∀ (b : Nat) (e : Int), a < b → b ≤ l.length → T2 (InX2 l b) (fun n => tariff_reader_expr n (Rd l b e)) (fun n => ref35_Reader_expr n (RR l b e))) :
    T2 (InX2 l a) (fun n => tariff_reader_atom n (Rd l a e)) (fun n => ref35_Reader_atom n (RR l a e)) := by
  refine T2.suc (fun n => tariff_reader_atom_s n _) (fun n => ref35_Reader_atom_s n _) ?_
  refine T2.l (Ev.all fun n => next_n n ha) ?_
  dsimp only
  have zero : ∀ e' : Int, InX2 l a (Rd l a e', (⟨0, 0, [], []⟩ : M.Expr)) (RR l a e', (⟨0, 0, [], []⟩ : M.Expr)) := fun e' => ⟨In2.here ha, rfl, Fit.leaf _ _ _⟩
  by_cases he : e = 0
  rotate_left
  · refine T2.rt (by simpa using he) ?_
    rw [nextT_end (.inl he)]
    refine T2.lf rfl (T2.l (a := true) (Ev.then rfl (Ev.pure _)) (T2.lt rfl (T2.l (Ev.all fun n => fail_n n l a e 12) ?_)))
    rw [show failE e 12 = e by unfold failE; rw [if_neg he]]
    exact T2.pure (zero e)
  subst he
  refine T2.rf rfl ?_
  by_cases hnum : (nextT l a 0).Kind = 1
  · have h2 := next_lt (e := 0) (by rw [hnum]; decide)
    have hno : ∀ s, isT l a 0 s = false := by intro s; unfold isT; rw [hnum]; simp
    rw [inc64 (by omega)]
    refine T2.lt (by simpa using hnum) ?_
    refine T2.r (rtake_no hl (hno _)) (T2.rf rfl (T2.r (rtake_no hl (hno _)) (T2.rf rfl (T2.r (rtake_no hl (hno _)) (T2.rf rfl (T2.r (rtake_no hl (hno _)) (T2.rf rfl (T2.r (rtake_no hl (hno _)) (T2.rf rfl (T2.r (rtake_no hl (hno _)) (T2.rf rfl (T2.r (rtake_no hl (hno _)) (T2.rf rfl ?_)))))))))))))
    refine T2.r (b := (RR l (a + 1) 0, nextT l a 0)) (Ev.all fun n => ?_) (T2.pure ⟨⟨a + 1, 0, rfl, rfl, by omega, h2.1⟩, rfl, Fit.leaf _ _ _⟩)
    unfold ref35_Reader_one
    rw [guard_n, Option.bind_some, decide_eq_false (by rintro (h | h); exact h rfl; omega), cond_false]
    show (ix l (a : Int)).bind _ = _
    rw [ix_some h2.1, Option.bind_some, ← nextT_at h2.1, show ((nextT l a 0).Kind != 1) = false by simpa using hnum, cond_false]
    dsimp only
    rw [inc64 (by omega)]
  have rone : Ev (fun n => ref35_Reader_one n (RR l a 0) 1) (RR l a 12, (⟨0, [], 0, 0⟩ : Token)) := Ev.all fun n => by
    unfold ref35_Reader_one
    rw [guard_n, Option.bind_some]
    by_cases h : (0 : Int) ≠ 0 ∨ l.length ≤ a
    · rw [decide_eq_true h, cond_true, rfail_n]; rfl
    · have h2 : a < l.length := by
        rcases Nat.lt_or_ge a l.length with h2 | h2
        · exact h2
        · exact absurd (.inr h2) h
      rw [decide_eq_false h, cond_false]
      show (ix l (a : Int)).bind _ = _
      rw [ix_some h2, Option.bind_some, ← nextT_at h2, show ((nextT l a 0).Kind != 1) = true by simpa using hnum, cond_true, rfail_n]; rfl
  have none_r : ∀ f : Nat → Option (reader × M.Expr), (∀ s, isT l a 0 s = false) → T2 (InX2 l a) f (fun n => some (RR l a 12, (⟨0, 0, [], []⟩ : M.Expr))) → T2 (InX2 l a) f (fun n => (ref35_Reader_take n (RR l a 0) [40]).bind fun v1 =>
   bif v1.2 then
    (ref35_Reader_expr n v1.1).bind fun v2 => (ref35_Reader_need n v2.1 [41]).bind fun v3 => some (v3, v2.2)
   else
    (ref35_Reader_take n v1.1 [112, 101, 114, 115, 111, 110, 115]).bind fun v4 =>
    bif v4.2 then some (v4.1, (⟨2, 0, [], []⟩ : M.Expr))
    else
     (ref35_Reader_take n v4.1 [102, 108, 97, 116, 115]).bind fun v5 =>
     bif v5.2 then some (v5.1, (⟨3, 0, [], []⟩ : M.Expr))
     else
      (ref35_Reader_take n v5.1 [108, 105, 102, 116, 115]).bind fun v6 =>
      bif v6.2 then (ref35_Reader_named n v6.1 1).bind fun v7 => some (v7.1, v7.2)
      else
       (ref35_Reader_take n v6.1 [119, 101, 105, 103, 104, 116]).bind fun v8 =>
       bif v8.2 then (ref35_Reader_named n v8.1 4).bind fun v9 => some (v9.1, v9.2)
       else
        (ref35_Reader_take n v8.1 [109, 105, 110]).bind fun v10 =>
        bif v10.2 then (ref35_Reader_pair n v10.1 9).bind fun v11 => some (v11.1, v11.2)
        else
         (ref35_Reader_take n v10.1 [109, 97, 120]).bind fun v12 =>
         bif v12.2 then (ref35_Reader_pair n v12.1 10).bind fun v13 => some (v13.1, v13.2)
         else (ref35_Reader_one n v12.1 1).bind fun v14 => some (v14.1, (⟨0, v14.2.N, [], []⟩ : M.Expr))) := by
    intro f hno h
    refine T2.r (rtake_no hl (hno _)) (T2.rf rfl (T2.r (rtake_no hl (hno _)) (T2.rf rfl (T2.r (rtake_no hl (hno _)) (T2.rf rfl (T2.r (rtake_no hl (hno _)) (T2.rf rfl (T2.r (rtake_no hl (hno _)) (T2.rf rfl (T2.r (rtake_no hl (hno _)) (T2.rf rfl (T2.r (rtake_no hl (hno _)) (T2.rf rfl ?_)))))))))))))
    exact T2.r rone h
  refine T2.lf (by simpa using hnum) ?_
  by_cases hk : (nextT l a 0).Kind = 0 ∨ (nextT l a 0).Kind = 3
  rotate_left
  · have hno : ∀ s, isT l a 0 s = false := by
      intro s; unfold isT
      have h1 : ((nextT l a 0).Kind == 0) = false := by simpa using fun h => hk (.inl h)
      have h2 : ((nextT l a 0).Kind == 3) = false := by simpa using fun h => hk (.inr h)
      rw [h1, h2]; simp
    refine none_r _ hno ?_
    refine T2.l (a := true) (Ev.then (by simpa using fun h => hk (.inl h)) ((Ev.pure _).eq (by simpa using fun h => hk (.inr h)))) (T2.lt rfl (T2.l (Ev.all fun n => fail_n n l a 0 12) (T2.pure (zero 12))))
  have hT : ∀ s, isT l a 0 s = ((nextT l a 0).Text == s) := by
    intro s; unfold isT
    rcases hk with h | h <;> rw [h] <;> simp
  have h2 : a < l.length := (next_lt (e := 0) (by rcases hk with h | h <;> rw [h] <;> decide)).1
  have e1 : iadd .i64 (a : Int) 1 = ((a + 1 : Nat) : Int) := inc64 (by omega)
  have e2 : isub .i64 ((a + 1 : Nat) : Int) 1 = (a : Int) := dec64 (by omega)
  rw [e1, e2]
  refine T2.l (a := false) ?_ (T2.lf rfl ?_)
  · rcases hk with h | h
    · exact Ev.else (by rw [h]; rfl) (Ev.pure _)
    · exact Ev.then (by rw [h]; rfl) ((Ev.pure _).eq (by rw [h]; rfl))
  have next1 : ∀ o, InX2 l a (Rd l (a + 1) 0, (⟨o, 0, [], []⟩ : M.Expr)) (RR l (a + 1) 0, (⟨o, 0, [], []⟩ : M.Expr)) := fun o => ⟨⟨a + 1, 0, rfl, rfl, by omega, h2⟩, rfl, Fit.leaf _ _ _⟩
  have up : ∀ {f : Nat → Option (reader × M.Expr)} {g : Nat → Option (Reader × M.Expr)}, T2 (InX2 l (a + 1)) f g → T2 (InX2 l a) f (fun n => (g n).bind fun v => some (v.1, v.2)) := by
    rintro f g ⟨p, q, h3, h4, ⟨⟨b, e', h5, h6, h7, h8⟩, h9, h10⟩⟩
    exact ⟨p, q, h3, Ev.bind h4 (Ev.pure _), ⟨⟨b, e', h5, h6, by omega, h8⟩, h9, h10⟩⟩
  generalize hTx : (nextT l a 0).Text = t at hT ⊢
  by_cases t1 : t = [40]
  · have ht := hT [40]; rw [t1] at ht
    refine T2.lt (by simpa using t1) (T2.r (rtake_yes hl (ht.trans (by decide))) (T2.rt rfl ?_))
    refine T2.bind (H (a + 1) 0 (by omega) h2) ?_
    rintro ⟨_, x⟩ ⟨_, x'⟩ ⟨⟨a3, e3, rfl, rfl, h5, h6⟩, hx, fx⟩
    obtain rfl : x = x' := hx
    refine T2.bind (need_2 hl h6 _) ?_
    rintro _ _ ⟨a4, e4, rfl, rfl, h7, h8⟩
    exact T2.pure ⟨⟨a4, e4, rfl, rfl, by omega, h8⟩, rfl, fx⟩
  refine T2.lf (by simpa using t1) (T2.r (rtake_no hl ((hT _).trans (by simpa using t1))) (T2.rf rfl ?_))
  by_cases t2 : t = [112, 101, 114, 115, 111, 110, 115]
  · have ht := hT [112, 101, 114, 115, 111, 110, 115]; rw [t2] at ht
    exact T2.lt (by simpa using t2) (T2.r (rtake_yes hl (ht.trans (by decide))) (T2.rt rfl (T2.pure (next1 2))))
  refine T2.lf (by simpa using t2) (T2.r (rtake_no hl ((hT _).trans (by simpa using t2))) (T2.rf rfl ?_))
  by_cases t3 : t = [102, 108, 97, 116, 115]
  · have ht := hT [102, 108, 97, 116, 115]; rw [t3] at ht
    exact T2.lt (by simpa using t3) (T2.r (rtake_yes hl (ht.trans (by decide))) (T2.rt rfl (T2.pure (next1 3))))
  refine T2.lf (by simpa using t3) (T2.r (rtake_no hl ((hT _).trans (by simpa using t3))) (T2.rf rfl ?_))
  by_cases t4 : t = [108, 105, 102, 116, 115]
  · have ht := hT [108, 105, 102, 116, 115]; rw [t4] at ht
    refine T2.l (a := true) (Ev.then (by simpa using t4) (Ev.pure _)) (T2.lt rfl ?_)
    refine T2.l (a := 1) (Ev.else (by rw [t4]; decide) (Ev.pure _)) ?_
    exact T2.r (rtake_yes hl (ht.trans (by decide))) (T2.rt rfl (up (named_2 hl 0 h2 1)))
  refine T2.r (rtake_no hl ((hT _).trans (by simpa using t4))) (T2.rf rfl ?_)
  by_cases t5 : t = [119, 101, 105, 103, 104, 116]
  · have ht := hT [119, 101, 105, 103, 104, 116]; rw [t5] at ht
    refine T2.l (a := true) (Ev.else (by simpa using t4) ((Ev.pure _).eq (by simpa using t5))) (T2.lt rfl ?_)
    refine T2.l (a := 4) (Ev.then (by simpa using t5) (Ev.pure _)) ?_
    exact T2.r (rtake_yes hl (ht.trans (by decide))) (T2.rt rfl (up (named_2 hl 0 h2 4)))
  refine T2.l (a := false) (Ev.else (by simpa using t4) ((Ev.pure _).eq (by simpa using t5))) (T2.lf rfl ?_)
  refine T2.r (rtake_no hl ((hT _).trans (by simpa using t5))) (T2.rf rfl ?_)
  have Hb : ∀ (b : Nat) (e : Int), a + 1 ≤ b → b ≤ l.length → T2 (InX2 l b) (fun n => tariff_reader_expr n (Rd l b e)) (fun n => ref35_Reader_expr n (RR l b e)) := fun b e h3 h4 => H b e (by omega) h4
  by_cases t6 : t = [109, 105, 110]
  · have ht := hT [109, 105, 110]; rw [t6] at ht
    refine T2.l (a := true) (Ev.then (by simpa using t6) (Ev.pure _)) (T2.lt rfl ?_)
    refine T2.l (a := 9) (Ev.else (by rw [t6]; decide) (Ev.pure _)) ?_
    exact T2.r (rtake_yes hl (ht.trans (by decide))) (T2.rt rfl (up (pair_2 hl 0 h2 9 Hb)))
  refine T2.r (rtake_no hl ((hT _).trans (by simpa using t6))) (T2.rf rfl ?_)
  by_cases t7 : t = [109, 97, 120]
  · have ht := hT [109, 97, 120]; rw [t7] at ht
    refine T2.l (a := true) (Ev.else (by simpa using t6) ((Ev.pure _).eq (by simpa using t7))) (T2.lt rfl ?_)
    refine T2.l (a := 10) (Ev.then (by simpa using t7) (Ev.pure _)) ?_
    exact T2.r (rtake_yes hl (ht.trans (by decide))) (T2.rt rfl (up (pair_2 hl 0 h2 10 Hb)))
  refine T2.l (a := false) (Ev.else (by simpa using t6) ((Ev.pure _).eq (by simpa using t7))) (T2.lf rfl ?_)
  refine T2.r (rtake_no hl ((hT _).trans (by simpa using t7))) (T2.rf rfl ?_)
  exact T2.l (Ev.all fun n => fail_n n l a 0 12) (T2.r rone (T2.pure (zero 12)))
theorem atoms_2 {l : List Token} (hl : l.length ≤ 1000000) : ∀ (k a : Nat) (e : Int), a ≤ l.length → l.length - a ≤ k → T2 (InX2 l a) (fun n => tariff_reader_atom n (Rd l a e)) (fun n => ref35_Reader_atom n (RR l a e))
  | 0, _, e, ha, hk => atom_2 hl e ha (fun b _ h1 h2 => absurd h1 (by omega))
  | k + 1, _, e, ha, hk => atom_2 hl e ha (fun b e' h1 h2 => expr_2 hl (atoms_2 hl k) b e' h2 (by omega))
theorem exprs_2 {l : List Token} (hl : l.length ≤ 1000000) {a : Nat} {e : Int} (ha : a ≤ l.length) : T2 (InX2 l a) (fun n => tariff_reader_expr n (Rd l a e)) (fun n => ref35_Reader_expr n (RR l a e)) :=
  expr_2 hl (k := l.length - a) (fun a e h1 h2 => atoms_2 hl _ a e h1 h2) a e ha (Nat.le_refl _)
end Go.Proofs.YtpihabofmnnbbaaGreatDoor.Ta

namespace Go.Proofs.YtpihabofmnnbbaaGreatDoor.Ta
open Go Rt M
theorem rname_ev (s : Rt.Bs) : Ev (fun n => ref06_Name n s) (Lx.name s) := by
  refine ⟨21, fun n hn => ?_⟩
  by_cases h : s.length ≤ 20
  · exact Lx.rname_eq (by omega) (by omega)
  · have h2 : Lx.name s = false := by unfold Lx.name; rw [decide_eq_false h]; simp
    rw [h2]
    unfold ref06_Name
    dsimp only
    rw [decide_eq_false (show ¬ (s.length : Int) < 1 by omega), decide_eq_true (show (20 : Int) < (s.length : Int) by omega)]; rfl
theorem Names_L2 (n : Nat) (l : List Rt.Bs) (i : Nat) (x : Rt.Bs) (hx : ix l (i : Int) = some x) (kont : Option Bool) (hi : i ≤ 1000000) : ∀ (us : List Rt.Bs) (k m : Nat), (l.take i).drop k = us → us.length < m →
    ref35_Names_L2 n l (i : Int) kont m (k : Int) = bif decide (x ∈ us) then some false else kont
  | [], k, m + 1, hd, _ => by
    have h1 : (l.take i).length ≤ k := Rt.drop_nil hd
    have h2 : i < l.length := by
      rcases Nat.lt_or_ge i l.length with h2 | h2
      · exact h2
      · rw [ix_nat, List.getElem?_eq_none h2] at hx; cases hx
    rw [List.length_take] at h1
    rw [ref35_Names_L2_s, decide_eq_false (by omega)]; rfl
  | y :: us, k, m + 1, hd, hm => by
    obtain ⟨h1, h2, h3⟩ := drop_cons hd
    rw [List.length_take] at h3
    have h4 : ix l (k : Int) = some y := by
      rw [ix_nat] at h1 ⊢
      rw [List.getElem?_take, if_pos (by omega)] at h1
      exact h1
    rw [ref35_Names_L2_s, decide_eq_true (by omega), cond_true, h4, Option.bind_some, hx, Option.bind_some]
    by_cases h : y = x
    · subst h
      rw [beq_self_eq_true, cond_true, decide_eq_true (by simp)]; rfl
    · rw [show (y == x) = false by simpa using h, cond_false, inc64 (by omega), Names_L2 n l i x hx kont hi us (k + 1) m h2 (by simpa using hm)]
      have e : decide (x ∈ y :: us) = decide (x ∈ us) := by
        by_cases h5 : x ∈ us
        · rw [decide_eq_true h5, decide_eq_true (by simp [h5])]
        · rw [decide_eq_false h5, decide_eq_false (by simp only [List.mem_cons, not_or]; exact ⟨fun h6 => h h6.symm, h5⟩)]
      rw [e]
theorem named1_long {l : List Rt.Bs} (h : ¬ (l.length : Int) ≤ 6) : ∀ (us : List Rt.Bs) (i : Nat), named1 l i us = false
  | [], i => decide_eq_false h
  | s :: us, i => by unfold named1; rw [named1_long h us]; simp
theorem Names_L (l : List Rt.Bs) (hl : l.length ≤ 6) : ∀ (us : List Rt.Bs) (i : Nat), l.drop i = us → ∃ N, ∀ n m, N ≤ n → us.length < m →
    ref35_Names_L1 n l (some true) m (i : Int) = some (named1 l i us)
  | [], i, hd => by
    refine ⟨0, fun n m _ hm => ?_⟩
    obtain ⟨m, rfl⟩ := left hm
    rw [ref35_Names_L1_s, more_no hd]
    unfold named1
    rw [decide_eq_true (by omega)]; rfl
  | s :: us, i, hd => by
    obtain ⟨h1, h2, h3⟩ := drop_cons hd
    obtain ⟨N, ih⟩ := Names_L l hl us (i + 1) h2
    obtain ⟨N1, e1⟩ := rname_ev s
    refine ⟨max N (max N1 10), fun n m hn hm => ?_⟩
    obtain ⟨m, rfl, hm2⟩ := pred (by simpa using hm)
    have e1 : ref06_Name n s = some (Lx.name s) := e1 n (by omega)
    rw [ref35_Names_L1_s, more_yes hd, cond_true, h1, Option.bind_some, e1, Option.bind_some]
    unfold named1
    cases Lx.name s with
    | false => rfl
    | true =>
      have h5 : ref35_Names_L2 n l (i : Int) (ref35_Names_L1 n l (some true) m (iadd .i64 (i : Int) 1)) n 0 = _ := Names_L2 n l i s h1 _ (by omega) (l.take i) 0 n rfl (by rw [List.length_take]; omega)
      rw [Bool.not_true, cond_false, h5, inc64 (by omega), ih n m (by omega) hm2, Bool.true_and]
      cases decide (s ∈ l.take i) <;> rfl
theorem Names_ev (l : List Rt.Bs) : Ev (fun n => ref35_Names n l) (named l) := by
  unfold ref35_Names
  by_cases h : l.length ≤ 6
  · refine Ev.else (decide_eq_false (by omega)) ?_
    obtain ⟨N, hN⟩ := Names_L l h l 0 rfl
    exact ⟨N + l.length + 1, fun n hn => hN n n (by omega) (by omega)⟩
  · exact Ev.then (decide_eq_true (by omega)) ((Ev.pure _).eq (named1_long (by omega) l 0).symm)
theorem Expr_ind {P : M.Expr → Prop} (h : ∀ (o k : Int) (s : Rt.Bs) (l : List M.Expr), (∀ y, y ∈ l → P y) → P ⟨o, k, s, l⟩) : ∀ x, P x := by
  intro x
  refine M.Expr.rec (motive_1 := P) (motive_2 := fun l => ∀ y, y ∈ l → P y) ?_ ?_ ?_ x
  · exact fun o k s l hl => h o k s l hl
  · exact fun y hy => by cases hy
  · intro y ys h1 h2 z hz
    rcases List.mem_cons.1 hz with rfl | hz
    · exact h1
    · exact h2 z hz
theorem size_L (x : M.Expr) (lv lf : Int) (hlf : lf ≤ 1000000) (hlv : 1 ≤ lv) (hlv2 : lv ≤ 1000) : ∀ (us : List M.Expr) (i : Nat) (nx : Int), x.Args.drop i = us → i ≤ x.Args.length → -1 ≤ nx → nx ≤ lf - 1 - i →
    (∀ y, y ∈ us → ∀ lv lf : Int, 0 ≤ lf → lf ≤ 1000000 → -1 ≤ lv → lv ≤ 1000 → Tt (fun s => -1 ≤ s ∧ s ≤ lf - 1 ∧ (0 ≤ s → Fit y)) (fun n => ref35_size n y lf lv)) →
    ∃ N r, (-1 ≤ r ∧ r ≤ lf - 1 ∧ (0 ≤ r → x.Args.length ≤ 1000000 ∧ ∀ y, y ∈ us → Fit y)) ∧ ∀ n m, N ≤ n → us.length < m → ref35_size_L1 n (ref35_size n) x lv (fun nx3 => some nx3) m nx (i : Int) = some r
  | [], i, nx, hd, hi, h1, h2, _ => by
    have hlen : x.Args.length ≤ i := Rt.drop_nil hd
    refine ⟨0, nx, ⟨h1, by omega, fun h => ⟨by omega, by simp⟩⟩, fun n m _ hm => ?_⟩
    obtain ⟨m, rfl⟩ := left hm
    rw [ref35_size_L1_s, more_no hd]; rfl
  | y :: us, i, nx, hd, hi, h1, h2, H => by
    obtain ⟨g1, g2, g3⟩ := drop_cons hd
    by_cases h0 : 0 ≤ nx
    · obtain ⟨s, ⟨N1, e1⟩, s1, s2, s3⟩ := H y (by simp) (lv - 1) nx h0 (by omega) (by omega) (by omega)
      obtain ⟨N, r, ⟨r1, r2, r3⟩, ih⟩ := size_L x lv lf hlf hlv hlv2 us (i + 1) s g2 (by omega) s1 (by omega) (fun z hz => H z (by simp [hz]))
      refine ⟨max N N1, r, ⟨r1, r2, fun hr => ⟨(r3 hr).1, fun z hz => ?_⟩⟩, fun n m hn hm => ?_⟩
      · rcases List.mem_cons.1 hz with rfl | hz
        · refine s3 ?_
          rcases Int.lt_or_le s 0 with hs | hs
          · exfalso
            have e : s = -1 := by omega
            have := ih (max N N1 + us.length + 2) (us.length + 1) (by omega) (by omega)
            rw [e] at this
            have hstop : ref35_size_L1 (max N N1 + us.length + 2) (ref35_size (max N N1 + us.length + 2)) x lv (fun nx3 => some nx3) (us.length + 1) (-1) ((i + 1 : Nat) : Int) = some (-1) := by
              rw [ref35_size_L1_s]
              cases decide (((i + 1 : Nat) : Int) < (x.Args.length : Int)) <;> rfl
            rw [hstop] at this
            cases this
            omega
          · exact hs
        · exact (r3 hr).2 z hz
      · obtain ⟨m, rfl, hm2⟩ := pred (by simpa using hm)
        have e1 : ref35_size n y nx (lv - 1) = some s := e1 n (by omega)
        rw [ref35_size_L1_s, more_yes hd, cond_true, Option.bind_some, decide_eq_true h0, cond_true, g1, Option.bind_some, isub_i64 (by omega) (by omega), e1, Option.bind_some, inc64 (by omega)]
        exact ih n m (by omega) hm2
    · refine ⟨0, nx, ⟨h1, by omega, fun h => absurd h h0⟩, fun n m _ hm => ?_⟩
      obtain ⟨m, rfl⟩ := left hm
      rw [ref35_size_L1_s, more_yes hd, cond_true, Option.bind_some, decide_eq_false h0]; rfl
theorem size_t : ∀ (x : M.Expr) (lv lf : Int), 0 ≤ lf → lf ≤ 1000000 → -1 ≤ lv → lv ≤ 1000 → Tt (fun s => -1 ≤ s ∧ s ≤ lf - 1 ∧ (0 ≤ s → Fit x)) (fun n => ref35_size n x lf lv) := by
  refine Expr_ind ?_
  intro o k s l ih lv lf h1 h2 h3 h4
  refine Tt.suc (fun n => ref35_size_s n _ _ _) ?_
  refine Tt.bif (fun _ => Tt.pure ⟨by omega, by omega, fun h => by omega⟩) (fun h => ?_)
  have h5 := of_decide_eq_false h
  rw [isub_i64 (by omega) (by omega)]
  obtain ⟨N, r, ⟨r1, r2, r3⟩, hN⟩ := size_L ⟨o, k, s, l⟩ lv lf h2 (by omega) h4 l 0 (lf - 1) rfl (by simp) (by omega) (by omega) ih
  exact ⟨r, ⟨N + l.length + 1, fun n hn => hN n n (by omega) (by omega)⟩, r1, r2, fun h => Fit.mk (r3 h).1 (r3 h).2⟩
theorem FewX_t (x : M.Expr) (a b : Int) (ha : 0 ≤ a) (ha2 : a ≤ 1000000) (hb : 0 ≤ b) (hb2 : b ≤ 1000) : Tt (fun c => c = true → Fit x) (fun n => ref35_Few n x a b) := by
  unfold ref35_Few
  refine Tt.bind (size_t x b a ha ha2 (by omega) hb2) fun s hs => ?_
  exact Tt.pure fun h => hs.2.2 (of_decide_eq_true h)
def Agree (s : Int) (r : Int × Bool) : Prop := (0 ≤ s → r = (s, true)) ∧ (s < 0 → r.2 = false)
theorem both_L (x : M.Expr) (lv lf : Int) (hx : x.Args.length ≤ 1000000) (hlf : lf ≤ 1000000) (hlv : 1 ≤ lv) (hlv2 : lv ≤ 1000) : ∀ (us : List M.Expr) (i : Nat) (nx : Int), x.Args.drop i = us → 0 ≤ nx → nx ≤ lf →
    (∀ y, y ∈ us → ∀ lv lf : Int, 0 ≤ lf → lf ≤ 1000000 → -1 ≤ lv → lv ≤ 1000 → ∃ s r, Ev (fun n => ref35_size n y lf lv) s ∧ Ev (fun n => tariff_sized n y lv lf) r ∧ Agree s r ∧ s ≤ lf - 1) →
    ∃ N s r, Agree s r ∧ s ≤ nx ∧ ∀ n m, N ≤ n → us.length < m → ref35_size_L1 n (ref35_size n) x lv (fun nx3 => some nx3) m nx (i : Int) = some s ∧ tariff_sized_L1 n (tariff_sized n) x lv (fun f2 => some (f2, true)) m (i : Int) nx = some r
  | [], i, nx, hd, h1, h2, _ => by
    refine ⟨0, nx, (nx, true), ⟨fun _ => rfl, fun h => by omega⟩, by omega, fun n m _ hm => ?_⟩
    obtain ⟨m, rfl⟩ := left hm
    rw [ref35_size_L1_s, more_no hd, tariff_sized_L1_s, more_no hd]; exact ⟨rfl, rfl⟩
  | y :: us, i, nx, hd, h1, h2, H => by
    obtain ⟨g1, g2, g3⟩ := drop_cons hd
    obtain ⟨s, ⟨lf', b⟩, ⟨N1, e1⟩, ⟨N2, e2⟩, ⟨A1, A2⟩, hs⟩ := H y (by simp) (lv - 1) nx h1 (by omega) (by omega) (by omega)
    rcases Int.lt_or_le s 0 with h0 | h0
    · have hb : b = false := A2 h0
      subst hb
      refine ⟨max N1 N2, s, (lf', false), ⟨fun h => by omega, fun _ => rfl⟩, by omega, fun n m hn hm => ?_⟩
      obtain ⟨m, rfl, hm2⟩ := pred (by simpa using hm)
      have e1 : ref35_size n y nx (lv - 1) = some s := e1 n (by omega)
      have e2 : tariff_sized n y (lv - 1) nx = some (lf', false) := e2 n (by omega)
      obtain ⟨m', rfl⟩ := left hm2
      constructor
      · rw [ref35_size_L1_s, more_yes hd, cond_true, Option.bind_some, decide_eq_true h1, cond_true, g1, Option.bind_some, isub_i64 (by omega) (by omega), e1, Option.bind_some, inc64 (by omega), ref35_size_L1_s, decide_eq_false (show ¬ 0 ≤ s by omega)]
        cases decide (((i + 1 : Nat) : Int) < (x.Args.length : Int)) <;> rfl
      · rw [tariff_sized_L1_s, more_yes hd, cond_true, g1, Option.bind_some, isub_i64 (by omega) (by omega), e2]; rfl
    · have hb := A1 h0
      simp only [Prod.mk.injEq] at hb
      obtain ⟨rfl, rfl⟩ := hb
      obtain ⟨N, s2, r2, A, hs2, ih⟩ := both_L x lv lf hx hlf hlv hlv2 us (i + 1) lf' g2 h0 (by omega) (fun z hz => H z (by simp [hz]))
      refine ⟨max N (max N1 N2), s2, r2, A, by omega, fun n m hn hm => ?_⟩
      obtain ⟨m, rfl, hm2⟩ := pred (by simpa using hm)
      have e1 : ref35_size n y nx (lv - 1) = some lf' := e1 n (by omega)
      have e2 : tariff_sized n y (lv - 1) nx = some (lf', true) := e2 n (by omega)
      have ih := ih n m (by omega) hm2
      constructor
      · rw [ref35_size_L1_s, more_yes hd, cond_true, Option.bind_some, decide_eq_true h1, cond_true, g1, Option.bind_some, isub_i64 (by omega) (by omega), e1, Option.bind_some, inc64 (by omega)]
        exact ih.1
      · rw [tariff_sized_L1_s, more_yes hd, cond_true, g1, Option.bind_some, isub_i64 (by omega) (by omega), e2, Option.bind_some]
        dsimp only
        rw [Bool.not_true, cond_false, inc64 (by omega)]
        exact ih.2
theorem both_t {x : M.Expr} (hx : Fit x) : ∀ lv lf : Int, 0 ≤ lf → lf ≤ 1000000 → -1 ≤ lv → lv ≤ 1000 → ∃ s r, Ev (fun n => ref35_size n x lf lv) s ∧ Ev (fun n => tariff_sized n x lv lf) r ∧ Agree s r ∧ s ≤ lf - 1 := by
  induction hx with
  | @mk o k s l hl _ ih =>
    intro lv lf h1 h2 h3 h4
    by_cases hlv : lv < 1
    · refine ⟨-1, (lf - 1, false), Ev.suc (fun n => ref35_size_s n _ _ _) (Ev.then (decide_eq_true hlv) (Ev.pure _)), ?_, ⟨fun h => by omega, fun _ => rfl⟩, by omega⟩
      refine Ev.suc (fun n => tariff_sized_s n _ _ _) ?_
      rw [isub_i64 (by omega) (by omega)]
      exact Ev.bind (Ev.then (decide_eq_true hlv) (Ev.pure _)) (Ev.then rfl (Ev.pure _))
    · by_cases hlf : lf - 1 < 0
      · refine ⟨-1, (lf - 1, false), ?_, ?_, ⟨fun h => by omega, fun _ => rfl⟩, by omega⟩
        · refine Ev.suc (fun n => ref35_size_s n _ _ _) (Ev.else (decide_eq_false hlv) ?_)
          rw [isub_i64 (by omega) (by omega)]
          refine ⟨1, fun n hn => ?_⟩
          obtain ⟨m, rfl⟩ := left hn
          show ref35_size_L1 (m + 1) _ _ _ _ (m + 1) _ _ = _
          rw [ref35_size_L1_s, decide_eq_false (show ¬ 0 ≤ lf - 1 by omega), show lf - 1 = -1 by omega]
          cases decide ((0 : Int) < ((⟨o, k, s, l⟩ : M.Expr).Args.length : Int)) <;> rfl
        · refine Ev.suc (fun n => tariff_sized_s n _ _ _) ?_
          rw [isub_i64 (by omega) (by omega)]
          exact Ev.bind (a := true) (Ev.else (decide_eq_false hlv) ((Ev.pure _).eq (decide_eq_true hlf))) (Ev.then rfl (Ev.pure _))
      · obtain ⟨N, s2, r2, A, hs, h⟩ := both_L ⟨o, k, s, l⟩ lv lf hl h2 (by omega) h4 l 0 (lf - 1) rfl (by omega) (by omega) ih
        refine ⟨s2, r2, ?_, ?_, A, by omega⟩
        · refine Ev.suc (fun n => ref35_size_s n _ _ _) (Ev.else (decide_eq_false hlv) ?_)
          rw [isub_i64 (by omega) (by omega)]
          exact ⟨N + l.length + 1, fun n hn => (h n n (by omega) (by omega)).1⟩
        · refine Ev.suc (fun n => tariff_sized_s n _ _ _) ?_
          rw [isub_i64 (x := lf) (by omega) (by omega)]
          refine Ev.bind (a := false) (Ev.else (decide_eq_false hlv) ((Ev.pure _).eq (decide_eq_false hlf))) (Ev.else rfl ?_)
          exact ⟨N + l.length + 1, fun n hn => (h n n (by omega) (by omega)).2⟩
theorem few_2 {x : M.Expr} (hx : Fit x) : ∃ (b : Bool) (z : Int), Ev (fun n => tariff_sized n x 10 100) (z, b) ∧ Ev (fun n => ref35_Few n x 100 10) b := by
  obtain ⟨s, ⟨z, b⟩, h1, h2, ⟨A1, A2⟩, _⟩ := both_t hx 10 100 (by decide) (by decide) (by decide) (by decide)
  refine ⟨b, z, h2, ?_⟩
  unfold ref35_Few
  refine Ev.bind h1 ((Ev.pure _).eq ?_)
  rcases Int.lt_or_le s 0 with h0 | h0
  · rw [decide_eq_false (by omega)]; exact (A2 h0).symm
  · have := A1 h0
    simp only [Prod.mk.injEq] at this
    rw [decide_eq_true h0]; exact this.2.symm
end Go.Proofs.YtpihabofmnnbbaaGreatDoor.Ta

namespace Go.Proofs.YtpihabofmnnbbaaGreatDoor.Pr
open Go Rt M Ta Tp
def sgn (o : Int) : Rt.Bs :=
  if o = 5 then [43] else if o = 6 then [45] else if o = 7 then [42] else if o = 8 then [47] else if o = 12 then [60] else if o = 13 then [61] else if o = 15 then [97, 110, 100] else [111, 114]
def txo (o n : Int) (s : Rt.Bs) : List (Rt.Bs × Rt.Bs) → Rt.Bs
  | [] => if o = 0 then Lib.itoa n else if o = 2 then [112, 101, 114, 115, 111, 110, 115] else if o = 3 then [102, 108, 97, 116, 115] else if o = 1 then ([108, 105, 102, 116, 115, 32, 40, 32] ++ s) ++ [32, 41] else ([119, 101, 105, 103, 104, 116, 32, 40, 32] ++ s) ++ [32, 41]
  | [a] => [110, 111, 116, 32] ++ a.2
  | [a, b] => if o = 9 then ((([109, 105, 110, 32, 40, 32] ++ a.1) ++ [32, 44, 32]) ++ b.1) ++ [32, 41] else if o = 10 then ((([109, 97, 120, 32, 40, 32] ++ a.1) ++ [32, 44, 32]) ++ b.1) ++ [32, 41] else (((a.2 ++ [32]) ++ sgn o) ++ [32]) ++ b.2
  | a :: b :: c :: _ => (((([105, 102, 32] ++ a.2) ++ [32, 116, 104, 101, 110, 32]) ++ b.2) ++ [32, 101, 108, 115, 101, 32]) ++ c.2
def ato (o : Int) (l : List M.Expr) (t : Rt.Bs) : Rt.Bs := bif (!l.isEmpty && o != 9) && o != 10 then ([40, 32] ++ t) ++ [32, 41] else t
mutual
def ta : M.Expr → Rt.Bs × Rt.Bs
  | ⟨o, n, s, l⟩ => (txo o n s (tas l), ato o l (txo o n s (tas l)))
def tas : List M.Expr → List (Rt.Bs × Rt.Bs)
  | [] => []
  | x :: l => ta x :: tas l
 end
theorem scat_eq {a b : Rt.Bs} (h : a.length + b.length ≤ 1000000000) : scat a b = some (a ++ b) := by unfold scat; rw [if_pos (by omega)]
theorem name_le {s : Rt.Bs} (h : Lx.name s = true) : s.length ≤ 20 := by
  unfold Lx.name at h
  simp only [Bool.and_eq_true, decide_eq_true_eq] at h
  omega
def TxOk (x : M.Expr) : Prop := (Ev (fun n => tariff_text n x) (ta x).1 ∧ Ev (fun n => tariff_atomic n x) (ta x).2) ∧ (ta x).1.length ≤ 80 * cnt x ∧ (ta x).2.length ≤ 80 * cnt x + 4
theorem atomic_of {o n : Int} {s : Rt.Bs} {l : List M.Expr} (ht : Ev (fun m => tariff_text m ⟨o, n, s, l⟩) (ta ⟨o, n, s, l⟩).1) (hl : (ta ⟨o, n, s, l⟩).1.length ≤ 80 * cnt ⟨o, n, s, l⟩) (hc : cnt ⟨o, n, s, l⟩ ≤ 1000) : TxOk ⟨o, n, s, l⟩ := by
  have e : (ta ⟨o, n, s, l⟩).2 = ato o l (ta ⟨o, n, s, l⟩).1 := rfl
  refine ⟨⟨ht, ?_⟩, hl, ?_⟩
  · rw [e]
    refine Ev.suc (fun m => tariff_atomic_s m _) ?_
    have hlen : decide (0 < (l.length : Int)) = !l.isEmpty := by cases l with
      | nil => rfl
      | cons => simp only [List.length_cons, List.isEmpty_cons, Bool.not_false, decide_eq_true_eq]; omega
    have h1 : (bif decide (0 < (l.length : Int)) then some (o != 9) else some false) = some (!l.isEmpty && o != 9) := by rw [hlen]; cases l.isEmpty <;> rfl
    refine Ev.step (a := !l.isEmpty && o != 9) h1 ?_
    have h2 : ∀ c : Bool, (bif c then some (o != 10) else some false) = some (c && o != 10) := fun c => by cases c <;> rfl
    refine Ev.step (h2 _) ?_
    unfold ato
    cases (!l.isEmpty && o != 9) && o != 10 with
    | true => exact Ev.then rfl (Ev.bind ht (Ev.step (scat_eq (by simp only [List.length_cons, List.length_nil]; omega)) (Ev.step (scat_eq (by simp only [List.length_append, List.length_cons, List.length_nil]; omega)) (Ev.pure _))))
    | false => exact Ev.else rfl (Ev.bind ht (Ev.pure _))
  · rw [e]; unfold ato
    cases (!l.isEmpty && o != 9) && o != 10 with
    | true => simp only [cond_true, List.length_append, List.length_cons, List.length_nil]; omega
    | false => simp only [cond_false]; omega
def ops : List (Rt.Bs × Int) := [([43], 5), ([45], 6), ([42], 7), ([47], 8), ([60], 12), ([61], 13), ([97, 110, 100], 15), ([111, 114], 16)]
theorem operators_n (n : Nat) : tariff_operators n = some ops := rfl
theorem shx_len {o : Int} {l : List M.Expr} {k : Nat} (h : (l.length : Int) = argsN o) (hk : argsN o = k) : l.length = k := by omega
theorem text_ok {x : M.Expr} (hs : Shx x) : cnt x ≤ 1000 → TxOk x := by
  induction hs with
  | @mk o n s l h0 h16 hl hno _ ih =>
    intro hc
    have hcc : cnt ⟨o, n, s, l⟩ = cnts l + 1 := rfl
    have bin : (o = 5 ∨ o = 6 ∨ o = 7 ∨ o = 8 ∨ o = 12 ∨ o = 13 ∨ o = 15 ∨ o = 16) → TxOk ⟨o, n, s, l⟩ := by
      intro ho
      have hl2 : l.length = 2 := shx_len hl (by unfold argsN; rw [if_neg (by omega), if_neg (by omega), if_neg (by omega)]; rfl)
      obtain ⟨a, b, rfl⟩ : ∃ a b, l = [a, b] := by
        match l, hl2 with
        | [a, b], _ => exact ⟨a, b, rfl⟩
      have hcab : cnt ⟨o, n, s, [a, b]⟩ = cnt a + (cnt b + 0) + 1 := rfl
      obtain ⟨⟨_, ea⟩, _, la⟩ := ih a (by simp) (by omega)
      obtain ⟨⟨_, eb⟩, _, lb⟩ := ih b (by simp) (by omega)
      have hsg : (sgn o).length ≤ 3 := by rcases ho with rfl | rfl | rfl | rfl | rfl | rfl | rfl | rfl <;> decide
      have hf : List.find? (fun (q : Bs × Int) => q.2 == o) ops = some (sgn o, o) := by rcases ho with rfl | rfl | rfl | rfl | rfl | rfl | rfl | rfl <;> rfl
      have et : (ta ⟨o, n, s, [a, b]⟩).1 = ((((ta a).2 ++ [32]) ++ sgn o) ++ [32]) ++ (ta b).2 := by
        show (if o = 9 then _ else if o = 10 then _ else (((ta a).2 ++ [32]) ++ sgn o) ++ [32] ++ (ta b).2) = _
        rw [if_neg (by omega), if_neg (by omega)]
      refine atomic_of ?_ ?_ hc
      · rw [et]
        refine Ev.suc (fun m => tariff_text_s m _) ?_
        have e : ∀ k : Int, (k = 0 ∨ k = 1 ∨ k = 2 ∨ k = 3 ∨ k = 4 ∨ k = 9 ∨ k = 10 ∨ k = 14 ∨ k = 11) → (o == k) = false := fun k hk => by rw [beq_eq_false_iff_ne]; omega
        refine Ev.else (e 0 (by decide)) (Ev.else (e 2 (by decide)) (Ev.else (e 3 (by decide)) (Ev.else (e 1 (by decide)) (Ev.else (e 4 (by decide)) (Ev.else (e 9 (by decide)) (Ev.else (e 10 (by decide)) (Ev.else (e 14 (by decide)) (Ev.else (e 11 (by decide)) ?_))))))))
        refine Ev.bind (Ev.all fun m => operators_n m) ?_
        refine Ev.from (g := fun m => (ix [a, b] 0).bind fun ex10 => (tariff_atomic m ex10).bind fun v12 => (scat v12 [32]).bind fun t19 => (scat t19 (sgn o)).bind fun t20 => (scat t20 [32]).bind fun t21 => (ix [a, b] 1).bind fun ex11 => (tariff_atomic m ex11).bind fun v13 => (scat t21 v13).bind fun t22 => some t22) 9 (fun m hm => ?_) ?_
        · show mloop m ops.length (match List.find? (fun (q : Bs × Int) => q.2 == o) ops with | none => some [] | some q => _) = _
          unfold mloop
          rw [if_neg (by show ¬m ≤ 8; omega), hf]
        · refine Ev.step (a := a) rfl (Ev.bind ea (Ev.step (scat_eq ?_) (Ev.step (scat_eq ?_) (Ev.step (scat_eq ?_) (Ev.step (a := b) rfl (Ev.bind eb (Ev.step (scat_eq ?_) (Ev.pure _))))))))
          all_goals simp only [List.length_append, List.length_cons, List.length_nil]; omega
      · rw [et]; simp only [List.length_append, List.length_cons, List.length_nil]; omega
    have hcs : o = 0 ∨ o = 1 ∨ o = 2 ∨ o = 3 ∨ o = 4 ∨ o = 9 ∨ o = 10 ∨ o = 11 ∨ o = 14 ∨ (o = 5 ∨ o = 6 ∨ o = 7 ∨ o = 8 ∨ o = 12 ∨ o = 13 ∨ o = 15 ∨ o = 16) := by omega
    rcases hcs with rfl | rfl | rfl | rfl | rfl | rfl | rfl | rfl | rfl | ho
    · obtain rfl : l = [] := List.length_eq_zero_iff.1 (shx_len hl rfl)
      unfold nodeok at hno
      rw [if_pos rfl] at hno
      have hi := Lib.itoa_length_le n (by omega) (by omega)
      refine atomic_of ?_ (by show (Lib.itoa n).length ≤ 80 * 1; omega) hc
      refine Ev.suc (fun m => tariff_text_s m _) (Ev.then rfl (Ev.step (a := Lib.itoa n) ?_ (Ev.pure _)))
      show (if -9223372036854775808 ≤ n ∧ n ≤ 9223372036854775807 then some (Lib.itoa n) else none) = _
      rw [if_pos (by omega)]
    · obtain rfl : l = [] := List.length_eq_zero_iff.1 (shx_len hl rfl)
      unfold nodeok at hno
      rw [if_neg (by decide), if_pos (by decide)] at hno
      have hn := name_le hno.2
      refine atomic_of ?_ (by show (([108, 105, 102, 116, 115, 32, 40, 32] ++ s) ++ [32, 41]).length ≤ 80 * 1; simp only [List.length_append, List.length_cons, List.length_nil]; omega) hc
      refine Ev.suc (fun m => tariff_text_s m _) (Ev.else rfl (Ev.else rfl (Ev.else rfl (Ev.then rfl (Ev.step (scat_eq ?_) (Ev.step (scat_eq ?_) (Ev.pure _)))))))
      all_goals simp only [List.length_append, List.length_cons, List.length_nil]; omega
    · obtain rfl : l = [] := List.length_eq_zero_iff.1 (shx_len hl rfl)
      refine atomic_of ?_ (by show 7 ≤ 80 * 1; decide) hc
      exact Ev.suc (fun m => tariff_text_s m _) (Ev.else rfl (Ev.then rfl (Ev.pure _)))
    · obtain rfl : l = [] := List.length_eq_zero_iff.1 (shx_len hl rfl)
      refine atomic_of ?_ (by show 5 ≤ 80 * 1; decide) hc
      exact Ev.suc (fun m => tariff_text_s m _) (Ev.else rfl (Ev.else rfl (Ev.then rfl (Ev.pure _))))
    · obtain rfl : l = [] := List.length_eq_zero_iff.1 (shx_len hl rfl)
      unfold nodeok at hno
      rw [if_neg (by decide), if_pos (by decide)] at hno
      have hn := name_le hno.2
      refine atomic_of ?_ (by show (([119, 101, 105, 103, 104, 116, 32, 40, 32] ++ s) ++ [32, 41]).length ≤ 80 * 1; simp only [List.length_append, List.length_cons, List.length_nil]; omega) hc
      refine Ev.suc (fun m => tariff_text_s m _) (Ev.else rfl (Ev.else rfl (Ev.else rfl (Ev.else rfl (Ev.then rfl (Ev.step (scat_eq ?_) (Ev.step (scat_eq ?_) (Ev.pure _))))))))
      all_goals simp only [List.length_append, List.length_cons, List.length_nil]; omega
    · have hl2 : l.length = 2 := shx_len hl rfl
      obtain ⟨a, b, rfl⟩ : ∃ a b, l = [a, b] := by
        match l, hl2 with
        | [a, b], _ => exact ⟨a, b, rfl⟩
      have hcab : cnt ⟨9, n, s, [a, b]⟩ = cnt a + (cnt b + 0) + 1 := rfl
      obtain ⟨⟨ea, _⟩, la, _⟩ := ih a (by simp) (by omega)
      obtain ⟨⟨eb, _⟩, lb, _⟩ := ih b (by simp) (by omega)
      have et : (ta ⟨9, n, s, [a, b]⟩).1 = ((([109, 105, 110, 32, 40, 32] ++ (ta a).1) ++ [32, 44, 32]) ++ (ta b).1) ++ [32, 41] := rfl
      refine atomic_of ?_ ?_ hc
      · rw [et]
        refine Ev.suc (fun m => tariff_text_s m _) (Ev.else rfl (Ev.else rfl (Ev.else rfl (Ev.else rfl (Ev.else rfl (Ev.then rfl ?_))))))
        refine Ev.step (a := a) rfl (Ev.bind ea (Ev.step (scat_eq ?_) (Ev.step (scat_eq ?_) (Ev.step (a := b) rfl (Ev.bind eb (Ev.step (scat_eq ?_) (Ev.step (scat_eq ?_) (Ev.pure _))))))))
        all_goals simp only [List.length_append, List.length_cons, List.length_nil]; omega
      · rw [et]; simp only [List.length_append, List.length_cons, List.length_nil]; omega
    · have hl2 : l.length = 2 := shx_len hl rfl
      obtain ⟨a, b, rfl⟩ : ∃ a b, l = [a, b] := by
        match l, hl2 with
        | [a, b], _ => exact ⟨a, b, rfl⟩
      have hcab : cnt ⟨10, n, s, [a, b]⟩ = cnt a + (cnt b + 0) + 1 := rfl
      obtain ⟨⟨ea, _⟩, la, _⟩ := ih a (by simp) (by omega)
      obtain ⟨⟨eb, _⟩, lb, _⟩ := ih b (by simp) (by omega)
      have et : (ta ⟨10, n, s, [a, b]⟩).1 = ((([109, 97, 120, 32, 40, 32] ++ (ta a).1) ++ [32, 44, 32]) ++ (ta b).1) ++ [32, 41] := rfl
      refine atomic_of ?_ ?_ hc
      · rw [et]
        refine Ev.suc (fun m => tariff_text_s m _) (Ev.else rfl (Ev.else rfl (Ev.else rfl (Ev.else rfl (Ev.else rfl (Ev.else rfl (Ev.then rfl ?_)))))))
        refine Ev.step (a := a) rfl (Ev.bind ea (Ev.step (scat_eq ?_) (Ev.step (scat_eq ?_) (Ev.step (a := b) rfl (Ev.bind eb (Ev.step (scat_eq ?_) (Ev.step (scat_eq ?_) (Ev.pure _))))))))
        all_goals simp only [List.length_append, List.length_cons, List.length_nil]; omega
      · rw [et]; simp only [List.length_append, List.length_cons, List.length_nil]; omega
    · have hl3 : l.length = 3 := shx_len hl rfl
      obtain ⟨a, b, c, rfl⟩ : ∃ a b c, l = [a, b, c] := by
        match l, hl3 with
        | [a, b, c], _ => exact ⟨a, b, c, rfl⟩
      have hcab : cnt ⟨11, n, s, [a, b, c]⟩ = cnt a + (cnt b + (cnt c + 0)) + 1 := rfl
      obtain ⟨⟨_, ea⟩, _, la⟩ := ih a (by simp) (by omega)
      obtain ⟨⟨_, eb⟩, _, lb⟩ := ih b (by simp) (by omega)
      obtain ⟨⟨_, ec⟩, _, lc⟩ := ih c (by simp) (by omega)
      have et : (ta ⟨11, n, s, [a, b, c]⟩).1 = (((([105, 102, 32] ++ (ta a).2) ++ [32, 116, 104, 101, 110, 32]) ++ (ta b).2) ++ [32, 101, 108, 115, 101, 32]) ++ (ta c).2 := rfl
      refine atomic_of ?_ ?_ hc
      · rw [et]
        refine Ev.suc (fun m => tariff_text_s m _) (Ev.else rfl (Ev.else rfl (Ev.else rfl (Ev.else rfl (Ev.else rfl (Ev.else rfl (Ev.else rfl (Ev.else rfl (Ev.then rfl ?_)))))))))
        refine Ev.step (a := a) rfl (Ev.bind ea (Ev.step (scat_eq ?_) (Ev.step (scat_eq ?_) (Ev.step (a := b) rfl (Ev.bind eb (Ev.step (scat_eq ?_) (Ev.step (scat_eq ?_) (Ev.step (a := c) rfl (Ev.bind ec (Ev.step (scat_eq ?_) (Ev.pure _)))))))))))
        all_goals simp only [List.length_append, List.length_cons, List.length_nil]; omega
      · rw [et]; simp only [List.length_append, List.length_cons, List.length_nil]; omega
    · have hl1 : l.length = 1 := shx_len hl rfl
      obtain ⟨a, rfl⟩ : ∃ a, l = [a] := by
        match l, hl1 with
        | [a], _ => exact ⟨a, rfl⟩
      have hcab : cnt ⟨14, n, s, [a]⟩ = cnt a + 0 + 1 := rfl
      obtain ⟨⟨_, ea⟩, _, la⟩ := ih a (by simp) (by omega)
      have et : (ta ⟨14, n, s, [a]⟩).1 = [110, 111, 116, 32] ++ (ta a).2 := rfl
      refine atomic_of ?_ ?_ hc
      · rw [et]
        refine Ev.suc (fun m => tariff_text_s m _) (Ev.else rfl (Ev.else rfl (Ev.else rfl (Ev.else rfl (Ev.else rfl (Ev.else rfl (Ev.else rfl (Ev.then rfl ?_))))))))
        refine Ev.step (a := a) rfl (Ev.bind ea (Ev.step (scat_eq ?_) (Ev.pure _)))
        simp only [List.length_cons, List.length_nil]; omega
      · rw [et]; simp only [List.length_append, List.length_cons, List.length_nil]; omega
    · exact bin ho
def ptx (t : Tariff) : Rt.Bs :=
  ((([116, 97, 114, 105, 102, 102, 32] ++ t.Name) ++ [32, 123, 32, 102, 101, 101, 32, 61, 32]) ++ (ta t.Fee).1 ++ [32, 59]) ++ (if t.Cap ≠ -1 then ([32, 99, 97, 112, 32, 61, 32] ++ Lib.itoa t.Cap) ++ [32, 59] else []) ++ [32, 125]
theorem print_ev {t : Tariff} (hx : Fit t.Fee) : Tt (fun r => (Wrt t ∧ r = (ptx t, true)) ∨ (¬Wrt t ∧ r = ([], false))) (fun n => tariff_Print n t) := by
  unfold tariff_Print
  obtain ⟨b, eb, hb⟩ := writable_x hx
  refine Tt.evb eb ?_
  cases b with
  | false => exact Tt.bif (fun _ => Tt.pure (.inr ⟨fun h => (by have := hb.2 h; cases this), rfl⟩)) (fun h => by cases h)
  | true =>
    refine Tt.bif (fun h => by cases h) (fun _ => ?_)
    have hw : Wrt t := hb.1 rfl
    have hn := name_le hw.1
    have hc := hw.2.1.1.2
    obtain ⟨⟨et, _⟩, lt, _⟩ := text_ok hw.2.1.2 (by omega)
    have hcap := hw.2.2
    have hi := Lib.itoa_length_le t.Cap (by omega) (by omega)
    refine Tt.of (r := (ptx t, true)) ?_ (.inl ⟨hw, rfl⟩)
    refine Ev.step (scat_eq ?_) (Ev.step (scat_eq ?_) (Ev.bind et (Ev.step (scat_eq ?_) (Ev.step (scat_eq ?_) ?_))))
    · simp only [List.length_cons, List.length_nil]; omega
    · simp only [List.length_append, List.length_cons, List.length_nil]; omega
    · simp only [List.length_append, List.length_cons, List.length_nil]; omega
    · simp only [List.length_append, List.length_cons, List.length_nil]; omega
    unfold ptx
    by_cases h1 : t.Cap = -1
    · rw [if_neg (fun h => h h1), List.append_nil]
      refine Ev.bind (Ev.else (by rw [h1]; rfl) (Ev.pure _)) (Ev.step (scat_eq ?_) (Ev.pure _))
      simp only [List.length_append, List.length_cons, List.length_nil]; omega
    · rw [if_pos h1]
      refine Ev.bind (Ev.then (by simpa using h1) (Ev.step (a := Lib.itoa t.Cap) ?_ (Ev.step (scat_eq ?_) (Ev.step (scat_eq ?_) (Ev.step (scat_eq ?_) (Ev.pure _)))))) (Ev.step (scat_eq ?_) (Ev.pure _))
      · show (if -9223372036854775808 ≤ t.Cap ∧ t.Cap ≤ 9223372036854775807 then some (Lib.itoa t.Cap) else none) = _
        rw [if_pos (by omega)]
      all_goals simp only [List.length_append, List.length_cons, List.length_nil]; omega
theorem short_t {x : M.Expr} (hx : Fit x) : Tt (fun _ => True) (fun n => law35_short n x) := by
  have L : ∀ (x : M.Expr), x.Args.length ≤ 1000000 → ∀ (us : List M.Expr) (i : Nat), x.Args.drop i = us → (∀ y, y ∈ us → Tt (fun _ => True) (fun n => law35_short n y)) →
      ∀ (c : Bool), ∃ N r, ∀ n m, N ≤ n → us.length < m → law35_short_L1 n (law35_short n) x (some c) m (i : Int) = some r := by
    intro x hx us
    induction us with
    | nil =>
      intro i hd _ c
      refine ⟨0, c, fun n m _ hm => ?_⟩
      obtain ⟨m, rfl⟩ := left hm
      rw [law35_short_L1_s, more_no hd]; rfl
    | cons y us ih =>
      intro i hd H c
      obtain ⟨h1, h2, h3⟩ := drop_cons hd
      obtain ⟨b, ⟨N1, e1⟩, _⟩ := H y (by simp)
      obtain ⟨N, r, ih⟩ := ih (i + 1) h2 (fun z hz => H z (by simp [hz])) c
      refine ⟨max N N1, bif b then r else false, fun n m hn hm => ?_⟩
      obtain ⟨m, rfl, hm2⟩ := pred (by simpa using hm)
      have e1 : law35_short n y = some b := e1 n (by omega)
      rw [law35_short_L1_s, more_yes hd, cond_true, h1, Option.bind_some, e1, Option.bind_some]
      cases b with
      | false => rfl
      | true => rw [Bool.not_true, cond_false, inc64 (by omega), ih n m (by omega) hm2]; rfl
  induction hx with
  | @mk o k s l hl _ ih =>
    refine Tt.suc (fun n => law35_short_s n _) ?_
    obtain ⟨N, r, h⟩ := L ⟨o, k, s, l⟩ hl l 0 rfl ih (decide ((s.length : Int) ≤ 60))
    exact ⟨r, ⟨N + l.length + 1, fun n hn => h n n (by omega) (by omega)⟩, trivial⟩
theorem limited_t (t : Tariff) : Tt (fun b => b = true → Fit t.Fee) (fun n => law35_limited n t) := by
  unfold law35_limited
  refine Tt.bind (FewX_t t.Fee 130 14 (by decide) (by decide) (by decide) (by decide)) fun v1 h1 => ?_
  refine Tt.bind (P := fun b => b = true → Fit t.Fee) (Tt.bif (fun h => ?_) (fun _ => Tt.pure fun h => (by cases h))) fun v2 h2 => ?_
  · exact Tt.bind (short_t (h1 h)) fun _ _ => Tt.pure fun _ => h1 h
  refine Tt.bind (P := fun b => b = true → Fit t.Fee) (Tt.bif (fun h => Tt.pure fun _ => h2 h) (fun _ => Tt.pure fun h => (by cases h))) fun v3 h3 => ?_
  exact Tt.pure h3
theorem few35_t (l : List Rt.Bs) : Tt (fun b => b = true → l.length ≤ 10) (fun n => law35_few n l) := by
  have L : ∀ (us : List Rt.Bs) (i : Nat), l.drop i = us → i ≤ 10 → ∃ r : Bool, (r = true → l.length ≤ 10) ∧ ∀ n m, 12 - i < m → law35_few_L1 n l (some (decide ((l.length : Int) ≤ 10))) m (i : Int) = some r := by
    intro us
    induction us with
    | nil =>
      intro i hd _
      refine ⟨decide ((l.length : Int) ≤ 10), fun h => by have := of_decide_eq_true h; omega, fun n m hm => ?_⟩
      obtain ⟨m, rfl⟩ := left hm
      rw [law35_few_L1_s, more_no hd]; rfl
    | cons x us ih =>
      intro i hd hi
      obtain ⟨h1, h2, h3⟩ := drop_cons hd
      by_cases h10 : i < 10
      · obtain ⟨r, hr, ih⟩ := ih (i + 1) h2 (by omega)
        refine ⟨bif decide (60 < (x.length : Int)) then false else r, ?_, fun n m hm => ?_⟩
        · cases decide (60 < (x.length : Int)) with
          | true => intro h; cases h
          | false => exact hr
        · obtain ⟨m, rfl⟩ : ∃ j, m = j + 1 := ⟨m - 1, by omega⟩
          rw [law35_few_L1_s, more_yes hd, cond_true, Option.bind_some, decide_eq_true (show (i : Int) < 10 by omega), cond_true, h1, Option.bind_some]
          cases decide (60 < (x.length : Int)) with
          | true => rfl
          | false => rw [cond_false, inc64 (by omega), ih n m (by omega)]; rfl
      · refine ⟨decide ((l.length : Int) ≤ 10), fun h => by have := of_decide_eq_true h; omega, fun n m hm => ?_⟩
        obtain ⟨m, rfl⟩ := left hm
        rw [law35_few_L1_s, more_yes hd, cond_true, Option.bind_some, decide_eq_false (show ¬(i : Int) < 10 by omega)]; rfl
  obtain ⟨r, hr, h⟩ := L l 0 rfl (by omega)
  exact ⟨r, ⟨13, fun n hn => h n n (by omega)⟩, hr⟩
end Go.Proofs.YtpihabofmnnbbaaGreatDoor.Pr

namespace Go.Proofs.YtpihabofmnnbbaaGreatDoor.Pr
open Go Rt M Ta Tp
def strip (t : Token) : Token := ⟨t.Kind, t.Text, t.N, 0⟩
def Stop (r : Rt.Bs) : Prop := r = [] ∨ Lx.isInner (r.headD 0) = false
def Good (t : Token) : Prop := t.Pos = 0 ∧ Lx.isBlank (t.Text.headD 0) = false ∧ (t.Text.headD 0).toNat ≠ 35 ∧ t.Text ≠ [] ∧ ∀ r, Stop r → Lx.next (t.Text ++ r) = (t, t.Text.length, 0)
def Gap (g : Rt.Bs) : Prop := ∀ (c : UInt8) (r : Rt.Bs), Lx.isBlank c = false → c.toNat ≠ 35 → Lx.gapN false (g ++ c :: r) = g.length
inductive Laid : Rt.Bs → List Token → Prop
  | nil {z : Rt.Bs} : Lx.gapN false z = z.length → Laid z []
  | cons {g r : Rt.Bs} {t : Token} {ws : List Token} : Gap g → Good t → Stop r → Laid r ws → Laid (g ++ (t.Text ++ r)) (t :: ws)
theorem span_stop {p : UInt8 → Bool} : ∀ {s r : Rt.Bs}, Lx.spanN p s = s.length → (r = [] ∨ p (r.headD 0) = false) → Lx.spanN p (s ++ r) = s.length
  | [], r, _, h => by
    rcases h with rfl | h
    · rfl
    · cases r with
      | nil => rfl
      | cons c u =>
        have h : p c = false := h
        show Lx.spanN p (c :: u) = 0
        rw [Lx.spanN, h]; rfl
  | c :: s, r, h1, h => by
    have hle := Lx.spanN_le p s
    rw [Lx.spanN] at h1
    cases hp : p c with
    | false => rw [hp] at h1; simp at h1
    | true =>
      rw [hp, cond_true] at h1
      show Lx.spanN p (c :: (s ++ r)) = s.length + 1
      rw [Lx.spanN, hp, cond_true, span_stop (by simpa using h1) h]
theorem span_all {p : UInt8 → Bool} : ∀ {s : Rt.Bs}, (∀ c, c ∈ s → p c = true) → Lx.spanN p s = s.length
  | [], _ => rfl
  | c :: s, h => by rw [Lx.spanN, h c (by simp), cond_true, span_all (fun d hd => h d (by simp [hd]))]; rfl
theorem byte_of {p : UInt8 → Bool} (h : (List.range 256).all (fun k => p (UInt8.ofNat k)) = true) (c : UInt8) : p c = true := Lx.byte_all h c
theorem letter_plain (c : UInt8) (h : Lx.isLetter c = true) : Lx.isBlank c = false ∧ c.toNat ≠ 35 :=
  of_decide_eq_true (byte_of (p := fun c => decide (Lx.isLetter c = true → Lx.isBlank c = false ∧ c.toNat ≠ 35)) (by decide +kernel) c) h
theorem digit_plain (c : UInt8) (h : Lx.isDigit c = true) : Lx.isBlank c = false ∧ c.toNat ≠ 35 ∧ Lx.isLetter c = false ∧ Lx.isInner c = true :=
  of_decide_eq_true (byte_of (p := fun c => decide (Lx.isDigit c = true → Lx.isBlank c = false ∧ c.toNat ≠ 35 ∧ Lx.isLetter c = false ∧ Lx.isInner c = true)) (by decide +kernel) c) h
theorem sign_plain (c : UInt8) (h : Lx.isSign c = true) : Lx.isBlank c = false ∧ c.toNat ≠ 35 ∧ Lx.isLetter c = false ∧ Lx.isDigit c = false ∧ c.toNat ≠ 34 ∧ Lx.isInner c = false :=
  of_decide_eq_true (byte_of (p := fun c => decide (Lx.isSign c = true → Lx.isBlank c = false ∧ c.toNat ≠ 35 ∧ Lx.isLetter c = false ∧ Lx.isDigit c = false ∧ c.toNat ≠ 34 ∧ Lx.isInner c = false)) (by decide +kernel) c) h
theorem head_app {s r : Rt.Bs} (h : s ≠ []) : (s ++ r).headD 0 = s.headD 0 := by
  cases s with
  | nil => exact absurd rfl h
  | cons c u => rfl
def wN (s : Rt.Bs) : Token := ⟨0, s, 0, 0⟩
def wS (c : UInt8) : Token := ⟨3, [c], 0, 0⟩
def wK (n : Int) : Token := ⟨1, Lib.itoa n, n, 0⟩
theorem good_name {s : Rt.Bs} (h : Lx.name s = true) : Good (wN s) := by
  have h0 := h
  unfold Lx.name at h
  simp only [Bool.and_eq_true, decide_eq_true_eq, beq_iff_eq, Bool.not_eq_true', List.isEmpty_eq_false_iff] at h
  obtain ⟨⟨⟨h1, h2⟩, h3⟩, h4⟩ := h
  have h5 := letter_plain _ h2
  refine ⟨rfl, h5.1, h5.2, h1, fun r hr => ?_⟩
  show Lx.next (s ++ r) = (wN s, s.length, 0)
  unfold Lx.next
  rw [head_app h1, h2, if_pos rfl, span_stop h4 hr, List.take_left, h0, if_pos rfl]; rfl
theorem good_sign {c : UInt8} (h : Lx.isSign c = true) : Good (wS c) := by
  obtain ⟨h1, h2, h3, h4, h5, _⟩ := sign_plain c h
  refine ⟨rfl, h1, h2, by simp [wS], fun r _ => ?_⟩
  show Lx.next (c :: r) = (wS c, 1, 0)
  unfold Lx.next
  rw [List.headD_cons, h3, if_neg (by decide), h4, if_neg (by decide), if_neg h5, h, if_pos rfl]; rfl
theorem dec_snoc (l : Rt.Bs) (c : UInt8) : Lx.dec (l ++ [c]) = 10 * Lx.dec l + (c.toNat - 48) := by unfold Lx.dec; rw [List.foldl_append]; rfl
theorem dig_nat {k : Nat} (h : k < 10) : (UInt8.ofNat (48 + k)).toNat = 48 + k := by simp; omega
theorem dig_is {k : Nat} (h : k < 10) : Lx.isDigit (UInt8.ofNat (48 + k)) = true := by
  unfold Lx.isDigit; rw [dig_nat h]; exact decide_eq_true (by omega)
theorem dec_of (u : Nat) : Lx.dec (Lib.decDigits u) = u ∧ (∀ c, c ∈ Lib.decDigits u → Lx.isDigit c = true) ∧ Lib.decDigits u ≠ [] ∧ (u ≠ 0 → ((Lib.decDigits u).headD 0).toNat ≠ 48) := by
  induction u using Nat.strongRecOn with
  | _ u ih =>
    by_cases h : u < 10
    · rw [Lib.decDigits, dif_pos h]
      refine ⟨?_, ?_, by simp, ?_⟩
      · show 10 * 0 + ((UInt8.ofNat (48 + u)).toNat - 48) = u
        rw [dig_nat h]; omega
      · intro c hc
        obtain rfl := List.mem_singleton.1 hc
        exact dig_is h
      · intro h0
        show (UInt8.ofNat (48 + u)).toNat ≠ 48
        rw [dig_nat h]; omega
    · rw [Lib.decDigits, dif_neg h]
      obtain ⟨i1, i2, i3, i4⟩ := ih (u / 10) (by omega)
      refine ⟨?_, ?_, by simp, fun _ => ?_⟩
      · rw [dec_snoc, i1, dig_nat (by omega)]; omega
      · intro c hc
        rcases List.mem_append.1 hc with hc | hc
        · exact i2 c hc
        · obtain rfl := List.mem_singleton.1 hc
          exact dig_is (by omega)
      · rw [head_app i3]; exact i4 (by omega)
theorem nDigits_le : ∀ (k u : Nat), u < 10 ^ (k + 1) → Lib.nDigits u ≤ k + 1
  | 0, u, h => by rw [Lib.nDigits_small (by simpa using h)]; omega
  | k + 1, u, h => by
    by_cases h1 : u < 10
    · rw [Lib.nDigits_small h1]; omega
    · rw [Lib.nDigits_big h1]
      have := nDigits_le k (u / 10) (by rw [Nat.pow_succ] at h; omega)
      omega
theorem num_of {u : Nat} (h : u ≤ 1099511627776) : Lx.number (Lib.decDigits u) = (u, true) ∧ (Lib.decDigits u).length ≤ 13 := by
  obtain ⟨h1, h2, h3, h4⟩ := dec_of u
  have h5 := span_all h2
  have h6 : (Lib.decDigits u).length ≤ 13 := by rw [Lib.decDigits_length]; exact nDigits_le 12 u (by omega)
  have h7 : Lx.numberOk (Lib.decDigits u) = true := by
    unfold Lx.numberOk
    have e1 : (Lib.decDigits u).isEmpty = false := by simpa using h3
    have e2 : (!((Lib.decDigits u).headD 0 == 48 && !(Lib.decDigits u == [48]))) = true := by
      by_cases h0 : u = 0
      · subst h0; rw [Lib.decDigits]; rfl
      · have : ((Lib.decDigits u).headD 0 == 48) = false := by
          rw [beq_eq_false_iff_ne]
          intro e
          exact h4 h0 (by rw [e]; rfl)
        rw [this]; rfl
    rw [e1, h5, e2, decide_eq_true h6, beq_self_eq_true]; rfl
  refine ⟨?_, h6⟩
  unfold Lx.number
  rw [if_pos ⟨h7, by rw [h1]; exact h⟩, h1]
theorem itoa_nat {n : Int} (h : 0 ≤ n) : Lib.itoa n = Lib.decDigits n.toNat := by unfold Lib.itoa; rw [if_neg (by omega)]
theorem good_num {n : Int} (h : 0 ≤ n) (h2 : n ≤ 1099511627776) : Good (wK n) := by
  obtain ⟨_, g2, g3, _⟩ := dec_of n.toNat
  obtain ⟨h3, _⟩ := num_of (u := n.toNat) (by omega)
  have e : wK n = ⟨1, Lib.decDigits n.toNat, n, 0⟩ := by unfold wK; rw [itoa_nat h]
  have hd : Lx.isDigit ((Lib.decDigits n.toNat).headD 0) = true := by
    cases hc : Lib.decDigits n.toNat with
    | nil => exact absurd hc g3
    | cons c u => exact g2 c (by rw [hc]; simp)
  obtain ⟨p1, p2, p3, _⟩ := digit_plain _ hd
  rw [e]
  refine ⟨rfl, p1, p2, g3, fun r hr => ?_⟩
  show Lx.next (Lib.decDigits n.toNat ++ r) = (⟨1, Lib.decDigits n.toNat, n, 0⟩, (Lib.decDigits n.toNat).length, 0)
  have hr2 : r = [] ∨ Lx.isDigit (r.headD 0) = false := by
    rcases hr with hr | hr
    · exact .inl hr
    · refine .inr ?_
      cases hx : Lx.isDigit (r.headD 0) with
      | false => rfl
      | true => have := (digit_plain _ hx).2.2.2; rw [hr] at this; cases this
  unfold Lx.next
  rw [head_app g3, p3, if_neg (by decide), hd, if_pos rfl, span_stop (span_all g2) hr2, List.take_left, h3, if_pos rfl]
  show ((⟨1, Lib.decDigits n.toNat, ((n.toNat : Nat) : Int), 0⟩ : Token), (Lib.decDigits n.toNat).length, (0 : Int)) = _
  rw [Int.toNat_of_nonneg h]
end Go.Proofs.YtpihabofmnnbbaaGreatDoor.Pr

namespace Go.Proofs.YtpihabofmnnbbaaGreatDoor.Pr
open Go Rt M Ta Tp
def sp : List Token → Rt.Bs
  | [] => []
  | t :: ws => 32 :: (t.Text ++ sp ws)
theorem sp_app : ∀ a b : List Token, sp (a ++ b) = sp a ++ sp b
  | [], _ => rfl
  | t :: a, b => by show 32 :: (t.Text ++ sp (a ++ b)) = 32 :: (t.Text ++ sp a) ++ sp b; rw [sp_app a b]; simp
def opw (o : Int) : Token := ⟨if o = 15 ∨ o = 16 then 0 else 3, sgn o, 0, 0⟩
def wdo (o n : Int) (s : Rt.Bs) : List (List Token × List Token) → List Token
  | [] => if o = 0 then [wK n] else if o = 2 then [wN [112, 101, 114, 115, 111, 110, 115]] else if o = 3 then [wN [102, 108, 97, 116, 115]] else [wN (if o = 1 then [108, 105, 102, 116, 115] else [119, 101, 105, 103, 104, 116]), wS 40, wN s, wS 41]
  | [a] => wN [110, 111, 116] :: a.2
  | [a, b] => if o = 9 ∨ o = 10 then wN (if o = 9 then [109, 105, 110] else [109, 97, 120]) :: wS 40 :: (a.1 ++ wS 44 :: (b.1 ++ [wS 41])) else a.2 ++ opw o :: b.2
  | a :: b :: c :: _ => wN [105, 102] :: (a.2 ++ wN [116, 104, 101, 110] :: (b.2 ++ wN [101, 108, 115, 101] :: c.2))
def wdp (o : Int) (l : List M.Expr) (w : List Token) : List Token := bif (!l.isEmpty && o != 9) && o != 10 then wS 40 :: (w ++ [wS 41]) else w
mutual
def wa : M.Expr → List Token × List Token
  | ⟨o, n, s, l⟩ => (wdo o n s (was l), wdp o l (wdo o n s (was l)))
def was : List M.Expr → List (List Token × List Token)
  | [] => []
  | x :: l => wa x :: was l
 end
def W1 (x : M.Expr) : Prop := 32 :: (ta x).1 = sp (wa x).1 ∧ (∀ t, t ∈ (wa x).1 → Good t) ∧ (ta x).1.length ≤ 31 * cnt x
def W2 (x : M.Expr) : Prop := 32 :: (ta x).2 = sp (wa x).2 ∧ (∀ t, t ∈ (wa x).2 → Good t) ∧ (ta x).2.length ≤ 31 * cnt x
theorem good40 : Good (wS 40) := good_sign (by decide)
theorem good41 : Good (wS 41) := good_sign (by decide)
theorem good44 : Good (wS 44) := good_sign (by decide)
theorem word2 {o n : Int} {s : Rt.Bs} {l : List M.Expr} (h1 : 32 :: (ta ⟨o, n, s, l⟩).1 = sp (wa ⟨o, n, s, l⟩).1) (h2 : ∀ t, t ∈ (wa ⟨o, n, s, l⟩).1 → Good t) (h3 : (ta ⟨o, n, s, l⟩).1.length ≤ 31 * cnt ⟨o, n, s, l⟩) (h4 : l ≠ [] → (ta ⟨o, n, s, l⟩).1.length + 4 ≤ 31 * cnt ⟨o, n, s, l⟩) : W1 ⟨o, n, s, l⟩ ∧ W2 ⟨o, n, s, l⟩ := by
  refine ⟨⟨h1, h2, h3⟩, ?_⟩
  have e : (ta ⟨o, n, s, l⟩).2 = ato o l (ta ⟨o, n, s, l⟩).1 := rfl
  have e2 : (wa ⟨o, n, s, l⟩).2 = wdp o l (wa ⟨o, n, s, l⟩).1 := rfl
  unfold W2
  rw [e, e2]; unfold ato wdp
  cases hb : (!l.isEmpty && o != 9) && o != 10 with
  | true =>
    have hl : l ≠ [] := by
      intro h0
      rw [h0] at hb; cases hb
    have := h4 hl
    refine ⟨?_, ?_, ?_⟩
    · rw [cond_true, cond_true]
      show _ = 32 :: 40 :: sp (_ ++ [wS 41])
      rw [sp_app, ← h1]
      show _ = 32 :: 40 :: ((32 :: (ta ⟨o, n, s, l⟩).1) ++ [32, 41])
      simp
    · intro t ht
      rw [cond_true] at ht
      rcases List.mem_cons.1 ht with rfl | ht
      · exact good40
      · rcases List.mem_append.1 ht with ht | ht
        · exact h2 t ht
        · obtain rfl := List.mem_singleton.1 ht
          exact good41
    · simp only [cond_true, List.length_append, List.length_cons, List.length_nil]; omega
  | false => exact ⟨h1, h2, h3⟩
theorem opw_good {o : Int} (ho : o = 5 ∨ o = 6 ∨ o = 7 ∨ o = 8 ∨ o = 12 ∨ o = 13 ∨ o = 15 ∨ o = 16) : Good (opw o) := by
  rcases ho with rfl | rfl | rfl | rfl | rfl | rfl | rfl | rfl
  · exact good_sign (c := 43) (by decide)
  · exact good_sign (c := 45) (by decide)
  · exact good_sign (c := 42) (by decide)
  · exact good_sign (c := 47) (by decide)
  · exact good_sign (c := 60) (by decide)
  · exact good_sign (c := 61) (by decide)
  · exact good_name (s := [97, 110, 100]) (by decide)
  · exact good_name (s := [111, 114]) (by decide)
theorem words_ok {x : M.Expr} (hs : Shx x) : W1 x ∧ W2 x := by
  induction hs with
  | @mk o n s l h0 h16 hl hno _ ih =>
    have hcc : cnt ⟨o, n, s, l⟩ = cnts l + 1 := rfl
    have leaf : l = [] → 32 :: (ta ⟨o, n, s, l⟩).1 = sp (wa ⟨o, n, s, l⟩).1 → (∀ t, t ∈ (wa ⟨o, n, s, l⟩).1 → Good t) → (ta ⟨o, n, s, l⟩).1.length ≤ 31 → W1 ⟨o, n, s, l⟩ ∧ W2 ⟨o, n, s, l⟩ := fun e h1 h2 h3 =>
      word2 h1 h2 (by omega) (fun h => absurd e h)
    have bin : (o = 5 ∨ o = 6 ∨ o = 7 ∨ o = 8 ∨ o = 12 ∨ o = 13 ∨ o = 15 ∨ o = 16) → W1 ⟨o, n, s, l⟩ ∧ W2 ⟨o, n, s, l⟩ := by
      intro ho
      have hl2 : l.length = 2 := shx_len hl (by unfold argsN; rw [if_neg (by omega), if_neg (by omega), if_neg (by omega)]; rfl)
      obtain ⟨a, b, rfl⟩ : ∃ a b, l = [a, b] := by
        match l, hl2 with
        | [a, b], _ => exact ⟨a, b, rfl⟩
      have hcab : cnt ⟨o, n, s, [a, b]⟩ = cnt a + (cnt b + 0) + 1 := rfl
      obtain ⟨_, ea, ga, la⟩ := ih a (by simp)
      obtain ⟨_, eb, gb, lb⟩ := ih b (by simp)
      have hsg : (sgn o).length ≤ 3 := by rcases ho with rfl | rfl | rfl | rfl | rfl | rfl | rfl | rfl <;> decide
      have et : (ta ⟨o, n, s, [a, b]⟩).1 = ((((ta a).2 ++ [32]) ++ sgn o) ++ [32]) ++ (ta b).2 := by
        show (if o = 9 then _ else if o = 10 then _ else (((ta a).2 ++ [32]) ++ sgn o) ++ [32] ++ (ta b).2) = _
        rw [if_neg (by omega), if_neg (by omega)]
      have ew : (wa ⟨o, n, s, [a, b]⟩).1 = (wa a).2 ++ opw o :: (wa b).2 := by
        show (if o = 9 ∨ o = 10 then _ else (wa a).2 ++ opw o :: (wa b).2) = _
        rw [if_neg (by omega)]
      refine word2 ?_ ?_ ?_ (fun _ => ?_)
      · rw [et, ew, sp_app]
        show _ = sp (wa a).2 ++ 32 :: (sgn o ++ sp (wa b).2)
        rw [← ea, ← eb]; simp
      · intro t ht
        rw [ew] at ht
        rcases List.mem_append.1 ht with ht | ht
        · exact ga t ht
        · rcases List.mem_cons.1 ht with rfl | ht
          · exact opw_good ho
          · exact gb t ht
      all_goals rw [et]; simp only [List.length_append, List.length_cons, List.length_nil]; omega
    have mm : ∀ (k : Rt.Bs), Lx.name k = true → k.length = 3 → (o = 9 ∧ k = [109, 105, 110] ∨ o = 10 ∧ k = [109, 97, 120]) → W1 ⟨o, n, s, l⟩ ∧ W2 ⟨o, n, s, l⟩ := by
      intro k hk hk3 ho
      have hl2 : l.length = 2 := shx_len hl (by rcases ho with ⟨rfl, _⟩ | ⟨rfl, _⟩ <;> rfl)
      obtain ⟨a, b, rfl⟩ : ∃ a b, l = [a, b] := by
        match l, hl2 with
        | [a, b], _ => exact ⟨a, b, rfl⟩
      have hcab : cnt ⟨o, n, s, [a, b]⟩ = cnt a + (cnt b + 0) + 1 := rfl
      obtain ⟨⟨ea, ga, la⟩, _⟩ := ih a (by simp)
      obtain ⟨⟨eb, gb, lb⟩, _⟩ := ih b (by simp)
      have et : (ta ⟨o, n, s, [a, b]⟩).1 = (((k ++ [32, 40, 32] ++ (ta a).1) ++ [32, 44, 32]) ++ (ta b).1) ++ [32, 41] := by rcases ho with ⟨rfl, rfl⟩ | ⟨rfl, rfl⟩ <;> rfl
      have ew : (wa ⟨o, n, s, [a, b]⟩).1 = wN k :: wS 40 :: ((wa a).1 ++ wS 44 :: ((wa b).1 ++ [wS 41])) := by rcases ho with ⟨rfl, rfl⟩ | ⟨rfl, rfl⟩ <;> rfl
      refine word2 ?_ ?_ ?_ (fun _ => ?_)
      · rw [et, ew]
        show _ = 32 :: (k ++ 32 :: 40 :: sp ((wa a).1 ++ wS 44 :: ((wa b).1 ++ [wS 41])))
        rw [sp_app]
        show _ = 32 :: (k ++ 32 :: 40 :: (sp (wa a).1 ++ 32 :: 44 :: sp ((wa b).1 ++ [wS 41])))
        rw [sp_app, ← ea, ← eb]
        show _ = 32 :: (k ++ 32 :: 40 :: (32 :: (ta a).1 ++ 32 :: 44 :: (32 :: (ta b).1 ++ [32, 41])))
        simp
      · intro t ht
        rw [ew] at ht
        simp only [List.mem_cons, List.mem_append, List.not_mem_nil, or_false] at ht
        rcases ht with rfl | rfl | ht | rfl | ht | rfl
        · exact good_name hk
        · exact good40
        · exact ga t ht
        · exact good44
        · exact gb t ht
        · exact good41
      all_goals rw [et]; simp only [List.length_append, List.length_cons, List.length_nil]; omega
    have hcs : o = 0 ∨ o = 1 ∨ o = 2 ∨ o = 3 ∨ o = 4 ∨ o = 9 ∨ o = 10 ∨ o = 11 ∨ o = 14 ∨ (o = 5 ∨ o = 6 ∨ o = 7 ∨ o = 8 ∨ o = 12 ∨ o = 13 ∨ o = 15 ∨ o = 16) := by omega
    rcases hcs with rfl | rfl | rfl | rfl | rfl | rfl | rfl | rfl | rfl | ho
    · obtain rfl : l = [] := List.length_eq_zero_iff.1 (shx_len hl rfl)
      unfold nodeok at hno
      rw [if_pos rfl] at hno
      have hi := (num_of (u := n.toNat) (by omega)).2
      have e : Lib.itoa n = Lib.decDigits n.toNat := itoa_nat hno.1.1
      refine leaf rfl ?_ ?_ ?_
      · show 32 :: Lib.itoa n = 32 :: (Lib.itoa n ++ [])
        simp
      · intro t ht
        obtain rfl := List.mem_singleton.1 ht
        exact good_num hno.1.1 hno.1.2
      · show (Lib.itoa n).length ≤ 31
        rw [e]; omega
    · obtain rfl : l = [] := List.length_eq_zero_iff.1 (shx_len hl rfl)
      unfold nodeok at hno
      rw [if_neg (by decide), if_pos (by decide)] at hno
      have hn := name_le hno.2
      refine leaf rfl ?_ ?_ ?_
      · show 32 :: (([108, 105, 102, 116, 115, 32, 40, 32] ++ s) ++ [32, 41]) = 32 :: ([108, 105, 102, 116, 115] ++ 32 :: 40 :: 32 :: (s ++ [32, 41]))
        simp
      · intro t ht
        have ht : t ∈ [wN [108, 105, 102, 116, 115], wS 40, wN s, wS 41] := ht
        simp only [List.mem_cons, List.not_mem_nil, or_false] at ht
        rcases ht with rfl | rfl | rfl | rfl
        · exact good_name (by decide)
        · exact good40
        · exact good_name hno.2
        · exact good41
      · show (([108, 105, 102, 116, 115, 32, 40, 32] ++ s) ++ [32, 41]).length ≤ 31
        simp only [List.length_append, List.length_cons, List.length_nil]; omega
    · obtain rfl : l = [] := List.length_eq_zero_iff.1 (shx_len hl rfl)
      refine leaf rfl rfl ?_ (by show 7 ≤ 31; decide)
      intro t ht
      obtain rfl := List.mem_singleton.1 ht
      exact good_name (by decide)
    · obtain rfl : l = [] := List.length_eq_zero_iff.1 (shx_len hl rfl)
      refine leaf rfl rfl ?_ (by show 5 ≤ 31; decide)
      intro t ht
      obtain rfl := List.mem_singleton.1 ht
      exact good_name (by decide)
    · obtain rfl : l = [] := List.length_eq_zero_iff.1 (shx_len hl rfl)
      unfold nodeok at hno
      rw [if_neg (by decide), if_pos (by decide)] at hno
      have hn := name_le hno.2
      refine leaf rfl ?_ ?_ ?_
      · show 32 :: (([119, 101, 105, 103, 104, 116, 32, 40, 32] ++ s) ++ [32, 41]) = 32 :: ([119, 101, 105, 103, 104, 116] ++ 32 :: 40 :: 32 :: (s ++ [32, 41]))
        simp
      · intro t ht
        have ht : t ∈ [wN [119, 101, 105, 103, 104, 116], wS 40, wN s, wS 41] := ht
        simp only [List.mem_cons, List.not_mem_nil, or_false] at ht
        rcases ht with rfl | rfl | rfl | rfl
        · exact good_name (by decide)
        · exact good40
        · exact good_name hno.2
        · exact good41
      · show (([119, 101, 105, 103, 104, 116, 32, 40, 32] ++ s) ++ [32, 41]).length ≤ 31
        simp only [List.length_append, List.length_cons, List.length_nil]; omega
    · exact mm _ (by decide) rfl (.inl ⟨rfl, rfl⟩)
    · exact mm _ (by decide) rfl (.inr ⟨rfl, rfl⟩)
    · have hl3 : l.length = 3 := shx_len hl rfl
      obtain ⟨a, b, c, rfl⟩ : ∃ a b c, l = [a, b, c] := by
        match l, hl3 with
        | [a, b, c], _ => exact ⟨a, b, c, rfl⟩
      have hcab : cnt ⟨11, n, s, [a, b, c]⟩ = cnt a + (cnt b + (cnt c + 0)) + 1 := rfl
      obtain ⟨_, ea, ga, la⟩ := ih a (by simp)
      obtain ⟨_, eb, gb, lb⟩ := ih b (by simp)
      obtain ⟨_, ec, gc, lc⟩ := ih c (by simp)
      have et : (ta ⟨11, n, s, [a, b, c]⟩).1 = (((([105, 102, 32] ++ (ta a).2) ++ [32, 116, 104, 101, 110, 32]) ++ (ta b).2) ++ [32, 101, 108, 115, 101, 32]) ++ (ta c).2 := rfl
      have ew : (wa ⟨11, n, s, [a, b, c]⟩).1 = wN [105, 102] :: ((wa a).2 ++ wN [116, 104, 101, 110] :: ((wa b).2 ++ wN [101, 108, 115, 101] :: (wa c).2)) := rfl
      refine word2 ?_ ?_ ?_ (fun _ => ?_)
      · rw [et, ew]
        show _ = 32 :: ([105, 102] ++ sp ((wa a).2 ++ wN [116, 104, 101, 110] :: ((wa b).2 ++ wN [101, 108, 115, 101] :: (wa c).2)))
        rw [sp_app]
        show _ = 32 :: ([105, 102] ++ (sp (wa a).2 ++ 32 :: ([116, 104, 101, 110] ++ sp ((wa b).2 ++ wN [101, 108, 115, 101] :: (wa c).2))))
        rw [sp_app]
        show _ = 32 :: ([105, 102] ++ (sp (wa a).2 ++ 32 :: ([116, 104, 101, 110] ++ (sp (wa b).2 ++ 32 :: ([101, 108, 115, 101] ++ sp (wa c).2)))))
        rw [← ea, ← eb, ← ec]
        simp
      · intro t ht
        rw [ew] at ht
        simp only [List.mem_cons, List.mem_append] at ht
        rcases ht with rfl | ht | rfl | ht | rfl | ht
        · exact good_name (by decide)
        · exact ga t ht
        · exact good_name (by decide)
        · exact gb t ht
        · exact good_name (by decide)
        · exact gc t ht
      all_goals rw [et]; simp only [List.length_append, List.length_cons, List.length_nil]; omega
    · have hl1 : l.length = 1 := shx_len hl rfl
      obtain ⟨a, rfl⟩ : ∃ a, l = [a] := by
        match l, hl1 with
        | [a], _ => exact ⟨a, rfl⟩
      have hcab : cnt ⟨14, n, s, [a]⟩ = cnt a + 0 + 1 := rfl
      obtain ⟨_, ea, ga, la⟩ := ih a (by simp)
      have et : (ta ⟨14, n, s, [a]⟩).1 = [110, 111, 116, 32] ++ (ta a).2 := rfl
      have ew : (wa ⟨14, n, s, [a]⟩).1 = wN [110, 111, 116] :: (wa a).2 := rfl
      refine word2 ?_ ?_ ?_ (fun _ => ?_)
      · rw [et, ew]
        show _ = 32 :: ([110, 111, 116] ++ sp (wa a).2)
        rw [← ea]; simp
      · intro t ht
        rw [ew] at ht
        rcases List.mem_cons.1 ht with rfl | ht
        · exact good_name (by decide)
        · exact ga t ht
      all_goals rw [et]; simp only [List.length_append, List.length_cons, List.length_nil]; omega
    · exact bin ho
end Go.Proofs.YtpihabofmnnbbaaGreatDoor.Pr

namespace Go.Proofs.YtpihabofmnnbbaaGreatDoor.Pr
open Go Rt M Ta Tp
def Bg (l : List Token) (a : Nat) (ws : List Token) : Prop := ∃ post, (l.drop a).map strip = ws ++ post
theorem Bg.cut {l : List Token} {a : Nat} {u v : List Token} (h : Bg l a (u ++ v)) : Bg l a u ∧ Bg l (a + u.length) v := by
  obtain ⟨post, h⟩ := h
  refine ⟨⟨v ++ post, by rw [h, List.append_assoc]⟩, ⟨post, ?_⟩⟩
  have := congrArg (List.drop u.length) h
  rw [← List.map_drop, List.drop_drop, List.append_assoc] at this
  rw [this]; simp
theorem Bg.len {l : List Token} {a : Nat} {w : Token} {ws : List Token} (h : Bg l a (w :: ws)) : a + (w :: ws).length ≤ l.length := by
  obtain ⟨post, h⟩ := h
  have := congrArg List.length h
  simp only [List.length_map, List.length_drop, List.length_append, List.length_cons] at this ⊢
  omega
theorem Bg.next {l : List Token} {a : Nat} {w : Token} {ws : List Token} (h : Bg l a (w :: ws)) : ∃ t : Token, (∀ n, tariff_reader_next n (Rd l a 0) = some (Rd l a 0, t)) ∧ nextT l a 0 = t ∧ t.Kind = w.Kind ∧ t.Text = w.Text ∧ t.N = w.N ∧ a < l.length ∧ Bg l (a + 1) ws := by
  have hlen := h.len
  have h2 := (Bg.cut (u := [w]) (v := ws) h).2
  obtain ⟨post, h⟩ := h
  have ha : a < l.length := by simp only [List.length_cons] at hlen; omega
  rw [List.drop_eq_getElem_cons ha] at h
  have e : strip l[a] = w := (List.cons.inj (show strip l[a] :: (l.drop (a + 1)).map strip = w :: (ws ++ post) from h)).1
  have e2 : nextT l a 0 = l[a] := by
    unfold nextT
    rw [if_pos rfl, List.getElem?_eq_getElem ha]; rfl
  refine ⟨l[a], fun n => by rw [next_n n (by omega), e2], e2, ?_, ?_, ?_, ha, h2⟩
  · exact congrArg (·.Kind) e
  · exact congrArg (·.Text) e
  · exact congrArg (·.N) e
theorem Bg.take {l : List Token} {a : Nat} {w : Token} {ws : List Token} (h : Bg l a (w :: ws)) (hl : l.length ≤ 1000000) (hk : w.Kind = 0 ∨ w.Kind = 3) (n : Nat) : tariff_reader_take n (Rd l a 0) w.Text = some (Rd l (a + 1) 0, true) := by
  obtain ⟨t, _, e, e1, e2, _, h3, _⟩ := h.next
  have : isT l a 0 w.Text = true := by
    unfold isT
    rw [e, e1, e2]
    rcases hk with hk | hk <;> rw [hk] <;> simp
  rw [take_n n _ hl (by omega), this]; rfl
end Go.Proofs.YtpihabofmnnbbaaGreatDoor.Pr

namespace Go.Proofs.YtpihabofmnnbbaaGreatDoor.Pr
open Go Rt M Ta Tp
def capw (c : Int) : List Token := if c ≠ -1 then [wN [99, 97, 112], wS 61, wK c, wS 59] else []
def pwx (t : Tariff) (w : List Token) : List Token := wN [116, 97, 114, 105, 102, 102] :: wN t.Name :: wS 123 :: wN [102, 101, 101] :: wS 61 :: (w ++ wS 59 :: (capw t.Cap ++ [wS 125]))
def pw (t : Tariff) : List Token := pwx t (wa t.Fee).1
theorem ptx_words {t : Tariff} (hw : Wrt t) : 32 :: ptx t = sp (pw t) ∧ (ptx t).length ≤ 4000 := by
  obtain ⟨⟨h1, _, h3⟩, _⟩ := words_ok hw.2.1.2
  have hn := name_le hw.1
  have hc := hw.2.1.1.2
  constructor
  · have e : sp (pw t) = 32 :: ([116, 97, 114, 105, 102, 102] ++ 32 :: (t.Name ++ 32 :: 123 :: 32 :: ([102, 101, 101] ++ 32 :: 61 :: sp ((wa t.Fee).1 ++ wS 59 :: (capw t.Cap ++ [wS 125]))))) := rfl
    have e2 : sp (wS 59 :: (capw t.Cap ++ [wS 125])) = 32 :: 59 :: sp (capw t.Cap ++ [wS 125]) := rfl
    rw [e, sp_app, e2, sp_app, ← h1]
    have e3 : sp (capw t.Cap) = if t.Cap ≠ -1 then ([32, 99, 97, 112, 32, 61, 32] ++ Lib.itoa t.Cap) ++ [32, 59] else [] := by
      unfold capw
      split
      · show 32 :: ([99, 97, 112] ++ 32 :: 61 :: 32 :: (Lib.itoa t.Cap ++ [32, 59])) = _
        simp
      · rfl
    rw [e3]
    unfold ptx
    show _ = 32 :: ([116, 97, 114, 105, 102, 102] ++ 32 :: (t.Name ++ 32 :: 123 :: 32 :: ([102, 101, 101] ++ 32 :: 61 :: (32 :: (ta t.Fee).1 ++ 32 :: 59 :: (_ ++ [32, 125])))))
    simp
  · have h7 : (if t.Cap ≠ -1 then ([32, 99, 97, 112, 32, 61, 32] ++ Lib.itoa t.Cap) ++ [32, 59] else []).length ≤ 30 := by
      split
      · have := Lib.itoa_length_le t.Cap (by have := hw.2.2.1; omega) (by have := hw.2.2.2; omega)
        simp only [List.length_append, List.length_cons, List.length_nil]; omega
      · simp
    unfold ptx
    simp only [List.length_append, List.length_cons, List.length_nil]
    omega
end Go.Proofs.YtpihabofmnnbbaaGreatDoor.Pr

namespace Go.Proofs.YtpihabofmnnbbaaGreatDoor.Pr
open Go Rt M Ta Tp
def wz (t : Token) : Token := ⟨t.Kind, t.Text, 0, 0⟩
def rwd (s : Rt.Bs) : Token := ⟨if Lx.name s = true then 0 else 3, s, 0, 0⟩
theorem word_ev (s : Rt.Bs) : Ev (fun n => ref35_word n s) (rwd s) := by
  unfold ref35_word rwd
  refine Ev.bind (rname_ev s) ?_
  cases Lx.name s with
  | false => exact Ev.else rfl (Ev.pure _)
  | true => exact Ev.then rfl (Ev.pure _)
theorem rwd_name {s : Rt.Bs} (h : Lx.name s = true) : rwd s = wz (wN s) := by unfold rwd; rw [if_pos h]; rfl
theorem words_L (l : List Rt.Bs) : ∀ (us : List Rt.Bs) (i : Nat) (acc : List Token), l.drop i = us → i + us.length ≤ 1000 → acc.length + us.length ≤ 1000 →
    ∃ N, ∀ n m, N ≤ n → us.length < m → ref35_words_L1 n l (fun l3 => some l3) m (i : Int) acc = some (acc ++ us.map rwd)
  | [], i, acc, hd, _, _ => by
    refine ⟨0, fun n m _ hm => ?_⟩
    obtain ⟨m, rfl⟩ := left hm
    rw [ref35_words_L1_s, more_no hd, cond_false, List.map_nil, List.append_nil]
  | s :: us, i, acc, hd, hi, ha => by
    obtain ⟨h1, h2, h3⟩ := Rt.drop_cons hd
    simp only [List.length_cons] at hi ha
    obtain ⟨N1, e1⟩ := word_ev s
    obtain ⟨N, ih⟩ := words_L l us (i + 1) (acc ++ [rwd s]) h2 (by omega) (by simp only [List.length_append, List.length_cons, List.length_nil]; omega)
    refine ⟨max N N1, fun n m hn hm => ?_⟩
    obtain ⟨m, rfl, hm2⟩ := pred (by simpa using hm)
    have e1 : ref35_word n s = some (rwd s) := e1 n (by omega)
    rw [ref35_words_L1_s, more_yes hd, cond_true, h1, Option.bind_some, e1, Option.bind_some, app_ok (by simp only [List.length_cons, List.length_nil]; omega), Option.bind_some, inc64 (by omega), ih n m (by omega) hm2]
    simp
theorem words_ev (l : List Rt.Bs) (hl : l.length ≤ 1000) : Ev (fun n => ref35_words n l) (l.map rwd) := by
  obtain ⟨N, h⟩ := words_L l l 0 [] rfl (by omega) (by simpa using hl)
  exact ⟨N + l.length + 1, fun n hn => h n n (by omega) (by omega)⟩
def digs : Rt.Bs := [48, 49, 50, 51, 52, 53, 54, 55, 56, 57]
theorem dig_fin : ∀ q : Fin 10, ssl digs (q.val : Int) ((q.val + 1 : Nat) : Int) = some [UInt8.ofNat (48 + q.val)] := by decide +kernel
theorem dig_ssl {q : Nat} (h : q < 10) : ssl digs (q : Int) (iadd .i64 (q : Int) 1) = some [UInt8.ofNat (48 + q)] := by
  rw [inc64 (by omega)]
  exact dig_fin ⟨q, h⟩
theorem number_L (u : Nat) : ∀ s : Rt.Bs, u ≤ 1099511627776 → s.length + Lib.nDigits u ≤ 100 → ∃ N, ∀ n m, N ≤ m → ref35_number_L1 n (fun nx3 s2 => (ssl digs nx3 (iadd .i64 nx3 1)).bind fun t1 => (scat t1 s2).bind fun t2 => some (⟨1, t2, 0, 0⟩ : Token)) m (u : Int) s = some ⟨1, Lib.decDigits u ++ s, 0, 0⟩ := by
  induction u using Nat.strongRecOn with
  | _ u ih =>
    intro s hu hs
    by_cases h : u < 10
    · refine ⟨1, fun n m hm => ?_⟩
      obtain ⟨m, rfl⟩ : ∃ k, m = k + 1 := ⟨m - 1, by omega⟩
      rw [ref35_number_L1_s, decide_eq_false (by omega), cond_false, dig_ssl h, Option.bind_some, scat_eq (by simp only [List.length_cons, List.length_nil]; omega), Option.bind_some, Lib.decDigits_one h]
    · rw [Lib.nDigits_big h] at hs
      obtain ⟨N, ih⟩ := ih (u / 10) (by omega) ([UInt8.ofNat (48 + u % 10)] ++ s) (by omega) (by simp only [List.length_append, List.length_cons, List.length_nil]; omega)
      refine ⟨N + 1, fun n m hm => ?_⟩
      obtain ⟨m, rfl⟩ : ∃ k, m = k + 1 := ⟨m - 1, by omega⟩
      have hr : rem (u : Int) 10 = some ((u % 10 : Nat) : Int) := by rw [rem_pos (by omega) (by decide)]; rfl
      have hq : quo .i64 (u : Int) 10 = some ((u / 10 : Nat) : Int) := by rw [quo_i64 (by omega) (by omega) (by decide)]; rfl
      have hd := dig_ssl (q := u % 10) (Nat.mod_lt _ (by decide))
      unfold digs at hd
      rw [ref35_number_L1_s, decide_eq_true (by omega), cond_true, hr, Option.bind_some, Option.bind_some, hd, Option.bind_some, scat_eq (by simp only [List.length_cons, List.length_nil]; omega), Option.bind_some, hq, Option.bind_some]
      refine (ih n m (by omega)).trans ?_
      rw [show Lib.decDigits u = Lib.decDigits (u / 10) ++ [UInt8.ofNat (48 + u % 10)] by rw [Lib.decDigits, dif_neg h], List.append_assoc]
theorem number_ev {k : Int} (h0 : 0 ≤ k) (h1 : k ≤ 1099511627776) : Ev (fun n => ref35_number n k) (wz (wK k)) := by
  obtain ⟨u, rfl⟩ : ∃ u : Nat, k = (u : Int) := ⟨k.toNat, by omega⟩
  obtain ⟨N, h⟩ := number_L u [] (by omega) (by have := nDigits_le 12 u (by omega); simp only [List.length_nil]; omega)
  refine ⟨N, fun n hn => ?_⟩
  refine (show ref35_number n (u : Int) = _ from h n n hn).trans ?_
  rw [List.append_nil, wz, wK, itoa_nat (by omega), Int.toNat_natCast]
theorem sign_ev {o : Int} (ho : o = 5 ∨ o = 6 ∨ o = 7 ∨ o = 8 ∨ o = 12 ∨ o = 13 ∨ o = 15 ∨ o = 16) : Ev (fun n => ref35_sign n o) (sgn o) := by
  obtain ⟨k, rfl⟩ : ∃ k : Nat, o = (k : Int) := ⟨o.toNat, by omega⟩
  refine ⟨9, fun n hn => ?_⟩
  obtain ⟨m, rfl⟩ : ∃ m, n = m + 9 := ⟨n - 9, by omega⟩
  refine (sign_n k (by omega) m).trans ?_
  have hk : k = 5 ∨ k = 6 ∨ k = 7 ∨ k = 8 ∨ k = 12 ∨ k = 13 ∨ k = 15 ∨ k = 16 := by omega
  rcases hk with rfl | rfl | rfl | rfl | rfl | rfl | rfl | rfl <;> rfl
theorem opw_rwd {o : Int} (ho : o = 5 ∨ o = 6 ∨ o = 7 ∨ o = 8 ∨ o = 12 ∨ o = 13 ∨ o = 15 ∨ o = 16) : rwd (sgn o) = wz (opw o) := by
  rcases ho with rfl | rfl | rfl | rfl | rfl | rfl | rfl | rfl <;> rfl
theorem sp_count : ∀ ws : List Token, ws.length ≤ (sp ws).length
  | [] => Nat.le_refl _
  | t :: ws => by have := sp_count ws; simp only [sp, List.length_cons, List.length_append]; omega
theorem wa_len {x : M.Expr} (hs : Shx x) : (wa x).1.length ≤ 31 * cnt x + 1 ∧ (wa x).2.length ≤ 31 * cnt x + 1 := by
  obtain ⟨⟨h1, _, h2⟩, ⟨h3, _, h4⟩⟩ := words_ok hs
  have g1 := sp_count (wa x).1
  have g2 := sp_count (wa x).2
  rw [← h1] at g1
  rw [← h3] at g2
  simp only [List.length_cons] at g1 g2
  omega
def RP (x : M.Expr) : Prop := Ev (fun n => ref35_expr n x) ((wa x).1.map wz) ∧ Ev (fun n => ref35_atom n x) ((wa x).2.map wz)
theorem ratom_of {o n : Int} {s : Rt.Bs} {l : List M.Expr} (hc : (wa ⟨o, n, s, l⟩).1.length ≤ 100000) (h : Ev (fun m => ref35_expr m ⟨o, n, s, l⟩) ((wa ⟨o, n, s, l⟩).1.map wz)) : RP ⟨o, n, s, l⟩ := by
  refine ⟨h, ?_⟩
  have e : (wa ⟨o, n, s, l⟩).2 = wdp o l (wa ⟨o, n, s, l⟩).1 := rfl
  rw [e]; unfold wdp
  refine Ev.suc (fun m => ref35_atom_s m _) (Ev.bind h ?_)
  dsimp only
  have c1 : ((l.length : Int) == 0) = l.isEmpty := by
    cases l with
    | nil => rfl
    | cons y l =>
      show ((((y :: l).length : Nat) : Int) == 0) = false
      rw [beq_eq_false_iff_ne, List.length_cons]; omega
  rw [c1]
  refine Ev.step (a := l.isEmpty || o == 9) (by cases l.isEmpty <;> rfl) ?_
  refine Ev.step (a := (l.isEmpty || o == 9) || o == 10) (by cases (l.isEmpty || o == 9) <;> rfl) ?_
  have c2 : ((!l.isEmpty && o != 9) && o != 10) = !((l.isEmpty || o == 9) || o == 10) := by
    simp only [bne]
    cases l.isEmpty <;> cases o == 9 <;> cases o == 10 <;> rfl
  rw [c2]
  cases (l.isEmpty || o == 9) || o == 10 with
  | true => exact Ev.then rfl (Ev.pure _)
  | false =>
    refine Ev.else rfl (Ev.bind (word_ev [40]) (Ev.step (app_ok (by simp only [List.length_cons, List.length_nil, List.length_map]; omega)) (Ev.bind (word_ev [41]) (Ev.step (app_ok (by simp only [List.length_append, List.length_cons, List.length_nil, List.length_map]; omega)) ((Ev.pure _).eq ?_)))))
    show _ = wz (wS 40) :: List.map wz ((wa ⟨o, n, s, l⟩).1 ++ [wS 41])
    rw [List.map_append]
    rfl
theorem rprint_ok {x : M.Expr} (hs : Shx x) : cnt x ≤ 1000 → RP x := by
  induction hs with
  | @mk o n s l h0 h16 hl hno hch ih =>
    intro hc
    have hsx : Shx ⟨o, n, s, l⟩ := Shx.mk h0 h16 hl hno hch
    have hcc : cnt ⟨o, n, s, l⟩ = cnts l + 1 := rfl
    have hlen := (wa_len hsx).1
    have go : Ev (fun m => ref35_expr m ⟨o, n, s, l⟩) ((wa ⟨o, n, s, l⟩).1.map wz) → RP ⟨o, n, s, l⟩ := ratom_of (by omega)
    have leaf : l = [] → Ev (fun m => ref35_leaf m ⟨o, n, s, l⟩) ((wa ⟨o, n, s, l⟩).1.map wz) → RP ⟨o, n, s, l⟩ := fun e h => go (by
      subst e
      exact Ev.suc (fun m => ref35_expr_s m _) (Ev.then rfl (Ev.bind h (Ev.pure _))))
    have hcs : o = 0 ∨ (o = 1 ∨ o = 4) ∨ o = 2 ∨ o = 3 ∨ (o = 9 ∨ o = 10) ∨ o = 11 ∨ o = 14 ∨ (o = 5 ∨ o = 6 ∨ o = 7 ∨ o = 8 ∨ o = 12 ∨ o = 13 ∨ o = 15 ∨ o = 16) := by omega
    rcases hcs with rfl | ho | rfl | rfl | ho | rfl | rfl | ho
    · obtain rfl : l = [] := List.length_eq_zero_iff.1 (shx_len hl rfl)
      unfold nodeok at hno
      rw [if_pos rfl] at hno
      exact leaf rfl (Ev.then rfl (Ev.bind (number_ev hno.1.1 hno.1.2) (Ev.pure _)))
    · obtain rfl : l = [] := List.length_eq_zero_iff.1 (shx_len hl (by rcases ho with rfl | rfl <;> rfl))
      unfold nodeok at hno
      rw [if_neg (by omega), if_pos ho] at hno
      have hw : ∀ k, Lx.name k = true → [k, [40], s, [41]].map rwd = [wN k, wS 40, wN s, wS 41].map wz := by
        intro k hk
        show [rwd k, rwd [40], rwd s, rwd [41]] = [wz (wN k), wz (wS 40), wz (wN s), wz (wS 41)]
        rw [rwd_name hk, rwd_name hno.2]; rfl
      rcases ho with rfl | rfl
      · exact leaf rfl (Ev.else rfl (Ev.else rfl (Ev.else rfl (Ev.then rfl (Ev.bind (words_ev [[108, 105, 102, 116, 115], [40], s, [41]] (Nat.le_add_left 4 996)) ((Ev.pure _).eq (hw _ (by decide))))))))
      · exact leaf rfl (Ev.else rfl (Ev.else rfl (Ev.else rfl (Ev.else rfl (Ev.bind (words_ev [[119, 101, 105, 103, 104, 116], [40], s, [41]] (Nat.le_add_left 4 996)) ((Ev.pure _).eq (hw _ (by decide))))))))
    · obtain rfl : l = [] := List.length_eq_zero_iff.1 (shx_len hl rfl)
      exact leaf rfl (Ev.else rfl (Ev.then rfl (Ev.bind (words_ev [[112, 101, 114, 115, 111, 110, 115]] (by decide)) ((Ev.pure _).eq rfl))))
    · obtain rfl : l = [] := List.length_eq_zero_iff.1 (shx_len hl rfl)
      exact leaf rfl (Ev.else rfl (Ev.else rfl (Ev.then rfl (Ev.bind (words_ev [[102, 108, 97, 116, 115]] (by decide)) ((Ev.pure _).eq rfl)))))
    · have hl2 : l.length = 2 := shx_len hl (by rcases ho with rfl | rfl <;> rfl)
      obtain ⟨a, b, rfl⟩ : ∃ a b, l = [a, b] := by
        match l, hl2 with
        | [a, b], _ => exact ⟨a, b, rfl⟩
      have hcab : cnt ⟨o, n, s, [a, b]⟩ = cnt a + (cnt b + 0) + 1 := rfl
      have ga := (ih a (by simp) (by omega)).1
      have gb := (ih b (by simp) (by omega)).1
      have la := (wa_len (hch a (by simp))).1
      have lb := (wa_len (hch b (by simp))).1
      have key : ∀ k, Lx.name k = true → (o = 9 ∧ k = [109, 105, 110] ∨ o = 10 ∧ k = [109, 97, 120]) → Ev (fun m => ref35_expr m ⟨o, n, s, [a, b]⟩) ((wN k :: wS 40 :: ((wa a).1 ++ wS 44 :: ((wa b).1 ++ [wS 41]))).map wz) := by
        intro k hk hok
        have tail : Ev (fun m => (ref35_words m [k, [40]]).bind fun v12 => (ref35_expr m a).bind fun v13 => (app 40 v12 v13).bind fun l8 => (ix [a, b] 1).bind fun ex6 => (ref35_word m [44]).bind fun v14 => (app 40 l8 [v14]).bind fun l9 => (ref35_expr m ex6).bind fun v15 => (app 40 l9 v15).bind fun l10 => (ref35_word m [41]).bind fun v16 => (app 40 l10 [v16]).bind fun l11 => some l11) ((wN k :: wS 40 :: ((wa a).1 ++ wS 44 :: ((wa b).1 ++ [wS 41]))).map wz) := by
          refine Ev.bind (words_ev [k, [40]] (Nat.le_add_left 2 998)) (Ev.bind ga (Ev.step (app_ok ?_) (Ev.step (a := b) rfl (Ev.bind (word_ev [44]) (Ev.step (app_ok ?_) (Ev.bind gb (Ev.step (app_ok ?_) (Ev.bind (word_ev [41]) (Ev.step (app_ok ?_) ((Ev.pure _).eq ?_))))))))))
          · simp only [List.length_cons, List.length_nil, List.length_map]; omega
          · simp only [List.length_append, List.length_cons, List.length_nil, List.length_map]; omega
          · simp only [List.length_append, List.length_cons, List.length_nil, List.length_map]; omega
          · simp only [List.length_append, List.length_cons, List.length_nil, List.length_map]; omega
          show _ = wz (wN k) :: wz (wS 40) :: List.map wz ((wa a).1 ++ wS 44 :: ((wa b).1 ++ [wS 41]))
          rw [List.map_append]
          show _ = wz (wN k) :: wz (wS 40) :: (List.map wz (wa a).1 ++ wz (wS 44) :: List.map wz ((wa b).1 ++ [wS 41]))
          rw [List.map_append, ← rwd_name hk]
          show _ = rwd k :: rwd [40] :: (_ ++ rwd [44] :: (_ ++ [rwd [41]]))
          simp
        refine Ev.suc (fun m => ref35_expr_s m _) (Ev.else rfl ?_)
        rcases hok with ⟨rfl, rfl⟩ | ⟨rfl, rfl⟩
        · exact Ev.else rfl (Ev.else rfl (Ev.step (a := true) rfl (Ev.then rfl (Ev.step (a := [109, 105, 110]) rfl (Ev.step (a := a) rfl tail)))))
        · exact Ev.else rfl (Ev.else rfl (Ev.step (a := true) rfl (Ev.then rfl (Ev.step (a := [109, 97, 120]) rfl (Ev.step (a := a) rfl tail)))))
      rcases ho with rfl | rfl
      · exact go (key [109, 105, 110] (by decide) (.inl ⟨rfl, rfl⟩))
      · exact go (key [109, 97, 120] (by decide) (.inr ⟨rfl, rfl⟩))
    · have hl3 : l.length = 3 := shx_len hl rfl
      obtain ⟨a, b, c, rfl⟩ : ∃ a b c, l = [a, b, c] := by
        match l, hl3 with
        | [a, b, c], _ => exact ⟨a, b, c, rfl⟩
      have hcab : cnt ⟨11, n, s, [a, b, c]⟩ = cnt a + (cnt b + (cnt c + 0)) + 1 := rfl
      have ga := (ih a (by simp) (by omega)).2
      have gb := (ih b (by simp) (by omega)).2
      have gc := (ih c (by simp) (by omega)).2
      have la := (wa_len (hch a (by simp))).2
      have lb := (wa_len (hch b (by simp))).2
      have lc := (wa_len (hch c (by simp))).2
      refine go (Ev.suc (fun m => ref35_expr_s m _) (Ev.else rfl (Ev.else rfl (Ev.then rfl ?_))))
      refine Ev.bind (a := rwd [105, 102] :: (wa a).2.map wz) (Ev.step (a := a) rfl (Ev.bind (word_ev [105, 102]) (Ev.bind ga (Ev.step (app_ok ?_) (Ev.pure _))))) ?_
      · simp only [List.length_cons, List.length_nil, List.length_map]; omega
      refine Ev.step (a := b) rfl (Ev.bind (word_ev [116, 104, 101, 110]) (Ev.step (app_ok ?_) (Ev.bind gb (Ev.step (app_ok ?_) (Ev.step (a := c) rfl (Ev.bind (word_ev [101, 108, 115, 101]) (Ev.step (app_ok ?_) (Ev.bind gc (Ev.step (app_ok ?_) ((Ev.pure _).eq ?_))))))))))
      · simp only [List.length_cons, List.length_nil, List.length_map]; omega
      · simp only [List.length_append, List.length_cons, List.length_nil, List.length_map]; omega
      · simp only [List.length_append, List.length_cons, List.length_nil, List.length_map]; omega
      · simp only [List.length_append, List.length_cons, List.length_nil, List.length_map]; omega
      show _ = (wN [105, 102] :: ((wa a).2 ++ wN [116, 104, 101, 110] :: ((wa b).2 ++ wN [101, 108, 115, 101] :: (wa c).2))).map wz
      rw [List.map_cons, List.map_append, List.map_cons, List.map_append, List.map_cons]
      show _ = rwd [105, 102] :: (_ ++ rwd [116, 104, 101, 110] :: (_ ++ rwd [101, 108, 115, 101] :: _))
      simp
    · have hl1 : l.length = 1 := shx_len hl rfl
      obtain ⟨a, rfl⟩ : ∃ a, l = [a] := by
        match l, hl1 with
        | [a], _ => exact ⟨a, rfl⟩
      have hcab : cnt ⟨14, n, s, [a]⟩ = cnt a + 0 + 1 := rfl
      have ga := (ih a (by simp) (by omega)).2
      have la := (wa_len (hch a (by simp))).2
      refine go (Ev.suc (fun m => ref35_expr_s m _) (Ev.else rfl (Ev.then rfl ?_)))
      refine Ev.bind (a := rwd [110, 111, 116] :: (wa a).2.map wz) (Ev.step (a := a) rfl (Ev.bind (word_ev [110, 111, 116]) (Ev.bind ga (Ev.step (app_ok ?_) (Ev.pure _))))) ((Ev.pure _).eq rfl)
      simp only [List.length_cons, List.length_nil, List.length_map]; omega
    · have hl2 : l.length = 2 := shx_len hl (by unfold argsN; rw [if_neg (by omega), if_neg (by omega), if_neg (by omega)]; rfl)
      obtain ⟨a, b, rfl⟩ : ∃ a b, l = [a, b] := by
        match l, hl2 with
        | [a, b], _ => exact ⟨a, b, rfl⟩
      have hcab : cnt ⟨o, n, s, [a, b]⟩ = cnt a + (cnt b + 0) + 1 := rfl
      have ga := (ih a (by simp) (by omega)).2
      have gb := (ih b (by simp) (by omega)).2
      have la := (wa_len (hch a (by simp))).2
      have lb := (wa_len (hch b (by simp))).2
      have ew : (wa ⟨o, n, s, [a, b]⟩).1 = (wa a).2 ++ opw o :: (wa b).2 := by
        show (if o = 9 ∨ o = 10 then _ else (wa a).2 ++ opw o :: (wa b).2) = _
        rw [if_neg (by omega)]
      have e : ∀ k : Int, (k = 9 ∨ k = 10 ∨ k = 14 ∨ k = 11) → (o == k) = false := fun k hk => by rw [beq_eq_false_iff_ne]; omega
      refine go (Ev.suc (fun m => ref35_expr_s m _) (Ev.else rfl (Ev.else (e 14 (by decide)) (Ev.else (e 11 (by decide)) ?_))))
      refine Ev.bind (a := false) (Ev.else (e 9 (by decide)) ((Ev.pure _).eq (e 10 (by decide)))) (Ev.else rfl ?_)
      refine Ev.step (a := a) rfl (Ev.step (a := b) rfl (Ev.bind ga (Ev.bind (sign_ev ho) (Ev.bind (word_ev _) (Ev.step (app_ok ?_) (Ev.bind gb (Ev.step (app_ok ?_) ((Ev.pure _).eq ?_))))))))
      · simp only [List.length_cons, List.length_nil, List.length_map]; omega
      · simp only [List.length_append, List.length_cons, List.length_nil, List.length_map]; omega
      rw [ew, List.map_append, List.map_cons, opw_rwd ho]
      simp
theorem rjoin_L (l : List Token) : ∀ (us : List Token) (i : Nat) (acc : Rt.Bs), l.drop i = us → i ≤ 1000000 → 0 < i → (∀ t, t ∈ us → t.Kind ≠ 2) → acc.length + (sp us).length ≤ 1000000 → i + us.length ≤ 1000000 →
    ∀ n m, us.length < m → ref06_Print_L1 n l (fun s3 => some s3) m acc (i : Int) = some (acc ++ sp us)
  | [], i, acc, hd, _, _, _, _, _, n, m, hm => by
    obtain ⟨m, rfl⟩ := left hm
    rw [ref06_Print_L1_s, more_no hd, cond_false, sp, List.append_nil]
  | t :: us, i, acc, hd, hi, hp, hk, hlen, hil, n, m, hm => by
    obtain ⟨h1, h2, h3⟩ := Rt.drop_cons hd
    obtain ⟨m, rfl, hm2⟩ := pred (by simpa using hm)
    simp only [sp, List.length_cons, List.length_append] at hlen hil
    have hk2 : (t.Kind == 2) = false := by simpa using hk t (by simp)
    rw [ref06_Print_L1_s, more_yes hd, cond_true, decide_eq_true (by omega), cond_true, scat_eq (by simp only [List.length_cons, List.length_nil]; omega), Option.bind_some, Option.bind_some, h1, Option.bind_some, hk2, cond_false, Option.bind_some, scat_eq (by simp only [List.length_append, List.length_cons, List.length_nil]; omega), Option.bind_some, inc64 (by omega)]
    rw [rjoin_L l us (i + 1) _ h2 (by omega) (by omega) (fun u hu => hk u (by simp [hu])) (by simp only [List.length_append, List.length_cons, List.length_nil]; omega) (by omega) n m hm2]
    simp [sp]
theorem rjoin_ev {t : Token} {us : List Token} (hk : ∀ u, u ∈ t :: us → u.Kind ≠ 2) (hlen : (sp (t :: us)).length ≤ 100000) : Ev (fun n => ref06_Print n (t :: us)) (t.Text ++ sp us) := by
  refine ⟨us.length + 3, fun n hn => ?_⟩
  obtain ⟨m, rfl⟩ : ∃ m, n = m + 1 := ⟨n - 1, by omega⟩
  have hc := sp_count us
  simp only [sp, List.length_cons, List.length_append] at hlen
  have hk2 : (t.Kind == 2) = false := by simpa using hk t (by simp)
  unfold ref06_Print
  show ref06_Print_L1 (m + 1) (t :: us) _ (m + 1) [] ((0 : Nat) : Int) = _
  rw [ref06_Print_L1_s, more_yes (show (t :: us).drop 0 = t :: us from rfl), cond_true, show decide ((0 : Int) < ((0 : Nat) : Int)) = false from rfl, cond_false, Option.bind_some, show ix (t :: us) ((0 : Nat) : Int) = some t from rfl, Option.bind_some, hk2, cond_false, Option.bind_some, scat_eq (by simp only [List.length_nil]; omega), Option.bind_some, inc64 (by omega), List.nil_append]
  exact rjoin_L (t :: us) us 1 t.Text rfl (by omega) (by omega) (fun u hu => hk u (by simp [hu])) (by omega) (by omega) (m + 1) m (by omega)
end Go.Proofs.YtpihabofmnnbbaaGreatDoor.Pr

namespace Go.Proofs.YtpihabofmnnbbaaGreatDoor.Pr
open Go Rt M Ta Tp
theorem wdp_all {P : Token → Prop} (h40 : P (wS 40)) (h41 : P (wS 41)) {o : Int} {l : List M.Expr} {w : List Token} (h : ∀ t, t ∈ w → P t) : ∀ t, t ∈ wdp o l w → P t := by
  unfold wdp
  cases (!l.isEmpty && o != 9) && o != 10 with
  | false => exact h
  | true =>
    intro t ht
    rw [cond_true] at ht
    simp only [List.mem_cons, List.mem_append, List.not_mem_nil, or_false] at ht
    rcases ht with rfl | ht | rfl
    · exact h40
    · exact h t ht
    · exact h41
theorem words_all {P : Token → Prop} (hn : ∀ s, Lx.name s = true → P (wN s)) (hk : ∀ n : Int, 0 ≤ n → n ≤ 1099511627776 → P (wK n)) (hg : ∀ c, Lx.isSign c = true → c ≠ 59 → P (wS c)) {x : M.Expr} (hs : Shx x) : (∀ t, t ∈ (wa x).1 → P t) ∧ (∀ t, t ∈ (wa x).2 → P t) := by
  have h40 : P (wS 40) := hg 40 (by decide) (by decide)
  have h41 : P (wS 41) := hg 41 (by decide) (by decide)
  have h44 : P (wS 44) := hg 44 (by decide) (by decide)
  induction hs with
  | @mk o n s l h0 h16 hl hno _ ih =>
    have two : (∀ t, t ∈ (wa ⟨o, n, s, l⟩).1 → P t) → (∀ t, t ∈ (wa ⟨o, n, s, l⟩).1 → P t) ∧ (∀ t, t ∈ (wa ⟨o, n, s, l⟩).2 → P t) := fun h => ⟨h, wdp_all h40 h41 h⟩
    have hcs : o = 0 ∨ o = 1 ∨ o = 2 ∨ o = 3 ∨ o = 4 ∨ (o = 9 ∨ o = 10) ∨ o = 11 ∨ o = 14 ∨ (o = 5 ∨ o = 6 ∨ o = 7 ∨ o = 8 ∨ o = 12 ∨ o = 13 ∨ o = 15 ∨ o = 16) := by omega
    rcases hcs with rfl | rfl | rfl | rfl | rfl | ho | rfl | rfl | ho
    · obtain rfl : l = [] := List.length_eq_zero_iff.1 (shx_len hl rfl)
      unfold nodeok at hno
      rw [if_pos rfl] at hno
      refine two fun t ht => ?_
      obtain rfl := List.mem_singleton.1 ht
      exact hk n hno.1.1 hno.1.2
    · obtain rfl : l = [] := List.length_eq_zero_iff.1 (shx_len hl rfl)
      unfold nodeok at hno
      rw [if_neg (by decide), if_pos (by decide)] at hno
      refine two fun t ht => ?_
      have ht : t ∈ [wN [108, 105, 102, 116, 115], wS 40, wN s, wS 41] := ht
      simp only [List.mem_cons, List.not_mem_nil, or_false] at ht
      rcases ht with rfl | rfl | rfl | rfl
      · exact hn _ (by decide)
      · exact h40
      · exact hn _ hno.2
      · exact h41
    · obtain rfl : l = [] := List.length_eq_zero_iff.1 (shx_len hl rfl)
      refine two fun t ht => ?_
      obtain rfl := List.mem_singleton.1 ht
      exact hn _ (by decide)
    · obtain rfl : l = [] := List.length_eq_zero_iff.1 (shx_len hl rfl)
      refine two fun t ht => ?_
      obtain rfl := List.mem_singleton.1 ht
      exact hn _ (by decide)
    · obtain rfl : l = [] := List.length_eq_zero_iff.1 (shx_len hl rfl)
      unfold nodeok at hno
      rw [if_neg (by decide), if_pos (by decide)] at hno
      refine two fun t ht => ?_
      have ht : t ∈ [wN [119, 101, 105, 103, 104, 116], wS 40, wN s, wS 41] := ht
      simp only [List.mem_cons, List.not_mem_nil, or_false] at ht
      rcases ht with rfl | rfl | rfl | rfl
      · exact hn _ (by decide)
      · exact h40
      · exact hn _ hno.2
      · exact h41
    · have hl2 : l.length = 2 := shx_len hl (by rcases ho with rfl | rfl <;> rfl)
      obtain ⟨a, b, rfl⟩ : ∃ a b, l = [a, b] := by
        match l, hl2 with
        | [a, b], _ => exact ⟨a, b, rfl⟩
      have ga := (ih a (by simp)).1
      have gb := (ih b (by simp)).1
      refine two fun t ht => ?_
      have key : ∀ k, Lx.name k = true → t ∈ wN k :: wS 40 :: ((wa a).1 ++ wS 44 :: ((wa b).1 ++ [wS 41])) → P t := by
        intro k hk2 ht
        simp only [List.mem_cons, List.mem_append, List.not_mem_nil, or_false] at ht
        rcases ht with rfl | rfl | ht | rfl | ht | rfl
        · exact hn _ hk2
        · exact h40
        · exact ga t ht
        · exact h44
        · exact gb t ht
        · exact h41
      rcases ho with rfl | rfl
      · exact key [109, 105, 110] (by decide) ht
      · exact key [109, 97, 120] (by decide) ht
    · have hl3 : l.length = 3 := shx_len hl rfl
      obtain ⟨a, b, c, rfl⟩ : ∃ a b c, l = [a, b, c] := by
        match l, hl3 with
        | [a, b, c], _ => exact ⟨a, b, c, rfl⟩
      have ga := (ih a (by simp)).2
      have gb := (ih b (by simp)).2
      have gc := (ih c (by simp)).2
      refine two fun t ht => ?_
      have ht : t ∈ wN [105, 102] :: ((wa a).2 ++ wN [116, 104, 101, 110] :: ((wa b).2 ++ wN [101, 108, 115, 101] :: (wa c).2)) := ht
      simp only [List.mem_cons, List.mem_append] at ht
      rcases ht with rfl | ht | rfl | ht | rfl | ht
      · exact hn _ (by decide)
      · exact ga t ht
      · exact hn _ (by decide)
      · exact gb t ht
      · exact hn _ (by decide)
      · exact gc t ht
    · have hl1 : l.length = 1 := shx_len hl rfl
      obtain ⟨a, rfl⟩ : ∃ a, l = [a] := by
        match l, hl1 with
        | [a], _ => exact ⟨a, rfl⟩
      have ga := (ih a (by simp)).2
      refine two fun t ht => ?_
      rcases List.mem_cons.1 ht with rfl | ht
      · exact hn _ (by decide)
      · exact ga t ht
    · have hl2 : l.length = 2 := shx_len hl (by unfold argsN; rw [if_neg (by omega), if_neg (by omega), if_neg (by omega)]; rfl)
      obtain ⟨a, b, rfl⟩ : ∃ a b, l = [a, b] := by
        match l, hl2 with
        | [a, b], _ => exact ⟨a, b, rfl⟩
      have ga := (ih a (by simp)).2
      have gb := (ih b (by simp)).2
      have ew : (wa ⟨o, n, s, [a, b]⟩).1 = (wa a).2 ++ opw o :: (wa b).2 := by
        show (if o = 9 ∨ o = 10 then _ else (wa a).2 ++ opw o :: (wa b).2) = _
        rw [if_neg (by omega)]
      refine two fun t ht => ?_
      rw [ew] at ht
      rcases List.mem_append.1 ht with ht | ht
      · exact ga t ht
      rcases List.mem_cons.1 ht with rfl | ht
      · rcases ho with rfl | rfl | rfl | rfl | rfl | rfl | rfl | rfl
        · exact hg 43 (by decide) (by decide)
        · exact hg 45 (by decide) (by decide)
        · exact hg 42 (by decide) (by decide)
        · exact hg 47 (by decide) (by decide)
        · exact hg 60 (by decide) (by decide)
        · exact hg 61 (by decide) (by decide)
        · exact hn [97, 110, 100] (by decide)
        · exact hn [111, 114] (by decide)
      · exact gb t ht
theorem span_mem {p : UInt8 → Bool} : ∀ {s : Rt.Bs}, Lx.spanN p s = s.length → ∀ c, c ∈ s → p c = true
  | [], _, c, hc => by cases hc
  | d :: s, h, c, hc => by
    have hle := Lx.spanN_le p s
    rw [Lx.spanN] at h
    cases hp : p d with
    | false => rw [hp] at h; simp at h
    | true =>
      rw [hp, cond_true] at h
      rcases List.mem_cons.1 hc with rfl | hc
      · exact hp
      · exact span_mem (by simpa using h) c hc
theorem name_mem {s : Rt.Bs} (h : Lx.name s = true) {c : UInt8} (hc : c ∈ s) : Lx.isInner c = true := by
  unfold Lx.name at h
  simp only [Bool.and_eq_true, beq_iff_eq] at h
  exact span_mem h.2 c hc
def Pl (t : Token) : Prop := t.Kind ≠ 2 ∧ (59 : UInt8) ∉ t.Text
theorem fee_pl {x : M.Expr} (hs : Shx x) : ∀ t, t ∈ (wa x).1 → Pl t := by
  refine (words_all (P := Pl) ?_ ?_ ?_ hs).1
  · intro s h
    refine ⟨(by decide : (0 : Int) ≠ 2), fun hc => ?_⟩
    have := name_mem h hc
    exact absurd this (by decide)
  · intro n h0 h1
    refine ⟨(by decide : (1 : Int) ≠ 2), fun hc => ?_⟩
    have hc : (59 : UInt8) ∈ Lib.itoa n := hc
    rw [itoa_nat h0] at hc
    exact absurd ((dec_of n.toNat).2.1 _ hc) (by decide)
  · intro c _ h
    refine ⟨(by decide : (3 : Int) ≠ 2), fun hc => ?_⟩
    exact h (List.mem_singleton.1 hc).symm
theorem pw_kind {t : Tariff} (hw : Wrt t) : ∀ u, u ∈ pw t → u.Kind ≠ 2 := by
  intro u hu
  unfold pw pwx at hu
  simp only [List.mem_cons, List.mem_append, List.not_mem_nil, or_false] at hu
  rcases hu with rfl | rfl | rfl | rfl | rfl | hu | rfl | hu | rfl
  · exact (by decide : (0 : Int) ≠ 2)
  · exact (by decide : (0 : Int) ≠ 2)
  · exact (by decide : (3 : Int) ≠ 2)
  · exact (by decide : (0 : Int) ≠ 2)
  · exact (by decide : (3 : Int) ≠ 2)
  · exact (fee_pl hw.2.1.2 u hu).1
  · exact (by decide : (3 : Int) ≠ 2)
  · unfold capw at hu
    by_cases hc : t.Cap = -1
    · rw [if_neg (fun h => h hc)] at hu; cases hu
    · rw [if_pos hc] at hu
      simp only [List.mem_cons, List.not_mem_nil, or_false] at hu
      rcases hu with rfl | rfl | rfl | rfl
      · exact (by decide : (0 : Int) ≠ 2)
      · exact (by decide : (3 : Int) ≠ 2)
      · exact (by decide : (1 : Int) ≠ 2)
      · exact (by decide : (3 : Int) ≠ 2)
  · exact (by decide : (3 : Int) ≠ 2)
theorem Same_L (x : M.Expr) (hx : x.Args.length ≤ 1000000) (kont : Option Bool) : ∀ (us : List M.Expr) (i : Nat), x.Args.drop i = us → (∀ y, y ∈ us → Ev (fun n => ref35_Same n y y) true) →
    ∃ N, ∀ n m, N ≤ n → us.length < m → ref35_Same_L1 n (ref35_Same n) x x kont m (i : Int) = kont
  | [], i, hd, _ => by
    refine ⟨0, fun n m _ hm => ?_⟩
    obtain ⟨m, rfl⟩ := left hm
    rw [ref35_Same_L1_s, more_no hd]; rfl
  | y :: us, i, hd, H => by
    obtain ⟨h1, h2, h3⟩ := Rt.drop_cons hd
    obtain ⟨N1, e1⟩ := H y (by simp)
    obtain ⟨N, ih⟩ := Same_L x hx kont us (i + 1) h2 (fun z hz => H z (by simp [hz]))
    refine ⟨max N N1, fun n m hn hm => ?_⟩
    obtain ⟨m, rfl, hm2⟩ := pred (by simpa using hm)
    have e1 : ref35_Same n y y = some true := e1 n (by omega)
    rw [ref35_Same_L1_s, more_yes hd, cond_true, h1, Option.bind_some, Option.bind_some, e1, Option.bind_some, Bool.not_true, cond_false, inc64 (by omega)]
    exact ih n m (by omega) hm2
theorem Same_ev {x : M.Expr} (hx : Fit x) : Ev (fun n => ref35_Same n x x) true := by
  induction hx with
  | @mk o k s l hl _ ih =>
    refine Ev.suc (fun n => ref35_Same_s n _ _) ?_
    dsimp only
    refine or_pure (by simp) (by simp) (or_pure rfl (by simp) (or_pure rfl (by simp) (Ev.else rfl ?_)))
    obtain ⟨N, h⟩ := Same_L ⟨o, k, s, l⟩ hl (some true) l 0 rfl ih
    exact ⟨N + l.length + 1, fun n hn => h n n (by omega) (by omega)⟩
theorem SameT_ev {t : Tariff} (hx : Fit t.Fee) : Ev (fun n => ref35_SameTariff n t t) true := by
  unfold ref35_SameTariff
  exact and_pure (by simp) (by simp) (and_call rfl (Same_ev hx) (Ev.pure _))
end Go.Proofs.YtpihabofmnnbbaaGreatDoor.Pr

namespace Go.Proofs.YtpihabofmnnbbaaGreatDoor.Ta
open Go Rt M
theorem orT (c d : Bool) : (bif c then some true else some d) = some (c || d) := by cases c <;> rfl
theorem andT (c d : Bool) : (bif c then some d else some false) = some (c && d) := by cases c <;> rfl
theorem Arity_n (n : Nat) {o : Int} (h1 : 0 ≤ o) (h2 : o ≤ 16) : ref35_Arity n o = some (argsN o) := by
  unfold ref35_Arity argsN
  rw [decide_eq_false (show ¬ o < 0 by omega), cond_false, Option.bind_some, decide_eq_false (show ¬ 17 ≤ o by omega), cond_false]
  by_cases h3 : o ≤ 4
  · rw [decide_eq_true h3, if_pos h3]; rfl
  · rw [decide_eq_false h3, if_neg h3, cond_false]
    by_cases h4 : o = 14
    · subst h4; rfl
    · rw [show (o == 14) = false by simpa using h4, if_neg h4, cond_false]
      by_cases h5 : o = 11
      · subst h5; rfl
      · rw [show (o == 11) = false by simpa using h5, if_neg h5]; rfl
theorem Arity_bad (n : Nat) {o : Int} (h : ¬ (0 ≤ o ∧ o ≤ 16)) : ref35_Arity n o = some (-1) := by
  unfold ref35_Arity
  rw [orT, Option.bind_some, show (decide (o < 0) || decide (17 ≤ o)) = true by by_cases h1 : o < 0 <;> simp [h1]; omega]; rfl
theorem shaped_L (x : M.Expr) (hl : x.Args.length ≤ 1000000) : ∀ (us : List M.Expr) (i : Nat), x.Args.drop i = us → (∀ y, y ∈ us → ∃ b, Ev (fun n => tariff_shaped n y) b ∧ Ev (fun n => ref35_shaped n y) b) →
    ∃ N r, ∀ n m, N ≤ n → us.length < m → slices_IndexFunc_api_Expr_api_Expr_L1 n x.Args (tariff_shaped_1 n) (some (-1)) m (i : Int) = some r ∧ ref35_shaped_L1 n (ref35_shaped n) x (some true) m (i : Int) = some (!decide (0 ≤ r))
  | [], i, hd, _ => by
    refine ⟨0, -1, fun n m _ hm => ?_⟩
    obtain ⟨m, rfl⟩ := left hm
    rw [slices_IndexFunc_api_Expr_api_Expr_L1_s, more_no hd, ref35_shaped_L1_s, more_no hd]
    exact ⟨rfl, rfl⟩
  | y :: us, i, hd, H => by
    obtain ⟨h1, h2, h3⟩ := drop_cons hd
    obtain ⟨b, ⟨N1, e1⟩, ⟨N2, e2⟩⟩ := H y (by simp)
    obtain ⟨N, r, ih⟩ := shaped_L x hl us (i + 1) h2 (fun z hz => H z (by simp [hz]))
    refine ⟨max N (max (N1 + 1) N2), if b = true then r else (i : Int), fun n m hn hm => ?_⟩
    obtain ⟨m, rfl, hm2⟩ := pred (by simpa using hm)
    obtain ⟨n', rfl⟩ : ∃ k, n = k + 1 := ⟨n - 1, by omega⟩
    have e1 : tariff_shaped n' y = some b := e1 n' (by omega)
    have e2 : ref35_shaped (n' + 1) y = some b := e2 (n' + 1) (by omega)
    have ih := ih (n' + 1) m (by omega) hm2
    rw [slices_IndexFunc_api_Expr_api_Expr_L1_s, more_yes hd, cond_true, h1, Option.bind_some, tariff_shaped_1_s, e1, Option.bind_some, Option.bind_some, ref35_shaped_L1_s, more_yes hd, cond_true, h1, Option.bind_some, e2, Option.bind_some]
    cases b with
    | true => rw [Bool.not_true, cond_false, cond_false, if_pos rfl, inc64 (by omega)]; exact ih
    | false =>
      rw [if_neg (by decide), decide_eq_true (show (0 : Int) ≤ (i : Int) by omega)]
      exact ⟨rfl, rfl⟩
theorem shaped_2 {x : M.Expr} (hx : Fit x) : ∃ b, Ev (fun n => tariff_shaped n x) b ∧ Ev (fun n => ref35_shaped n x) b := by
  induction hx with
  | @mk o k s l hl _ ih =>
    by_cases hr : 0 ≤ o ∧ o ≤ 16
    rotate_left
    · refine ⟨false, Ev.suc (fun n => tariff_shaped_s n _) ?_, Ev.suc (fun n => ref35_shaped_s n _) ?_⟩
      · refine Ev.bind (a := true) (Ev.all fun n => ?_) (Ev.bind (a := true) (Ev.then rfl (Ev.pure _)) (Ev.then rfl (Ev.pure _)))
        rw [orT]; dsimp only
        congr 1
        by_cases h1 : o < 0 <;> simp [h1]
        omega
      · refine Ev.bind (Ev.all fun n => Arity_bad n hr) ?_
        exact Ev.bind (a := true) (Ev.then (by dsimp only; rw [bne_iff_ne]; omega) (Ev.pure _)) (Ev.then rfl (Ev.pure _))
    have d1 : decide (o < 0) = false := decide_eq_false (by omega)
    have d2 : decide (17 ≤ o) = false := decide_eq_false (by omega)
    by_cases ha : (l.length : Int) = argsN o
    rotate_left
    · have d3 : ((l.length : Int) != argsN o) = true := by simpa using ha
      refine ⟨false, Ev.suc (fun n => tariff_shaped_s n _) ?_, Ev.suc (fun n => ref35_shaped_s n _) ?_⟩
      · exact Ev.bind (a := false) (Ev.else d1 ((Ev.pure _).eq d2)) (Ev.bind (a := true) (Ev.else rfl (Ev.bind (Ev.all fun n => args_n n _) ((Ev.pure _).eq d3))) (Ev.then rfl (Ev.pure _)))
      · exact Ev.bind (Ev.all fun n => Arity_n n hr.1 hr.2) (Ev.bind (a := true) (Ev.then d3 (Ev.pure _)) (Ev.then rfl (Ev.pure _)))
    have d3 : ((l.length : Int) != argsN o) = false := by simpa using ha
    have code : ∀ {b : Bool} {f : Nat → Option Bool}, Ev f b → Ev (fun n => (bif decide (o < 0) then some true else some (decide (17 ≤ o))).bind fun v1 => (bif v1 then some true else (tariff_args n o).bind fun v11 => some ((l.length : Int) != v11)).bind fun v2 => bif v2 then some false else f n) b := fun h =>
      Ev.bind (a := false) (Ev.else d1 ((Ev.pure _).eq d2)) (Ev.bind (a := false) (Ev.else rfl (Ev.bind (Ev.all fun n => args_n n _) ((Ev.pure _).eq d3))) (Ev.else rfl h))
    obtain ⟨N, r, hL⟩ := shaped_L ⟨o, k, s, l⟩ hl l 0 rfl ih
    have loopR : Ev (fun n => ref35_shaped_L1 n (ref35_shaped n) ⟨o, k, s, l⟩ (some true) n 0) (!decide (0 ≤ r)) := ⟨N + l.length + 1, fun n hn => (hL n n (by omega) (by omega)).2⟩
    have loopC : Ev (fun n => slices_ContainsFunc_api_Expr_api_Expr n l (tariff_shaped_1 n)) (decide (0 ≤ r)) := by
      unfold slices_ContainsFunc_api_Expr_api_Expr slices_IndexFunc_api_Expr_api_Expr
      exact Ev.bind (a := r) ⟨N + l.length + 1, fun n hn => (hL n n (by omega) (by omega)).1⟩ (Ev.pure _)
    have loop0 : argsN o = 0 → (!decide (0 ≤ r)) = true := by
      intro h0
      have hz : l = [] := List.length_eq_zero_iff.1 (by omega)
      subst hz
      have h1 := (hL (N + 1) 1 (by omega) (by simp)).1
      rw [slices_IndexFunc_api_Expr_api_Expr_L1_s] at h1
      have h2 : (some (-1) : Option Int) = some r := h1
      cases h2; rfl
    have ref : ∀ {vn : Bool}, Lx.name s = vn → Ev (fun n => ref35_shaped n ⟨o, k, s, l⟩) (!((o != 0 && k != 0) || ((((o == 1 || o == 4) && !vn) || (!(o == 1 || o == 4) && !(s == []))) || (o == 0 && (decide (k < 0) || decide (1099511627776 < k))))) && !decide (0 ≤ r)) := by
      intro vn hvn
      refine Ev.suc (fun n => ref35_shaped_s n _) ?_
      refine Ev.bind (Ev.all fun n => Arity_n n hr.1 hr.2) ?_
      refine Ev.bind (a := (o != 0 && k != 0)) (Ev.else d3 (Ev.all fun n => by rw [andT]; rfl)) ?_
      cases (o != 0 && k != 0) with
      | true => exact Ev.then rfl ((Ev.pure _).eq rfl)
      | false =>
        refine Ev.else rfl ?_
        refine Ev.bind (a := (o == 1 || o == 4)) (Ev.all fun n => orT _ _) ?_
        refine Ev.bind (a := ((o == 1 || o == 4) && !vn)) ?_ ?_
        · cases (o == 1 || o == 4) with
          | true => exact Ev.then rfl (Ev.bind ((rname_ev s).eq hvn) (Ev.pure _))
          | false => exact Ev.else rfl (Ev.pure _)
        refine Ev.bind (a := (((o == 1 || o == 4) && !vn) || (!(o == 1 || o == 4) && !(s == [])))) ?_ ?_
        · cases ((o == 1 || o == 4) && !vn) with
          | true => exact Ev.then rfl (Ev.pure _)
          | false => exact Ev.else rfl (Ev.all fun n => by rw [andT]; rfl)
        refine Ev.bind (a := ((((o == 1 || o == 4) && !vn) || (!(o == 1 || o == 4) && !(s == []))) || (o == 0 && (decide (k < 0) || decide (1099511627776 < k))))) ?_ ?_
        · cases (((o == 1 || o == 4) && !vn) || (!(o == 1 || o == 4) && !(s == []))) with
          | true => exact Ev.then rfl (Ev.pure _)
          | false =>
            refine Ev.else rfl (Ev.bind (a := (o == 0 && (decide (k < 0) || decide (1099511627776 < k)))) ?_ ((Ev.pure _).eq (by simp)))
            cases o == 0 with
            | true => exact Ev.then rfl (Ev.all fun n => by rw [orT]; rfl)
            | false => exact Ev.else rfl (Ev.pure _)
        cases ((((o == 1 || o == 4) && !vn) || (!(o == 1 || o == 4) && !(s == []))) || (o == 0 && (decide (k < 0) || decide (1099511627776 < k)))) with
        | true => exact Ev.then rfl (Ev.pure _)
        | false => exact Ev.else rfl (loopR.eq (by simp))
    by_cases o0 : o = 0
    · refine ⟨(decide (0 ≤ k) && decide (k ≤ 1099511627776)) && s == [], Ev.suc (fun n => tariff_shaped_s n _) (code (Ev.then (by simpa using o0) ?_)), (ref rfl).eq ?_⟩
      · refine Ev.bind (a := (decide (0 ≤ k) && decide (k ≤ 1099511627776))) (Ev.all fun n => andT _ _) ?_
        exact Ev.bind (a := ((decide (0 ≤ k) && decide (k ≤ 1099511627776)) && s == [])) (Ev.all fun n => andT _ _) (Ev.pure _)
      · rw [loop0 (by rw [o0]; rfl)]
        subst o0
        by_cases k1 : k < 0
        · rw [decide_eq_true k1, decide_eq_false (show ¬ 0 ≤ k by omega)]; simp
        · by_cases k2 : 1099511627776 < k
          · rw [decide_eq_true k2, decide_eq_false (show ¬ k ≤ 1099511627776 by omega)]; simp
          · rw [decide_eq_false k1, decide_eq_false k2, decide_eq_true (show 0 ≤ k by omega), decide_eq_true (show k ≤ 1099511627776 by omega)]; simp
    have f0 : (o == 0) = false := by simpa using o0
    have g0 : (o != 0) = true := by simpa using o0
    by_cases o1 : (o == 1 || o == 4) = true
    · refine ⟨k == 0 && Lx.name s, Ev.suc (fun n => tariff_shaped_s n _) (code (Ev.else f0 (Ev.bind (a := true) ((Ev.all fun n => orT _ _).eq o1) (Ev.then rfl (Ev.bind (a := (k == 0 && Lx.name s)) ?_ (Ev.pure _)))))), (ref rfl).eq ?_⟩
      · cases hk : k == 0 with
        | true => exact Ev.then rfl (Ev.bind (name_ev s) ((Ev.pure _).eq (by simp)))
        | false => exact Ev.else rfl (Ev.pure _)
      · have h4 : o = 1 ∨ o = 4 := by simpa using o1
        rw [loop0 (by rcases h4 with h | h <;> rw [h] <;> rfl), o1, f0, g0]
        cases hk : k == 0 <;> cases Lx.name s <;> simp [bne, hk]
    · have o1' : (o == 1 || o == 4) = false := by simpa using o1
      refine ⟨(k == 0 && s == []) && !decide (0 ≤ r), Ev.suc (fun n => tariff_shaped_s n _) (code (Ev.else f0 (Ev.bind (a := false) ((Ev.all fun n => orT _ _).eq o1') (Ev.else rfl ?_)))), (ref rfl).eq ?_⟩
      · refine Ev.bind (a := (k == 0 && s == [])) (Ev.all fun n => andT _ _) ?_
        refine Ev.bind (a := ((k == 0 && s == []) && !decide (0 ≤ r))) ?_ (Ev.pure _)
        cases (k == 0 && s == []) with
        | true => exact Ev.then rfl (Ev.bind loopC ((Ev.pure _).eq (by simp)))
        | false => exact Ev.else rfl (Ev.pure _)
      · rw [o1', f0, g0]
        cases hk : k == 0 <;> cases s == [] <;> simp [bne, hk]
theorem form_2 {x : M.Expr} (hx : Fit x) : ∃ b, Ev (fun n => tariff_form n x) b ∧ Ev (fun n => ref35_Form n x) b ∧ (b = true → Shp x) := by
  obtain ⟨b1, z, e1, e2⟩ := few_2 hx
  obtain ⟨b2, e3, e4⟩ := shaped_2 hx
  obtain ⟨b3, e5, hS⟩ := shaped_t hx
  have hb : b3 = b2 := e5.uniq e3
  refine ⟨b1 && b2, ?_, ?_, fun h => hS (by rw [hb]; simp at h; exact h.2)⟩
  · unfold tariff_form
    refine Ev.bind e1 (Ev.bind (a := b1 && b2) ?_ (Ev.pure _))
    cases b1 with
    | true => exact Ev.then rfl (Ev.bind e3 ((Ev.pure _).eq (by simp)))
    | false => exact Ev.else rfl (Ev.pure _)
  · unfold ref35_Form
    refine Ev.bind e2 (Ev.bind (a := b1 && b2) ?_ (Ev.pure _))
    cases b1 with
    | true => exact Ev.then rfl (Ev.bind e4 ((Ev.pure _).eq (by simp)))
    | false => exact Ev.else rfl (Ev.pure _)
theorem written_2 {t : Tariff} (hx : Fit t.Fee) : ∃ b, Ev (fun n => tariff_writable n t) b ∧ Ev (fun n => ref35_Written n t) b ∧ (b = true → Shp t.Fee) := by
  obtain ⟨b, e1, e2, hS⟩ := form_2 hx
  refine ⟨((Lx.name t.Name && b) && decide (-1 ≤ t.Cap)) && decide (t.Cap ≤ 1099511627776), ?_, ?_, fun h => hS (by simp at h; exact h.1.1.2)⟩
  · unfold tariff_writable
    refine Ev.bind (name_ev _) (Ev.bind (a := (Lx.name t.Name && b)) ?_ (Ev.bind (Ev.all fun n => andT _ _) (Ev.bind (Ev.all fun n => andT _ _) (Ev.pure _))))
    cases Lx.name t.Name with
    | true => exact Ev.then rfl (Ev.bind e1 ((Ev.pure _).eq (by simp)))
    | false => exact Ev.else rfl (Ev.pure _)
  · unfold ref35_Written
    refine Ev.bind (rname_ev _) (Ev.bind (a := (Lx.name t.Name && b)) ?_ (Ev.bind (Ev.all fun n => andT _ _) (Ev.bind (Ev.all fun n => andT _ _) (Ev.pure _))))
    cases Lx.name t.Name with
    | true => exact Ev.then rfl (Ev.bind e2 ((Ev.pure _).eq (by simp)))
    | false => exact Ev.else rfl (Ev.pure _)
end Go.Proofs.YtpihabofmnnbbaaGreatDoor.Ta

namespace Go.Proofs.YtpihabofmnnbbaaGreatDoor.Pr
open Go Rt M Ta Tp
theorem capw_len (c : Int) : (capw c).length ≤ 4 := by
  unfold capw
  split
  · exact Nat.le_refl 4
  · exact Nat.zero_le 4
theorem rPrint_ev {t : Tariff} (hw : Wrt t) (hr : Ev (fun n => ref35_Written n t) true) : Ev (fun n => ref35_Print n t) (ptx t, true) := by
  have hlen := (wa_len hw.2.1.2).1
  have hc := hw.2.1.1.2
  have hcw := capw_len t.Cap
  obtain ⟨g, _⟩ := rprint_ok hw.2.1.2 (by omega)
  obtain ⟨hx, hx2⟩ := ptx_words hw
  unfold ref35_Print
  refine Ev.bind hr (Ev.else rfl ?_)
  refine Ev.bind (words_ev [[116, 97, 114, 105, 102, 102], t.Name, [123], [102, 101, 101], [61]] (Nat.le_add_left 5 995)) (Ev.bind g (Ev.step (app_ok ?_) (Ev.bind (word_ev [59]) (Ev.step (app_ok ?_) ?_))))
  · simp only [List.length_cons, List.length_nil, List.length_map]; omega
  · simp only [List.length_append, List.length_cons, List.length_nil, List.length_map]; omega
  have hn : rwd t.Name = wz (wN t.Name) := rwd_name hw.1
  have hcp := hw.2.2
  have fin : Ev (fun n => ref06_Print n ((((([[116, 97, 114, 105, 102, 102], t.Name, [123], [102, 101, 101], [61]].map rwd ++ (wa t.Fee).1.map wz) ++ [rwd [59]]) ++ (capw t.Cap).map wz)) ++ [rwd [125]])) (ptx t) := by
    have e : (((([[116, 97, 114, 105, 102, 102], t.Name, [123], [102, 101, 101], [61]].map rwd ++ (wa t.Fee).1.map wz) ++ [rwd [59]]) ++ (capw t.Cap).map wz)) ++ [rwd [125]] = (pw t).map wz := by
      have h1 : rwd [116, 97, 114, 105, 102, 102] = wz (wN [116, 97, 114, 105, 102, 102]) := rfl
      have h3 : rwd [123] = wz (wS 123) := rfl
      have h4 : rwd [102, 101, 101] = wz (wN [102, 101, 101]) := rfl
      have h5 : rwd [61] = wz (wS 61) := rfl
      have h6 : rwd [59] = wz (wS 59) := rfl
      have h7 : rwd [125] = wz (wS 125) := rfl
      unfold pw pwx
      simp only [List.map_append, List.map_cons, List.map_nil, List.append_assoc, List.cons_append, List.nil_append, h1, hn, h3, h4, h5, h6, h7]
    rw [e]
    have hs : ∀ ws : List Token, sp (ws.map wz) = sp ws := by
      intro ws
      induction ws with
      | nil => rfl
      | cons u ws ih => show 32 :: (u.Text ++ sp (ws.map wz)) = 32 :: (u.Text ++ sp ws); rw [ih]
    have hk := pw_kind hw
    obtain ⟨t0, us, he⟩ : ∃ t0 us, pw t = t0 :: us := ⟨_, _, rfl⟩
    rw [he] at hx hk ⊢
    have hx : ptx t = t0.Text ++ sp us := (List.cons.inj hx).2
    rw [List.map_cons]
    refine (rjoin_ev (t := wz t0) (us := us.map wz) ?_ ?_).eq ?_
    · intro u hu
      rw [← List.map_cons, List.mem_map] at hu
      obtain ⟨v, hv, rfl⟩ := hu
      exact hk v hv
    · rw [← List.map_cons, hs]
      show (32 :: (t0.Text ++ sp us)).length ≤ _
      rw [← hx, List.length_cons]; omega
    · rw [hs]; exact hx.symm
  by_cases h1 : t.Cap = -1
  · have hcn : capw t.Cap = [] := if_neg fun h => h h1
    rw [hcn] at fin
    refine Ev.bind (Ev.else (by rw [h1]; rfl) (Ev.pure _)) (Ev.bind (word_ev [125]) (Ev.step (app_ok ?_) (Ev.bind ?_ (Ev.pure _))))
    · simp only [List.length_append, List.length_cons, List.length_nil, List.length_map]; omega
    · simpa using fin
  · have hcn : capw t.Cap = [wN [99, 97, 112], wS 61, wK t.Cap, wS 59] := if_pos h1
    rw [hcn] at fin
    refine Ev.bind (Ev.then (by simpa using h1) (Ev.bind (words_ev [[99, 97, 112], [61]] (Nat.le_add_left 2 998)) (Ev.step (app_ok ?_) (Ev.bind (number_ev (by omega) (by omega)) (Ev.bind (word_ev [59]) (Ev.step (app_ok ?_) (Ev.pure _))))))) (Ev.bind (word_ev [125]) (Ev.step (app_ok ?_) (Ev.bind ?_ (Ev.pure _))))
    · simp only [List.length_append, List.length_cons, List.length_nil, List.length_map]; omega
    · simp only [List.length_append, List.length_cons, List.length_nil, List.length_map]; omega
    · simp only [List.length_append, List.length_cons, List.length_nil, List.length_map]; omega
    · have e2 : [rwd [99, 97, 112], rwd [61], wz (wK t.Cap), rwd [59]] = ([wN [99, 97, 112], wS 61, wK t.Cap, wS 59] : List Token).map wz := rfl
      rw [← e2] at fin
      simpa using fin
theorem print_2 {t : Tariff} (hx : Fit t.Fee) : ∃ r, Ev (fun n => tariff_Print n t) r ∧ Ev (fun n => ref35_Print n t) r := by
  obtain ⟨r, e1, hr⟩ := print_ev hx
  obtain ⟨b, w1, w2, _⟩ := written_2 hx
  obtain ⟨c, w3, hc⟩ := writable_x hx
  obtain rfl := w3.uniq w1
  refine ⟨r, e1, ?_⟩
  rcases hr with ⟨hw, rfl⟩ | ⟨hw, rfl⟩
  · exact rPrint_ev hw (w2.eq (hc.2 hw))
  · have hb : c = false := by
      cases c with
      | false => rfl
      | true => exact absurd (hc.1 rfl) hw
    unfold ref35_Print
    exact Ev.bind w2 (Ev.then (by rw [hb]; rfl) (Ev.pure _))
end Go.Proofs.YtpihabofmnnbbaaGreatDoor.Pr

namespace Go.Proofs.YtpihabofmnnbbaaGreatDoor.Pr
open Go Rt M Ta Tp
theorem small35 : Ev law35_small true := ⟨400, fun n hn => by
  obtain ⟨m, rfl⟩ := Nat.le.dest hn
  rw [Nat.add_comm]
  exact (show law35_small (m + 400) = some true by kernel_rfl)⟩
end Go.Proofs.YtpihabofmnnbbaaGreatDoor.Pr

namespace Go.Proofs.YtpihabofmnnbbaaGreatDoor.Ta
open Go Rt M
def wideV (a b : Int) : Int := bif a == 2 || b == 2 then 2 else 1
theorem wide_n (n : Nat) (a b : Int) : ref35_wide n a b = some (wideV a b) := by
  unfold ref35_wide wideV
  rw [orT, Option.bind_some]
  cases a == 2 || b == 2 <;> rfl
theorem join_n (n : Nat) (a b : Int) : tariff_join n a b = some (bif a == 0 || b == 0 then (0, 13) else (wideV a b, 0)) := by
  unfold tariff_join wideV
  rw [orT, Option.bind_some, orT, Option.bind_some]
  cases a == 0 || b == 0 <;> cases a == 2 || b == 2 <;> rfl
theorem wideV_range (a b : Int) : 0 ≤ wideV a b ∧ wideV a b ≤ 2 := by
  unfold wideV
  cases a == 2 || b == 2 <;> decide
theorem fit_less (n : Nat) (p q : Int) : ref35_fit n 12 [p, q] = some (0, p == 1 && q == 1) ∧ ref35_fit n 13 [p, q] = some (0, p == 1 && q == 1) := by
  constructor <;> (show ((bif p == 1 then some (q == 1) else some false).bind fun v4 => some ((0 : Int), v4)) = _; rw [andT]; rfl)
theorem fit_and (n : Nat) (p q : Int) : ref35_fit n 15 [p, q] = some (0, p == 0 && q == 0) ∧ ref35_fit n 16 [p, q] = some (0, p == 0 && q == 0) := by
  constructor <;> (show ((bif p == 0 then some (q == 0) else some false).bind fun v4 => some ((0 : Int), v4)) = _; rw [andT]; rfl)
theorem fit_not (n : Nat) (p : Int) : ref35_fit n 14 [p] = some (0, p == 0) := rfl
theorem fit_if (n : Nat) (p q r : Int) : ref35_fit n 11 [p, q, r] = some (wideV q r, (p == 0 && q != 0) && r != 0) := by
  show ((ref35_wide n q r).bind fun v5 => (bif p == 0 then some (q != 0) else some false).bind fun v6 => (bif v6 then some (r != 0) else some false).bind fun v7 => some (v5, v7)) = _
  rw [wide_n, Option.bind_some, andT, Option.bind_some, andT]; rfl
theorem fit_mul (n : Nat) (p q : Int) : ref35_fit n 7 [p, q] = some (wideV p q, (p != 0 && q != 0) && (p == 1 || q == 1)) := by
  show ((bif p != 0 then some (q != 0) else some false).bind fun v8 => ((bif v8 then (bif p == 1 then some true else some (q == 1)).bind fun v11 => some v11 else some false).bind fun v10 => some v10).bind fun numbers1 => (ref35_wide n p q).bind fun v9 => some (v9, numbers1)) = _
  rw [andT, Option.bind_some, orT, wide_n]
  cases p != 0 && q != 0 <;> rfl
theorem fit_num (n : Nat) (p q : Int) {o : Int} (ho : o = 5 ∨ o = 6 ∨ o = 8 ∨ o = 9 ∨ o = 10) : ref35_fit n o [p, q] = some (wideV p q, p != 0 && q != 0) := by
  have h : (bif p != 0 then some (q != 0) else some false).bind (fun v8 => (some v8).bind fun numbers1 => (ref35_wide n p q).bind fun v9 => some (v9, numbers1)) = some (wideV p q, p != 0 && q != 0) := by
    rw [andT, Option.bind_some, Option.bind_some, wide_n]; rfl
  rcases ho with rfl | rfl | rfl | rfl | rfl <;> exact h
theorem all2 (k p q w : Int) : Ev (fun n => tariff_all n k [p, q] w) (bif p == w && q == w then (k, 0) else (0, 13)) := by
  refine ⟨3, fun n hn => ?_⟩
  obtain ⟨n, rfl⟩ : ∃ j, n = j + 3 := ⟨n - 3, by omega⟩
  show ((bif p != w then some (0 : Int) else bif q != w then some 1 else some (-1)).bind fun v1 => some (decide (0 ≤ v1))).bind (fun v1 => bif v1 then some ((0 : Int), (13 : Int)) else some (k, 0)) = _
  cases hp : p == w <;> cases hq : q == w <;> simp [bne, hp, hq]
theorem all1 (k p w : Int) : Ev (fun n => tariff_all n k [p] w) (bif p == w then (k, 0) else (0, 13)) := by
  refine ⟨3, fun n hn => ?_⟩
  obtain ⟨n, rfl⟩ : ∃ j, n = j + 3 := ⟨n - 3, by omega⟩
  show ((bif p != w then some (0 : Int) else some (-1)).bind fun v1 => some (decide (0 ≤ v1))).bind (fun v1 => bif v1 then some ((0 : Int), (13 : Int)) else some (k, 0)) = _
  cases hp : p == w <;> simp [bne, hp]
theorem Number_L (n : Nat) (l : List Rt.Bs) (s : Rt.Bs) (hl : l.length < 4611686018427387904) : ∀ (us : List Rt.Bs) (i m : Nat), l.drop i = us → us.length < m →
    ref35_Number_L1 n l s (some (-1)) m (i : Int) = some (if s ∈ us then ((i + us.idxOf s : Nat) : Int) else -1)
  | [], i, m + 1, hd, _ => by rw [ref35_Number_L1_s, more_no hd]; rfl
  | x :: us, i, m + 1, hd, hm => by
    obtain ⟨h1, h2, h3⟩ := drop_cons hd
    have ih := Number_L n l s hl us (i + 1) m h2 (by simp only [List.length_cons] at hm; omega)
    rw [ref35_Number_L1_s, more_yes hd, cond_true, h1, Option.bind_some]
    by_cases h : x = s
    · subst h
      rw [beq_self_eq_true, cond_true, if_pos (by simp)]; simp
    · have e : (x == s) = false := by simpa using h
      rw [e, cond_false, inc64 (by omega), ih]
      by_cases h5 : s ∈ us
      · rw [if_pos h5, if_pos (List.mem_cons_of_mem _ h5), List.idxOf_cons, e]
        simp only [cond_false]; congr 1; omega
      · rw [if_neg h5, if_neg (by simp only [List.mem_cons, not_or]; exact ⟨fun h6 => h h6.symm, h5⟩)]
theorem Number_ev {l : List Rt.Bs} (s : Rt.Bs) (hl : l.length < 4611686018427387904) : Ev (fun n => (ref35_Number n l s).bind fun v6 => some (decide (v6 < 0))) (!decide (s ∈ l)) := by
  refine ⟨l.length + 1, fun n hn => ?_⟩
  unfold ref35_Number
  dsimp only
  have h : ref35_Number_L1 n l s (some (-1)) n 0 = _ := Number_L n l s hl l 0 n rfl (by omega)
  rw [h, Option.bind_some]
  by_cases h5 : s ∈ l
  · rw [if_pos h5, decide_eq_true h5, decide_eq_false (by omega)]; rfl
  · rw [if_neg h5, decide_eq_false h5]; rfl
def Ty (r : Int × Int) : Prop := r.2 = 0 → 0 ≤ r.1 ∧ r.1 ≤ 2
theorem types_L (x : M.Expr) (names : List Rt.Bs) (hx : x.Args.length ≤ 1000000) : ∀ (us : List M.Expr) (i : Nat) (acc : List Int), x.Args.drop i = us → acc.length = i → i ≤ x.Args.length → (∀ t, t ∈ acc → 0 ≤ t ∧ t ≤ 2) →
    (∀ y, y ∈ us → ∃ r, Ev (fun n => tariff_typed n y names) r ∧ Ev (fun n => ref35_typed n y names) r ∧ Ty r) →
    (∃ (N : Nat) (e : Int), e ≠ 0 ∧ ∀ n m kont kont', N ≤ n → us.length < m → tariff_typed_L1 n (tariff_typed n) x names kont m (i : Int) acc = some (0, e) ∧ ref35_typed_L1 n (ref35_typed n) x names kont' m (i : Int) acc = some (0, e)) ∨
    ∃ (N : Nat) (l2 : List Int), l2.length = x.Args.length ∧ (∀ t, t ∈ l2 → 0 ≤ t ∧ t ≤ 2) ∧ ∀ n m kont kont', N ≤ n → us.length < m → tariff_typed_L1 n (tariff_typed n) x names kont m (i : Int) acc = kont l2 ∧ ref35_typed_L1 n (ref35_typed n) x names kont' m (i : Int) acc = kont' l2
  | [], i, acc, hd, ha, hi, ht, _ => by
    refine .inr ⟨0, acc, by have := Rt.drop_nil hd; omega, ht, fun n m kont kont' _ hm => ?_⟩
    obtain ⟨m, rfl⟩ := left hm
    rw [tariff_typed_L1_s, more_no hd, ref35_typed_L1_s, more_no hd]; exact ⟨rfl, rfl⟩
  | y :: us, i, acc, hd, ha, hi, ht, H => by
    obtain ⟨h1, h2, h3⟩ := drop_cons hd
    obtain ⟨⟨k, e⟩, ⟨N1, e1⟩, ⟨N2, e2⟩, hty⟩ := H y (by simp)
    by_cases he : e = 0
    · subst he
      have hk := hty rfl
      have step : ∀ n m kont kont', max N1 N2 ≤ n → tariff_typed_L1 n (tariff_typed n) x names kont (m + 1) (i : Int) acc = tariff_typed_L1 n (tariff_typed n) x names kont m ((i + 1 : Nat) : Int) (acc ++ [k]) ∧ ref35_typed_L1 n (ref35_typed n) x names kont' (m + 1) (i : Int) acc = ref35_typed_L1 n (ref35_typed n) x names kont' m ((i + 1 : Nat) : Int) (acc ++ [k]) := by
        intro n m kont kont' hn
        have e1 : tariff_typed n y names = some (k, 0) := e1 n (by omega)
        have e2 : ref35_typed n y names = some (k, 0) := e2 n (by omega)
        constructor
        · rw [tariff_typed_L1_s, more_yes hd, cond_true, h1, Option.bind_some, e1, Option.bind_some]
          show ((app 8 acc [k]).bind fun l3 => _) = _
          rw [app_ok (by simp only [List.length_cons, List.length_nil]; omega), Option.bind_some, inc64 (by omega)]
        · rw [ref35_typed_L1_s, more_yes hd, cond_true, h1, Option.bind_some, e2, Option.bind_some]
          show ((app 8 acc [k]).bind fun l3 => _) = _
          rw [app_ok (by simp only [List.length_cons, List.length_nil]; omega), Option.bind_some, inc64 (by omega)]
      have ht2 : ∀ t, t ∈ acc ++ [k] → 0 ≤ t ∧ t ≤ 2 := by
        intro t h
        rcases List.mem_append.1 h with h | h
        · exact ht t h
        · rw [List.mem_singleton] at h; subst h; exact hk
      rcases types_L x names hx us (i + 1) (acc ++ [k]) h2 (by simp [ha]) (by omega) ht2 (fun z hz => H z (by simp [hz])) with ⟨N, e, he, ih⟩ | ⟨N, l2, hl2, ht3, ih⟩
      · refine .inl ⟨max N (max N1 N2), e, he, fun n m kont kont' hn hm => ?_⟩
        obtain ⟨m, rfl, hm2⟩ := pred (by simpa using hm)
        have h5 := step n m kont kont' (by omega)
        rw [h5.1, h5.2]
        exact ih n m kont kont' (by omega) hm2
      · refine .inr ⟨max N (max N1 N2), l2, hl2, ht3, fun n m kont kont' hn hm => ?_⟩
        obtain ⟨m, rfl, hm2⟩ := pred (by simpa using hm)
        have h5 := step n m kont kont' (by omega)
        rw [h5.1, h5.2]
        exact ih n m kont kont' (by omega) hm2
    · refine .inl ⟨max N1 N2, e, he, fun n m kont kont' hn hm => ?_⟩
      obtain ⟨m, rfl⟩ := left hm
      have e1 : tariff_typed n y names = some (k, e) := e1 n (by omega)
      have e2 : ref35_typed n y names = some (k, e) := e2 n (by omega)
      have hb : (e != 0) = true := by simpa using he
      constructor
      · rw [tariff_typed_L1_s, more_yes hd, cond_true, h1, Option.bind_some, e1, Option.bind_some]
        dsimp only
        rw [hb]; rfl
      · rw [ref35_typed_L1_s, more_yes hd, cond_true, h1, Option.bind_some, e2, Option.bind_some]
        dsimp only
        rw [hb]; rfl
end Go.Proofs.YtpihabofmnnbbaaGreatDoor.Ta

namespace Go.Proofs.YtpihabofmnnbbaaGreatDoor.Ta
open Go Rt M
def codeK (names : List Rt.Bs) (x : M.Expr) (n : Nat) (l2 : List Int) : Option (Int × Int) :=
   (bif x.Op == 1 then
    some true
   else
    some (x.Op == 4)).bind fun v1 =>
   bif v1 then
    (slices_Contains_string_string n names x.Name).bind fun v2 =>
    bif !v2 then
     some (0, 11)
    else
     bif x.Op == 4 then
      some (2, 0)
     else
      some (1, 0)
   else
    (bif x.Op == 0 then
     some true
    else
     bif x.Op == 2 then
      some true
     else
      some (x.Op == 3)).bind fun v3 =>
    bif v3 then
     some (1, 0)
    else
     (bif x.Op == 12 then
      some true
     else
      some (x.Op == 13)).bind fun v4 =>
     bif v4 then
      (tariff_all n 0 l2 1).bind fun v5 =>
      some (v5.1, v5.2)
     else
      (bif x.Op == 14 then
       some true
      else
       bif x.Op == 15 then
        some true
       else
        some (x.Op == 16)).bind fun v6 =>
      bif v6 then
       (tariff_all n 0 l2 0).bind fun v7 =>
       some (v7.1, v7.2)
      else
       bif x.Op == 11 then
        (ix l2 0).bind fun ex =>
        bif ex != 0 then
         some (0, 13)
        else
         (ix l2 1).bind fun w2 =>
         (ix l2 2).bind fun w3 =>
         (tariff_join n w2 w3).bind fun v8 =>
         some (v8.1, v8.2)
       else
        bif x.Op == 7 then
         (ix l2 0).bind fun w4 =>
         (bif w4 == 2 then
          (ix l2 1).bind fun w7 =>
          some (w7 == 2)
         else
          some false).bind fun v9 =>
         bif v9 then
          some (0, 13)
         else
          (ix l2 0).bind fun w5 =>
          (ix l2 1).bind fun w6 =>
          (tariff_join n w5 w6).bind fun v10 =>
          some (v10.1, v10.2)
        else
         bif x.Op == 8 then
          (ix x.Args 1).bind fun w8 =>
          bif w8.Op != 0 then
           some (0, 13)
          else
           bif w8.N == 0 then
            some (0, 14)
           else
            (ix l2 0).bind fun w9 =>
            (ix l2 1).bind fun w0 =>
            (tariff_join n w9 w0).bind fun v11 =>
            some (v11.1, v11.2)
         else
          (ix l2 0).bind fun w1 =>
          (ix l2 1).bind fun w2 =>
          (tariff_join n w1 w2).bind fun v12 =>
          some (v12.1, v12.2)
def refK (names : List Rt.Bs) (x : M.Expr) (n : Nat) (l2 : List Int) : Option (Int × Int) :=
   (bif x.Op == 1 then
    some true
   else
    some (x.Op == 4)).bind fun v1 =>
   (bif v1 then
    (ref35_Number n names x.Name).bind fun v6 =>
    some (decide (v6 < 0))
   else
    some false).bind fun v2 =>
   bif v2 then
    some (0, 11)
   else
    bif x.Op == 4 then
     some (2, 0)
    else
     bif (l2.length : Int) == 0 then
      some (1, 0)
     else
      bif x.Op == 8 then
       (ix x.Args 1).bind fun ex =>
       (bif ex.Op == 0 then
        (ix x.Args 1).bind fun ex3 =>
        some (ex3.N == 0)
       else
        some false).bind fun v3 =>
       bif v3 then
        some (0, 14)
       else
        (ix x.Args 1).bind fun ex2 =>
        bif ex2.Op != 0 then
         some (0, 13)
        else
         (ref35_fit n x.Op l2).bind fun v4 =>
         bif !v4.2 then
          some (0, 13)
         else
          some (v4.1, 0)
      else
       (ref35_fit n x.Op l2).bind fun v5 =>
       bif !v5.2 then
        some (0, 13)
       else
        some (v5.1, 0)
theorem typed_K (n : Nat) (x : M.Expr) (names : List Rt.Bs) : tariff_typed (n + 1) x names = tariff_typed_L1 n (tariff_typed n) x names (codeK names x n) n 0 [] := rfl
theorem rtyped_K (n : Nat) (x : M.Expr) (names : List Rt.Bs) : ref35_typed (n + 1) x names = ref35_typed_L1 n (ref35_typed n) x names (refK names x n) n 0 [] := rfl
def joinV (p q : Int) : Int × Int := bif p == 0 || q == 0 then (0, 13) else (wideV p q, 0)
theorem joinV_ty (p q : Int) : Ty (joinV p q) := by
  unfold joinV
  cases p == 0 || q == 0
  · exact fun _ => wideV_range p q
  · exact fun h => by cases h
theorem join_ev (p q : Int) : Ev (fun n => (tariff_join n p q).bind fun v => some (v.1, v.2)) (joinV p q) := Ev.all fun n => by rw [join_n]; rfl
theorem ty0 (b : Bool) : Ty (bif b then ((0 : Int), (0 : Int)) else (0, 13)) := by
  cases b
  · exact fun h => by cases h
  · exact fun _ => ⟨by decide, by decide⟩
theorem num_ref {o p q : Int} (ho : o = 5 ∨ o = 6 ∨ o = 8 ∨ o = 9 ∨ o = 10) : Ev (fun n => (ref35_fit n o [p, q]).bind fun v5 => bif !v5.2 then some ((0 : Int), (13 : Int)) else some (v5.1, 0)) (joinV p q) := Ev.all fun n => by
  rw [fit_num n p q ho]
  unfold joinV
  cases hp : p == 0 <;> cases hq : q == 0 <;> simp [bne, hp, hq]
theorem all2b (p q w : Int) : Ev (fun n => (tariff_all n 0 [p, q] w).bind fun v5 => some (v5.1, v5.2)) (bif p == w && q == w then (0, 0) else (0, 13)) := Ev.bind (all2 0 p q w) (Ev.pure _)
theorem all1b (p w : Int) : Ev (fun n => (tariff_all n 0 [p] w).bind fun v5 => some (v5.1, v5.2)) (bif p == w then (0, 0) else (0, 13)) := Ev.bind (all1 0 p w) (Ev.pure _)
theorem fitb {o : Int} {l : List Int} {b : Bool} (h : ∀ n, ref35_fit n o l = some (0, b)) : Ev (fun n => (ref35_fit n o l).bind fun v5 => bif !v5.2 then some ((0 : Int), (13 : Int)) else some (v5.1, 0)) (bif b then (0, 0) else (0, 13)) :=
  Ev.all fun n => by rw [h n]; cases b <;> rfl
theorem typed_2 {x : M.Expr} (hx : Fit x) (names : List Rt.Bs) (hn : names.length < 4611686018427387904) : Shp x → ∃ r, Ev (fun n => tariff_typed n x names) r ∧ Ev (fun n => ref35_typed n x names) r ∧ Ty r := by
  induction hx with
  | @mk o k s l hl _ ih =>
    intro hs
    cases hs with
    | mk h1 h2 h3 h4 =>
    rcases types_L ⟨o, k, s, l⟩ names hl l 0 [] rfl rfl (by simp) (by simp) (fun y hy => ih y hy (h4 y hy)) with ⟨N, e, he, hL⟩ | ⟨N, l2, hl2, ht, hL⟩
    · exact ⟨(0, e), Ev.suc (fun n => typed_K n _ _) ⟨N + l.length + 1, fun n hn => (hL n n _ (fun _ => none) (by omega) (by omega)).1⟩, Ev.suc (fun n => rtyped_K n _ _) ⟨N + l.length + 1, fun n hn => (hL n n (fun _ => none) _ (by omega) (by omega)).2⟩, fun h => absurd h he⟩
    have out : ∀ r : Int × Int, Ty r → Ev (fun n => codeK names ⟨o, k, s, l⟩ n l2) r → Ev (fun n => refK names ⟨o, k, s, l⟩ n l2) r → ∃ r, Ev (fun n => tariff_typed n ⟨o, k, s, l⟩ names) r ∧ Ev (fun n => ref35_typed n ⟨o, k, s, l⟩ names) r ∧ Ty r := by
      intro r hty hf hg
      exact ⟨r, Ev.suc (fun n => typed_K n _ _) (Ev.from (N + l.length + 1) (fun n hn => (hL n n _ (fun _ => none) (by omega) (by omega)).1) hf), Ev.suc (fun n => rtyped_K n _ _) (Ev.from (N + l.length + 1) (fun n hn => (hL n n (fun _ => none) _ (by omega) (by omega)).2) hg), hty⟩
    replace hl2 : (l2.length : Int) = argsN o := by rw [← h3]; exact congrArg Int.ofNat hl2
    clear hL
    have len0 : (l2.length : Int) = 0 → l2 = [] := fun h => List.length_eq_zero_iff.1 (by omega)
    have len1 : (l2.length : Int) = 1 → ∃ p, l2 = [p] := fun h => by
      match l2, h with
      | [p], _ => exact ⟨p, rfl⟩
      | [], h => simp at h
      | _ :: _ :: _, h => simp at h; omega
    have len2 : (l2.length : Int) = 2 → ∃ p q, l2 = [p, q] ∧ (0 ≤ p ∧ p ≤ 2) ∧ (0 ≤ q ∧ q ≤ 2) := fun h => by
      match l2, h, ht with
      | [p, q], _, ht => exact ⟨p, q, rfl, ht p (by simp), ht q (by simp)⟩
      | [], h, _ => simp at h
      | [_], h, _ => simp at h
      | _ :: _ :: _ :: _, h, _ => simp at h; omega
    have len3 : (l2.length : Int) = 3 → ∃ p q r, l2 = [p, q, r] := fun h => by
      match l2, h with
      | [p, q, r], _ => exact ⟨p, q, r, rfl⟩
      | [], h => simp at h
      | [_], h => simp at h
      | [_, _], h => simp at h
      | _ :: _ :: _ :: _ :: _, h => simp at h; omega
    have hc : o = 0 ∨ o = 1 ∨ o = 2 ∨ o = 3 ∨ o = 4 ∨ o = 5 ∨ o = 6 ∨ o = 7 ∨ o = 8 ∨ o = 9 ∨ o = 10 ∨ o = 11 ∨ o = 12 ∨ o = 13 ∨ o = 14 ∨ o = 15 ∨ o = 16 := by omega
    have lf : ∀ t : Int, 0 ≤ t → t ≤ 2 → Ty (bif !decide (s ∈ names) then ((0 : Int), (11 : Int)) else (t, 0)) := by
      intro t h5 h6
      cases decide (s ∈ names)
      · exact fun h => by cases h
      · exact fun _ => ⟨h5, h6⟩
    have t10 : Ty ((1 : Int), (0 : Int)) := fun _ => ⟨by decide, by decide⟩
    rcases hc with rfl | rfl | rfl | rfl | rfl | rfl | rfl | rfl | rfl | rfl | rfl | rfl | rfl | rfl | rfl | rfl | rfl
    · obtain rfl := len0 hl2
      exact out (1, 0) t10 (Ev.all fun n => rfl) (Ev.all fun n => rfl)
    · obtain rfl := len0 hl2
      refine out _ (lf 1 (by decide) (by decide)) ?_ ?_
      · exact Ev.bind (f := fun n v2 => bif !v2 then some (0, 11) else some (1, 0)) (Contains_ev s hn) (by cases decide (s ∈ names) <;> exact Ev.pure _)
      · exact Ev.bind (f := fun n v2 => bif v2 then some (0, 11) else some (1, 0)) (Number_ev s hn) (by cases decide (s ∈ names) <;> exact Ev.pure _)
    · obtain rfl := len0 hl2
      exact out (1, 0) t10 (Ev.all fun n => rfl) (Ev.all fun n => rfl)
    · obtain rfl := len0 hl2
      exact out (1, 0) t10 (Ev.all fun n => rfl) (Ev.all fun n => rfl)
    · obtain rfl := len0 hl2
      refine out _ (lf 2 (by decide) (by decide)) ?_ ?_
      · exact Ev.bind (f := fun n v2 => bif !v2 then some (0, 11) else some (2, 0)) (Contains_ev s hn) (by cases decide (s ∈ names) <;> exact Ev.pure _)
      · exact Ev.bind (f := fun n v2 => bif v2 then some (0, 11) else some (2, 0)) (Number_ev s hn) (by cases decide (s ∈ names) <;> exact Ev.pure _)
    · obtain ⟨p, q, rfl, _, _⟩ := len2 hl2
      exact out _ (joinV_ty p q) (join_ev p q) (num_ref (o := 5) (by decide))
    · obtain ⟨p, q, rfl, _, _⟩ := len2 hl2
      exact out _ (joinV_ty p q) (join_ev p q) (num_ref (o := 6) (by decide))
    · obtain ⟨p, q, rfl, hp, hq⟩ := len2 hl2
      refine out (bif p == 2 && q == 2 then (0, 13) else joinV p q) ?_ ?_ ?_
      · cases p == 2 && q == 2
        · exact joinV_ty p q
        · exact fun h => by cases h
      · show Ev (fun n => (bif p == 2 then some (q == 2) else some false).bind fun v9 => bif v9 then some (0, 13) else (tariff_join n p q).bind fun v => some (v.1, v.2)) _
        refine Ev.bind (a := p == 2 && q == 2) (Ev.all fun n => andT _ _) ?_
        cases p == 2 && q == 2
        · exact Ev.else rfl (join_ev p q)
        · exact Ev.then rfl (Ev.pure _)
      · show Ev (fun n => (ref35_fit n 7 [p, q]).bind fun v5 => bif !v5.2 then some ((0 : Int), (13 : Int)) else some (v5.1, 0)) _
        refine Ev.all fun n => ?_
        rw [fit_mul]
        unfold joinV
        have hp3 : p = 0 ∨ p = 1 ∨ p = 2 := by omega
        have hq3 : q = 0 ∨ q = 1 ∨ q = 2 := by omega
        rcases hp3 with rfl | rfl | rfl <;> rcases hq3 with rfl | rfl | rfl <;> rfl
    · obtain ⟨p, q, rfl, _, _⟩ := len2 hl2
      have h8 : (l.length : Int) = 2 := h3
      obtain ⟨u, v, rfl⟩ : ∃ u v, l = [u, v] := by
        match l, h8 with
        | [u, v], _ => exact ⟨u, v, rfl⟩
        | [], h => simp at h
        | [_], h => simp at h
        | _ :: _ :: _ :: _, h => simp at h; omega
      refine out (bif v.Op != 0 then (0, 13) else bif v.N == 0 then (0, 14) else joinV p q) ?_ ?_ ?_
      · cases v.Op != 0
        · cases v.N == 0
          · exact joinV_ty p q
          · exact fun h => by cases h
        · exact fun h => by cases h
      · show Ev (fun n => bif v.Op != 0 then some (0, 13) else bif v.N == 0 then some (0, 14) else (tariff_join n p q).bind fun v => some (v.1, v.2)) _
        cases v.Op != 0
        · cases v.N == 0
          · exact Ev.else rfl (Ev.else rfl (join_ev p q))
          · exact Ev.else rfl (Ev.then rfl (Ev.pure _))
        · exact Ev.then rfl (Ev.pure _)
      · show Ev (fun n => (bif v.Op == 0 then some (v.N == 0) else some false).bind fun v3 => bif v3 then some (0, 14) else bif v.Op != 0 then some (0, 13) else (ref35_fit n 8 [p, q]).bind fun v5 => bif !v5.2 then some ((0 : Int), (13 : Int)) else some (v5.1, 0)) _
        refine Ev.bind (a := v.Op == 0 && v.N == 0) (Ev.all fun n => andT _ _) ?_
        unfold bne
        cases v.Op == 0
        · exact Ev.else rfl (Ev.then rfl (Ev.pure _))
        · cases v.N == 0
          · exact Ev.else rfl (Ev.else rfl (num_ref (o := 8) (by decide)))
          · exact Ev.then rfl (Ev.pure _)
    · obtain ⟨p, q, rfl, _, _⟩ := len2 hl2
      exact out _ (joinV_ty p q) (join_ev p q) (num_ref (o := 9) (by decide))
    · obtain ⟨p, q, rfl, _, _⟩ := len2 hl2
      exact out _ (joinV_ty p q) (join_ev p q) (num_ref (o := 10) (by decide))
    · obtain ⟨p, q, r, rfl⟩ := len3 hl2
      refine out (bif p != 0 then (0, 13) else joinV q r) ?_ ?_ ?_
      · cases p != 0
        · exact joinV_ty q r
        · exact fun h => by cases h
      · show Ev (fun n => bif p != 0 then some (0, 13) else (tariff_join n q r).bind fun v => some (v.1, v.2)) _
        cases p != 0
        · exact Ev.else rfl (join_ev q r)
        · exact Ev.then rfl (Ev.pure _)
      · show Ev (fun n => (ref35_fit n 11 [p, q, r]).bind fun v5 => bif !v5.2 then some ((0 : Int), (13 : Int)) else some (v5.1, 0)) _
        refine Ev.all fun n => ?_
        rw [fit_if]
        unfold joinV
        cases hp : p == 0 <;> cases hq : q == 0 <;> cases hr : r == 0 <;> simp [bne, hp, hq, hr]
    · obtain ⟨p, q, rfl, _, _⟩ := len2 hl2
      exact out _ (ty0 (p == 1 && q == 1)) (all2b p q 1) (fitb fun n => (fit_less n p q).1)
    · obtain ⟨p, q, rfl, _, _⟩ := len2 hl2
      exact out _ (ty0 (p == 1 && q == 1)) (all2b p q 1) (fitb fun n => (fit_less n p q).2)
    · obtain ⟨p, rfl⟩ := len1 hl2
      exact out _ (ty0 (p == 0)) (all1b p 0) (fitb fun n => fit_not n p)
    · obtain ⟨p, q, rfl, _, _⟩ := len2 hl2
      exact out _ (ty0 (p == 0 && q == 0)) (all2b p q 0) (fitb fun n => (fit_and n p q).1)
    · obtain ⟨p, q, rfl, _, _⟩ := len2 hl2
      exact out _ (ty0 (p == 0 && q == 0)) (all2b p q 0) (fitb fun n => (fit_and n p q).2)
theorem Check_2 {t : Tariff} (hx : Fit t.Fee) (names : List Rt.Bs) (hn : names.length < 4611686018427387904) : ∃ e, Ev (fun n => tariff_Check n t names) e ∧ Ev (fun n => ref35_Check n t names) e := by
  obtain ⟨b, w1, w2, hS⟩ := written_2 hx
  cases hnm : named names with
  | false => exact ⟨1, Ev.bind ((named_ev hn).eq hnm) (Ev.then rfl (Ev.pure _)), Ev.bind ((Names_ev names).eq hnm) (Ev.then rfl (Ev.pure _))⟩
  | true =>
    cases b with
    | false => exact ⟨2, Ev.bind ((named_ev hn).eq hnm) (Ev.else rfl (Ev.bind w1 (Ev.then rfl (Ev.pure _)))), Ev.bind ((Names_ev names).eq hnm) (Ev.else rfl (Ev.bind w2 (Ev.then rfl (Ev.pure _))))⟩
    | true =>
      obtain ⟨r, r1, r2, _⟩ := typed_2 hx names hn (hS rfl)
      refine ⟨bif (r.2 == 0 && r.1 == 0) then 13 else r.2, Ev.bind ((named_ev hn).eq hnm) (Ev.else rfl (Ev.bind w1 (Ev.else rfl (Ev.bind r1 (Ev.bind (Ev.all fun n => andT _ _) ?_))))), Ev.bind ((Names_ev names).eq hnm) (Ev.else rfl (Ev.bind w2 (Ev.else rfl (Ev.bind r2 (Ev.bind (Ev.all fun n => andT _ _) ?_)))))⟩ <;>
      (cases r.2 == 0 && r.1 == 0 <;> exact Ev.pure _)
end Go.Proofs.YtpihabofmnnbbaaGreatDoor.Ta

namespace Go.Proofs.YtpihabofmnnbbaaGreatDoor.Ta
open Go Rt M
theorem RScan_ev {s : Rt.Bs} (hs : s.length ≤ 1000000) : Ev (fun n => ref06_Scan n s) ((Lx.scan s).1, ((Lx.scan s).2.1 : Int), (Lx.scan s).2.2) := ⟨2 * s.length + 14, fun n hn => Lx.rscan_eq hs (by omega)⟩
theorem Parse_2 {s : Rt.Bs} (hs : s.length ≤ 1000000) : T2 (fun p q => p = q ∧ Fit p.1.Fee) (fun n => tariff_Parse n s) (fun n => ref35_Parse n s) := by
  unfold tariff_Parse ref35_Parse
  refine T2.l (Scan_ev hs) (T2.r (RScan_ev hs) ?_)
  have hl : (Lx.scan s).1.length ≤ 1000000 := Nat.le_trans (scan_len s) hs
  generalize Lx.scan s = sc at hl ⊢
  obtain ⟨l, at_, e⟩ := sc
  dsimp only at hl ⊢
  refine T2.bif (fun _ => T2.pure ⟨rfl, Fit.leaf _ _ _⟩) (fun _ => ?_)
  refine T2.bind (need_2 hl (a := 0) (e := 0) (by omega) _) ?_
  rintro _ _ ⟨a1, e1, rfl, rfl, _, h1⟩
  refine T2.bind (one_2 hl h1 (by decide)) ?_
  rintro ⟨_, t⟩ ⟨_, t'⟩ ⟨⟨a2, e2, rfl, rfl, _, h2⟩, ht⟩
  obtain rfl : t = t' := ht
  obtain ⟨_, _, ⟨N3, E3⟩, ⟨M3, F3⟩, a3, e3, rfl, rfl, _, h3⟩ := need3_2 hl h2 (e := e2) [123] [102, 101, 101] [61]
  refine T2.l (a := Rd l a3 e3) ⟨N3, E3⟩ ?_
  have hr : ∀ {γ : Type} {g : Nat → Reader → Option γ} {r : γ}, Ev (fun n => g n (RR l a3 e3)) r → Ev (fun n => (ref35_Reader_need n (RR l a2 e2) [123]).bind fun v4 => (ref35_Reader_need n v4 [102, 101, 101]).bind fun v5 => (ref35_Reader_need n v5 [61]).bind fun v6 => g n v6) r := by
    intro γ g r hg
    obtain ⟨K, hK⟩ := hg
    refine ⟨max M3 K, fun n hn => ?_⟩
    have h5 := F3 n (by omega)
    have h6 := hK n (by omega)
    dsimp only at h5 h6 ⊢
    cases c1 : ref35_Reader_need n (RR l a2 e2) [123] with
    | none => rw [c1] at h5; cases h5
    | some v4 =>
      rw [c1, Option.bind_some] at h5
      rw [Option.bind_some]
      cases c2 : ref35_Reader_need n v4 [102, 101, 101] with
      | none => rw [c2] at h5; cases h5
      | some v5 =>
        rw [c2, Option.bind_some] at h5
        rw [Option.bind_some, h5, Option.bind_some]
        exact h6
  have step : ∀ {γ δ : Type} {Q : γ → δ → Prop} {f : Nat → Option γ} {g : Nat → Reader → Option δ}, T2 Q f (fun n => g n (RR l a3 e3)) → T2 Q f (fun n => (ref35_Reader_need n (RR l a2 e2) [123]).bind fun v4 => (ref35_Reader_need n v4 [102, 101, 101]).bind fun v5 => (ref35_Reader_need n v5 [61]).bind fun v6 => g n v6) := by
    rintro γ δ Q f g ⟨c, d, k1, k2, k3⟩
    exact ⟨c, d, k1, hr k2, k3⟩
  refine step ?_
  refine T2.bind (exprs_2 hl h3) ?_
  rintro ⟨_, x⟩ ⟨_, x'⟩ ⟨⟨a4, e4, rfl, rfl, _, h4⟩, hx, fx⟩
  obtain rfl : x = x' := hx
  refine T2.l (Ev.all fun n => is_n n _ h4) (T2.r (Ev.all fun n => ris_n n _ _ _ _) ?_)
  dsimp only at fx ⊢
  refine T2.bind (P := fun (p : Bool × Int) q => p.1 = q) ?_ ?_
  · refine T2.bif (fun _ => ?_) (fun _ => T2.pure rfl)
    obtain ⟨b, z, k1, k2⟩ := few_2 fx
    exact T2.l k1 (T2.r k2 (T2.pure rfl))
  rintro ⟨v7, w⟩ v9 hv
  obtain rfl : v7 = v9 := hv
  dsimp only
  refine T2.bind (P := fun (p : List Token × Int × Int) q => p = q ∧ ∃ b e', p = (l, ((b : Nat) : Int), e') ∧ a4 ≤ b ∧ b ≤ l.length) ?_ ?_
  · refine T2.bif (fun _ => ?_) (fun _ => T2.pure ⟨rfl, a4, e4, rfl, Nat.le_refl _, h4⟩)
    exact T2.l (Ev.all fun n => fail_n n l a4 e4 6) (T2.r (Ev.all fun n => rfail_n n l a4 e4 6) (T2.pure ⟨rfl, a4, _, rfl, Nat.le_refl _, h4⟩))
  rintro _ _ ⟨rfl, a5, e5, rfl, _, h5⟩
  dsimp only
  refine T2.bind (need_2 hl h5 _) ?_
  rintro _ _ ⟨a6, e6, rfl, rfl, _, h6⟩
  refine T2.bind (take_2 _ hl h6) ?_
  rintro ⟨_, b⟩ ⟨_, b'⟩ ⟨⟨a7, e7, rfl, rfl, _, h7⟩, hb⟩
  obtain rfl : b = b' := hb
  refine T2.bind (P := fun (p : Int × List Token × Int × Int) q => p = q ∧ ∃ c b e', p = (c, l, ((b : Nat) : Int), e') ∧ a7 ≤ b ∧ b ≤ l.length) ?_ ?_
  · refine T2.bif (fun _ => ?_) (fun _ => T2.pure ⟨rfl, -1, a7, e7, rfl, Nat.le_refl _, h7⟩)
    refine T2.bind (need_2 hl h7 _) ?_
    rintro _ _ ⟨a8, e8, rfl, rfl, h71, h8⟩
    refine T2.bind (one_2 hl h8 (by decide)) ?_
    rintro ⟨_, t2⟩ ⟨_, t2'⟩ ⟨⟨a9, e9, rfl, rfl, h81, h9⟩, ht2⟩
    obtain rfl : t2 = t2' := ht2
    refine T2.bind (need_2 hl h9 _) ?_
    rintro _ _ ⟨a10, e10, rfl, rfl, h91, h10⟩
    exact T2.pure ⟨rfl, _, a10, e10, rfl, by omega, h10⟩
  rintro _ _ ⟨rfl, f5, a8, e8, rfl, _, h8⟩
  dsimp only
  refine T2.bind (need_2 hl h8 _) ?_
  rintro _ _ ⟨a9, e9, rfl, rfl, _, h9⟩
  dsimp only
  refine T2.bind (P := fun (p : List Token × Int × Int) q => p = q ∧ p.1 = l ∧ p.2.1 = (a9 : Int)) ?_ ?_
  · refine T2.bif (fun _ => ?_) (fun _ => T2.pure ⟨rfl, rfl, rfl⟩)
    exact T2.l (Ev.all fun n => fail_n n l a9 e9 12) (T2.r (Ev.all fun n => rfail_n n l a9 e9 12) (T2.pure ⟨rfl, rfl, rfl⟩))
  rintro ⟨g1, g2, g3⟩ _ ⟨rfl, hg1, hg2⟩
  dsimp only at hg1 hg2
  subst hg1 hg2
  dsimp only
  refine T2.bif (fun _ => T2.pure ⟨rfl, fx⟩) (fun _ => ?_)
  refine T2.bif (fun h => ?_) (fun _ => T2.pure ⟨rfl, Fit.leaf _ _ _⟩)
  have hlt := of_decide_eq_true h
  have hix := ix_some (l := g1) (i := a9) (by omega)
  exact T2.l (Ev.all fun n => hix) (T2.r (Ev.all fun n => hix) (T2.pure ⟨rfl, Fit.leaf _ _ _⟩))
end Go.Proofs.YtpihabofmnnbbaaGreatDoor.Ta

namespace Go.Proofs.YtpihabofmnnbbaaGreatDoor.Pr
open Go Rt M Ta Tp
theorem Type_2 {x : M.Expr} (hx : Fit x) (names : List Rt.Bs) (hn : names.length < 4611686018427387904) : ∃ r, Ev (fun n => tariff_Type n x names) r ∧ Ev (fun n => ref35_Type n x names) r := by
  obtain ⟨b, w1, w2, hS⟩ := form_2 hx
  cases hnm : named names with
  | false => exact ⟨(0, 1), Ev.bind ((named_ev hn).eq hnm) (Ev.then rfl (Ev.pure _)), Ev.bind ((Names_ev names).eq hnm) (Ev.then rfl (Ev.pure _))⟩
  | true =>
    cases b with
    | false => exact ⟨(0, 2), Ev.bind ((named_ev hn).eq hnm) (Ev.else rfl (Ev.bind w1 (Ev.then rfl (Ev.pure _)))), Ev.bind ((Names_ev names).eq hnm) (Ev.else rfl (Ev.bind w2 (Ev.then rfl (Ev.pure _))))⟩
    | true =>
      obtain ⟨r, r1, r2, _⟩ := typed_2 hx names hn (hS rfl)
      exact ⟨(r.1, r.2), Ev.bind ((named_ev hn).eq hnm) (Ev.else rfl (Ev.bind w1 (Ev.else rfl (Ev.bind r1 (Ev.pure _))))), Ev.bind ((Names_ev names).eq hnm) (Ev.else rfl (Ev.bind w2 (Ev.else rfl (Ev.bind r2 (Ev.pure _)))))⟩
theorem tells_ev (s : Rt.Bs) (t : Tariff) (names : List Rt.Bs) : Ev (fun n => law35_TariffTells n s t names) true := by
  unfold law35_TariffTells
  refine Ev.bind small35 ?_
  obtain ⟨b1, l1, hl1⟩ := limited_t t
  obtain ⟨b2, l2, hl2⟩ := few35_t names
  by_cases hs : s.length ≤ 1000
  rotate_left
  · exact Ev.bind (a := true) (Ev.then (decide_eq_true (by omega)) (Ev.pure _)) (Ev.bind (a := true) (Ev.then rfl (Ev.pure _)) (Ev.then rfl (Ev.pure _)))
  refine Ev.bind (a := !b1) (Ev.else (decide_eq_false (by omega)) (Ev.bind l1 (Ev.pure _))) ?_
  cases b1 with
  | false => exact Ev.bind (a := true) (Ev.then rfl (Ev.pure _)) (Ev.then rfl (Ev.pure _))
  | true =>
  refine Ev.bind (a := !b2) (Ev.else rfl (Ev.bind l2 (Ev.pure _))) ?_
  cases b2 with
  | false => exact Ev.then rfl (Ev.pure _)
  | true =>
  refine Ev.else rfl ?_
  have hx := hl1 rfl
  have hn := hl2 rfl
  obtain ⟨p, q, p1, p2, rfl, hf⟩ := Parse_2 (s := s) (by omega)
  obtain ⟨r, r1, r2⟩ := print_2 hx
  obtain ⟨k, k1, k2⟩ := Type_2 hx names (by omega)
  obtain ⟨e, e1, e2⟩ := Check_2 hx names (by omega)
  refine Ev.bind p1 (Ev.bind p2 (Ev.bind r1 (Ev.bind r2 (Ev.bind k1 (Ev.bind k2 ?_)))))
  have b : ∀ {α : Type} [BEq α] [LawfulBEq α] (a : α), (a == a) = true := fun a => beq_self_eq_true a
  refine Ev.bind (SameT_ev hf) (and_pure rfl (b _) (and_pure rfl (b _) (and_pure rfl (b _) (and_pure rfl (b _) (and_pure rfl (b _) (and_pure rfl (b _) (and_pure rfl rfl ?_)))))))
  exact Ev.bind (a := true) (Ev.then rfl (Ev.bind e1 (Ev.bind e2 ((Ev.pure _).eq (b _))))) (Ev.pure _)
end Go.Proofs.YtpihabofmnnbbaaGreatDoor.Pr

namespace Go.Proofs.YtpihabofmnnbbaaGreatDoor.TariffTells
open Go Go.ChangeShapes Go.WideShapes Go.ChangeAt Go.RowKit Rt Wrap
set_option maxRecDepth 100000 in
theorem contract (H : Type) (enc : TypeId × Value → H) (W : World) (base : Nat) (args : Array Value) (ds gs : List (DataW H)) (before : List MemPlace)
    (hval : ∀ (j : Nat) t v, Tryz.f3.params[j]? = some t → args[j]? = some v → Value.okWide Tryz.prog W .any base t v)
    (hW : DataW.Whole enc Tryz.prog Tryz.f3.params.toList Rows.tariffTellsSpec.vars false W args.toList ds gs before) (hL : laidMetH Tryz.prog tabs W) :
    Calls Tryz.prog 3 args W fun e W' => ∃ v, e = .returned v ∧ Rows.tariffTellsSpec.post enc Tryz.prog Tryz.f3 false true false false W args v W' := by
  have hW' := hW
  obtain ⟨p, q, hA0, hV, rfl, hfz, hnd⟩ := hW
  have hA : DataW.TrodAll enc Tryz.prog W 0 (fun _ => true) true Tryz.f3.params.toList args.toList ds p := hA0
  rw [Tryz.params3] at hA hval
  obtain ⟨v0, vs0, d0, ds0, p0, q0, hargs, rfl, rfl, h0, r0⟩ := trodAll_cons hA
  obtain ⟨v1, vs1, d1, ds1, p1, q1, rfl, rfl, rfl, h1, r1⟩ := trodAll_cons r0
  obtain ⟨v2, vs2, d2, ds2, p2, q2, rfl, rfl, rfl, h2, r2⟩ := trodAll_cons r1
  obtain ⟨rfl, rfl, rfl⟩ := trodAll_nil r2
  obtain rfl : args = #[v0, v1, v2] := by cases args; simp_all
  obtain ⟨rfl, rfl⟩ := trodVars_none hV
  obtain ⟨s0, rfl, rfl, rfl, hs0⟩ := Go.ChangeMaps.open_string Tryz.underlying9 (hval 0 9 v0 rfl rfl) h0
  obtain ⟨cs1, rfl, hsz1⟩ := okWide_struct Tryz.underlying26 (hval 1 26 v1 rfl rfl)
  obtain ⟨y1, hr1, ho1⟩ := open_arg (opens26 W) h1
  obtain ⟨ax1_4, nx1_4, cx1_4, he1, sx1_4⟩ := hr1
  have he1' : cs1.toList = [vs y1.Name, .int .i64 y1.Fee.Op, .int .i64 y1.Fee.N, vs y1.Fee.Name, .slice ax1_4 nx1_4 cx1_4, .int .i64 y1.Cap] := he1
  obtain rfl : cs1 = #[vs y1.Name, .int .i64 y1.Fee.Op, .int .i64 y1.Fee.N, vs y1.Fee.Name, .slice ax1_4 nx1_4 cx1_4, .int .i64 y1.Cap] := by rw [← Array.toArray_toList (xs := cs1), he1']
  obtain ⟨a2, n2, c2, l2, rfl, hl2, ho2⟩ := open_sl Tryz.underlying27 (opens27 W) (hval 2 27 v2 rfl rfl) h2
  have e : #[Value.string s0, Value.agg #[vs y1.Name, .int .i64 y1.Fee.Op, .int .i64 y1.Fee.N, vs y1.Fee.Name, .slice ax1_4 nx1_4 cx1_4, .int .i64 y1.Cap], Value.slice a2 n2 c2] = (#[vs s0.data.toList, Value.agg #[vs y1.Name, .int .i64 y1.Fee.Op, .int .i64 y1.Fee.N, vs y1.Fee.Name, .slice ax1_4 nx1_4 cx1_4, .int .i64 y1.Cap], Value.slice a2 n2 c2] : Array Value) := by simp only [vs_of]
  rw [e] at hW' ⊢
  obtain ⟨N, hN⟩ := Pr.tells_ev s0.data.toList y1 l2
  refine (M.law35_TariffTells_ok N s0.data.toList y1 l2 true (hN N (Nat.le_refl N)) (all_sat W) sx1_4 hl2 (table0 hL) (table1 hL)).mono ?_
  rintro e W' ⟨v, F', O', rfl, hh, rfl, rfl⟩
  refine ⟨_, rfl, post_true laidOut ?_ rfl (by kernel_rfl) Tryz.underlying4 rfl hW' hh.below⟩
  rw [Tryz.params3]
  intro t ht
  have ht : t ∈ [9, 26, 27] := ht
  rcases List.mem_cons.1 ht with rfl | ht
  · exact ⟨by kernel_rfl, of_decide_eq_true (by kernel_rfl)⟩
  rcases List.mem_cons.1 ht with rfl | ht
  · exact ⟨by kernel_rfl, of_decide_eq_true (by kernel_rfl)⟩
  rcases List.mem_cons.1 ht with rfl | ht
  · exact ⟨by kernel_rfl, of_decide_eq_true (by kernel_rfl)⟩
  exact absurd ht (List.not_mem_nil)
theorem reads (os : Os) {H : Type} (enc : TypeId × Value → H) : ∃ places, DataW.whole enc Tryz.prog ((laidWorld os).forCall (fun _ _ => 0) ⟨#[], #[.string ⟨#[]⟩, .agg #[.string ⟨#[]⟩, .int .i64 0, .int .i64 0, .string ⟨#[]⟩, .slice none 0 0, .int .i64 0], .slice none 0 0], []⟩).memory Tryz.f3.params.toList Rows.tariffTellsSpec.vars false (#[.string ⟨#[]⟩, .agg #[.string ⟨#[]⟩, .int .i64 0, .int .i64 0, .string ⟨#[]⟩, .slice none 0 0, .int .i64 0], .slice none 0 0] : Array Value).toList 8 = some ([.lit (.string []), .agg [.lit (.string []), .agg [.lit (.int .i64 0), .lit (.int .i64 0), .lit (.string []), .nil], .lit (.int .i64 0)], .nil], [], places) :=
  ⟨[], by kernel_rfl⟩
set_option maxRecDepth 100000 in
theorem lifted (os : Os) (started : os.Started) (H : Type) (enc : TypeId × Value → H) (F : Stop.Interp) :
    ReturnsInHanded {} Tryz.checked os 3 .any ((OpenSpec.ofChange Rows.tariffTellsSpec).preRow enc Tryz.prog Tryz.f3 Rows.tariffTellsRow.domain false Rows.tariffTellsRow.laid) (((OpenSpec.ofChange Rows.tariffTellsSpec).at F).post enc Tryz.prog Tryz.f3 false true false false) := by
  obtain ⟨places, hx⟩ := reads os enc
  refine returnsInHanded_of_row (C := Tryz.checked) (s := OpenSpec.ofChange Rows.tariffTellsSpec) own started (by kernel_rfl) Tryz.func3
    (witness_row_at (enc := enc) (C := Tryz.checked) false (laidWorld os) #[.string ⟨#[]⟩, .agg #[.string ⟨#[]⟩, .int .i64 0, .int .i64 0, .string ⟨#[]⟩, .slice none 0 0, .int .i64 0], .slice none 0 0] rfl (by kernel_rfl) (by kernel_rfl) (by kernel_rfl)
      (OpenSpec.preRow_of_cond 8 hx (by kernel_rfl) (fun k hk => by cases hk) (by kernel_rfl) (laid_met os _))) ?_
  intro W base args ds gs before hval hW _ _ _ hL _ _
  exact contract H enc W base args ds gs before hval hW hL
theorem said : Rows.TariffTellsSaid :=
  OpenClaim.holds_of_cond 3 Tryz.f3 rfl rfl rfl rfl rfl rfl rfl ⟨rfl, rfl, rfl, rfl, rfl⟩ rfl rfl rfl rfl rfl (by kernel_rfl) Tryz.func3 (by kernel_rfl)
    (of_decide_eq_true (by kernel_rfl)) (by unfold Func.isWrapper; first | (rw [if_pos (by decide +kernel)]; kernel_rfl) | (rw [if_neg (by decide +kernel)]; exact ⟨rfl, rfl⟩))
    (fun os started H enc _ F => by rw [OpenClaim.pre_eq_preRow]; exact lifted os started H enc F)
theorem plain (f : FuncId) (fn : Func) (hf : Tryz.pinned.checked.prog.funcNamed "kerbside/kerbsidelaw35.TariffTells" = some f) (hfn : Tryz.pinned.checked.prog.funcs[f]? = some fn) :
    false = Tryz.pinned.checked.prog.looks [] ∧ ∀ (j : Nat) t, fn.params[j]? = some t → Tryz.pinned.checked.prog.wantsStandIn t = false := by
  obtain rfl : f = 3 := Option.some.inj ((show Tryz.prog.funcNamed "kerbside/kerbsidelaw35.TariffTells" = some 3 by kernel_rfl).symm.trans hf) |>.symm
  obtain rfl : fn = Tryz.f3 := (Option.some.inj (Tryz.func3.symm.trans hfn)).symm
  refine ⟨by kernel_rfl, fun j t ht => ?_⟩
  rw [Tryz.params3] at ht
  have ht : t ∈ [9, 26, 27] := Array.mem_toList_iff.2 (Array.mem_of_getElem? ht)
  rcases List.mem_cons.1 ht with rfl | ht
  · exact (show Tryz.prog.wantsStandIn 9 = false by kernel_rfl)
  rcases List.mem_cons.1 ht with rfl | ht
  · exact (show Tryz.prog.wantsStandIn 26 = false by kernel_rfl)
  rcases List.mem_cons.1 ht with rfl | ht
  · exact (show Tryz.prog.wantsStandIn 27 = false by kernel_rfl)
  exact absurd ht (List.not_mem_nil)
theorem card : Rows.TariffTellsCardSaid :=
  Claim7.holds_tied_plain_at .later [] _ _ _ _ said (fun _ h => by cases h) (by kernel_rfl) (fun _ h => by cases h) tariffTells_row_tie rfl ⟨rfl, rfl⟩ (by kernel_rfl) rfl plain (by kernel_rfl)
end Go.Proofs.YtpihabofmnnbbaaGreatDoor.TariffTells

