/-
  TYPES, exactly: the expressions that have a type, and that the program finds exactly these.
-/
import Derived.Test.YtpihabofmnnbbaaDoorTyp
namespace Go.Proofs.YtpihabofmnnbbaaDoor.Tp
open Go Rt M Ta

def wd (a b : Int) : Int := bif a == 2 || b == 2 then 2 else 1
theorem wd_ne (a b : Int) : wd a b ≠ 0 := by
  unfold wd
  cases a == 2 || b == 2 <;> decide
/-- the expressions that have a type: 0 a truth value, 1 a number, 2 a number in which a weight occurs -/
inductive Typ (names : List Rt.Bs) : M.Expr → Int → Prop
  | num {m : Int} : 0 ≤ m → m ≤ 1099511627776 → Typ names ⟨0, m, [], []⟩ 1
  | lifts {s : Rt.Bs} : Lx.name s = true → s ∈ names → Typ names ⟨1, 0, s, []⟩ 1
  | pers : Typ names ⟨2, 0, [], []⟩ 1
  | flats : Typ names ⟨3, 0, [], []⟩ 1
  | wgt {s : Rt.Bs} : Lx.name s = true → s ∈ names → Typ names ⟨4, 0, s, []⟩ 2
  | ari {o : Int} {a b : M.Expr} {p q : Int} : (o = 5 ∨ o = 6 ∨ o = 9 ∨ o = 10) → Typ names a p → Typ names b q → p ≠ 0 → q ≠ 0 → Typ names ⟨o, 0, [], [a, b]⟩ (wd p q)
  | mul {a b : M.Expr} {p q : Int} : Typ names a p → Typ names b q → p ≠ 0 → q ≠ 0 → ¬(p = 2 ∧ q = 2) → Typ names ⟨7, 0, [], [a, b]⟩ (wd p q)
  | div {a : M.Expr} {m : Int} {p : Int} : Typ names a p → p ≠ 0 → 1 ≤ m → m ≤ 1099511627776 → Typ names ⟨8, 0, [], [a, ⟨0, m, [], []⟩]⟩ p
  | ite {c a b : M.Expr} {p q : Int} : Typ names c 0 → Typ names a p → Typ names b q → p ≠ 0 → q ≠ 0 → Typ names ⟨11, 0, [], [c, a, b]⟩ (wd p q)
  | rel {o : Int} {a b : M.Expr} : (o = 12 ∨ o = 13) → Typ names a 1 → Typ names b 1 → Typ names ⟨o, 0, [], [a, b]⟩ 0
  | not {a : M.Expr} : Typ names a 0 → Typ names ⟨14, 0, [], [a]⟩ 0
  | bin {o : Int} {a b : M.Expr} : (o = 15 ∨ o = 16) → Typ names a 0 → Typ names b 0 → Typ names ⟨o, 0, [], [a, b]⟩ 0
theorem wd_cases (a b : Int) : wd a b = 1 ∨ wd a b = 2 := by
  unfold wd
  cases a == 2 || b == 2
  · exact .inl rfl
  · exact .inr rfl
theorem Typ.range {names : List Rt.Bs} {x : M.Expr} {k : Int} (h : Typ names x k) : k = 0 ∨ k = 1 ∨ k = 2 := by
  induction h with
  | num => exact .inr (.inl rfl)
  | lifts => exact .inr (.inl rfl)
  | pers => exact .inr (.inl rfl)
  | flats => exact .inr (.inl rfl)
  | wgt => exact .inr (.inr rfl)
  | ari => exact .inr (wd_cases _ _)
  | mul => exact .inr (wd_cases _ _)
  | div _ _ _ _ ih => exact ih
  | ite => exact .inr (wd_cases _ _)
  | rel => exact .inl rfl
  | not => exact .inl rfl
  | bin => exact .inl rfl
theorem Typ.args {names : List Rt.Bs} {x : M.Expr} {k : Int} (h : Typ names x k) : ∀ y, y ∈ x.Args → ∃ p, Typ names y p := by
  cases h with
  | num => intro y hy; cases hy
  | lifts => intro y hy; cases hy
  | pers => intro y hy; cases hy
  | flats => intro y hy; cases hy
  | wgt => intro y hy; cases hy
  | ari _ ha hb => intro y hy; simp only [List.mem_cons, List.not_mem_nil, or_false] at hy; rcases hy with rfl | rfl <;> first | exact ⟨_, ha⟩ | exact ⟨_, hb⟩
  | mul ha hb => intro y hy; simp only [List.mem_cons, List.not_mem_nil, or_false] at hy; rcases hy with rfl | rfl <;> first | exact ⟨_, ha⟩ | exact ⟨_, hb⟩
  | div ha _ h1 h2 => intro y hy; simp only [List.mem_cons, List.not_mem_nil, or_false] at hy; rcases hy with rfl | rfl <;> first | exact ⟨_, ha⟩ | exact ⟨_, Typ.num (by omega) h2⟩
  | ite hc ha hb => intro y hy; simp only [List.mem_cons, List.not_mem_nil, or_false] at hy; rcases hy with rfl | rfl | rfl <;> first | exact ⟨_, hc⟩ | exact ⟨_, ha⟩ | exact ⟨_, hb⟩
  | rel _ ha hb => intro y hy; simp only [List.mem_cons, List.not_mem_nil, or_false] at hy; rcases hy with rfl | rfl <;> first | exact ⟨_, ha⟩ | exact ⟨_, hb⟩
  | not ha => intro y hy; simp only [List.mem_cons, List.not_mem_nil, or_false] at hy; rcases hy with rfl; exact ⟨_, ha⟩
  | bin _ ha hb => intro y hy; simp only [List.mem_cons, List.not_mem_nil, or_false] at hy; rcases hy with rfl | rfl <;> first | exact ⟨_, ha⟩ | exact ⟨_, hb⟩
theorem Typ.shx {names : List Rt.Bs} {x : M.Expr} {k : Int} (h : Typ names x k) : Shx x := by
  have nk : ∀ {o : Int}, 5 ≤ o → nodeok o 0 [] := fun {o} ho => by unfold nodeok; rw [if_neg (by omega), if_neg (by omega)]; exact ⟨rfl, rfl⟩
  have two : ∀ {o : Int} {a b : M.Expr}, (5 ≤ o ∧ o ≤ 16 ∧ o ≠ 11 ∧ o ≠ 14) → Shx a → Shx b → Shx ⟨o, 0, [], [a, b]⟩ := fun {o a b} ho ha hb => by
    refine Shx.mk (by omega) (by omega) ?_ (nk ho.1) ?_
    · show (2 : Int) = _
      unfold argsN; rw [if_neg (by omega), if_neg (by omega), if_neg (by omega)]
    · intro y hy; simp only [List.mem_cons, List.not_mem_nil, or_false] at hy; rcases hy with rfl | rfl <;> first | exact ha | exact hb
  have nn : ∀ {m : Int}, 0 ≤ m → m ≤ 1099511627776 → Shx ⟨0, m, [], []⟩ := fun {m} h1 h2 => Shx.mk (by decide) (by decide) rfl (by unfold nodeok; rw [if_pos rfl]; exact ⟨⟨h1, h2⟩, rfl⟩) (by intro y hy; cases hy)
  induction h with
  | num h1 h2 => exact nn h1 h2
  | lifts h1 _ => exact Shx.mk (by decide) (by decide) rfl (by unfold nodeok; rw [if_neg (by decide), if_pos (by decide)]; exact ⟨rfl, h1⟩) (by intro y hy; cases hy)
  | pers => exact Shx.mk (by decide) (by decide) rfl (by unfold nodeok; rw [if_neg (by decide), if_neg (by decide)]; exact ⟨rfl, rfl⟩) (by intro y hy; cases hy)
  | flats => exact Shx.mk (by decide) (by decide) rfl (by unfold nodeok; rw [if_neg (by decide), if_neg (by decide)]; exact ⟨rfl, rfl⟩) (by intro y hy; cases hy)
  | wgt h1 _ => exact Shx.mk (by decide) (by decide) rfl (by unfold nodeok; rw [if_neg (by decide), if_pos (by decide)]; exact ⟨rfl, h1⟩) (by intro y hy; cases hy)
  | ari ho _ _ _ _ ha hb => exact two (by omega) ha hb
  | mul _ _ _ _ _ ha hb => exact two (by decide) ha hb
  | div _ _ h1 h2 ha => exact two (by decide) ha (nn (by omega) h2)
  | ite _ _ _ _ _ hc ha hb =>
    refine Shx.mk (by decide) (by decide) rfl (nk (by decide)) ?_
    intro y hy; simp only [List.mem_cons, List.not_mem_nil, or_false] at hy; rcases hy with rfl | rfl | rfl <;> first | exact hc | exact ha | exact hb
  | rel ho _ _ ha hb => exact two (by omega) ha hb
  | not _ ha =>
    refine Shx.mk (by decide) (by decide) rfl (nk (by decide)) ?_
    intro y hy; simp only [List.mem_cons, List.not_mem_nil, or_false] at hy; rcases hy with rfl; exact ha
  | bin ho _ _ ha hb => exact two (by omega) ha hb

/-! the program's types -/
theorem join_x (n : Nat) (a b : Int) : tariff_join n a b = some (bif a == 0 || b == 0 then (0, 13) else (wd a b, 0)) := by
  unfold tariff_join wd
  have orT : ∀ c d : Bool, (bif c then some true else some d) = some (c || d) := fun c d => by cases c <;> rfl
  rw [orT, Option.bind_some, orT, Option.bind_some]
  cases a == 0 || b == 0 <;> cases a == 2 || b == 2 <;> rfl
theorem all_x2 (k p q w : Int) : Ev (fun n => tariff_all n k [p, q] w) (bif p == w && q == w then (k, 0) else (0, 13)) := by
  refine ⟨3, fun n hn => ?_⟩
  obtain ⟨n, rfl⟩ : ∃ j, n = j + 3 := ⟨n - 3, by omega⟩
  show ((bif p != w then some (0 : Int) else bif q != w then some 1 else some (-1)).bind fun v1 => some (decide (0 ≤ v1))).bind (fun v1 => bif v1 then some ((0 : Int), (13 : Int)) else some (k, 0)) = _
  cases hp : p == w <;> cases hq : q == w <;> simp [bne, hp, hq]
theorem all_x1 (k p w : Int) : Ev (fun n => tariff_all n k [p] w) (bif p == w then (k, 0) else (0, 13)) := by
  refine ⟨3, fun n hn => ?_⟩
  obtain ⟨n, rfl⟩ : ∃ j, n = j + 3 := ⟨n - 3, by omega⟩
  show ((bif p != w then some (0 : Int) else some (-1)).bind fun v1 => some (decide (0 ≤ v1))).bind (fun v1 => bif v1 then some ((0 : Int), (13 : Int)) else some (k, 0)) = _
  cases hp : p == w <;> simp [bne, hp]
/-- what is found for an expression: its type, if it has one -/
def Fnd (names : List Rt.Bs) (x : M.Expr) (r : Int × Int) : Prop := (r.2 = 0 → Typ names x r.1) ∧ (∀ k, Typ names x k → r = (k, 0))
theorem Fnd.uniq {names : List Rt.Bs} {x : M.Expr} {p k : Int} (h : Fnd names x (p, 0)) (hk : Typ names x k) : k = p := by
  have := h.2 k hk
  exact (Prod.mk.inj this).1.symm
inductive F2 (names : List Rt.Bs) : List M.Expr → List Int → Prop
  | nil : F2 names [] []
  | cons {x : M.Expr} {p : Int} {l : List M.Expr} {ps : List Int} : Fnd names x (p, 0) → F2 names l ps → F2 names (x :: l) (p :: ps)
theorem types_LX (x : M.Expr) (names : List Rt.Bs) (hx : x.Args.length ≤ 1000000) : ∀ (us : List M.Expr) (i : Nat) (acc : List Int), x.Args.drop i = us → acc.length = i → i ≤ x.Args.length →
    (∀ y, y ∈ us → Tt (Fnd names y) (fun n => tariff_typed n y names)) →
    (∃ (N : Nat) (e : Int), e ≠ 0 ∧ (∃ y, y ∈ us ∧ ∀ k, ¬Typ names y k) ∧ ∀ n m kont, N ≤ n → us.length < m → tariff_typed_L1 n (tariff_typed n) x names kont m (i : Int) acc = some (0, e)) ∨
    ∃ (N : Nat) (ps : List Int), F2 names us ps ∧ ∀ n m kont, N ≤ n → us.length < m → tariff_typed_L1 n (tariff_typed n) x names kont m (i : Int) acc = kont (acc ++ ps)
  | [], i, acc, hd, ha, hi, _ => by
    refine .inr ⟨0, [], F2.nil, fun n m kont _ hm => ?_⟩
    obtain ⟨m, rfl⟩ := left hm
    rw [tariff_typed_L1_s, more_no hd, List.append_nil]; rfl
  | y :: us, i, acc, hd, ha, hi, H => by
    obtain ⟨h1, h2, h3⟩ := drop_cons hd
    obtain ⟨⟨k, e⟩, ⟨N1, e1⟩, hq⟩ := H y (by simp)
    by_cases he : e = 0
    · subst he
      have step : ∀ n m kont, N1 ≤ n → tariff_typed_L1 n (tariff_typed n) x names kont (m + 1) (i : Int) acc = tariff_typed_L1 n (tariff_typed n) x names kont m ((i + 1 : Nat) : Int) (acc ++ [k]) := by
        intro n m kont hn
        have e1 : tariff_typed n y names = some (k, 0) := e1 n (by omega)
        rw [tariff_typed_L1_s, more_yes hd, cond_true, h1, Option.bind_some, e1, Option.bind_some]
        show ((app 8 acc [k]).bind fun l3 => _) = _
        rw [app_ok (by simp only [List.length_cons, List.length_nil]; omega), Option.bind_some, inc64 (by omega)]
      rcases types_LX x names hx us (i + 1) (acc ++ [k]) h2 (by simp [ha]) (by omega) (fun z hz => H z (by simp [hz])) with ⟨N, e, he, ⟨z, hz, hzk⟩, ih⟩ | ⟨N, ps, hp, ih⟩
      · refine .inl ⟨max N N1, e, he, ⟨z, by simp [hz], hzk⟩, fun n m kont hn hm => ?_⟩
        obtain ⟨m, rfl, hm2⟩ := pred (by simpa using hm)
        rw [step n m kont (by omega)]
        exact ih n m kont (by omega) hm2
      · refine .inr ⟨max N N1, k :: ps, F2.cons hq hp, fun n m kont hn hm => ?_⟩
        obtain ⟨m, rfl, hm2⟩ := pred (by simpa using hm)
        rw [step n m kont (by omega), ih n m kont (by omega) hm2, List.append_assoc]; rfl
    · refine .inl ⟨N1, e, he, ⟨y, by simp, fun k' hk => he (Prod.mk.inj (hq.2 k' hk)).2⟩, fun n m kont hn hm => ?_⟩
      obtain ⟨m, rfl⟩ := left hm
      have e1 : tariff_typed n y names = some (k, e) := e1 n (by omega)
      have hb : (e != 0) = true := by simpa using he
      rw [tariff_typed_L1_s, more_yes hd, cond_true, h1, Option.bind_some, e1, Option.bind_some]
      dsimp only
      rw [hb]; rfl
/-- what is done with the types of the Args -/
def codeK (names : List Rt.Bs) (x : M.Expr) (n : Nat) (l2 : List Int) : Option (Int × Int) :=
   (bif x.Op == 1 then
    some true
   else
    some (x.Op == 4)).bind fun v1 =>
   bif v1 then
    (slices_Contains_string_string n names x.Name).bind fun v2 =>
    bif !v2 then
     some (0, 11)
    else
     bif x.Op == 4 then
      some (2, 0)
     else
      some (1, 0)
   else
    (bif x.Op == 0 then
     some true
    else
     bif x.Op == 2 then
      some true
     else
      some (x.Op == 3)).bind fun v3 =>
    bif v3 then
     some (1, 0)
    else
     (bif x.Op == 12 then
      some true
     else
      some (x.Op == 13)).bind fun v4 =>
     bif v4 then
      (tariff_all n 0 l2 1).bind fun v5 =>
      some (v5.1, v5.2)
     else
      (bif x.Op == 14 then
       some true
      else
       bif x.Op == 15 then
        some true
       else
        some (x.Op == 16)).bind fun v6 =>
      bif v6 then
       (tariff_all n 0 l2 0).bind fun v7 =>
       some (v7.1, v7.2)
      else
       bif x.Op == 11 then
        (ix l2 0).bind fun ex =>
        bif ex != 0 then
         some (0, 13)
        else
         (ix l2 1).bind fun w2 =>
         (ix l2 2).bind fun w3 =>
         (tariff_join n w2 w3).bind fun v8 =>
         some (v8.1, v8.2)
       else
        bif x.Op == 7 then
         (ix l2 0).bind fun w4 =>
         (bif w4 == 2 then
          (ix l2 1).bind fun w7 =>
          some (w7 == 2)
         else
          some false).bind fun v9 =>
         bif v9 then
          some (0, 13)
         else
          (ix l2 0).bind fun w5 =>
          (ix l2 1).bind fun w6 =>
          (tariff_join n w5 w6).bind fun v10 =>
          some (v10.1, v10.2)
        else
         bif x.Op == 8 then
          (ix x.Args 1).bind fun w8 =>
          bif w8.Op != 0 then
           some (0, 13)
          else
           bif w8.N == 0 then
            some (0, 14)
           else
            (ix l2 0).bind fun w9 =>
            (ix l2 1).bind fun w0 =>
            (tariff_join n w9 w0).bind fun v11 =>
            some (v11.1, v11.2)
         else
          (ix l2 0).bind fun w1 =>
          (ix l2 1).bind fun w2 =>
          (tariff_join n w1 w2).bind fun v12 =>
          some (v12.1, v12.2)
theorem typed_K (n : Nat) (x : M.Expr) (names : List Rt.Bs) : tariff_typed (n + 1) x names = tariff_typed_L1 n (tariff_typed n) x names (codeK names x n) n 0 [] := rfl
def joinX (p q : Int) : Int × Int := bif p == 0 || q == 0 then (0, 13) else (wd p q, 0)
theorem join_evX (p q : Int) : Ev (fun n => (tariff_join n p q).bind fun v => some (v.1, v.2)) (joinX p q) := Ev.all fun n => by rw [join_x]; rfl
theorem all2X (p q w : Int) : Ev (fun n => (tariff_all n 0 [p, q] w).bind fun v5 => some (v5.1, v5.2)) (bif p == w && q == w then (0, 0) else (0, 13)) := Ev.bind (all_x2 0 p q w) (Ev.pure _)
theorem all1X (p w : Int) : Ev (fun n => (tariff_all n 0 [p] w).bind fun v5 => some (v5.1, v5.2)) (bif p == w then (0, 0) else (0, 13)) := Ev.bind (all_x1 0 p w) (Ev.pure _)
theorem joinX_cases (p q : Int) : ((p ≠ 0 ∧ q ≠ 0) ∧ joinX p q = (wd p q, 0)) ∨ ((p = 0 ∨ q = 0) ∧ joinX p q = (0, 13)) := by
  unfold joinX
  by_cases hp : p = 0
  · subst hp; exact .inr ⟨.inl rfl, rfl⟩
  · by_cases hq : q = 0
    · subst hq; exact .inr ⟨.inr rfl, by rw [show ((0 : Int) == 0) = true from rfl, Bool.or_true]; rfl⟩
    · exact .inl ⟨⟨hp, hq⟩, by rw [show (p == 0) = false by simpa using hp, show (q == 0) = false by simpa using hq]; rfl⟩
theorem Fnd.no {names : List Rt.Bs} {x : M.Expr} {p e : Int} (he : e ≠ 0) (h : ∀ k, ¬Typ names x k) : Fnd names x (p, e) := ⟨fun h2 => absurd h2 he, fun k hk => absurd hk (h k)⟩
theorem Fnd.yes {names : List Rt.Bs} {x : M.Expr} {p : Int} (h : Typ names x p) (hu : ∀ k, Typ names x k → k = p) : Fnd names x (p, 0) := ⟨fun _ => h, fun k hk => by rw [hu k hk]⟩
theorem F2.len0 {names : List Rt.Bs} {l : List M.Expr} {ps : List Int} (h : F2 names l ps) (h0 : (l.length : Int) = 0) : l = [] ∧ ps = [] := by
  cases h with
  | nil => exact ⟨rfl, rfl⟩
  | cons => simp at h0; omega
theorem F2.len1 {names : List Rt.Bs} {l : List M.Expr} {ps : List Int} (h : F2 names l ps) (h0 : (l.length : Int) = 1) : ∃ a p, l = [a] ∧ ps = [p] ∧ Fnd names a (p, 0) := by
  cases h with
  | nil => simp at h0
  | cons ha h =>
    obtain ⟨rfl, rfl⟩ := h.len0 (by simp only [List.length_cons] at h0; omega)
    exact ⟨_, _, rfl, rfl, ha⟩
theorem F2.len2 {names : List Rt.Bs} {l : List M.Expr} {ps : List Int} (h : F2 names l ps) (h0 : (l.length : Int) = 2) : ∃ a b p q, l = [a, b] ∧ ps = [p, q] ∧ Fnd names a (p, 0) ∧ Fnd names b (q, 0) := by
  cases h with
  | nil => simp at h0
  | cons ha h =>
    obtain ⟨b, q, rfl, rfl, hb⟩ := h.len1 (by simp only [List.length_cons] at h0; omega)
    exact ⟨_, b, _, q, rfl, rfl, ha, hb⟩
theorem F2.len3 {names : List Rt.Bs} {l : List M.Expr} {ps : List Int} (h : F2 names l ps) (h0 : (l.length : Int) = 3) : ∃ a b c p q r, l = [a, b, c] ∧ ps = [p, q, r] ∧ Fnd names a (p, 0) ∧ Fnd names b (q, 0) ∧ Fnd names c (r, 0) := by
  cases h with
  | nil => simp at h0
  | cons ha h =>
    obtain ⟨b, c, q, r, rfl, rfl, hb, hc⟩ := h.len2 (by simp only [List.length_cons] at h0; omega)
    exact ⟨_, b, c, _, q, r, rfl, rfl, ha, hb, hc⟩
theorem Shx.leaf {m : Int} {s : Rt.Bs} {l : List M.Expr} (h : Shx ⟨0, m, s, l⟩) : (0 ≤ m ∧ m ≤ 1099511627776) ∧ s = [] ∧ l = [] := by
  obtain ⟨_, _, h3, h4, _⟩ := h.inv
  unfold nodeok at h4
  rw [if_pos rfl] at h4
  refine ⟨h4.1, h4.2, List.length_eq_zero_iff.1 ?_⟩
  have : (l.length : Int) = 0 := h3
  omega
/-- an operation on two numbers -/
theorem ari_fnd {names : List Rt.Bs} {o : Int} {a b : M.Expr} {p q : Int} (ho : o = 5 ∨ o = 6 ∨ o = 9 ∨ o = 10) (ha : Fnd names a (p, 0)) (hb : Fnd names b (q, 0)) : Fnd names ⟨o, 0, [], [a, b]⟩ (joinX p q) := by
  have inv : ∀ k, Typ names ⟨o, 0, [], [a, b]⟩ k → (p ≠ 0 ∧ q ≠ 0) ∧ k = wd p q := by
    intro k hk
    cases hk with
    | ari _ h1 h2 h3 h4 => obtain rfl := ha.uniq h1; obtain rfl := hb.uniq h2; exact ⟨⟨h3, h4⟩, rfl⟩
    | mul => omega
    | div => omega
    | rel h => omega
    | bin h => omega
  rcases joinX_cases p q with ⟨h, e⟩ | ⟨h, e⟩
  · rw [e]; exact Fnd.yes (Typ.ari ho (ha.1 rfl) (hb.1 rfl) h.1 h.2) fun k hk => (inv k hk).2
  · rw [e]; exact Fnd.no (by decide) fun k hk => by have := (inv k hk).1; omega
theorem mul_fnd {names : List Rt.Bs} {a b : M.Expr} {p q : Int} (ha : Fnd names a (p, 0)) (hb : Fnd names b (q, 0)) : Fnd names ⟨7, 0, [], [a, b]⟩ (bif p == 2 && q == 2 then (0, 13) else joinX p q) := by
  have inv : ∀ k, Typ names ⟨7, 0, [], [a, b]⟩ k → ((p ≠ 0 ∧ q ≠ 0) ∧ ¬(p = 2 ∧ q = 2)) ∧ k = wd p q := by
    intro k hk
    cases hk with
    | ari h => omega
    | mul h1 h2 h3 h4 h5 => obtain rfl := ha.uniq h1; obtain rfl := hb.uniq h2; exact ⟨⟨⟨h3, h4⟩, h5⟩, rfl⟩
    | rel h => omega
    | bin h => omega
  by_cases h2 : p = 2 ∧ q = 2
  · rw [h2.1, h2.2]; exact Fnd.no (by decide) fun k hk => (inv k hk).1.2 h2
  · have e2 : (p == 2 && q == 2) = false := by
      cases h : p == 2 && q == 2
      · rfl
      · rw [Bool.and_eq_true] at h; exact absurd ⟨by simpa using h.1, by simpa using h.2⟩ h2
    rw [e2]
    show Fnd names _ (joinX p q)
    rcases joinX_cases p q with ⟨h, e⟩ | ⟨h, e⟩
    · rw [e]; exact Fnd.yes (Typ.mul (ha.1 rfl) (hb.1 rfl) h.1 h.2 h2) fun k hk => (inv k hk).2
    · rw [e]; exact Fnd.no (by decide) fun k hk => by have := (inv k hk).1.1; omega
theorem wd_one {names : List Rt.Bs} {a : M.Expr} {p : Int} (h : Typ names a p) (h0 : p ≠ 0) : wd p 1 = p := by
  rcases h.range with rfl | rfl | rfl
  · exact absurd rfl h0
  · rfl
  · rfl
theorem div_fnd {names : List Rt.Bs} {a b : M.Expr} {p q : Int} (ha : Fnd names a (p, 0)) (hb : Fnd names b (q, 0)) (hs : Shx b) : Fnd names ⟨8, 0, [], [a, b]⟩ (bif b.Op != 0 then (0, 13) else bif b.N == 0 then (0, 14) else joinX p q) := by
  have inv : ∀ k, Typ names ⟨8, 0, [], [a, b]⟩ k → ∃ m, b = ⟨0, m, [], []⟩ ∧ m ≠ 0 ∧ p ≠ 0 ∧ k = p := by
    intro k hk
    cases hk with
    | ari h => omega
    | div h1 h2 h3 h4 => obtain rfl := ha.uniq h1; exact ⟨_, rfl, by omega, h2, rfl⟩
    | rel h => omega
    | bin h => omega
  obtain ⟨o, m, s, l⟩ := b
  dsimp only
  by_cases h0 : o = 0
  · subst h0
    obtain ⟨h1, rfl, rfl⟩ := hs.leaf
    have hq : q = 1 := (hb.uniq (Typ.num h1.1 h1.2)).symm
    subst hq
    show Fnd names _ (bif m == 0 then (0, 14) else joinX p 1)
    by_cases hm : m = 0
    · subst hm
      exact Fnd.no (by decide) fun k hk => by
        obtain ⟨m2, h5, h6, _⟩ := inv k hk
        injection h5 with _ h7
        exact h6 h7.symm
    · rw [show (m == 0) = false by simpa using hm]
      show Fnd names _ (joinX p 1)
      rcases joinX_cases p 1 with ⟨h, e⟩ | ⟨h, e⟩
      · rw [e, wd_one (ha.1 rfl) h.1]; exact Fnd.yes (Typ.div (ha.1 rfl) h.1 (by omega) h1.2) fun k hk => by obtain ⟨_, _, _, _, h⟩ := inv k hk; exact h
      · rw [e]; exact Fnd.no (by decide) fun k hk => by obtain ⟨_, _, _, h5, _⟩ := inv k hk; omega
  · rw [show (o != 0) = true by simpa using h0]
    exact Fnd.no (by decide) fun k hk => by
      obtain ⟨m2, h5, _⟩ := inv k hk
      injection h5 with h7
      exact h0 h7
theorem ite_fnd {names : List Rt.Bs} {c a b : M.Expr} {r p q : Int} (hc : Fnd names c (r, 0)) (ha : Fnd names a (p, 0)) (hb : Fnd names b (q, 0)) : Fnd names ⟨11, 0, [], [c, a, b]⟩ (bif r != 0 then (0, 13) else joinX p q) := by
  have inv : ∀ k, Typ names ⟨11, 0, [], [c, a, b]⟩ k → (r = 0 ∧ p ≠ 0 ∧ q ≠ 0) ∧ k = wd p q := by
    intro k hk
    cases hk with
    | ite h0 h1 h2 h3 h4 => obtain rfl := hc.uniq h0; obtain rfl := ha.uniq h1; obtain rfl := hb.uniq h2; exact ⟨⟨rfl, h3, h4⟩, rfl⟩
  by_cases hr : r = 0
  · subst hr
    show Fnd names _ (joinX p q)
    rcases joinX_cases p q with ⟨h, e⟩ | ⟨h, e⟩
    · rw [e]; exact Fnd.yes (Typ.ite (hc.1 rfl) (ha.1 rfl) (hb.1 rfl) h.1 h.2) fun k hk => (inv k hk).2
    · rw [e]; exact Fnd.no (by decide) fun k hk => by have := (inv k hk).1; omega
  · rw [show (r != 0) = true by simpa using hr]
    exact Fnd.no (by decide) fun k hk => hr (inv k hk).1.1
theorem rel_fnd {names : List Rt.Bs} {o : Int} {a b : M.Expr} {p q : Int} (ho : o = 12 ∨ o = 13) (ha : Fnd names a (p, 0)) (hb : Fnd names b (q, 0)) : Fnd names ⟨o, 0, [], [a, b]⟩ (bif p == 1 && q == 1 then (0, 0) else (0, 13)) := by
  have inv : ∀ k, Typ names ⟨o, 0, [], [a, b]⟩ k → (p = 1 ∧ q = 1) ∧ k = 0 := by
    intro k hk
    cases hk with
    | ari h => omega
    | mul => omega
    | div => omega
    | rel _ h1 h2 => exact ⟨⟨(ha.uniq h1).symm, (hb.uniq h2).symm⟩, rfl⟩
    | bin h => omega
  by_cases h2 : p = 1 ∧ q = 1
  · obtain ⟨rfl, rfl⟩ := h2; exact Fnd.yes (Typ.rel ho (ha.1 rfl) (hb.1 rfl)) fun k hk => (inv k hk).2
  · have e2 : (p == 1 && q == 1) = false := by
      cases h : p == 1 && q == 1
      · rfl
      · rw [Bool.and_eq_true] at h; exact absurd ⟨by simpa using h.1, by simpa using h.2⟩ h2
    rw [e2]; exact Fnd.no (by decide) fun k hk => h2 (inv k hk).1
theorem bin_fnd {names : List Rt.Bs} {o : Int} {a b : M.Expr} {p q : Int} (ho : o = 15 ∨ o = 16) (ha : Fnd names a (p, 0)) (hb : Fnd names b (q, 0)) : Fnd names ⟨o, 0, [], [a, b]⟩ (bif p == 0 && q == 0 then (0, 0) else (0, 13)) := by
  have inv : ∀ k, Typ names ⟨o, 0, [], [a, b]⟩ k → (p = 0 ∧ q = 0) ∧ k = 0 := by
    intro k hk
    cases hk with
    | ari h => omega
    | mul => omega
    | div => omega
    | rel h => omega
    | bin _ h1 h2 => exact ⟨⟨(ha.uniq h1).symm, (hb.uniq h2).symm⟩, rfl⟩
  by_cases h2 : p = 0 ∧ q = 0
  · obtain ⟨rfl, rfl⟩ := h2; exact Fnd.yes (Typ.bin ho (ha.1 rfl) (hb.1 rfl)) fun k hk => (inv k hk).2
  · have e2 : (p == 0 && q == 0) = false := by
      cases h : p == 0 && q == 0
      · rfl
      · rw [Bool.and_eq_true] at h; exact absurd ⟨by simpa using h.1, by simpa using h.2⟩ h2
    rw [e2]; exact Fnd.no (by decide) fun k hk => h2 (inv k hk).1
theorem not_fnd {names : List Rt.Bs} {a : M.Expr} {p : Int} (ha : Fnd names a (p, 0)) : Fnd names ⟨14, 0, [], [a]⟩ (bif p == 0 then (0, 0) else (0, 13)) := by
  have inv : ∀ k, Typ names ⟨14, 0, [], [a]⟩ k → p = 0 ∧ k = 0 := by
    intro k hk
    cases hk with
    | not h1 => exact ⟨(ha.uniq h1).symm, rfl⟩
  by_cases h2 : p = 0
  · subst h2; exact Fnd.yes (Typ.not (ha.1 rfl)) fun k hk => (inv k hk).2
  · rw [show (p == 0) = false by simpa using h2]; exact Fnd.no (by decide) fun k hk => h2 (inv k hk).1
theorem nodeok_op {o n : Int} {s : Rt.Bs} (h : nodeok o n s) (h5 : o ≠ 0 ∧ o ≠ 1 ∧ o ≠ 4) : n = 0 ∧ s = [] := by
  unfold nodeok at h
  rw [if_neg h5.1, if_neg (by omega)] at h
  exact h
theorem typed_x {x : M.Expr} (hx : Fit x) (names : List Rt.Bs) (hn : names.length < 4611686018427387904) : Shx x → Tt (Fnd names x) (fun n => tariff_typed n x names) := by
  induction hx with
  | @mk o k s l hl _ ih =>
    intro hs
    obtain ⟨h1, h2, h3, hno, h4⟩ := hs.inv
    rcases types_LX ⟨o, k, s, l⟩ names hl l 0 [] rfl rfl (by simp) (fun y hy => ih y hy (h4 y hy)) with ⟨N, e, he, ⟨y, hy, hyk⟩, hL⟩ | ⟨N, ps, hp, hL⟩
    · refine ⟨(0, e), Ev.suc (fun n => typed_K n _ _) ⟨N + l.length + 1, fun n hn => hL n n _ (by omega) (by omega)⟩, Fnd.no he fun k' hk => ?_⟩
      obtain ⟨p, hp⟩ := hk.args y hy
      exact hyk p hp
    have out : ∀ r : Int × Int, Fnd names ⟨o, k, s, l⟩ r → Ev (fun n => codeK names ⟨o, k, s, l⟩ n ps) r → Tt (Fnd names ⟨o, k, s, l⟩) (fun n => tariff_typed n ⟨o, k, s, l⟩ names) := by
      intro r hty hf
      exact ⟨r, Ev.suc (fun n => typed_K n _ _) (Ev.from (N + l.length + 1) (fun n hn => hL n n _ (by omega) (by omega)) hf), hty⟩
    clear hL ih
    have hc : o = 0 ∨ o = 1 ∨ o = 2 ∨ o = 3 ∨ o = 4 ∨ o = 5 ∨ o = 6 ∨ o = 7 ∨ o = 8 ∨ o = 9 ∨ o = 10 ∨ o = 11 ∨ o = 12 ∨ o = 13 ∨ o = 14 ∨ o = 15 ∨ o = 16 := by omega
    rcases hc with rfl | rfl | rfl | rfl | rfl | rfl | rfl | rfl | rfl | rfl | rfl | rfl | rfl | rfl | rfl | rfl | rfl
    · obtain ⟨h5, rfl, rfl⟩ := hs.leaf
      obtain ⟨_, rfl⟩ := hp.len0 rfl
      exact out (1, 0) (Fnd.yes (Typ.num h5.1 h5.2) fun k hk => by cases hk; rfl) (Ev.all fun n => rfl)
    · obtain ⟨rfl, rfl⟩ := hp.len0 h3
      unfold nodeok at hno
      rw [if_neg (by decide), if_pos (by decide)] at hno
      obtain ⟨rfl, hname⟩ := hno
      refine out (bif !decide (s ∈ names) then (0, 11) else (1, 0)) ?_ ?_
      · by_cases hm : s ∈ names
        · rw [decide_eq_true hm]; exact Fnd.yes (Typ.lifts hname hm) fun k hk => by cases hk; rfl
        · rw [decide_eq_false hm]; exact Fnd.no (by decide) fun k hk => by cases hk; contradiction
      · exact Ev.bind (f := fun n v2 => bif !v2 then some (0, 11) else some (1, 0)) (Contains_ev s hn) (by cases decide (s ∈ names) <;> exact Ev.pure _)
    · obtain ⟨rfl, rfl⟩ := hp.len0 h3
      obtain ⟨rfl, rfl⟩ := nodeok_op hno (by decide)
      exact out (1, 0) (Fnd.yes Typ.pers fun k hk => by cases hk; rfl) (Ev.all fun n => rfl)
    · obtain ⟨rfl, rfl⟩ := hp.len0 h3
      obtain ⟨rfl, rfl⟩ := nodeok_op hno (by decide)
      exact out (1, 0) (Fnd.yes Typ.flats fun k hk => by cases hk; rfl) (Ev.all fun n => rfl)
    · obtain ⟨rfl, rfl⟩ := hp.len0 h3
      unfold nodeok at hno
      rw [if_neg (by decide), if_pos (by decide)] at hno
      obtain ⟨rfl, hname⟩ := hno
      refine out (bif !decide (s ∈ names) then (0, 11) else (2, 0)) ?_ ?_
      · by_cases hm : s ∈ names
        · rw [decide_eq_true hm]; exact Fnd.yes (Typ.wgt hname hm) fun k hk => by cases hk; rfl
        · rw [decide_eq_false hm]; exact Fnd.no (by decide) fun k hk => by cases hk; contradiction
      · exact Ev.bind (f := fun n v2 => bif !v2 then some (0, 11) else some (2, 0)) (Contains_ev s hn) (by cases decide (s ∈ names) <;> exact Ev.pure _)
    · obtain ⟨a, b, p, q, rfl, rfl, ha, hb⟩ := hp.len2 h3
      obtain ⟨rfl, rfl⟩ := nodeok_op hno (by decide)
      exact out _ (ari_fnd (by decide) ha hb) (join_evX p q)
    · obtain ⟨a, b, p, q, rfl, rfl, ha, hb⟩ := hp.len2 h3
      obtain ⟨rfl, rfl⟩ := nodeok_op hno (by decide)
      exact out _ (ari_fnd (by decide) ha hb) (join_evX p q)
    · obtain ⟨a, b, p, q, rfl, rfl, ha, hb⟩ := hp.len2 h3
      obtain ⟨rfl, rfl⟩ := nodeok_op hno (by decide)
      refine out _ (mul_fnd ha hb) ?_
      show Ev (fun n => (bif p == 2 then some (q == 2) else some false).bind fun v9 => bif v9 then some (0, 13) else (tariff_join n p q).bind fun v => some (v.1, v.2)) _
      refine Ev.bind (a := p == 2 && q == 2) (Ev.all fun n => by cases p == 2 <;> rfl) ?_
      cases p == 2 && q == 2
      · exact Ev.else rfl (join_evX p q)
      · exact Ev.then rfl (Ev.pure _)
    · obtain ⟨a, b, p, q, rfl, rfl, ha, hb⟩ := hp.len2 h3
      obtain ⟨rfl, rfl⟩ := nodeok_op hno (by decide)
      refine out _ (div_fnd ha hb (h4 b (by simp))) ?_
      show Ev (fun n => bif b.Op != 0 then some (0, 13) else bif b.N == 0 then some (0, 14) else (tariff_join n p q).bind fun v => some (v.1, v.2)) _
      cases b.Op != 0
      · cases b.N == 0
        · exact Ev.else rfl (Ev.else rfl (join_evX p q))
        · exact Ev.else rfl (Ev.then rfl (Ev.pure _))
      · exact Ev.then rfl (Ev.pure _)
    · obtain ⟨a, b, p, q, rfl, rfl, ha, hb⟩ := hp.len2 h3
      obtain ⟨rfl, rfl⟩ := nodeok_op hno (by decide)
      exact out _ (ari_fnd (by decide) ha hb) (join_evX p q)
    · obtain ⟨a, b, p, q, rfl, rfl, ha, hb⟩ := hp.len2 h3
      obtain ⟨rfl, rfl⟩ := nodeok_op hno (by decide)
      exact out _ (ari_fnd (by decide) ha hb) (join_evX p q)
    · obtain ⟨c, a, b, r, p, q, rfl, rfl, hcc, ha, hb⟩ := hp.len3 h3
      obtain ⟨rfl, rfl⟩ := nodeok_op hno (by decide)
      refine out _ (ite_fnd hcc ha hb) ?_
      show Ev (fun n => bif r != 0 then some (0, 13) else (tariff_join n p q).bind fun v => some (v.1, v.2)) _
      cases r != 0
      · exact Ev.else rfl (join_evX p q)
      · exact Ev.then rfl (Ev.pure _)
    · obtain ⟨a, b, p, q, rfl, rfl, ha, hb⟩ := hp.len2 h3
      obtain ⟨rfl, rfl⟩ := nodeok_op hno (by decide)
      exact out _ (rel_fnd (by decide) ha hb) (all2X p q 1)
    · obtain ⟨a, b, p, q, rfl, rfl, ha, hb⟩ := hp.len2 h3
      obtain ⟨rfl, rfl⟩ := nodeok_op hno (by decide)
      exact out _ (rel_fnd (by decide) ha hb) (all2X p q 1)
    · obtain ⟨a, p, rfl, rfl, ha⟩ := hp.len1 h3
      obtain ⟨rfl, rfl⟩ := nodeok_op hno (by decide)
      exact out _ (not_fnd ha) (all1X p 0)
    · obtain ⟨a, b, p, q, rfl, rfl, ha, hb⟩ := hp.len2 h3
      obtain ⟨rfl, rfl⟩ := nodeok_op hno (by decide)
      exact out _ (bin_fnd (by decide) ha hb) (all2X p q 0)
    · obtain ⟨a, b, p, q, rfl, rfl, ha, hb⟩ := hp.len2 h3
      obtain ⟨rfl, rfl⟩ := nodeok_op hno (by decide)
      exact out _ (bin_fnd (by decide) ha hb) (all2X p q 0)
theorem Typ.uniq {names : List Rt.Bs} (hn : names.length < 4611686018427387904) {x : M.Expr} (hx : Fit x) {j k : Int} (h : Typ names x j) (h2 : Typ names x k) : j = k := by
  obtain ⟨r, _, hr⟩ := typed_x hx names hn h.shx
  have e := (hr.2 j h).symm.trans (hr.2 k h2)
  exact (Prod.mk.inj e).1
/-- a tariff that is accepted -/
def Chk (names : List Rt.Bs) (t : Tariff) : Prop := named names = true ∧ Wrt t ∧ ∃ k, k ≠ 0 ∧ Typ names t.Fee k
theorem check_x {t : Tariff} (hx : Fit t.Fee) (names : List Rt.Bs) (hn : names.length < 4611686018427387904) : Tt (fun e => e = 0 ↔ Chk names t) (fun n => tariff_Check n t names) := by
  unfold tariff_Check
  refine Tt.evb (named_ev hn) (Tt.bif (fun h => Tt.pure ⟨fun h => (by cases h), fun h5 => ?_⟩) (fun h => ?_))
  · rw [h5.1] at h; cases h
  have hnm : named names = true := by simpa using h
  refine Tt.bind (writable_x hx) fun b hb => ?_
  refine Tt.bif (fun h => Tt.pure ⟨fun h => (by cases h), fun h5 => ?_⟩) (fun h => ?_)
  · rw [hb.2 h5.2.1] at h; cases h
  have hw : Wrt t := hb.1 (by simpa using h)
  refine Tt.bind (typed_x hx names hn hw.2.1.2) fun r hr => ?_
  refine Tt.bind (P := fun b => b = true ↔ r.2 = 0 ∧ r.1 = 0) (Tt.bif (fun h => Tt.pure ?_) (fun h => Tt.pure ?_)) fun b hb => ?_
  · have : r.2 = 0 := by simpa using h
    simp [this]
  · have : r.2 ≠ 0 := by simpa using h
    simp [this]
  refine Tt.bif (fun h => Tt.pure ⟨fun h => (by cases h), fun h5 => ?_⟩) (fun h => Tt.pure ⟨fun h5 => ?_, fun h5 => ?_⟩)
  · obtain ⟨_, _, k, hk, ht⟩ := h5
    have := hr.2 k ht
    have h7 := (hb.1 h).2
    rw [this] at h7
    exact absurd h7 hk
  · refine ⟨hnm, hw, r.1, fun h6 => ?_, hr.1 h5⟩
    rw [hb.2 ⟨h5, h6⟩] at h; cases h
  · obtain ⟨_, _, k, hk, ht⟩ := h5
    rw [hr.2 k ht]
end Go.Proofs.YtpihabofmnnbbaaDoor.Tp
