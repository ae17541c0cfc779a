/-
  TariffParts: the error of an expression is that of the first of its Args that has one, or one of its own.
-/
import Derived.Test.YtpihabofmnnbbaaDoorPrB
import Derived.Test.YtpihabofmnnbbaaDoorMirD3
namespace Go.Proofs.YtpihabofmnnbbaaDoor.Pr
open Go Rt M Ta Tp

def EvY (names : List Rt.Bs) : List M.Expr → List (Int × Int) → Prop
  | [], [] => True
  | y :: us, r :: rs => Ev (fun n => tariff_Type n y names) r ∧ EvY names us rs
  | _, _ => False
theorem parts_L (x : M.Expr) (names : List Rt.Bs) (v5 : Int × Int) (hx : x.Args.length ≤ 1000000) (kont : Nat → Int → Option Bool) : ∀ (us : List M.Expr) (rs : List (Int × Int)) (i : Nat) (f : Int), x.Args.drop i = us → EvY names us rs → (v5.2 = 0 → fe rs = 0) →
    ∃ N, ∀ n m, N ≤ n → us.length < m → law35_TariffParts_L1 n x names v5 (kont n) m f (i : Int) = kont n (if f ≠ 0 then f else fe rs)
  | [], [], i, f, hd, _, _ => by
    refine ⟨0, fun n m _ hm => ?_⟩
    obtain ⟨m, rfl⟩ := left hm
    rw [law35_TariffParts_L1_s, more_no hd]
    show kont n f = kont n (if f ≠ 0 then f else 0)
    by_cases h : f = 0
    · rw [if_neg (fun h2 => h2 h), h]
    · rw [if_pos h]
  | [], _ :: _, _, _, _, h, _ => h.elim
  | _ :: _, [], _, _, _, h, _ => h.elim
  | y :: us, (k, e) :: rs, i, f, hd, ⟨⟨N1, e1⟩, h⟩, h0 => by
    obtain ⟨h1, h2, h3⟩ := drop_cons hd
    have he0 : v5.2 = 0 → e = 0 := fun h5 => by
      have := h0 h5
      by_cases he : e = 0
      · exact he
      · rw [show fe ((k, e) :: rs) = e from if_pos he] at this; exact this
    obtain ⟨N, ih⟩ := parts_L x names v5 hx kont us rs (i + 1) (if e ≠ 0 ∧ f = 0 then e else f) h2 h (fun h5 => by
      have := h0 h5
      rw [show fe ((k, e) :: rs) = fe rs from if_neg (fun h6 => h6 (he0 h5))] at this; exact this)
    refine ⟨max N N1, fun n m hn hm => ?_⟩
    obtain ⟨m, rfl, hm2⟩ := pred (by simpa using hm)
    have e1 : tariff_Type n y names = some (k, e) := e1 n (by omega)
    rw [law35_TariffParts_L1_s, more_yes hd, cond_true, h1, Option.bind_some, e1, Option.bind_some]
    have c1 : (bif e != 0 then some (f == 0) else some false) = some (e != 0 && f == 0) := by cases e != 0 <;> rfl
    have c2 : (bif (e != 0 && f == 0) then some e else some f) = some (if e ≠ 0 ∧ f = 0 then e else f) := by
      by_cases hh : e ≠ 0 ∧ f = 0
      · rw [if_pos hh, show (e != 0 && f == 0) = true by simp [hh]]; rfl
      · rw [if_neg hh]
        cases hc : (e != 0 && f == 0) with
        | false => rfl
        | true => rw [Bool.and_eq_true] at hc; exact absurd ⟨by simpa using hc.1, by simpa using hc.2⟩ hh
    have c3 : (bif v5.2 == 0 then some (e != 0) else some false) = some false := by
      by_cases h5 : v5.2 = 0
      · rw [show (v5.2 == 0) = true by simpa using h5, he0 h5]; rfl
      · rw [show (v5.2 == 0) = false by simpa using h5]; rfl
    dsimp only
    rw [c1, Option.bind_some, c2, Option.bind_some, c3, Option.bind_some, cond_false, inc64 (by omega), ih n m (by omega) hm2]
    have hE : (if (if e ≠ 0 ∧ f = 0 then e else f) ≠ 0 then (if e ≠ 0 ∧ f = 0 then e else f) else fe rs) = (if f ≠ 0 then f else fe ((k, e) :: rs)) := by
      have hfe : fe ((k, e) :: rs) = if e ≠ 0 then e else fe rs := rfl
      rw [hfe]
      by_cases hf : f = 0 <;> by_cases he : e = 0 <;> simp [hf, he]
    rw [hE]
theorem parts_ev (x : M.Expr) (names : List Rt.Bs) : Ev (fun n => law35_TariffParts n x names) true := by
  unfold law35_TariffParts
  refine Ev.bind small35 ?_
  have T : ∀ {x : Nat → Option Bool}, Ev (fun n => bif true then some true else x n) true := fun {x} => Ev.then rfl (Ev.pure _)
  obtain ⟨b, eb, hb⟩ := FewX_t x 130 14 (by decide) (by decide) (by decide) (by decide)
  refine Ev.bind eb ?_
  cases b with
  | false => exact Ev.bind T (Ev.bind T T)
  | true =>
  have hx : Fit x := hb rfl
  obtain ⟨b, eb, _⟩ := short_t hx
  refine Ev.bind (a := !b) (Ev.else rfl (Ev.bind eb (Ev.pure _))) ?_
  cases b with
  | false => exact Ev.bind T T
  | true =>
  obtain ⟨b, eb, hn⟩ := few35_t names
  refine Ev.bind (a := !b) (Ev.else rfl (Ev.bind eb (Ev.pure _))) ?_
  cases b with
  | false => exact T
  | true =>
  refine Ev.else rfl ?_
  have hn := hn rfl
  have hn' : names.length < 4611686018427387904 := by omega
  have hlen : x.Args.length ≤ 1000000 := by cases hx; assumption
  -- what comes of the Args
  have fin : ∀ (r : Int × Int) (rs : List (Int × Int)), Ev (fun n => tariff_Type n x names) r → EvY names x.Args rs → rs.length = x.Args.length → (r.2 = 0 → fe rs = 0) →
      (fe rs ≠ 0 → r.2 = fe rs ∨ r.2 = 2) → (fe rs = 0 → r.2 = 0 ∨ r.2 = 13 ∨ r.2 = 14 ∨ r.2 = 11 ∨ r.2 = 2 ∨ (r.2 = 1 ∧ x.Args.length = 0)) →
      Ev (fun n => (tariff_Type n x names).bind fun v5 => law35_TariffParts_L1 n x names v5 (fun (first2 : Int) =>
        bif first2 != 0 then (bif true then (bif v5.2 == first2 then some true else some (v5.2 == 2)).bind fun v7 => some v7 else some false).bind fun v6 => some v6
        else (bif true then (bif v5.2 == 0 then some true else some (v5.2 == 13)).bind fun v9 => (bif v9 then some true else some (v5.2 == 14)).bind fun v10 => (bif v10 then some true else some (v5.2 == 11)).bind fun v11 =>
          (bif v11 then some true else some (v5.2 == 2)).bind fun v12 => (bif v12 then some true else (bif v5.2 == 1 then some ((x.Args.length : Int) == 0) else some false).bind fun v14 => some v14).bind fun v13 => some v13 else some false).bind fun v8 => some v8) n 0 0) true := by
    intro r rs er hrs _ h0 h1 h2
    refine Ev.bind er ?_
    obtain ⟨N, h⟩ := parts_L x names r hlen (fun _ first2 =>
        bif first2 != 0 then (bif true then (bif r.2 == first2 then some true else some (r.2 == 2)).bind fun v7 => some v7 else some false).bind fun v6 => some v6
        else (bif true then (bif r.2 == 0 then some true else some (r.2 == 13)).bind fun v9 => (bif v9 then some true else some (r.2 == 14)).bind fun v10 => (bif v10 then some true else some (r.2 == 11)).bind fun v11 =>
          (bif v11 then some true else some (r.2 == 2)).bind fun v12 => (bif v12 then some true else (bif r.2 == 1 then some ((x.Args.length : Int) == 0) else some false).bind fun v14 => some v14).bind fun v13 => some v13 else some false).bind fun v8 => some v8) x.Args rs 0 0 rfl hrs h0
    refine Ev.from (N + x.Args.length + 1) (fun n hn => h n n (by omega) (by omega)) ?_
    rw [if_neg (fun h => h rfl)]
    by_cases hf : fe rs = 0
    · rw [hf]
      refine Ev.else rfl (Ev.all fun _ => ?_)
      rcases h2 hf with h | h | h | h | h | ⟨h, hl⟩ <;> rw [h] <;> first | rfl | (rw [hl]; rfl)
    · refine Ev.then (by simpa using hf) (Ev.all fun _ => ?_)
      rcases h1 hf with h | h
      · rw [h, beq_self_eq_true]; rfl
      · rw [h]; cases (2 : Int) == fe rs <;> rfl
  have allEv : ∀ {r : Int × Int} {l : List M.Expr}, (∀ y, y ∈ l → Ev (fun n => tariff_Type n y names) r) → ∃ rs, EvY names l rs ∧ rs.length = l.length ∧ (fe rs = 0 ∨ fe rs = r.2) ∧ (r.2 ≠ 0 → l ≠ [] → fe rs = r.2) := by
    intro r l
    induction l with
    | nil => intro _; exact ⟨[], trivial, rfl, .inl rfl, fun _ h => absurd rfl h⟩
    | cons y l ih =>
      intro h
      obtain ⟨rs, h1, h2, h3, _⟩ := ih (fun z hz => h z (by simp [hz]))
      refine ⟨r :: rs, ⟨h y (by simp), h1⟩, by simp [h2], ?_, fun h5 _ => if_pos h5⟩
      by_cases h5 : r.2 = 0
      · rw [show fe (r :: rs) = fe rs from if_neg (fun h6 => h6 h5)]; exact h3
      · exact .inr (if_pos h5)
  cases hnm : named names with
  | false =>
    obtain ⟨rs, h1, h2, h3, h4⟩ := allEv (l := x.Args) (fun y _ => type_bad hn' hnm y)
    refine fin (0, 1) rs (type_bad hn' hnm x) h1 h2 (fun h => by cases h) (fun h => ?_) (fun h => ?_)
    · rcases h3 with h5 | h5
      · exact absurd h5 h
      · exact .inl h5.symm
    · refine .inr (.inr (.inr (.inr (.inr ⟨rfl, ?_⟩))))
      cases hl : x.Args with
      | nil => rfl
      | cons y l => have := h4 (by decide) (by rw [hl]; simp); rw [h] at this; cases this
  | true =>
  by_cases hf : Frm x
  · obtain ⟨o, k, s, l⟩ := x
    obtain ⟨rs, r, hrs, hl2, er, g1, g2⟩ := typed_own hf.2 names hn'
    have hY : ∀ {l' : List M.Expr} {rs' : List (Int × Int)}, (∀ y, y ∈ l' → Fit y ∧ Frm y) → EvT names l' rs' → EvY names l' rs' := by
      intro l'
      induction l' with
      | nil => intro rs' _ h; cases rs' with
        | nil => trivial
        | cons => exact h.elim
      | cons y l' ih => intro rs' hy h; cases rs' with
        | nil => exact h.elim
        | cons r rs' => exact ⟨type_of hn' hnm (hy y (by simp)).1 (hy y (by simp)).2 h.1, ih (fun z hz => hy z (by simp [hz])) h.2⟩
    refine fin r rs (type_of hn' hnm hx hf er) (hY (fun y hy => ⟨fit_argP hx hy, frm_argP hf hy⟩) hrs) hl2 (fun h => ?_) (fun h => .inl (by rw [g1 h])) (fun h => ?_)
    · by_cases h5 : fe rs = 0
      · exact h5
      · rw [g1 h5] at h; exact h
    · rcases g2 h with h5 | h5 | h5 | h5
      · exact .inl h5
      · exact .inr (.inr (.inr (.inl h5)))
      · exact .inr (.inl h5)
      · exact .inr (.inr (.inl h5))
  · -- an expression without form: each Arg has some type or error
    obtain ⟨rs, h1, h2⟩ : ∃ rs, EvY names x.Args rs ∧ rs.length = x.Args.length := by
      have : ∀ {l : List M.Expr}, (∀ y, y ∈ l → Fit y) → ∃ rs, EvY names l rs ∧ rs.length = l.length := by
        intro l
        induction l with
        | nil => intro _; exact ⟨[], trivial, rfl⟩
        | cons y l ih =>
          intro h
          obtain ⟨rs, g1, g2⟩ := ih (fun z hz => h z (by simp [hz]))
          obtain ⟨r, er, _⟩ := Type_t (h y (by simp)) names hn'
          exact ⟨r :: rs, ⟨er, g1⟩, by simp [g2]⟩
      exact this fun y hy => fit_argP hx hy
    exact fin (0, 2) rs (type_form hn' hnm hx hf) h1 h2 (fun h => by cases h) (fun _ => .inr rfl) (fun _ => .inr (.inr (.inr (.inr (.inl rfl)))))
end Go.Proofs.YtpihabofmnnbbaaDoor.Pr
