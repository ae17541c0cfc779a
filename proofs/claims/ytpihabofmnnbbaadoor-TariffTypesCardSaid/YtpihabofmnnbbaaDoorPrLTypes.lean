/-
  TariffTypes: what has which type; with a further name, and without one.
-/
import Derived.Test.YtpihabofmnnbbaaDoorPrB
import Derived.Test.YtpihabofmnnbbaaDoorMirD2
namespace Go.Proofs.YtpihabofmnnbbaaDoor.Pr
open Go Rt M Ta Tp

theorem named1_iff (l : List Rt.Bs) : ∀ (us : List Rt.Bs) (p : List Rt.Bs), l = p ++ us → (named1 l p.length us = true ↔ (∀ s, s ∈ us → Lx.name s = true ∧ s ∉ p) ∧ us.Nodup ∧ l.length ≤ 6)
  | [], p, _ => by
    unfold named1
    rw [decide_eq_true_iff]
    simp only [List.not_mem_nil, false_implies, implies_true, true_and, List.nodup_nil]
    omega
  | s :: us, p, h => by
    unfold named1
    have ht : l.take p.length = p := by rw [h]; simp
    have ih := named1_iff l us (p ++ [s]) (by rw [h, List.append_assoc]; rfl)
    rw [List.length_append, List.length_singleton] at ih
    rw [Bool.and_eq_true, Bool.and_eq_true, ih, ht]
    simp only [Bool.not_eq_true', decide_eq_false_iff_not, List.mem_cons, List.nodup_cons, List.mem_append, List.not_mem_nil, or_false]
    constructor
    · rintro ⟨h1, h2, h3, h4, h5⟩
      refine ⟨?_, ⟨?_, h4⟩, h5⟩
      · rintro x (rfl | hx)
        · exact ⟨h1, h2⟩
        · exact ⟨(h3 x hx).1, fun h => (h3 x hx).2 (.inl h)⟩
      · exact fun hs => (h3 s hs).2 (.inr rfl)
    · rintro ⟨h1, ⟨h2, h3⟩, h4⟩
      refine ⟨(h1 s (.inl rfl)).1, (h1 s (.inl rfl)).2, fun x hx => ⟨(h1 x (.inr hx)).1, ?_⟩, h3, h4⟩
      rintro (h | rfl)
      · exact (h1 x (.inr hx)).2 h
      · exact h2 hx
theorem named_iff (l : List Rt.Bs) : named l = true ↔ (∀ s, s ∈ l → Lx.name s = true) ∧ l.Nodup ∧ l.length ≤ 6 := by
  have := named1_iff l l [] rfl
  unfold named
  rw [show ([] : List Rt.Bs).length = 0 from rfl] at this
  rw [this]
  simp
theorem typ_names {names names' : List Rt.Bs} (h : ∀ s, s ∈ names → s ∈ names') {x : M.Expr} {k : Int} (ht : Typ names x k) : Typ names' x k := by
  induction ht with
  | num h1 h2 => exact .num h1 h2
  | lifts h1 h2 => exact .lifts h1 (h _ h2)
  | pers => exact .pers
  | flats => exact .flats
  | wgt h1 h2 => exact .wgt h1 (h _ h2)
  | ari ho _ _ hp hq ha hb => exact .ari ho ha hb hp hq
  | mul _ _ hp hq h5 ha hb => exact .mul ha hb hp hq h5
  | div _ hp h1 h2 ha => exact .div ha hp h1 h2
  | ite _ _ _ hp hq hc ha hb => exact .ite hc ha hb hp hq
  | rel ho _ _ ha hb => exact .rel ho ha hb
  | not _ ha => exact .not ha
  | bin ho _ _ ha hb => exact .bin ho ha hb
/-! what occurs -/
mutual
/-- an operation occurs with a name -/
def occ (op : Int) (nm : Rt.Bs) : M.Expr → Bool
  | ⟨o, _, s, l⟩ => ((o == op) && (nm == [] || s == nm)) || occs op nm l
def occs (op : Int) (nm : Rt.Bs) : List M.Expr → Bool
  | [] => false
  | x :: l => occ op nm x || occs op nm l
 end
theorem occurs_ev (op : Int) (nm : Rt.Bs) {x : M.Expr} (hx : Fit x) : Ev (fun n => law35_occurs n x op nm) (occ op nm x) := by
  have L : ∀ (x : M.Expr), x.Args.length ≤ 1000000 → ∀ (us : List M.Expr) (i : Nat), x.Args.drop i = us → (∀ y, y ∈ us → Ev (fun n => law35_occurs n y op nm) (occ op nm y)) →
      ∃ N, ∀ n m, N ≤ n → us.length < m → law35_occurs_L1 n (law35_occurs n) x op nm (some false) m (i : Int) = some (occs op nm us) := by
    intro x hx us
    induction us with
    | nil =>
      intro i hd _
      refine ⟨0, fun n m _ hm => ?_⟩
      obtain ⟨m, rfl⟩ := left hm
      rw [law35_occurs_L1_s, more_no hd]; rfl
    | cons y us ih =>
      intro i hd H
      obtain ⟨h1, h2, h3⟩ := drop_cons hd
      obtain ⟨N1, e1⟩ := H y (by simp)
      obtain ⟨N, ih⟩ := ih (i + 1) h2 (fun z hz => H z (by simp [hz]))
      refine ⟨max N N1, fun n m hn hm => ?_⟩
      obtain ⟨m, rfl, hm2⟩ := pred (by simpa using hm)
      have e1 : law35_occurs n y op nm = some (occ op nm y) := e1 n (by omega)
      have eo : occs op nm (y :: us) = (occ op nm y || occs op nm us) := rfl
      rw [law35_occurs_L1_s, more_yes hd, cond_true, h1, Option.bind_some, e1, Option.bind_some, eo]
      cases occ op nm y with
      | true => rfl
      | false => rw [cond_false, inc64 (by omega), ih n m (by omega) hm2]; rfl
  induction hx with
  | @mk o k s l hl _ ih =>
    have eo : occ op nm ⟨o, k, s, l⟩ = (((o == op) && (nm == [] || s == nm)) || occs op nm l) := rfl
    refine Ev.suc (fun n => law35_occurs_s n _ _ _) ?_
    have h1 : (bif o == op then (bif nm == [] then some true else some (s == nm)).bind fun v3 => some v3 else some false) = some ((o == op) && (nm == [] || s == nm)) := by
      cases o == op <;> cases nm == [] <;> rfl
    refine Ev.step h1 ?_
    rw [eo]
    cases (o == op) && (nm == [] || s == nm) with
    | true => exact Ev.then rfl (Ev.pure _)
    | false =>
      refine Ev.else rfl ?_
      obtain ⟨N, h⟩ := L ⟨o, k, s, l⟩ hl l 0 rfl ih
      exact ⟨N + l.length + 1, fun n hn => h n n (by omega) (by omega)⟩
/-- a type is that of a weight exactly if a weight occurs -/
theorem occ2 (op : Int) (nm : Rt.Bs) {o : Int} {a b : M.Expr} (ho : o ≠ op) : occ op nm ⟨o, 0, [], [a, b]⟩ = (occ op nm a || occ op nm b) := by
  show (((o == op) && _) || (occ op nm a || (occ op nm b || false))) = _
  rw [show (o == op) = false by simpa using ho, Bool.false_and, Bool.false_or, Bool.or_false]
theorem wd_two (p q : Int) : (wd p q == 2) = (p == 2 || q == 2) := by
  unfold wd
  cases p == 2 || q == 2 <;> rfl
theorem typ_occ {names : List Rt.Bs} {x : M.Expr} {k : Int} (ht : Typ names x k) : (k = 0 → occ 4 [] x = false) ∧ (k ≠ 0 → occ 4 [] x = (k == 2)) := by
  induction ht with
  | num => exact ⟨fun h => (by cases h), fun _ => rfl⟩
  | lifts => exact ⟨fun h => (by cases h), fun _ => rfl⟩
  | pers => exact ⟨fun h => (by cases h), fun _ => rfl⟩
  | flats => exact ⟨fun h => (by cases h), fun _ => rfl⟩
  | wgt => exact ⟨fun h => (by cases h), fun _ => rfl⟩
  | ari ho _ _ hp hq ha hb => exact ⟨fun h => absurd h (wd_ne _ _), fun _ => by rw [occ2 4 [] (by omega), ha.2 hp, hb.2 hq, wd_two]⟩
  | mul _ _ hp hq _ ha hb => exact ⟨fun h => absurd h (wd_ne _ _), fun _ => by rw [occ2 4 [] (by decide), ha.2 hp, hb.2 hq, wd_two]⟩
  | div _ hp _ _ ha => exact ⟨fun h => absurd h hp, fun _ => by rw [occ2 4 [] (by decide), ha.2 hp]; exact Bool.or_false _⟩
  | @ite c a b p q _ _ _ hp hq hc ha hb =>
    refine ⟨fun h => absurd h (wd_ne _ _), fun _ => ?_⟩
    show (false || (occ 4 [] c || (occ 4 [] a || (occ 4 [] b || false)))) = _
    rw [hc.1 rfl, ha.2 hp, hb.2 hq, wd_two, Bool.or_false]; rfl
  | rel ho _ _ ha hb => exact ⟨fun _ => by rw [occ2 4 [] (by omega), ha.2 (by decide), hb.2 (by decide)]; rfl, fun h => absurd rfl h⟩
  | @not a _ ha =>
    refine ⟨fun _ => ?_, fun h => absurd rfl h⟩
    show (false || (occ 4 [] a || false)) = _
    rw [ha.1 rfl]; rfl
  | bin ho _ _ ha hb => exact ⟨fun _ => by rw [occ2 4 [] (by omega), ha.1 rfl, hb.1 rfl]; rfl, fun h => absurd rfl h⟩
/-! without a name -/
def uses (s : Rt.Bs) (x : M.Expr) : Bool := occ 4 s x || occ 1 s x
theorem evT_uniq {names : List Rt.Bs} : ∀ {l : List M.Expr} {rs rs' : List (Int × Int)}, EvT names l rs → EvT names l rs' → rs = rs'
  | [], [], [], _, _ => rfl
  | _ :: _, _ :: _, _ :: _, ⟨h1, h2⟩, ⟨h3, h4⟩ => by rw [h1.uniq h3, evT_uniq h2 h4]
  | [], _ :: _, _, h, _ => h.elim
  | [], [], _ :: _, _, h => h.elim
  | _ :: _, [], _, h, _ => h.elim
  | _ :: _, _ :: _, [], _, h => h.elim
theorem uses_any (s : Rt.Bs) (l : List M.Expr) : (occs 4 s l || occs 1 s l) = l.any (uses s) := by
  induction l with
  | nil => rfl
  | cons y l ih =>
    rw [List.any_cons, ← ih]
    show ((occ 4 s y || occs 4 s l) || (occ 1 s y || occs 1 s l)) = ((occ 4 s y || occ 1 s y) || (occs 4 s l || occs 1 s l))
    cases occ 4 s y <;> cases occ 1 s y <;> cases occs 4 s l <;> cases occs 1 s l <;> rfl
theorem uses_node (s : Rt.Bs) {o : Int} (ho : 5 ≤ o) (l : List M.Expr) : uses s ⟨o, 0, [], l⟩ = l.any (uses s) := by
  rw [← uses_any]
  show ((((o == 4) && _) || occs 4 s l) || (((o == 1) && _) || occs 1 s l)) = _
  rw [show (o == 4) = false by rw [beq_eq_false_iff_ne]; omega, show (o == 1) = false by rw [beq_eq_false_iff_ne]; omega]; rfl
section
variable {names names' : List Rt.Bs} {s : Rt.Bs}
def Less (names' : List Rt.Bs) (s : Rt.Bs) (x : M.Expr) (k : Int) : Prop := (uses s x = false → Typ names' x k) ∧ (uses s x = true → Ev (fun n => tariff_typed n x names') (0, 11))
theorem less_rs (hn : names'.length < 4611686018427387904) : ∀ {l : List M.Expr}, (∀ y, y ∈ l → ∃ p, Less names' s y p) → (∀ y, y ∈ l → Shx y) → ∃ rs, EvT names' l rs ∧ fe rs = if l.any (uses s) = true then 11 else 0
  | [], _, _ => ⟨[], trivial, rfl⟩
  | y :: l, H, hs => by
    obtain ⟨rs, h1, h2⟩ := less_rs hn (l := l) (fun z hz => H z (by simp [hz])) (fun z hz => hs z (by simp [hz]))
    obtain ⟨p, hf, ht⟩ := H y (by simp)
    rw [List.any_cons]
    cases hu : uses s y with
    | true => exact ⟨(0, 11) :: rs, ⟨ht hu, h1⟩, rfl⟩
    | false =>
      have hy := hs y (by simp)
      obtain ⟨r, er, hr⟩ := typed_x (shx_fit hy) names' hn hy
      obtain rfl := hr.2 p (hf hu)
      exact ⟨(p, 0) :: rs, ⟨er, h1⟩, by rw [Bool.false_or, ← h2]; rfl⟩
theorem less_node (hn : names'.length < 4611686018427387904) {o : Int} {l : List M.Expr} {k : Int} (ho : 5 ≤ o) (ht : Typ names ⟨o, 0, [], l⟩ k) (H : ∀ y, y ∈ l → ∃ p, Less names' s y p) (mk : (∀ y, y ∈ l → uses s y = false) → Typ names' ⟨o, 0, [], l⟩ k) : Less names' s ⟨o, 0, [], l⟩ k := by
  unfold Less
  rw [uses_node s ho]
  refine ⟨fun h => mk fun y hy => ?_, fun h => ?_⟩
  · rw [List.any_eq_false] at h
    simpa using h y hy
  · obtain ⟨rs, r, hrs, _, er, g1, _⟩ := typed_own ht.shx names' hn
    obtain ⟨rs', hrs', hfe⟩ := less_rs hn H ht.shx.inv.2.2.2.2
    obtain rfl := evT_uniq hrs hrs'
    rw [if_pos h] at hfe
    rw [g1 (by rw [hfe]; decide), hfe] at er
    exact er
theorem typed_less (hn : names'.length < 4611686018427387904) (hs : s ≠ []) (hm : ∀ x, x ∈ names' ↔ x ∈ names ∧ x ≠ s) {x : M.Expr} {k : Int} (ht : Typ names x k) : Less names' s x k := by
  have l2 : ∀ {a b : M.Expr} {p q : Int}, Less names' s a p → Less names' s b q → ∀ y, y ∈ [a, b] → ∃ p, Less names' s y p := fun ha hb y hy => by
    rcases List.mem_cons.1 hy with rfl | hy
    · exact ⟨_, ha⟩
    · obtain rfl := List.mem_singleton.1 hy; exact ⟨_, hb⟩
  have leafE : ∀ {o : Int} {u : Rt.Bs} {k : Int}, (o = 1 ∨ o = 4) → Typ names ⟨o, 0, u, []⟩ k → u ∈ names → (u ∈ names' → Typ names' ⟨o, 0, u, []⟩ k) → Less names' s ⟨o, 0, u, []⟩ k := by
    intro o u k ho ht hu mk
    have e : uses s ⟨o, 0, u, []⟩ = (u == s) := by
      have hs0 : (s == ([] : Rt.Bs)) = false := by simpa using hs
      rcases ho with rfl | rfl
      · show (((false && (s == [] || u == s)) || false) || ((true && (s == [] || u == s)) || false)) = _
        rw [hs0]; cases u == s <;> rfl
      · show (((true && (s == [] || u == s)) || false) || ((false && (s == [] || u == s)) || false)) = _
        rw [hs0]; cases u == s <;> rfl
    unfold Less
    rw [e]
    refine ⟨fun h => mk ((hm u).2 ⟨hu, by simpa using h⟩), fun h => ?_⟩
    have hus : u = s := by simpa using h
    have hno : ¬u ∈ names' := fun h5 => ((hm u).1 h5).2 hus
    refine Ev.suc (fun n => typed_K n _ _) (Ev.from (g := fun n => codeK names' ⟨o, 0, u, []⟩ n []) 1 (fun n hn => ?_) ?_)
    · obtain ⟨n, rfl⟩ : ∃ j, n = j + 1 := ⟨n - 1, by omega⟩
      rw [tariff_typed_L1_s]; rfl
    · unfold codeK
      refine Ev.bind (a := true) (by rcases ho with rfl | rfl <;> exact Ev.pure _) (Ev.then rfl ?_)
      refine Ev.bind ((Contains_ev u hn).eq (decide_eq_false hno)) (Ev.then rfl (Ev.pure _))
  induction ht with
  | num h1 h2 => exact ⟨fun _ => .num h1 h2, fun h => by cases h⟩
  | lifts h1 h2 => exact leafE (.inl rfl) (.lifts h1 h2) h2 fun h => .lifts h1 h
  | pers => exact ⟨fun _ => .pers, fun h => by cases h⟩
  | flats => exact ⟨fun _ => .flats, fun h => by cases h⟩
  | wgt h1 h2 => exact leafE (.inr rfl) (.wgt h1 h2) h2 fun h => .wgt h1 h
  | ari ho ta tb hp hq ha hb => exact less_node hn (by omega) (.ari ho ta tb hp hq) (l2 ha hb) fun h => .ari ho (ha.1 (h _ (by simp))) (hb.1 (h _ (by simp))) hp hq
  | mul ta tb hp hq h5 ha hb => exact less_node hn (by decide) (.mul ta tb hp hq h5) (l2 ha hb) fun h => .mul (ha.1 (h _ (by simp))) (hb.1 (h _ (by simp))) hp hq h5
  | @div a m p ta hp h1 h2 ha =>
    have hb : Less names' s ⟨0, m, [], []⟩ 1 := ⟨fun _ => .num (by omega) h2, fun h => by cases h⟩
    exact less_node hn (by decide) (.div ta hp h1 h2) (l2 ha hb) fun h => .div (ha.1 (h _ (by simp))) hp h1 h2
  | @ite c a b p q tc ta tb hp hq hc ha hb =>
    refine less_node hn (by decide) (.ite tc ta tb hp hq) (fun y hy => ?_) fun h => .ite (hc.1 (h _ (by simp))) (ha.1 (h _ (by simp))) (hb.1 (h _ (by simp))) hp hq
    rcases List.mem_cons.1 hy with rfl | hy
    · exact ⟨_, hc⟩
    · exact l2 ha hb y hy
  | rel ho ta tb ha hb => exact less_node hn (by omega) (.rel ho ta tb) (l2 ha hb) fun h => .rel ho (ha.1 (h _ (by simp))) (hb.1 (h _ (by simp)))
  | not ta ha =>
    refine less_node hn (by decide) (.not ta) (fun y hy => ?_) fun h => .not (ha.1 (h _ (by simp)))
    obtain rfl := List.mem_singleton.1 hy
    exact ⟨_, ha⟩
  | bin ho ta tb ha hb => exact less_node hn (by omega) (.bin ho ta tb) (l2 ha hb) fun h => .bin ho (ha.1 (h _ (by simp))) (hb.1 (h _ (by simp)))
end
theorem lsl_dropP {α : Type} {l : List α} {k : Nat} (h : k ≤ l.length) : lsl l (k : Int) (l.length : Int) = some (l.drop k) := by
  rw [lsl_eq h (Nat.le_refl _), List.take_length]
theorem lsl_takeP {α : Type} {l : List α} {k : Nat} (h : k ≤ l.length) : lsl l 0 (k : Int) = some (l.take k) := by
  have := lsl_eq (l := l) (p := 0) (q := k) (by omega) h
  simpa using this
theorem app_nil {α : Type} {b : Nat} (l : List α) (h : l.length * b ≤ 140737488355328) : app b [] l = some l := by rw [app_ok (by simpa using h)]; rfl
theorem name_ne {s : Rt.Bs} (h : Lx.name s = true) : s ≠ [] := by
  intro e; subst e; revert h; decide
/-- one round: without the name at i -/
theorem types_L {t : Tariff} {names : List Rt.Bs} {k : Int} (hx : Fit t.Fee) (hf : Frm t.Fee) (hn : names.length ≤ 10) (hnm : named names = true) (ht : Typ names t.Fee k) : ∀ (us : List Rt.Bs) (i : Nat), names.drop i = us →
    ∃ N, ∀ n m, N ≤ n → us.length < m → law35_TariffTypes_L1 n t names (some true) m (i : Int) = some true
  | [], i, hd => by
    refine ⟨0, fun n m _ hm => ?_⟩
    obtain ⟨m, rfl⟩ := left hm
    rw [law35_TariffTypes_L1_s, more_no hd]; rfl
  | x :: us, i, hd => by
    obtain ⟨h1, h2, h3⟩ := drop_cons hd
    obtain ⟨nm1, nm2, nm3⟩ := (named_iff names).1 hnm
    have hsp : names = names.take i ++ x :: us := by rw [← hd, List.take_append_drop]
    have hnd : (names.take i ++ x :: us).Nodup := by rw [← hsp]; exact nm2
    rw [List.nodup_append, List.nodup_cons] at hnd
    have hxin : x ∈ names := by rw [hsp]; simp
    have hmem : ∀ y, y ∈ names.take i ++ us ↔ y ∈ names ∧ y ≠ x := by
      intro y
      constructor
      · intro hy
        refine ⟨?_, ?_⟩
        · rw [hsp]; rcases List.mem_append.1 hy with h | h
          · exact List.mem_append.2 (.inl h)
          · exact List.mem_append.2 (.inr (by simp [h]))
        · rintro rfl
          rcases List.mem_append.1 hy with h | h
          · exact hnd.2.2 y h y (by simp) rfl
          · exact hnd.2.1.1 h
      · rintro ⟨hy, hne⟩
        rw [hsp] at hy
        rcases List.mem_append.1 hy with h | h
        · exact List.mem_append.2 (.inl h)
        · rcases List.mem_cons.1 h with rfl | h
          · exact absurd rfl hne
          · exact List.mem_append.2 (.inr h)
    have hlen : (names.take i ++ us).length ≤ 10 := by
      have : names.length = (names.take i ++ x :: us).length := by rw [← hsp]
      simp only [List.length_append, List.length_cons] at this ⊢
      omega
    have hnm' : named (names.take i ++ us) = true := by
      refine (named_iff _).2 ⟨fun y hy => nm1 y ((hmem y).1 hy).1, ?_, ?_⟩
      · exact List.nodup_append.2 ⟨hnd.1, hnd.2.1.2, fun a ha b hb => hnd.2.2 a ha b (by simp [hb])⟩
      · have : names.length = (names.take i ++ x :: us).length := by rw [← hsp]
        simp only [List.length_append, List.length_cons] at this ⊢
        omega
    have hn' : (names.take i ++ us).length < 4611686018427387904 := by omega
    have hless := typed_less hn' (name_ne (nm1 x hxin)) hmem ht
    have hev : Ev (fun n => tariff_Type n t.Fee (names.take i ++ us)) (if uses x t.Fee = true then (0, 11) else (k, 0)) := by
      cases hu : uses x t.Fee with
      | true => exact type_of hn' hnm' hx hf (hless.2 hu)
      | false =>
        obtain ⟨r, er, hr⟩ := typed_x hx (names.take i ++ us) hn' hf.2
        obtain rfl := hr.2 k (hless.1 hu)
        exact type_of hn' hnm' hx hf er
    obtain ⟨N1, e1⟩ := hev
    obtain ⟨N2, e2⟩ := occurs_ev 4 x hx
    obtain ⟨N3, e3⟩ := occurs_ev 1 x hx
    obtain ⟨N, ih⟩ := types_L hx hf hn hnm ht us (i + 1) h2
    refine ⟨max N (max N1 (max N2 N3)), fun n m hn2 hm => ?_⟩
    obtain ⟨m, rfl, hm2⟩ := pred (by simpa using hm)
    have e1 := e1 n (by omega)
    have e2 := e2 n (by omega)
    have e3 := e3 n (by omega)
    dsimp only at e1 e2 e3
    have hil : i ≤ names.length := by omega
    have i1 : iadd .i64 (i : Int) 1 = ((i + 1 : Nat) : Int) := inc64 (by omega)
    have tl : (names.take i).length ≤ 10 := by rw [List.length_take]; omega
    have dl : (names.drop (i + 1)).length ≤ 10 := by rw [List.length_drop]; omega
    rw [law35_TariffTypes_L1_s, more_yes hd, cond_true, lsl_takeP hil, Option.bind_some, i1, lsl_dropP (by omega), Option.bind_some, app_nil _ (by omega), Option.bind_some, app_ok (by omega), Option.bind_some, h2, e1, Option.bind_some, h1, Option.bind_some, e2, Option.bind_some]
    have hor : (bif occ 4 x t.Fee then some true else (some x).bind fun ex2 => (law35_occurs n t.Fee 1 ex2).bind fun v21 => some v21) = some (uses x t.Fee) := by
      rw [Option.bind_some, e3]
      unfold uses
      cases occ 4 x t.Fee <;> rfl
    rw [hor, Option.bind_some]
    cases hu : uses x t.Fee with
    | true => exact ih n m (by omega) hm2
    | false => exact ih n m (by omega) hm2
theorem types_ev (t : Tariff) (names : List Rt.Bs) (more : Rt.Bs) : Ev (fun n => law35_TariffTypes n t names more) true := by
  unfold law35_TariffTypes
  refine Ev.bind small35 ?_
  have T : ∀ {x : Nat → Option Bool}, Ev (fun n => bif true then some true else x n) true := fun {x} => Ev.then rfl (Ev.pure _)
  obtain ⟨b, eb, hb⟩ := limited_t t
  refine Ev.bind eb ?_
  cases b with
  | false => exact Ev.bind T (Ev.bind T T)
  | true =>
  have hx : Fit t.Fee := hb rfl
  obtain ⟨b, eb, hn⟩ := few35_t names
  refine Ev.bind (a := !b) (Ev.else rfl (Ev.bind eb (Ev.pure _))) ?_
  cases b with
  | false => exact Ev.bind T T
  | true =>
  have hn := hn rfl
  refine Ev.bind (Ev.else rfl (Ev.pure _)) ?_
  cases decide (60 < (more.length : Int)) with
  | true => exact T
  | false =>
  refine Ev.else rfl ?_
  have hn' : names.length < 4611686018427387904 := by omega
  obtain ⟨pr, epr, hpr⟩ := print_ev hx
  obtain ⟨ce, ece, hce⟩ := check_x hx names hn'
  -- an error
  have bad : ∀ e : Int, e ≠ 0 → ¬Chk names t → Ev (fun n => tariff_Type n t.Fee names) (0, e) → Ev (fun n => (tariff_Type n t.Fee names).bind fun v5 => (tariff_Print n t).bind fun v6 =>
      bif v5.2 != 0 then (bif true then some (v5.1 == 0) else some false).bind fun v7 => (bif v7 then (tariff_Check n t names).bind fun v9 => some (v9 != 0) else some false).bind fun v8 => some v8
      else (bif v5.1 != 0 then (law35_occurs n t.Fee 4 []).bind fun v26 => some v26 else some false).bind fun v10 => (bif !((v5.1 == 2) == v10) then some true else some (decide (v5.1 < 0))).bind fun v11 =>
        (bif v11 then some true else some (decide (3 ≤ v5.1))).bind fun v12 => (bif v12 then some true else (tariff_Check n t names).bind fun v24 => (bif v6.2 then some (v5.1 != 0) else some false).bind fun v25 => some (!((v24 == 0) == v25))).bind fun v13 =>
        bif v13 then some false else ((app 16 [] names).bind fun l5 => (app 16 l5 [more]).bind fun l6 => (tariff_Type n t.Fee l6).bind fun v23 => some (v23.1, v23.2)).bind fun (nx1, f1) =>
          (bif f1 == 0 then some (nx1 != v5.1) else some false).bind fun v14 => (bif v14 then some true else (bif f1 != 0 then some (f1 != 1) else some false).bind fun v22 => some v22).bind fun v15 =>
          bif v15 then some false else law35_TariffTypes_L1 n t names (some true) n 0) true := by
    intro e he hc er
    have hce0 : ce ≠ 0 := fun h => hc (hce.1 h)
    refine Ev.bind er (Ev.bind epr (Ev.then (by simpa using he) ?_))
    exact Ev.bind (a := true) (Ev.then rfl (Ev.pure _)) (Ev.bind (a := true) (Ev.then rfl (Ev.bind ece ((Ev.pure _).eq (by simpa using hce0)))) (Ev.pure _))
  cases hnm : named names with
  | false => exact bad 1 (by decide) (fun h => by rw [h.1] at hnm; cases hnm) (type_bad hn' hnm t.Fee)
  | true =>
  by_cases hf : Frm t.Fee
  rotate_left
  · exact bad 2 (by decide) (fun h => hf h.2.1.2.1) (type_form hn' hnm hx hf)
  obtain ⟨r, er, hr⟩ := typed_x hx names hn' hf.2
  by_cases h0 : r.2 = 0
  rotate_left
  · have hz : r.1 = 0 := typed_zero hf.2 names hn' er h0
    obtain ⟨r1, r2⟩ := r
    dsimp only at h0 hz
    subst hz
    refine bad r2 h0 (fun h => ?_) (type_of hn' hnm hx hf er)
    obtain ⟨k, _, hk⟩ := h.2.2
    exact h0 (Prod.mk.inj (hr.2 k hk)).2
  obtain ⟨k, r2⟩ := r
  dsimp only at h0
  subst h0
  have ht : Typ names t.Fee k := hr.1 rfl
  have hk := ht.range
  refine Ev.bind (type_of hn' hnm hx hf er) (Ev.bind epr (Ev.else rfl ?_))
  have hocc := typ_occ ht
  have h10 : Ev (fun n => bif k != 0 then (law35_occurs n t.Fee 4 []).bind fun v26 => some v26 else some false) (k == 2) := by
    by_cases hk0 : k = 0
    · subst hk0; exact Ev.else rfl (Ev.pure _)
    · refine Ev.then (by simpa using hk0) (Ev.bind (occurs_ev 4 [] hx) ((Ev.pure _).eq (hocc.2 hk0)))
  refine Ev.bind h10 (Ev.bind (a := false) (Ev.else (by rw [beq_self_eq_true]; rfl) ((Ev.pure _).eq (decide_eq_false (by omega)))) (Ev.bind (a := false) (Ev.else rfl ((Ev.pure _).eq (decide_eq_false (by omega)))) ?_))
  refine Ev.bind (a := false) (Ev.else rfl (Ev.bind ece ?_)) (Ev.else rfl ?_)
  · have hw : pr.2 = true ↔ Wrt t := by
      rcases hpr with ⟨h, e⟩ | ⟨h, e⟩
      · rw [e]; exact ⟨fun _ => h, fun _ => rfl⟩
      · rw [e]; exact ⟨fun h => (by cases h), fun h5 => absurd h5 h⟩
    refine Ev.bind (a := pr.2 && k != 0) (by cases pr.2 <;> exact Ev.pure _) ((Ev.pure _).eq ?_)
    have hiff : (ce == 0) = (pr.2 && k != 0) := by
      by_cases hc : Chk names t
      · rw [hce.2 hc]
        obtain ⟨k2, hk2, tk2⟩ := hc.2.2
        have : k2 = k := (Prod.mk.inj (hr.2 k2 tk2)).1.symm
        rw [hw.2 hc.2.1, show (k != 0) = true by rw [← this]; simpa using hk2]; rfl
      · have h1 : ce ≠ 0 := fun h => hc (hce.1 h)
        rw [show (ce == 0) = false by simpa using h1]
        cases h2 : pr.2 with
        | false => rfl
        | true =>
          by_cases hk0 : k = 0
          · rw [hk0]; rfl
          · exact absurd ⟨hnm, hw.1 h2, k, hk0, ht⟩ hc
    rw [hiff]
    cases pr.2 && k != 0 <;> rfl
  -- with a further name
  have hln : (names ++ [more]).length = names.length + 1 := by simp
  have hmore : ∃ r : Int × Int, Ev (fun n => tariff_Type n t.Fee (names ++ [more])) r ∧ (r = (k, 0) ∨ r = (0, 1)) := by
    cases hnm2 : named (names ++ [more]) with
    | false => exact ⟨_, type_bad (by omega) hnm2 _, .inr rfl⟩
    | true =>
      obtain ⟨r, er2, hr2⟩ := typed_x hx (names ++ [more]) (by omega) hf.2
      obtain rfl := hr2.2 k (typ_names (fun s hs => by simp [hs]) ht)
      exact ⟨_, type_of (by omega) hnm2 hx hf er2, .inl rfl⟩
  obtain ⟨r2, er2, hr2⟩ := hmore
  refine Ev.bind (a := (r2.1, r2.2)) (Ev.step (app_nil _ (by omega)) (Ev.step (app_ok (by simp only [List.length_singleton]; omega)) (Ev.bind er2 (Ev.pure _)))) ?_
  obtain ⟨N, hL⟩ := types_L hx hf hn hnm ht names 0 rfl
  have hloop : Ev (fun n => law35_TariffTypes_L1 n t names (some true) n 0) true := ⟨N + names.length + 1, fun n hn => hL n n (by omega) (by omega)⟩
  rcases hr2 with rfl | rfl
  · refine Ev.bind (a := false) (Ev.then rfl ((Ev.pure _).eq (bne_self_eq_false _))) (Ev.bind (a := false) (Ev.else rfl (Ev.bind (Ev.else rfl (Ev.pure _)) (Ev.pure _))) (Ev.else rfl hloop))
  · exact Ev.bind (a := false) (Ev.else rfl (Ev.pure _)) (Ev.bind (a := false) (Ev.else rfl (Ev.bind (Ev.then rfl (Ev.pure _)) (Ev.pure _))) (Ev.else rfl hloop))
end Go.Proofs.YtpihabofmnnbbaaDoor.Pr
