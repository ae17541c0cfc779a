/-
  The examples of the documentation; the types of the Args.
-/
import Derived.Test.YtpihabofmnnbbaaDoorPrA
import Derived.Test.YtpihabofmnnbbaaDoorMirS
namespace Go.Proofs.YtpihabofmnnbbaaDoor.Pr
open Go Rt M Ta Tp

theorem small35 : Ev law35_small true := ⟨400, fun n hn => by
  obtain ⟨m, rfl⟩ := Nat.le.dest hn
  rw [Nat.add_comm]
  exact (show law35_small (m + 400) = some true by kernel_rfl)⟩
/-- the first error -/
def fe : List (Int × Int) → Int
  | [] => 0
  | r :: rs => if r.2 ≠ 0 then r.2 else fe rs
def EvT (names : List Rt.Bs) : List M.Expr → List (Int × Int) → Prop
  | [], [] => True
  | y :: us, r :: rs => Ev (fun n => tariff_typed n y names) r ∧ EvT names us rs
  | _, _ => False
theorem typed_first (x : M.Expr) (names : List Rt.Bs) (hx : x.Args.length ≤ 1000000) : ∀ (us : List M.Expr) (rs : List (Int × Int)) (i : Nat) (acc : List Int), x.Args.drop i = us → acc.length = i → EvT names us rs →
    ∃ N, ∀ n m kont, N ≤ n → us.length < m → tariff_typed_L1 n (tariff_typed n) x names kont m (i : Int) acc = if fe rs ≠ 0 then some (0, fe rs) else kont (acc ++ rs.map (·.1))
  | [], [], i, acc, hd, ha, _ => by
    refine ⟨0, fun n m kont _ hm => ?_⟩
    obtain ⟨m, rfl⟩ := left hm
    rw [tariff_typed_L1_s, more_no hd]
    show kont acc = if (0 : Int) ≠ 0 then _ else kont (acc ++ [])
    rw [if_neg (fun h => h rfl), List.append_nil]
  | [], _ :: _, _, _, _, _, h => h.elim
  | _ :: _, [], _, _, _, _, h => h.elim
  | y :: us, (k, e) :: rs, i, acc, hd, ha, ⟨⟨N1, e1⟩, h⟩ => by
    obtain ⟨h1, h2, h3⟩ := drop_cons hd
    obtain ⟨N, ih⟩ := typed_first x names hx us rs (i + 1) (acc ++ [k]) h2 (by simp [ha]) h
    refine ⟨max N N1, fun n m kont hn hm => ?_⟩
    obtain ⟨m, rfl, hm2⟩ := pred (by simpa using hm)
    have e1 : tariff_typed n y names = some (k, e) := e1 n (by omega)
    rw [tariff_typed_L1_s, more_yes hd, cond_true, h1, Option.bind_some, e1, Option.bind_some]
    by_cases he : e = 0
    · subst he
      show ((app 8 acc [k]).bind fun l3 => _) = if fe rs ≠ 0 then _ else kont (acc ++ k :: rs.map (·.1))
      rw [app_ok (by simp only [List.length_cons, List.length_nil]; omega), Option.bind_some, inc64 (by omega), ih n m kont (by omega) hm2, List.append_assoc]; rfl
    · have hf : fe ((k, e) :: rs) = e := if_pos he
      rw [hf, if_pos he]
      dsimp only
      rw [show (e != 0) = true by simpa using he]; rfl
def Own (r : Int × Int) : Prop := r.2 = 0 ∨ r = (0, 11) ∨ r = (0, 13) ∨ r = (0, 14)
theorem all_own (k : Int) {l : List Int} (hl : l.length ≤ 1000000) (w : Int) : Tt Own (fun n => tariff_all n k l w) := by
  unfold tariff_all
  obtain ⟨r, h⟩ := IndexFunc_I l hl (fun n q => tariff_all_1 n q w) (fun q => q != w) (fun _ _ => rfl) l 0 rfl
  refine Tt.evb (a := decide (0 ≤ r)) ⟨l.length + 1, fun n hn => ?_⟩ (Tt.bif (fun _ => Tt.pure (.inr (.inr (.inl rfl)))) (fun _ => Tt.pure (.inl rfl)))
  unfold slices_ContainsFunc_int_int slices_IndexFunc_int_int
  dsimp only
  have e : slices_IndexFunc_int_int_L1 n l (fun q => tariff_all_1 n q w) (some (-1)) n 0 = some r := h n n (by omega)
  rw [e]; rfl
theorem join_own (a b : Int) : Tt Own (fun n => (tariff_join n a b).bind fun v => some (v.1, v.2)) := by
  refine Tt.of (join_evX a b) ?_
  rcases joinX_cases a b with ⟨_, e⟩ | ⟨_, e⟩ <;> rw [e]
  · exact .inl rfl
  · exact .inr (.inr (.inl rfl))
/-- what is done with the types of the Args has an error of its own -/
theorem code_own {o k : Int} {s : Rt.Bs} {l : List M.Expr} (hs : Shx ⟨o, k, s, l⟩) (names : List Rt.Bs) (hn : names.length < 4611686018427387904) (hl : l.length ≤ 1000000) (l2 : List Int) (hl2 : l2.length = l.length) : Tt Own (fun n => codeK names ⟨o, k, s, l⟩ n l2) := by
  obtain ⟨h1, h2, h3, _, _⟩ := hs.inv
  unfold codeK
  refine Tt.bind (P := fun b => b = false → o ≠ 1 ∧ o ≠ 4) (Tt.bif (fun _ => Tt.pure fun h => (by cases h)) (fun h => Tt.pure fun h2 => ⟨by simpa using h, by simpa using h2⟩)) fun b1 hb1 => ?_
  refine Tt.bif (fun _ => ?_) (fun h5 => ?_)
  · refine Tt.evb (Contains_ev s hn) ?_
    exact Tt.bif (fun _ => Tt.pure (.inr (.inl rfl))) (fun _ => Tt.bif (fun _ => Tt.pure (.inl rfl)) (fun _ => Tt.pure (.inl rfl)))
  refine Tt.bind (P := fun b => b = false → o ≠ 0 ∧ o ≠ 2 ∧ o ≠ 3) (Tt.bif (fun _ => Tt.pure fun h => (by cases h)) (fun h => Tt.bif (fun _ => Tt.pure fun h => (by cases h)) (fun h2 => Tt.pure fun h3 => ⟨by simpa using h, by simpa using h2, by simpa using h3⟩))) fun b2 hb2 => ?_
  refine Tt.bif (fun _ => Tt.pure (.inl rfl)) (fun h6 => ?_)
  have g1 := hb1 h5
  have g2 := hb2 h6
  have ho : 5 ≤ o := by omega
  have own2 : ∀ (r : Int × Int), Own r → Own (r.1, r.2) := fun r h => h
  refine Tt.cond (fun b3 => ?_) true
  refine Tt.bif (fun _ => ?_) (fun _ => ?_)
  · exact Tt.bind (all_own 0 (by omega) 1) fun r hr => Tt.pure (own2 r hr)
  refine Tt.bind (P := fun b => b = false → o ≠ 14) (Tt.bif (fun _ => Tt.pure fun h => (by cases h)) (fun h => Tt.weak (P := fun _ => True) (Tt.bif (fun _ => Tt.pure trivial) (fun _ => Tt.pure trivial)) fun _ _ _ => by simpa using h)) fun b4 hb4 => ?_
  refine Tt.bif (fun _ => ?_) (fun h7 => ?_)
  · exact Tt.bind (all_own 0 (by omega) 0) fun r hr => Tt.pure (own2 r hr)
  have g3 := hb4 h7
  have hlen : 2 ≤ l2.length := by
    rw [hl2]
    have : (2 : Int) ≤ argsN o := by
      unfold argsN
      rw [if_neg (by omega), if_neg g3]; split <;> decide
    omega
  have i0 : ix l2 0 = some l2[0] := ix_some (i := 0) (by omega)
  have i1 : ix l2 1 = some l2[1] := ix_some (i := 1) (by omega)
  refine Tt.bif (fun h8 => ?_) (fun _ => ?_)
  · have h8' : o = 11 := by simpa using h8
    have hl3 : 2 < l2.length := by
      rw [hl2]
      have : (l.length : Int) = 3 := by rw [h3, h8']; rfl
      omega
    have i2 : ix l2 2 = some l2[2] := ix_some (i := 2) hl3
    refine Tt.step i0 (Tt.bif (fun _ => Tt.pure (.inr (.inr (.inl rfl)))) (fun _ => ?_))
    exact Tt.step i1 (Tt.step i2 (join_own _ _))
  have two : Tt Own (fun n => (ix l2 0).bind fun a => (ix l2 1).bind fun b => (tariff_join n a b).bind fun v => some (v.1, v.2)) := Tt.step i0 (Tt.step i1 (join_own _ _))
  refine Tt.bif (fun _ => ?_) (fun _ => ?_)
  · refine Tt.step i0 ?_
    refine Tt.bind (P := fun _ => True) (Tt.bif (fun _ => Tt.step i1 (Tt.pure trivial)) (fun _ => Tt.pure trivial)) fun _ _ => ?_
    exact Tt.bif (fun _ => Tt.pure (.inr (.inr (.inl rfl)))) (fun _ => two)
  refine Tt.bif (fun _ => ?_) (fun _ => two)
  refine Tt.step (ix_some (l := l) (i := 1) (by omega)) ?_
  exact Tt.bif (fun _ => Tt.pure (.inr (.inr (.inl rfl)))) (fun _ => Tt.bif (fun _ => Tt.pure (.inr (.inr (.inr rfl)))) (fun _ => two))
theorem evT_of (names : List Rt.Bs) : ∀ {l : List M.Expr}, (∀ y, y ∈ l → ∃ r, Ev (fun n => tariff_typed n y names) r) → ∃ rs, EvT names l rs ∧ rs.length = l.length
  | [], _ => ⟨[], trivial, rfl⟩
  | y :: l, h => by
    obtain ⟨r, hr⟩ := h y (by simp)
    obtain ⟨rs, h1, h2⟩ := evT_of names (l := l) (fun z hz => h z (by simp [hz]))
    exact ⟨r :: rs, ⟨hr, h1⟩, by simp [h2]⟩
theorem shx_fit {x : M.Expr} (h : Shx x) : Fit x := by
  induction h with
  | @mk o n s l h0 h16 hl _ _ ih =>
    refine Fit.mk ?_ ih
    have : argsN o ≤ 3 := by
      unfold argsN
      split
      · decide
      · split
        · decide
        · split <;> decide
    omega
/-- an expression's error is the first one of its Args, or one of its own -/
theorem typed_own {o k : Int} {s : Rt.Bs} {l : List M.Expr} (hs : Shx ⟨o, k, s, l⟩) (names : List Rt.Bs) (hn : names.length < 4611686018427387904) : ∃ rs r, EvT names l rs ∧ rs.length = l.length ∧ Ev (fun n => tariff_typed n ⟨o, k, s, l⟩ names) r ∧ (fe rs ≠ 0 → r = (0, fe rs)) ∧ (fe rs = 0 → Own r) := by
  have hf := shx_fit hs
  have hl : l.length ≤ 1000000 := by cases hf; assumption
  have hch := hs.inv.2.2.2.2
  obtain ⟨rs, hrs, hlen⟩ := evT_of names (l := l) (fun y hy => by
    obtain ⟨r, hr, _⟩ := typed_x (shx_fit (hch y hy)) names hn (hch y hy)
    exact ⟨r, hr⟩)
  obtain ⟨N, h⟩ := typed_first ⟨o, k, s, l⟩ names hl l rs 0 [] rfl rfl hrs
  by_cases h0 : fe rs = 0
  · obtain ⟨r, hr, ho⟩ := code_own hs names hn hl (rs.map (·.1)) (by rw [List.length_map, hlen])
    refine ⟨rs, r, hrs, hlen, ?_, fun h => absurd h0 h, fun _ => ho⟩
    refine Ev.suc (fun n => typed_K n _ _) (Ev.from (N + l.length + 1) (fun n hn => ?_) hr)
    have := h n n (codeK names ⟨o, k, s, l⟩ n) (by omega) (by omega)
    rw [if_neg (fun h => h h0), List.nil_append] at this
    exact this
  · refine ⟨rs, (0, fe rs), hrs, hlen, ?_, fun _ => rfl, fun h => absurd h h0⟩
    refine Ev.suc (fun n => typed_K n _ _) ⟨N + l.length + 1, fun n hn => ?_⟩
    have := h n n (codeK names ⟨o, k, s, l⟩ n) (by omega) (by omega)
    rw [if_pos h0] at this
    exact this
theorem typed_zero {x : M.Expr} (hs : Shx x) (names : List Rt.Bs) (hn : names.length < 4611686018427387904) {r : Int × Int} (hr : Ev (fun n => tariff_typed n x names) r) (h0 : r.2 ≠ 0) : r.1 = 0 := by
  obtain ⟨o, k, s, l⟩ := x
  obtain ⟨rs, r', _, _, er, g1, g2⟩ := typed_own hs names hn
  obtain rfl := hr.uniq er
  by_cases h : fe rs = 0
  · rcases g2 h with h5 | h5 | h5 | h5
    · exact absurd h5 h0
    · rw [h5]
    · rw [h5]
    · rw [h5]
  · rw [g1 h]
/-! what Type says -/
theorem cnt_argP {x : M.Expr} : ∀ {y : M.Expr}, y ∈ x.Args → cnt y < cnt x ∧ dep y < dep x := by
  obtain ⟨o, n, s, l⟩ := x
  have h1 : cnt ⟨o, n, s, l⟩ = cnts l + 1 := rfl
  have h2 : dep ⟨o, n, s, l⟩ = deps l + 1 := rfl
  have h3 : ∀ (l : List M.Expr) (y : M.Expr), y ∈ l → cnt y ≤ cnts l ∧ dep y ≤ deps l := by
    intro l
    induction l with
    | nil => intro y hy; cases hy
    | cons z l ih =>
      intro y hy
      have e1 : cnts (z :: l) = cnt z + cnts l := rfl
      have e2 : deps (z :: l) = max (dep z) (deps l) := rfl
      rcases List.mem_cons.1 hy with rfl | hy
      · omega
      · have := ih y hy; omega
  intro y hy
  have := h3 l y hy
  omega
theorem frm_argP {x y : M.Expr} (h : Frm x) (hy : y ∈ x.Args) : Frm y := by
  have h1 := cnt_argP hy
  refine ⟨⟨by have := h.1.1; omega, by have := h.1.2; omega⟩, ?_⟩
  obtain ⟨o, n, s, l⟩ := x
  exact h.2.inv.2.2.2.2 y hy
theorem fit_argP {x y : M.Expr} (h : Fit x) (hy : y ∈ x.Args) : Fit y := by
  cases h with
  | mk _ h2 => exact h2 y hy
theorem type_bad {names : List Rt.Bs} (hn : names.length < 4611686018427387904) (h : named names = false) (x : M.Expr) : Ev (fun n => tariff_Type n x names) (0, 1) := by
  unfold tariff_Type
  exact Ev.bind (named_ev hn) (Ev.then (by rw [h]; rfl) (Ev.pure _))
theorem type_form {names : List Rt.Bs} (hn : names.length < 4611686018427387904) (h : named names = true) {x : M.Expr} (hx : Fit x) (hf : ¬Frm x) : Ev (fun n => tariff_Type n x names) (0, 2) := by
  unfold tariff_Type
  obtain ⟨b, eb, hb⟩ := form_x hx
  have hb0 : b = false := by cases b with
    | true => exact absurd (hb.1 rfl) hf
    | false => rfl
  subst hb0
  exact Ev.bind (named_ev hn) (Ev.else (by rw [h]; rfl) (Ev.bind eb (Ev.then rfl (Ev.pure _))))
theorem type_of {names : List Rt.Bs} (hn : names.length < 4611686018427387904) (h : named names = true) {x : M.Expr} (hx : Fit x) (hf : Frm x) {r : Int × Int} (hr : Ev (fun n => tariff_typed n x names) r) : Ev (fun n => tariff_Type n x names) r := by
  unfold tariff_Type
  obtain ⟨b, eb, hb⟩ := form_x hx
  obtain rfl := hb.2 hf
  exact Ev.bind (named_ev hn) (Ev.else (by rw [h]; rfl) (Ev.bind eb (Ev.else rfl (Ev.bind hr (Ev.pure _)))))
end Go.Proofs.YtpihabofmnnbbaaDoor.Pr
