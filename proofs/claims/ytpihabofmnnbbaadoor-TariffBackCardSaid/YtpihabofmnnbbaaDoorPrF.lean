/-
  READING what was printed: the leaves, min and max; all expressions that can be written.
-/
import Derived.Test.YtpihabofmnnbbaaDoorPrE
namespace Go.Proofs.YtpihabofmnnbbaaDoor.Pr
open Go Rt M Ta Tp

theorem one_sign {l : List Token} {a : Nat} {c : UInt8} {ws : List Token} (hb : Bg l a (wS c :: ws)) (hl : l.length ≤ 1000000) : Ev (fun n => tariff_reader_need n (Rd l a 0) [[c]]) (Rd l (a + 1) 0) ∧ Bg l (a + 1) ws :=
  ⟨need_b [wS c] (Bg.cut (u := [wS c]) hb).1 hl (by intro w hw; obtain rfl := List.mem_singleton.1 hw; exact .inr rfl) (Nat.le_add_left 1 999), (Bg.cut (u := [wS c]) hb).2⟩
theorem atom_num (n : Int) : AtomOk ⟨0, n, [], []⟩ := by
  intro l a b hl hg hb
  have hg : Bg l a [wK n] := hg
  obtain ⟨⟨k1, t1, n1, p1⟩, f1, _, g1, g2, g3, g4, g5⟩ := hg.next
  obtain rfl : k1 = 1 := g1
  obtain rfl : n1 = n := g3
  obtain rfl : b = a + 1 := hb
  refine Ev.suc (fun m => tariff_reader_atom_s m _) (Ev.bind (Ev.all f1) (Ev.then rfl ?_))
  rw [show iadd .i64 (a : Int) 1 = ((a + 1 : Nat) : Int) from inc64 (by omega)]
  exact Ev.pure _
theorem atom_persons : AtomOk ⟨2, 0, [], []⟩ := by
  intro l a b hl hg hb
  have hg : Bg l a [wN [112, 101, 114, 115, 111, 110, 115]] := hg
  obtain ⟨⟨k1, t1, n1, p1⟩, f1, _, g1, g2, g3, g4, g5⟩ := hg.next
  obtain rfl : k1 = 0 := g1
  obtain rfl : t1 = _ := g2
  obtain rfl : b = a + 1 := hb
  refine Ev.suc (fun m => tariff_reader_atom_s m _) (Ev.bind (Ev.all f1) (Ev.else rfl (Ev.step (a := false) rfl (Ev.else rfl (Ev.else rfl (Ev.then rfl ?_))))))
  rw [show iadd .i64 (a : Int) 1 = ((a + 1 : Nat) : Int) from inc64 (by omega)]
  exact Ev.pure _
theorem atom_flats : AtomOk ⟨3, 0, [], []⟩ := by
  intro l a b hl hg hb
  have hg : Bg l a [wN [102, 108, 97, 116, 115]] := hg
  obtain ⟨⟨k1, t1, n1, p1⟩, f1, _, g1, g2, g3, g4, g5⟩ := hg.next
  obtain rfl : k1 = 0 := g1
  obtain rfl : t1 = _ := g2
  obtain rfl : b = a + 1 := hb
  refine Ev.suc (fun m => tariff_reader_atom_s m _) (Ev.bind (Ev.all f1) (Ev.else rfl (Ev.step (a := false) rfl (Ev.else rfl (Ev.else rfl (Ev.else rfl (Ev.then rfl ?_)))))))
  rw [show iadd .i64 (a : Int) 1 = ((a + 1 : Nat) : Int) from inc64 (by omega)]
  exact Ev.pure _
theorem atom_of_name {o : Int} (ho : o = 1 ∨ o = 4) (s : Rt.Bs) : AtomOk ⟨o, 0, s, []⟩ := by
  intro l a b hl hg hb
  have key : ∀ k : Rt.Bs, (o = 1 ∧ k = [108, 105, 102, 116, 115] ∨ o = 4 ∧ k = [119, 101, 105, 103, 104, 116]) → Bg l a [wN k, wS 40, wN s, wS 41] → Ev (fun n => tariff_reader_atom n (Rd l a 0)) (Rd l (a + 4) 0, ⟨o, 0, s, []⟩) := by
    intro k hk hg
    obtain ⟨⟨k1, t1, n1, p1⟩, f1, _, g1, g2, g3, g4, g5⟩ := hg.next
    obtain rfl : k1 = 0 := g1
    obtain rfl : t1 = k := g2
    obtain ⟨e1, h1⟩ := one_sign g5 hl
    obtain ⟨t, e2, e3, _⟩ := one_b h1 hl
    have h2 := (Bg.cut (u := [wN s]) h1).2
    obtain ⟨e4, _⟩ := one_sign h2 hl
    obtain ⟨k2, t2, n2, p2⟩ := t
    obtain rfl : t2 = s := e3
    refine Ev.suc (fun m => tariff_reader_atom_s m _) (Ev.bind (Ev.all f1) ?_)
    rw [show iadd .i64 (a : Int) 1 = ((a + 1 : Nat) : Int) from inc64 (by omega)]
    rcases hk with ⟨rfl, rfl⟩ | ⟨rfl, rfl⟩
    · refine Ev.else rfl (Ev.step (a := false) rfl (Ev.else rfl (Ev.else rfl (Ev.else rfl (Ev.else rfl (Ev.step (a := true) rfl (Ev.then rfl (Ev.step (a := 1) rfl ?_))))))))
      exact Ev.bind e1 (Ev.bind (Ev.all e2) (Ev.bind e4 (Ev.pure _)))
    · refine Ev.else rfl (Ev.step (a := false) rfl (Ev.else rfl (Ev.else rfl (Ev.else rfl (Ev.else rfl (Ev.step (a := true) rfl (Ev.then rfl (Ev.step (a := 4) rfl ?_))))))))
      exact Ev.bind e1 (Ev.bind (Ev.all e2) (Ev.bind e4 (Ev.pure _)))
  rcases ho with rfl | rfl
  · obtain rfl : b = a + 4 := hb
    exact key _ (.inl ⟨rfl, rfl⟩) hg
  · obtain rfl : b = a + 4 := hb
    exact key _ (.inr ⟨rfl, rfl⟩) hg
theorem atom_min {o : Int} (ho : o = 9 ∨ o = 10) {x y : M.Expr} (hx : ExprOk x) (hy : ExprOk y) : AtomOk ⟨o, 0, [], [x, y]⟩ := by
  intro l a b hl hg hb
  have key : ∀ k : Rt.Bs, (o = 9 ∧ k = [109, 105, 110] ∨ o = 10 ∧ k = [109, 97, 120]) → Bg l a (wN k :: wS 40 :: ((wa x).1 ++ wS 44 :: ((wa y).1 ++ [wS 41]))) → Ev (fun n => tariff_reader_atom n (Rd l a 0)) (Rd l (a + 1 + 1 + (wa x).1.length + 1 + (wa y).1.length + 1) 0, ⟨o, 0, [], [x, y]⟩) := by
    intro k hk hg
    obtain ⟨⟨k1, t1, n1, p1⟩, f1, _, g1, g2, g3, g4, g5⟩ := hg.next
    obtain rfl : k1 = 0 := g1
    obtain rfl : t1 = k := g2
    obtain ⟨e1, h1⟩ := one_sign g5 hl
    have h1' := h1
    rw [show (wa x).1 ++ wS 44 :: ((wa y).1 ++ [wS 41]) = ((wa x).1 ++ [wS 44]) ++ ((wa y).1 ++ [wS 41]) by simp] at h1'
    have ex := hx l (a + 1 + 1) _ (wS 44) hl h1'.cut.1 rfl rfl
    obtain ⟨e2, h2⟩ := one_sign h1.cut.2 hl
    have ey := hy l _ _ (wS 41) hl h2 rfl rfl
    obtain ⟨e3, _⟩ := one_sign h2.cut.2 hl
    refine Ev.suc (fun m => tariff_reader_atom_s m _) (Ev.bind (Ev.all f1) ?_)
    rw [show iadd .i64 (a : Int) 1 = ((a + 1 : Nat) : Int) from inc64 (by omega)]
    have tail : ∀ f2 : Int, Ev (fun n => (tariff_reader_need n (Rd l (a + 1 : Nat) 0) [[40]]).bind fun v11 =>
         ((tariff_reader_expr n v11).bind fun v15 =>
         (app 56 ([] : List M.Expr) [v15.2]).bind fun l4 =>
         some (l4, v15.1.l, v15.1.at_, v15.1.e)).bind fun (l1, f3, f4, f5) =>
         (tariff_reader_need n (⟨f3, f4, f5⟩ : reader) [[44]]).bind fun v12 =>
         ((tariff_reader_expr n v12).bind fun v14 =>
         (app 56 l1 [v14.2]).bind fun l3 =>
         some (l3, v14.1.l, v14.1.at_, v14.1.e)).bind fun (l2, f6, f7, f8) =>
         (tariff_reader_need n (⟨f6, f7, f8⟩ : reader) [[41]]).bind fun v13 =>
         some (v13, (⟨f2, 0, [], l2⟩ : M.Expr))) (Rd l (a + 1 + 1 + (wa x).1.length + 1 + (wa y).1.length + 1) 0, ⟨f2, 0, [], [x, y]⟩) := by
      intro f2
      refine Ev.bind e1 (Ev.bind (a := ([x], l, ((a + 1 + 1 + (wa x).1.length : Nat) : Int), 0)) (Ev.bind ex (Ev.step (app_ok (by simp)) (Ev.pure _))) ?_)
      refine Ev.bind e2 (Ev.bind (a := ([x, y], l, ((a + 1 + 1 + (wa x).1.length + 1 + (wa y).1.length : Nat) : Int), 0)) (Ev.bind ey (Ev.step (app_ok (by simp)) (Ev.pure _))) ?_)
      exact Ev.bind e3 (Ev.pure _)
    rcases hk with ⟨rfl, rfl⟩ | ⟨rfl, rfl⟩
    · exact Ev.else rfl (Ev.step (a := false) rfl (Ev.else rfl (Ev.else rfl (Ev.else rfl (Ev.else rfl (Ev.step (a := false) rfl (Ev.else rfl (Ev.step (a := true) rfl (Ev.then rfl (Ev.step (a := 9) rfl (tail 9)))))))))))
    · exact Ev.else rfl (Ev.step (a := false) rfl (Ev.else rfl (Ev.else rfl (Ev.else rfl (Ev.else rfl (Ev.step (a := false) rfl (Ev.else rfl (Ev.step (a := true) rfl (Ev.then rfl (Ev.step (a := 10) rfl (tail 10)))))))))))
  rcases ho with rfl | rfl
  · have e : (wa ⟨9, 0, [], [x, y]⟩).2 = wN [109, 105, 110] :: wS 40 :: ((wa x).1 ++ wS 44 :: ((wa y).1 ++ [wS 41])) := rfl
    rw [e] at hg hb
    obtain rfl : b = a + 1 + 1 + (wa x).1.length + 1 + (wa y).1.length + 1 := by rw [hb]; simp only [List.length_cons, List.length_append, List.length_nil]; omega
    exact key _ (.inl ⟨rfl, rfl⟩) hg
  · have e : (wa ⟨10, 0, [], [x, y]⟩).2 = wN [109, 97, 120] :: wS 40 :: ((wa x).1 ++ wS 44 :: ((wa y).1 ++ [wS 41])) := rfl
    rw [e] at hg hb
    obtain rfl : b = a + 1 + 1 + (wa x).1.length + 1 + (wa y).1.length + 1 := by rw [hb]; simp only [List.length_cons, List.length_append, List.length_nil]; omega
    exact key _ (.inr ⟨rfl, rfl⟩) hg
theorem fst_par {o n : Int} {s : Rt.Bs} {k : List M.Expr} (hb : ((!k.isEmpty && o != 9) && o != 10) = true) : Fst ⟨o, n, s, k⟩ := by
  refine ⟨wS 40, (wa ⟨o, n, s, k⟩).1 ++ [wS 41], ?_, .inr ⟨by decide, by decide⟩⟩
  show wdp o k (wa ⟨o, n, s, k⟩).1 = _
  unfold wdp; rw [hb]; rfl
theorem read_ok {x : M.Expr} (hs : Shx x) : AtomOk x ∧ ExprOk x ∧ Fst x := by
  induction hs with
  | @mk o n s l h0 h16 hl hno _ ih =>
    have plain : (o ≠ 0 ∧ o ≠ 1 ∧ o ≠ 4) → n = 0 ∧ s = [] := by
      intro h
      unfold nodeok at hno
      rw [if_neg h.1, if_neg (by omega)] at hno
      exact hno
    have leaf : (wa ⟨o, n, s, l⟩).2 = (wa ⟨o, n, s, l⟩).1 → Fst ⟨o, n, s, l⟩ → AtomOk ⟨o, n, s, l⟩ → AtomOk ⟨o, n, s, l⟩ ∧ ExprOk ⟨o, n, s, l⟩ ∧ Fst ⟨o, n, s, l⟩ := fun h1 h2 h3 => ⟨h3, expr_atom h1 h2 h3, h2⟩
    have par : ((!l.isEmpty && o != 9) && o != 10) = true → ExprOk ⟨o, n, s, l⟩ → AtomOk ⟨o, n, s, l⟩ ∧ ExprOk ⟨o, n, s, l⟩ ∧ Fst ⟨o, n, s, l⟩ := fun h1 h2 => ⟨atom_par h1 h2, h2, fst_par h1⟩
    have hcs : o = 0 ∨ (o = 1 ∨ o = 4) ∨ o = 2 ∨ o = 3 ∨ (o = 9 ∨ o = 10) ∨ o = 11 ∨ o = 14 ∨ (o = 5 ∨ o = 6 ∨ o = 7 ∨ o = 8 ∨ o = 12 ∨ o = 13 ∨ o = 15 ∨ o = 16) := by omega
    rcases hcs with rfl | ho | rfl | rfl | ho | rfl | rfl | ho
    · obtain rfl : l = [] := List.length_eq_zero_iff.1 (shx_len hl rfl)
      unfold nodeok at hno
      rw [if_pos rfl] at hno
      obtain rfl := hno.2
      exact leaf rfl ⟨_, _, rfl, .inl rfl⟩ (atom_num n)
    · obtain rfl : l = [] := List.length_eq_zero_iff.1 (shx_len hl (by rcases ho with rfl | rfl <;> rfl))
      unfold nodeok at hno
      rw [if_neg (by omega), if_pos ho] at hno
      obtain rfl := hno.1
      refine leaf rfl ?_ (atom_of_name ho s)
      rcases ho with rfl | rfl
      · exact ⟨_, _, rfl, .inr ⟨by decide, by decide⟩⟩
      · exact ⟨_, _, rfl, .inr ⟨by decide, by decide⟩⟩
    · obtain rfl : l = [] := List.length_eq_zero_iff.1 (shx_len hl rfl)
      obtain ⟨rfl, rfl⟩ := plain (by decide)
      exact leaf rfl ⟨_, _, rfl, .inr ⟨by decide, by decide⟩⟩ atom_persons
    · obtain rfl : l = [] := List.length_eq_zero_iff.1 (shx_len hl rfl)
      obtain ⟨rfl, rfl⟩ := plain (by decide)
      exact leaf rfl ⟨_, _, rfl, .inr ⟨by decide, by decide⟩⟩ atom_flats
    · obtain ⟨rfl, rfl⟩ := plain (by omega)
      have hl2 : l.length = 2 := shx_len hl (by rcases ho with rfl | rfl <;> rfl)
      obtain ⟨a, b, rfl⟩ : ∃ a b, l = [a, b] := by
        match l, hl2 with
        | [a, b], _ => exact ⟨a, b, rfl⟩
      have ha := ih a (by simp)
      have hb := ih b (by simp)
      refine leaf ?_ ?_ (atom_min ho ha.2.1 hb.2.1)
      · rcases ho with rfl | rfl <;> rfl
      · rcases ho with rfl | rfl
        · exact ⟨_, _, rfl, .inr ⟨by decide, by decide⟩⟩
        · exact ⟨_, _, rfl, .inr ⟨by decide, by decide⟩⟩
    · obtain ⟨rfl, rfl⟩ := plain (by decide)
      have hl3 : l.length = 3 := shx_len hl rfl
      obtain ⟨a, b, c, rfl⟩ : ∃ a b c, l = [a, b, c] := by
        match l, hl3 with
        | [a, b, c], _ => exact ⟨a, b, c, rfl⟩
      exact par rfl (expr_if (ih a (by simp)).1 (ih b (by simp)).1 (ih c (by simp)).1)
    · obtain ⟨rfl, rfl⟩ := plain (by decide)
      have hl1 : l.length = 1 := shx_len hl rfl
      obtain ⟨a, rfl⟩ : ∃ a, l = [a] := by
        match l, hl1 with
        | [a], _ => exact ⟨a, rfl⟩
      exact par rfl (expr_not (ih a (by simp)).1)
    · obtain ⟨rfl, rfl⟩ := plain (by omega)
      have hl2 : l.length = 2 := shx_len hl (by unfold argsN; rw [if_neg (by omega), if_neg (by omega), if_neg (by omega)]; rfl)
      obtain ⟨a, b, rfl⟩ : ∃ a b, l = [a, b] := by
        match l, hl2 with
        | [a, b], _ => exact ⟨a, b, rfl⟩
      have hb : ((!([a, b] : List M.Expr).isEmpty && o != 9) && o != 10) = true := by
        rcases ho with rfl | rfl | rfl | rfl | rfl | rfl | rfl | rfl <;> rfl
      exact par hb (expr_bin ho (ih a (by simp)).2.2 (ih a (by simp)).1 (ih b (by simp)).1)
end Go.Proofs.YtpihabofmnnbbaaDoor.Pr
