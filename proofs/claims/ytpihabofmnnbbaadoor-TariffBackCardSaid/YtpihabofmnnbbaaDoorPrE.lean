/-
  READING what was printed: the reader returns what the words say.
-/
import Derived.Test.YtpihabofmnnbbaaDoorPrD
namespace Go.Proofs.YtpihabofmnnbbaaDoor.Pr
open Go Rt M Ta Tp

/-- from the place a on the tokens begin with these words -/
def Bg (l : List Token) (a : Nat) (ws : List Token) : Prop := ∃ post, (l.drop a).map strip = ws ++ post
theorem Bg.cut {l : List Token} {a : Nat} {u v : List Token} (h : Bg l a (u ++ v)) : Bg l a u ∧ Bg l (a + u.length) v := by
  obtain ⟨post, h⟩ := h
  refine ⟨⟨v ++ post, by rw [h, List.append_assoc]⟩, ⟨post, ?_⟩⟩
  have := congrArg (List.drop u.length) h
  rw [← List.map_drop, List.drop_drop, List.append_assoc] at this
  rw [this]; simp
theorem Bg.len {l : List Token} {a : Nat} {w : Token} {ws : List Token} (h : Bg l a (w :: ws)) : a + (w :: ws).length ≤ l.length := by
  obtain ⟨post, h⟩ := h
  have := congrArg List.length h
  simp only [List.length_map, List.length_drop, List.length_append, List.length_cons] at this ⊢
  omega
theorem Bg.next {l : List Token} {a : Nat} {w : Token} {ws : List Token} (h : Bg l a (w :: ws)) : ∃ t : Token, (∀ n, tariff_reader_next n (Rd l a 0) = some (Rd l a 0, t)) ∧ nextT l a 0 = t ∧ t.Kind = w.Kind ∧ t.Text = w.Text ∧ t.N = w.N ∧ a < l.length ∧ Bg l (a + 1) ws := by
  have hlen := h.len
  have h2 := (Bg.cut (u := [w]) (v := ws) h).2
  obtain ⟨post, h⟩ := h
  have ha : a < l.length := by simp only [List.length_cons] at hlen; omega
  rw [List.drop_eq_getElem_cons ha] at h
  have e : strip l[a] = w := (List.cons.inj (show strip l[a] :: (l.drop (a + 1)).map strip = w :: (ws ++ post) from h)).1
  have e2 : nextT l a 0 = l[a] := by
    unfold nextT
    rw [if_pos rfl, List.getElem?_eq_getElem ha]; rfl
  refine ⟨l[a], fun n => by rw [next_n n (by omega), e2], e2, ?_, ?_, ?_, ha, h2⟩
  · exact congrArg (·.Kind) e
  · exact congrArg (·.Text) e
  · exact congrArg (·.N) e
theorem Bg.take {l : List Token} {a : Nat} {w : Token} {ws : List Token} (h : Bg l a (w :: ws)) (hl : l.length ≤ 1000000) (hk : w.Kind = 0 ∨ w.Kind = 3) (n : Nat) : tariff_reader_take n (Rd l a 0) w.Text = some (Rd l (a + 1) 0, true) := by
  obtain ⟨t, _, e, e1, e2, _, h3, _⟩ := h.next
  have : isT l a 0 w.Text = true := by
    unfold isT
    rw [e, e1, e2]
    rcases hk with hk | hk <;> rw [hk] <;> simp
  rw [take_n n _ hl (by omega), this]; rfl
theorem Bg.leave {l : List Token} {a : Nat} {w : Token} {ws : List Token} (h : Bg l a (w :: ws)) (hl : l.length ≤ 1000000) {s : Rt.Bs} (hk : w.Kind = 1 ∨ w.Text ≠ s) (n : Nat) : tariff_reader_take n (Rd l a 0) s = some (Rd l a 0, false) := by
  obtain ⟨t, _, e, e1, e2, _, h3, _⟩ := h.next
  have : isT l a 0 s = false := by
    unfold isT
    rw [e, e1, e2]
    rcases hk with hk | hk
    · rw [hk]; simp
    · rw [beq_eq_false_iff_ne.2 hk]; rfl
  rw [take_n n _ hl (by omega), this]; rfl
theorem need_LB {l : List Token} (hl : l.length ≤ 1000000) (all : List Rt.Bs) (hw : all.length ≤ 1000) : ∀ (us : List Token) (i a : Nat), all.drop i = us.map (·.Text) → (∀ w, w ∈ us → w.Kind = 0 ∨ w.Kind = 3) → Bg l a us →
    ∀ n m, us.length < m → tariff_reader_need_L1 n all (fun f4 f5 f6 => some (⟨f4, f5, f6⟩ : reader)) m (i : Int) l (a : Int) 0 = some (Rd l (a + us.length) 0)
  | [], i, a, hd, _, _, n, m, hm => by
    obtain ⟨m, rfl⟩ := left hm
    rw [tariff_reader_need_L1_s, more_no hd]; rfl
  | u :: us, i, a, hd, hk, hb, n, m, hm => by
    obtain ⟨h1, h2, h3⟩ := Rt.drop_cons hd
    obtain ⟨m, rfl, hm2⟩ := pred (by simpa using hm)
    rw [tariff_reader_need_L1_s, more_yes hd, cond_true, h1, Option.bind_some, hb.take hl (hk u (by simp)) n, Option.bind_some]
    dsimp only
    rw [Bool.not_true, cond_false, inc64 (by omega), need_LB hl all hw us (i + 1) (a + 1) h2 (fun w h => hk w (by simp [h])) (Bg.cut (u := [u]) (v := us) hb).2 n m hm2, List.length_cons, show a + 1 + us.length = a + (us.length + 1) by omega]
theorem need_b {l : List Token} {a : Nat} (us : List Token) (hb : Bg l a us) (hl : l.length ≤ 1000000) (hk : ∀ w, w ∈ us → w.Kind = 0 ∨ w.Kind = 3) (hu : us.length ≤ 1000) : Ev (fun n => tariff_reader_need n (Rd l a 0) (us.map (·.Text))) (Rd l (a + us.length) 0) :=
  ⟨us.length + 1, fun n hn => need_LB hl _ (by simpa using hu) us 0 a rfl hk hb n n (by omega)⟩
theorem one_b {l : List Token} {a : Nat} {w : Token} {ws : List Token} (hb : Bg l a (w :: ws)) (hl : l.length ≤ 1000000) : ∃ t : Token, (∀ n, tariff_reader_one n (Rd l a 0) w.Kind = some (Rd l (a + 1) 0, t)) ∧ t.Text = w.Text ∧ t.N = w.N := by
  obtain ⟨t, e0, e, e1, e2, e3, h3, _⟩ := hb.next
  refine ⟨t, fun n => ?_, e2, e3⟩
  unfold tariff_reader_one
  rw [e0, Option.bind_some]
  dsimp only
  rw [e1, show (w.Kind != w.Kind) = false by simp, cond_false, inc64 (by omega)]

def AtomOk (x : M.Expr) : Prop := ∀ (l : List Token) (a b : Nat), l.length ≤ 1000000 → Bg l a (wa x).2 → b = a + (wa x).2.length → Ev (fun n => tariff_reader_atom n (Rd l a 0)) (Rd l b 0, x)
def ExprOk (x : M.Expr) : Prop := ∀ (l : List Token) (a b : Nat) (z : Token), l.length ≤ 1000000 → Bg l a ((wa x).1 ++ [z]) → mget ops z.Text = none → b = a + (wa x).1.length → Ev (fun n => tariff_reader_expr n (Rd l a 0)) (Rd l b 0, x)
/-- no Arg begins with not or if -/
def Fst (x : M.Expr) : Prop := ∃ w ws, (wa x).2 = w :: ws ∧ (w.Kind = 1 ∨ (w.Text ≠ [110, 111, 116] ∧ w.Text ≠ [105, 102]))
theorem atom_par {o n : Int} {s : Rt.Bs} {k : List M.Expr} (hb : ((!k.isEmpty && o != 9) && o != 10) = true) (h : ExprOk ⟨o, n, s, k⟩) : AtomOk ⟨o, n, s, k⟩ := by
  intro l a b hl hg hbb
  have e2 : (wa ⟨o, n, s, k⟩).2 = wS 40 :: ((wa ⟨o, n, s, k⟩).1 ++ [wS 41]) := by
    show wdp o k (wa ⟨o, n, s, k⟩).1 = _
    unfold wdp; rw [hb]; rfl
  rw [e2] at hg hbb
  obtain ⟨⟨k1, t1, n1, p1⟩, f1, _, g1, g2, g3, g4, g5⟩ := hg.next
  obtain rfl : k1 = 3 := g1
  obtain rfl : t1 = [40] := g2
  refine Ev.suc (fun m => tariff_reader_atom_s m _) ?_
  refine Ev.bind (Ev.all f1) (Ev.else rfl (Ev.step (a := false) rfl (Ev.else rfl (Ev.then rfl ?_))))
  rw [show iadd .i64 (a : Int) 1 = ((a + 1 : Nat) : Int) from inc64 (by omega)]
  refine Ev.bind (h l (a + 1) _ (wS 41) hl g5 rfl rfl) ?_
  refine Ev.bind (need_b [wS 41] (Bg.cut g5).2 hl (by intro w hw; obtain rfl := List.mem_singleton.1 hw; exact .inr rfl) (by decide)) ?_
  refine (Ev.pure _).eq ?_
  dsimp only
  rw [hbb]
  congr 2
  simp only [List.length_cons, List.length_append, List.length_nil]; omega
theorem expr_atom {x : M.Expr} (h1 : (wa x).2 = (wa x).1) (hf : Fst x) (h : AtomOk x) : ExprOk x := by
  intro l a b z hl hg hz hb
  obtain ⟨w, ws, e, hw⟩ := hf
  have hg1 := hg.cut.1
  rw [← h1, e] at hg1
  refine Ev.suc (fun m => tariff_reader_expr_s m _) ?_
  refine Ev.bind (Ev.all (hg1.leave hl (hw.imp id (·.1)))) (Ev.else rfl ?_)
  refine Ev.bind (Ev.all (hg1.leave hl (hw.imp id (·.2)))) (Ev.else rfl ?_)
  refine Ev.bind (h l a _ hl (by rw [h1]; exact hg.cut.1) rfl) ?_
  have hg2 := hg.cut.2
  rw [← h1] at hg2
  obtain ⟨t, f1, _, _, g2, _⟩ := hg2.next
  refine Ev.bind (Ev.all f1) (Ev.bind (Ev.all fun m => operators_n m) ?_)
  dsimp only
  rw [g2, hz]
  refine Ev.step (a := (true, l, ((a + (wa x).2.length : Nat) : Int), 0)) rfl (Ev.then rfl ?_)
  refine (Ev.pure _).eq ?_
  rw [hb, h1]
theorem expr_bin {o : Int} {x y : M.Expr} (ho : o = 5 ∨ o = 6 ∨ o = 7 ∨ o = 8 ∨ o = 12 ∨ o = 13 ∨ o = 15 ∨ o = 16) (hf : Fst x) (hx : AtomOk x) (hy : AtomOk y) : ExprOk ⟨o, 0, [], [x, y]⟩ := by
  intro l a b z hl hg hz hb
  have ew : (wa ⟨o, 0, [], [x, y]⟩).1 = (wa x).2 ++ opw o :: (wa y).2 := by
    show (if o = 9 ∨ o = 10 then _ else (wa x).2 ++ opw o :: (wa y).2) = _
    rw [if_neg (by omega)]
  rw [ew] at hg hb
  have hg := hg.cut.1
  obtain ⟨w, ws, e, hw⟩ := hf
  have hg1 := hg.cut.1
  rw [e] at hg1
  refine Ev.suc (fun m => tariff_reader_expr_s m _) ?_
  refine Ev.bind (Ev.all (hg1.leave hl (hw.imp id (·.1)))) (Ev.else rfl ?_)
  refine Ev.bind (Ev.all (hg1.leave hl (hw.imp id (·.2)))) (Ev.else rfl ?_)
  refine Ev.bind (hx l a _ hl hg.cut.1 rfl) ?_
  have hg2 := hg.cut.2
  obtain ⟨t, f1, _, g1, g2, _, _, g6⟩ := hg2.next
  refine Ev.bind (Ev.all f1) (Ev.bind (Ev.all fun m => operators_n m) ?_)
  dsimp only
  have hm : mget ops (opw o).Text = some o := by rcases ho with rfl | rfl | rfl | rfl | rfl | rfl | rfl | rfl <;> rfl
  have hk : (opw o).Kind = 0 ∨ (opw o).Kind = 3 := by
    show (if o = 15 ∨ o = 16 then (0 : Int) else 3) = 0 ∨ (if o = 15 ∨ o = 16 then (0 : Int) else 3) = 3
    split
    · exact .inl rfl
    · exact .inr rfl
  rw [g2, hm]
  refine Ev.bind (a := (false, l, ((a + (wa x).2.length + 1 : Nat) : Int), 0)) (Ev.else rfl (Ev.bind (Ev.all (hg2.take hl hk)) (Ev.pure _))) (Ev.else rfl ?_)
  refine Ev.bind (hy l (a + (wa x).2.length + 1) _ hl g6 rfl) ?_
  refine (Ev.pure _).eq ?_
  rw [hb]
  dsimp only [Option.getD_some]
  congr 2
  simp only [List.length_cons, List.length_append]; omega
theorem expr_not {x : M.Expr} (hx : AtomOk x) : ExprOk ⟨14, 0, [], [x]⟩ := by
  intro l a b z hl hg hz hb
  have ew : (wa ⟨14, 0, [], [x]⟩).1 = wN [110, 111, 116] :: (wa x).2 := rfl
  rw [ew] at hg hb
  have hg := hg.cut.1
  refine Ev.suc (fun m => tariff_reader_expr_s m _) ?_
  refine Ev.bind (Ev.all (hg.take hl (.inl rfl))) (Ev.then rfl ?_)
  refine Ev.bind (hx l (a + 1) _ hl (Bg.cut (u := [wN [110, 111, 116]]) hg).2 rfl) ?_
  obtain rfl : b = a + 1 + (wa x).2.length := by rw [hb]; simp only [List.length_cons]; omega
  exact Ev.pure _
theorem expr_if {x y v : M.Expr} (hx : AtomOk x) (hy : AtomOk y) (hv : AtomOk v) : ExprOk ⟨11, 0, [], [x, y, v]⟩ := by
  intro l a b z hl hg hz hb
  have ew : (wa ⟨11, 0, [], [x, y, v]⟩).1 = wN [105, 102] :: ((wa x).2 ++ wN [116, 104, 101, 110] :: ((wa y).2 ++ wN [101, 108, 115, 101] :: (wa v).2)) := rfl
  rw [ew] at hg hb
  have hg := hg.cut.1
  refine Ev.suc (fun m => tariff_reader_expr_s m _) ?_
  refine Ev.bind (Ev.all (hg.leave hl (.inr (by decide)))) (Ev.else rfl ?_)
  refine Ev.bind (Ev.all (hg.take hl (.inl rfl))) (Ev.then rfl ?_)
  have h1 := (Bg.cut (u := [wN [105, 102]]) hg).2
  refine Ev.bind (hx l (a + 1) _ hl h1.cut.1 rfl) ?_
  have h2 := h1.cut.2
  refine Ev.bind (need_b [wN [116, 104, 101, 110]] (Bg.cut (u := [wN [116, 104, 101, 110]]) h2).1 hl (by intro w hw; obtain rfl := List.mem_singleton.1 hw; exact .inl rfl) (by decide)) ?_
  have h3 := (Bg.cut (u := [wN [116, 104, 101, 110]]) h2).2
  refine Ev.bind (hy l _ _ hl h3.cut.1 rfl) ?_
  have h4 := h3.cut.2
  refine Ev.bind (need_b [wN [101, 108, 115, 101]] (Bg.cut (u := [wN [101, 108, 115, 101]]) h4).1 hl (by intro w hw; obtain rfl := List.mem_singleton.1 hw; exact .inl rfl) (by decide)) ?_
  have h5 := (Bg.cut (u := [wN [101, 108, 115, 101]]) h4).2
  refine Ev.bind (hv l _ b hl h5 ?_) (Ev.pure _)
  rw [hb]
  simp only [List.length_cons, List.length_append, List.length_nil]; omega
end Go.Proofs.YtpihabofmnnbbaaDoor.Pr
