/-
  THE REFERENCE's Parse is the program's.
-/
import Derived.Test.YtibkigpmkkkaeaaGreatDoorTaS
namespace Go.Proofs.YtibkigpmkkkaeaaGreatDoor.Ta
open Go Rt M
theorem named_2 {l : List Token} (hl : l.length ≤ 1000000) {a : Nat} (e : Int) (ha : a ≤ l.length) (o : Int) :
    T2 (InX2 l a) (fun n => (tariff_reader_need n (Rd l a e) [[40]]).bind fun v7 => (tariff_reader_one n v7 0).bind fun v8 => (tariff_reader_need n v8.1 [[41]]).bind fun v9 => some (v9, (⟨o, 0, v8.2.Text, []⟩ : M.Expr))) (fun n => ref35_Reader_named n (RR l a e) o) := by
  unfold ref35_Reader_named
  refine T2.bind (need_2 hl ha _) ?_
  rintro _ _ ⟨a4, e4, rfl, rfl, h7, h8⟩
  refine T2.bind (one_2 hl h8 (by decide)) ?_
  rintro ⟨_, t⟩ ⟨_, t'⟩ ⟨⟨a5, e5, rfl, rfl, h9, h10⟩, ht⟩
  obtain rfl : t = t' := ht
  refine T2.bind (need_2 hl h10 _) ?_
  rintro _ _ ⟨a6, e6, rfl, rfl, h11, h12⟩
  exact T2.pure ⟨⟨a6, e6, rfl, rfl, by omega, h12⟩, rfl, Fit.leaf _ _ _⟩
theorem atom_2 {l : List Token} (hl : l.length ≤ 1000000) {a : Nat} (e : Int) (ha : a ≤ l.length) (H : ∀ (b : Nat) (e : Int), a < b → b ≤ l.length → T2 (InX2 l b) (fun n => tariff_reader_expr n (Rd l b e)) (fun n => ref35_Reader_expr n (RR l b e))) :
    T2 (InX2 l a) (fun n => tariff_reader_atom n (Rd l a e)) (fun n => ref35_Reader_atom n (RR l a e)) := by
  refine T2.suc (fun n => tariff_reader_atom_s n _) (fun n => ref35_Reader_atom_s n _) ?_
  refine T2.l (Ev.all fun n => next_n n ha) ?_
  dsimp only
  have zero : ∀ e' : Int, InX2 l a (Rd l a e', (⟨0, 0, [], []⟩ : M.Expr)) (RR l a e', (⟨0, 0, [], []⟩ : M.Expr)) := fun e' => ⟨In2.here ha, rfl, Fit.leaf _ _ _⟩
  by_cases he : e = 0
  rotate_left
  · refine T2.rt (by simpa using he) ?_
    rw [nextT_end (.inl he)]
    refine T2.lf rfl (T2.l (a := true) (Ev.then rfl (Ev.pure _)) (T2.lt rfl (T2.l (Ev.all fun n => fail_n n l a e 12) ?_)))
    rw [show failE e 12 = e by unfold failE; rw [if_neg he]]
    exact T2.pure (zero e)
  subst he
  refine T2.rf rfl ?_
  -- what the next token is
  by_cases hnum : (nextT l a 0).Kind = 1
  · have h2 := next_lt (e := 0) (by rw [hnum]; decide)
    have hno : ∀ s, isT l a 0 s = false := by intro s; unfold isT; rw [hnum]; simp
    rw [inc64 (by omega)]
    refine T2.lt (by simpa using hnum) ?_
    refine T2.r (rtake_no hl (hno _)) (T2.rf rfl (T2.r (rtake_no hl (hno _)) (T2.rf rfl (T2.r (rtake_no hl (hno _)) (T2.rf rfl (T2.r (rtake_no hl (hno _)) (T2.rf rfl (T2.r (rtake_no hl (hno _)) (T2.rf rfl (T2.r (rtake_no hl (hno _)) (T2.rf rfl (T2.r (rtake_no hl (hno _)) (T2.rf rfl ?_)))))))))))))
    refine T2.r (b := (RR l (a + 1) 0, nextT l a 0)) (Ev.all fun n => ?_) (T2.pure ⟨⟨a + 1, 0, rfl, rfl, by omega, h2.1⟩, rfl, Fit.leaf _ _ _⟩)
    unfold ref35_Reader_one
    rw [guard_n, Option.bind_some, decide_eq_false (by rintro (h | h); exact h rfl; omega), cond_false]
    show (ix l (a : Int)).bind _ = _
    rw [ix_some h2.1, Option.bind_some, ← nextT_at h2.1, show ((nextT l a 0).Kind != 1) = false by simpa using hnum, cond_false]
    dsimp only
    rw [inc64 (by omega)]
  have rone : Ev (fun n => ref35_Reader_one n (RR l a 0) 1) (RR l a 12, (⟨0, [], 0, 0⟩ : Token)) := Ev.all fun n => by
    unfold ref35_Reader_one
    rw [guard_n, Option.bind_some]
    by_cases h : (0 : Int) ≠ 0 ∨ l.length ≤ a
    · rw [decide_eq_true h, cond_true, rfail_n]; rfl
    · have h2 : a < l.length := by
        rcases Nat.lt_or_ge a l.length with h2 | h2
        · exact h2
        · exact absurd (.inr h2) h
      rw [decide_eq_false h, cond_false]
      show (ix l (a : Int)).bind _ = _
      rw [ix_some h2, Option.bind_some, ← nextT_at h2, show ((nextT l a 0).Kind != 1) = true by simpa using hnum, cond_true, rfail_n]; rfl
  have none_r : ∀ f : Nat → Option (reader × M.Expr), (∀ s, isT l a 0 s = false) → T2 (InX2 l a) f (fun n => some (RR l a 12, (⟨0, 0, [], []⟩ : M.Expr))) → T2 (InX2 l a) f (fun n => (ref35_Reader_take n (RR l a 0) [40]).bind fun v1 =>
   bif v1.2 then
    (ref35_Reader_expr n v1.1).bind fun v2 => (ref35_Reader_need n v2.1 [41]).bind fun v3 => some (v3, v2.2)
   else
    (ref35_Reader_take n v1.1 [112, 101, 114, 115, 111, 110, 115]).bind fun v4 =>
    bif v4.2 then some (v4.1, (⟨2, 0, [], []⟩ : M.Expr))
    else
     (ref35_Reader_take n v4.1 [102, 108, 97, 116, 115]).bind fun v5 =>
     bif v5.2 then some (v5.1, (⟨3, 0, [], []⟩ : M.Expr))
     else
      (ref35_Reader_take n v5.1 [108, 105, 102, 116, 115]).bind fun v6 =>
      bif v6.2 then (ref35_Reader_named n v6.1 1).bind fun v7 => some (v7.1, v7.2)
      else
       (ref35_Reader_take n v6.1 [119, 101, 105, 103, 104, 116]).bind fun v8 =>
       bif v8.2 then (ref35_Reader_named n v8.1 4).bind fun v9 => some (v9.1, v9.2)
       else
        (ref35_Reader_take n v8.1 [109, 105, 110]).bind fun v10 =>
        bif v10.2 then (ref35_Reader_pair n v10.1 9).bind fun v11 => some (v11.1, v11.2)
        else
         (ref35_Reader_take n v10.1 [109, 97, 120]).bind fun v12 =>
         bif v12.2 then (ref35_Reader_pair n v12.1 10).bind fun v13 => some (v13.1, v13.2)
         else (ref35_Reader_one n v12.1 1).bind fun v14 => some (v14.1, (⟨0, v14.2.N, [], []⟩ : M.Expr))) := by
    intro f hno h
    refine T2.r (rtake_no hl (hno _)) (T2.rf rfl (T2.r (rtake_no hl (hno _)) (T2.rf rfl (T2.r (rtake_no hl (hno _)) (T2.rf rfl (T2.r (rtake_no hl (hno _)) (T2.rf rfl (T2.r (rtake_no hl (hno _)) (T2.rf rfl (T2.r (rtake_no hl (hno _)) (T2.rf rfl (T2.r (rtake_no hl (hno _)) (T2.rf rfl ?_)))))))))))))
    exact T2.r rone h
  refine T2.lf (by simpa using hnum) ?_
  by_cases hk : (nextT l a 0).Kind = 0 ∨ (nextT l a 0).Kind = 3
  rotate_left
  · have hno : ∀ s, isT l a 0 s = false := by
      intro s; unfold isT
      have h1 : ((nextT l a 0).Kind == 0) = false := by simpa using fun h => hk (.inl h)
      have h2 : ((nextT l a 0).Kind == 3) = false := by simpa using fun h => hk (.inr h)
      rw [h1, h2]; simp
    refine none_r _ hno ?_
    refine T2.l (a := true) (Ev.then (by simpa using fun h => hk (.inl h)) ((Ev.pure _).eq (by simpa using fun h => hk (.inr h)))) (T2.lt rfl (T2.l (Ev.all fun n => fail_n n l a 0 12) (T2.pure (zero 12))))
  have hT : ∀ s, isT l a 0 s = ((nextT l a 0).Text == s) := by
    intro s; unfold isT
    rcases hk with h | h <;> rw [h] <;> simp
  have h2 : a < l.length := (next_lt (e := 0) (by rcases hk with h | h <;> rw [h] <;> decide)).1
  have e1 : iadd .i64 (a : Int) 1 = ((a + 1 : Nat) : Int) := inc64 (by omega)
  have e2 : isub .i64 ((a + 1 : Nat) : Int) 1 = (a : Int) := dec64 (by omega)
  rw [e1, e2]
  refine T2.l (a := false) ?_ (T2.lf rfl ?_)
  · rcases hk with h | h
    · exact Ev.else (by rw [h]; rfl) (Ev.pure _)
    · exact Ev.then (by rw [h]; rfl) ((Ev.pure _).eq (by rw [h]; rfl))
  have next1 : ∀ o, InX2 l a (Rd l (a + 1) 0, (⟨o, 0, [], []⟩ : M.Expr)) (RR l (a + 1) 0, (⟨o, 0, [], []⟩ : M.Expr)) := fun o => ⟨⟨a + 1, 0, rfl, rfl, by omega, h2⟩, rfl, Fit.leaf _ _ _⟩
  have up : ∀ {f : Nat → Option (reader × M.Expr)} {g : Nat → Option (Reader × M.Expr)}, T2 (InX2 l (a + 1)) f g → T2 (InX2 l a) f (fun n => (g n).bind fun v => some (v.1, v.2)) := by
    rintro f g ⟨p, q, h3, h4, ⟨⟨b, e', h5, h6, h7, h8⟩, h9, h10⟩⟩
    exact ⟨p, q, h3, Ev.bind h4 (Ev.pure _), ⟨⟨b, e', h5, h6, by omega, h8⟩, h9, h10⟩⟩
  generalize hTx : (nextT l a 0).Text = t at hT ⊢
  by_cases t1 : t = [40]
  · have ht := hT [40]; rw [t1] at ht
    refine T2.lt (by simpa using t1) (T2.r (rtake_yes hl (ht.trans (by decide))) (T2.rt rfl ?_))
    refine T2.bind (H (a + 1) 0 (by omega) h2) ?_
    rintro ⟨_, x⟩ ⟨_, x'⟩ ⟨⟨a3, e3, rfl, rfl, h5, h6⟩, hx, fx⟩
    obtain rfl : x = x' := hx
    refine T2.bind (need_2 hl h6 _) ?_
    rintro _ _ ⟨a4, e4, rfl, rfl, h7, h8⟩
    exact T2.pure ⟨⟨a4, e4, rfl, rfl, by omega, h8⟩, rfl, fx⟩
  refine T2.lf (by simpa using t1) (T2.r (rtake_no hl ((hT _).trans (by simpa using t1))) (T2.rf rfl ?_))
  by_cases t2 : t = [112, 101, 114, 115, 111, 110, 115]
  · have ht := hT [112, 101, 114, 115, 111, 110, 115]; rw [t2] at ht
    exact T2.lt (by simpa using t2) (T2.r (rtake_yes hl (ht.trans (by decide))) (T2.rt rfl (T2.pure (next1 2))))
  refine T2.lf (by simpa using t2) (T2.r (rtake_no hl ((hT _).trans (by simpa using t2))) (T2.rf rfl ?_))
  by_cases t3 : t = [102, 108, 97, 116, 115]
  · have ht := hT [102, 108, 97, 116, 115]; rw [t3] at ht
    exact T2.lt (by simpa using t3) (T2.r (rtake_yes hl (ht.trans (by decide))) (T2.rt rfl (T2.pure (next1 3))))
  refine T2.lf (by simpa using t3) (T2.r (rtake_no hl ((hT _).trans (by simpa using t3))) (T2.rf rfl ?_))
  by_cases t4 : t = [108, 105, 102, 116, 115]
  · have ht := hT [108, 105, 102, 116, 115]; rw [t4] at ht
    refine T2.l (a := true) (Ev.then (by simpa using t4) (Ev.pure _)) (T2.lt rfl ?_)
    refine T2.l (a := 1) (Ev.else (by rw [t4]; decide) (Ev.pure _)) ?_
    exact T2.r (rtake_yes hl (ht.trans (by decide))) (T2.rt rfl (up (named_2 hl 0 h2 1)))
  refine T2.r (rtake_no hl ((hT _).trans (by simpa using t4))) (T2.rf rfl ?_)
  by_cases t5 : t = [119, 101, 105, 103, 104, 116]
  · have ht := hT [119, 101, 105, 103, 104, 116]; rw [t5] at ht
    refine T2.l (a := true) (Ev.else (by simpa using t4) ((Ev.pure _).eq (by simpa using t5))) (T2.lt rfl ?_)
    refine T2.l (a := 4) (Ev.then (by simpa using t5) (Ev.pure _)) ?_
    exact T2.r (rtake_yes hl (ht.trans (by decide))) (T2.rt rfl (up (named_2 hl 0 h2 4)))
  refine T2.l (a := false) (Ev.else (by simpa using t4) ((Ev.pure _).eq (by simpa using t5))) (T2.lf rfl ?_)
  refine T2.r (rtake_no hl ((hT _).trans (by simpa using t5))) (T2.rf rfl ?_)
  have Hb : ∀ (b : Nat) (e : Int), a + 1 ≤ b → b ≤ l.length → T2 (InX2 l b) (fun n => tariff_reader_expr n (Rd l b e)) (fun n => ref35_Reader_expr n (RR l b e)) := fun b e h3 h4 => H b e (by omega) h4
  by_cases t6 : t = [109, 105, 110]
  · have ht := hT [109, 105, 110]; rw [t6] at ht
    refine T2.l (a := true) (Ev.then (by simpa using t6) (Ev.pure _)) (T2.lt rfl ?_)
    refine T2.l (a := 9) (Ev.else (by rw [t6]; decide) (Ev.pure _)) ?_
    exact T2.r (rtake_yes hl (ht.trans (by decide))) (T2.rt rfl (up (pair_2 hl 0 h2 9 Hb)))
  refine T2.r (rtake_no hl ((hT _).trans (by simpa using t6))) (T2.rf rfl ?_)
  by_cases t7 : t = [109, 97, 120]
  · have ht := hT [109, 97, 120]; rw [t7] at ht
    refine T2.l (a := true) (Ev.else (by simpa using t6) ((Ev.pure _).eq (by simpa using t7))) (T2.lt rfl ?_)
    refine T2.l (a := 10) (Ev.then (by simpa using t7) (Ev.pure _)) ?_
    exact T2.r (rtake_yes hl (ht.trans (by decide))) (T2.rt rfl (up (pair_2 hl 0 h2 10 Hb)))
  refine T2.l (a := false) (Ev.else (by simpa using t6) ((Ev.pure _).eq (by simpa using t7))) (T2.lf rfl ?_)
  refine T2.r (rtake_no hl ((hT _).trans (by simpa using t7))) (T2.rf rfl ?_)
  exact T2.l (Ev.all fun n => fail_n n l a 0 12) (T2.r rone (T2.pure (zero 12)))
theorem atoms_2 {l : List Token} (hl : l.length ≤ 1000000) : ∀ (k a : Nat) (e : Int), a ≤ l.length → l.length - a ≤ k → T2 (InX2 l a) (fun n => tariff_reader_atom n (Rd l a e)) (fun n => ref35_Reader_atom n (RR l a e))
  | 0, _, e, ha, hk => atom_2 hl e ha (fun b _ h1 h2 => absurd h1 (by omega))
  | k + 1, _, e, ha, hk => atom_2 hl e ha (fun b e' h1 h2 => expr_2 hl (atoms_2 hl k) b e' h2 (by omega))
theorem exprs_2 {l : List Token} (hl : l.length ≤ 1000000) {a : Nat} {e : Int} (ha : a ≤ l.length) : T2 (InX2 l a) (fun n => tariff_reader_expr n (Rd l a e)) (fun n => ref35_Reader_expr n (RR l a e)) :=
  expr_2 hl (k := l.length - a) (fun a e h1 h2 => atoms_2 hl _ a e h1 h2) a e ha (Nat.le_refl _)
end Go.Proofs.YtibkigpmkkkaeaaGreatDoor.Ta
