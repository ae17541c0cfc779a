/-
  THE REFERENCE's READER OF A TARIFF reads what the program's reader reads: both side by side.
-/
import Derived.Test.YtibkigpmkkkaeaaGreatDoorTaB
import Derived.Test.YtibkigpmkkkaeaaGreatDoorLxRef
import Derived.Test.YtibkigpmkkkaeaaGreatDoorMirR35
namespace Go.Proofs.YtibkigpmkkkaeaaGreatDoor.Ta
open Go Rt M
/-- two functions of fuel that both answer, and what is true of both answers -/
def T2 {α β : Type} (Q : α → β → Prop) (f : Nat → Option α) (g : Nat → Option β) : Prop := ∃ a b, Ev f a ∧ Ev g b ∧ Q a b
section
variable {α β γ δ : Type} {P : α → β → Prop} {Q : γ → δ → Prop}
theorem T2.pure {a : γ} {b : δ} (h : Q a b) : T2 Q (fun _ => some a) (fun _ => some b) := ⟨a, b, Ev.pure a, Ev.pure b, h⟩
theorem T2.bind {x : Nat → Option α} {y : Nat → Option β} {f : Nat → α → Option γ} {g : Nat → β → Option δ} (h : T2 P x y) (k : ∀ a b, P a b → T2 Q (fun n => f n a) (fun n => g n b)) : T2 Q (fun n => (x n).bind (f n)) (fun n => (y n).bind (g n)) := by
  obtain ⟨a, b, h1, h2, h3⟩ := h
  obtain ⟨c, d, h4, h5, h6⟩ := k a b h3
  exact ⟨c, d, Ev.bind h1 h4, Ev.bind h2 h5, h6⟩
theorem T2.l {x : Nat → Option α} {a : α} {f : Nat → α → Option γ} {g : Nat → Option δ} (h : Ev x a) (k : T2 Q (fun n => f n a) g) : T2 Q (fun n => (x n).bind (f n)) g := by
  obtain ⟨c, d, h4, h5, h6⟩ := k
  exact ⟨c, d, Ev.bind h h4, h5, h6⟩
theorem T2.r {y : Nat → Option β} {b : β} {f : Nat → Option γ} {g : Nat → β → Option δ} (h : Ev y b) (k : T2 Q f (fun n => g n b)) : T2 Q f (fun n => (y n).bind (g n)) := by
  obtain ⟨c, d, h4, h5, h6⟩ := k
  exact ⟨c, d, h4, Ev.bind h h5, h6⟩
theorem T2.bif {c : Bool} {x x' : Nat → Option γ} {y y' : Nat → Option δ} (h1 : c = true → T2 Q x y) (h2 : c = false → T2 Q x' y') : T2 Q (fun n => bif c then x n else x' n) (fun n => bif c then y n else y' n) := by
  cases c
  · exact h2 rfl
  · exact h1 rfl
theorem T2.lt {c : Bool} {x x' : Nat → Option γ} {g : Nat → Option δ} (hc : c = true) (h : T2 Q x g) : T2 Q (fun n => bif c then x n else x' n) g := by subst hc; exact h
theorem T2.lf {c : Bool} {x x' : Nat → Option γ} {g : Nat → Option δ} (hc : c = false) (h : T2 Q x' g) : T2 Q (fun n => bif c then x n else x' n) g := by subst hc; exact h
theorem T2.rt {c : Bool} {f : Nat → Option γ} {y y' : Nat → Option δ} (hc : c = true) (h : T2 Q f y) : T2 Q f (fun n => bif c then y n else y' n) := by subst hc; exact h
theorem T2.rf {c : Bool} {f : Nat → Option γ} {y y' : Nat → Option δ} (hc : c = false) (h : T2 Q f y') : T2 Q f (fun n => bif c then y n else y' n) := by subst hc; exact h
theorem T2.suc {f f' : Nat → Option γ} {g g' : Nat → Option δ} (e : ∀ n, f (n + 1) = f' n) (e' : ∀ n, g (n + 1) = g' n) (h : T2 Q f' g') : T2 Q f g := by
  obtain ⟨c, d, h4, h5, h6⟩ := h
  exact ⟨c, d, Ev.suc e h4, Ev.suc e' h5, h6⟩
theorem T2.sucr {f : Nat → Option γ} {g g' : Nat → Option δ} (e' : ∀ n, g (n + 1) = g' n) (h : T2 Q f g') : T2 Q f g := by
  obtain ⟨c, d, h4, h5, h6⟩ := h
  exact ⟨c, d, h4, Ev.suc e' h5, h6⟩
theorem T2.weak {Q' : γ → δ → Prop} {f : Nat → Option γ} {g : Nat → Option δ} (h : T2 Q f g) (k : ∀ a b, Q a b → Q' a b) : T2 Q' f g := by
  obtain ⟨c, d, h4, h5, h6⟩ := h
  exact ⟨c, d, h4, h5, k c d h6⟩
end
abbrev RR (l : List Token) (a : Nat) (e : Int) : Reader := ⟨l, (a : Int), e⟩
theorem nextT_at {l : List Token} {a : Nat} (h : a < l.length) : nextT l a 0 = l[a] := by
  unfold nextT; rw [if_pos rfl, List.getElem?_eq_getElem h]; rfl
theorem nextT_end {l : List Token} {a : Nat} {e : Int} (h : e ≠ 0 ∨ l.length ≤ a) : nextT l a e = endT := by
  unfold nextT
  split
  · rcases h with h | h
    · contradiction
    · rw [List.getElem?_eq_none h]; rfl
  · rfl
theorem isT_end {l : List Token} {a : Nat} {e : Int} {s : Rt.Bs} (h : e ≠ 0 ∨ l.length ≤ a) : isT l a e s = false := by
  unfold isT; rw [nextT_end h]; simp [endT]
theorem guard_n (l : List Token) (a : Nat) (e : Int) : (bif (RR l a e).Bad != 0 then some true else some (decide (((RR l a e).L.length : Int) ≤ (RR l a e).At))) = some (decide (e ≠ 0 ∨ l.length ≤ a)) := by
  show (bif e != 0 then some true else some (decide ((l.length : Int) ≤ (a : Int)))) = _
  by_cases he : e = 0
  · subst he
    show some (decide ((l.length : Int) ≤ (a : Int))) = _
    by_cases h : l.length ≤ a
    · rw [decide_eq_true (by omega), decide_eq_true (.inr h)]
    · rw [decide_eq_false (by omega), decide_eq_false (by rintro (h1 | h1) <;> contradiction)]
  · rw [show (e != 0) = true by simpa using he, decide_eq_true (show e ≠ 0 ∨ l.length ≤ a from .inl he)]; rfl
theorem ris_n (n : Nat) (l : List Token) (a : Nat) (e : Int) (s : Rt.Bs) : ref35_Reader_is n (RR l a e) s = some (RR l a e, isT l a e s) := by
  unfold ref35_Reader_is
  rw [guard_n, Option.bind_some]
  by_cases h : e ≠ 0 ∨ l.length ≤ a
  · rw [decide_eq_true h, cond_true, isT_end h]
  · rw [decide_eq_false h, cond_false]
    have h1 : e = 0 := by
      by_cases he : e = 0
      · exact he
      · exact absurd (.inl he) h
    have h2 : a < l.length := by
      rcases Nat.lt_or_ge a l.length with h2 | h2
      · exact h2
      · exact absurd (.inr h2) h
    subst h1
    show (ix l (a : Int)).bind _ = _
    rw [ix_some h2, Option.bind_some]
    unfold isT
    rw [nextT_at h2]
    cases l[a].Text == s <;> cases l[a].Kind == 0 <;> rfl
theorem rtake_n (n : Nat) {l : List Token} {a : Nat} {e : Int} (s : Rt.Bs) (hl : l.length ≤ 1000000) : ref35_Reader_take n (RR l a e) s = some (RR l (bif isT l a e s then a + 1 else a) e, isT l a e s) := by
  unfold ref35_Reader_take
  rw [ris_n, Option.bind_some]
  dsimp only
  cases h : isT l a e s with
  | false => rfl
  | true =>
    have h2 := (isT_lt h).1
    rw [cond_true, Option.bind_some, inc64 (by omega)]; rfl
theorem rtake_no {l : List Token} {a : Nat} {e : Int} {s : Rt.Bs} (hl : l.length ≤ 1000000) (h : isT l a e s = false) : Ev (fun n => ref35_Reader_take n (RR l a e) s) (RR l a e, false) := Ev.all fun n => by rw [rtake_n n s hl, h]; rfl
theorem rtake_yes {l : List Token} {a : Nat} {e : Int} {s : Rt.Bs} (hl : l.length ≤ 1000000) (h : isT l a e s = true) : Ev (fun n => ref35_Reader_take n (RR l a e) s) (RR l (a + 1) e, true) := Ev.all fun n => by rw [rtake_n n s hl, h]; rfl
theorem rfail_n (n : Nat) (l : List Token) (a : Nat) (e x : Int) : ref35_Reader_fail n (RR l a e) x = some (RR l a (failE e x)) := by
  unfold ref35_Reader_fail failE
  by_cases he : e = 0
  · subst he; rfl
  · have e1 : (e == 0) = false := by simpa using he
    rw [if_neg he]
    show (bif e == 0 then _ else _) = _
    rw [e1]; rfl
def In2 (l : List Token) (a : Nat) (r : reader) (R : Reader) : Prop := ∃ (b : Nat) (e : Int), r = Rd l b e ∧ R = RR l b e ∧ a ≤ b ∧ b ≤ l.length
def InX2 (l : List Token) (a : Nat) (p : reader × M.Expr) (q : Reader × M.Expr) : Prop := In2 l a p.1 q.1 ∧ p.2 = q.2 ∧ Fit p.2
theorem In2.here {l : List Token} {a : Nat} {e : Int} (h : a ≤ l.length) : In2 l a (Rd l a e) (RR l a e) := ⟨a, e, rfl, rfl, Nat.le_refl _, h⟩
theorem take_2 {l : List Token} {a : Nat} {e : Int} (s : Rt.Bs) (hl : l.length ≤ 1000000) (ha : a ≤ l.length) : T2 (fun p q => In2 l a p.1 q.1 ∧ p.2 = q.2) (fun n => tariff_reader_take n (Rd l a e) s) (fun n => ref35_Reader_take n (RR l a e) s) := by
  refine ⟨_, _, Ev.all fun n => take_n n s hl ha, Ev.all fun n => rtake_n n s hl, ?_, rfl⟩
  cases h : isT l a e s with
  | false => exact In2.here ha
  | true => exact ⟨a + 1, e, rfl, rfl, by omega, (isT_lt h).1⟩
theorem need1_2 {l : List Token} (hl : l.length ≤ 1000000) {a : Nat} {e : Int} (ha : a ≤ l.length) (w : Rt.Bs) : ∃ (b : Nat) (e' : Int), a ≤ b ∧ b ≤ l.length ∧ (∀ n, ref35_Reader_need n (RR l a e) w = some (RR l b e')) ∧
    ∀ (n : Nat) (ws : List Rt.Bs) (i m : Nat) (kont : List Token → Int → Int → Option reader), ws[i]? = some w → ws.length ≤ 1000 → tariff_reader_need_L1 n ws kont (m + 1) (i : Int) l (a : Int) e = tariff_reader_need_L1 n ws kont m ((i + 1 : Nat) : Int) l (b : Int) e' := by
  have hi : ∀ {ws : List Rt.Bs} {i : Nat}, ws[i]? = some w → i < ws.length ∧ ix ws (i : Int) = some w := by
    intro ws i h
    refine ⟨?_, by rw [ix_nat]; exact h⟩
    rcases Nat.lt_or_ge i ws.length with h1 | h1
    · exact h1
    · rw [List.getElem?_eq_none h1] at h; cases h
  cases h : isT l a e w with
  | false =>
    refine ⟨a, failE e 12, Nat.le_refl _, ha, fun n => ?_, fun n ws i m kont hw hws => ?_⟩
    · unfold ref35_Reader_need
      rw [rtake_n n w hl, Option.bind_some, h]
      dsimp only
      rw [Bool.not_false, cond_true, cond_false, rfail_n]; rfl
    · obtain ⟨h1, h2⟩ := hi hw
      rw [tariff_reader_need_L1_s, decide_eq_true (by omega), cond_true, h2, Option.bind_some, take_n n w hl ha, Option.bind_some, h]
      dsimp only
      rw [Bool.not_false, cond_true, cond_false, fail_n, Option.bind_some, inc64 (by omega)]
  | true =>
    have h4 := isT_lt h
    refine ⟨a + 1, e, by omega, h4.1, fun n => ?_, fun n ws i m kont hw hws => ?_⟩
    · unfold ref35_Reader_need
      rw [rtake_n n w hl, Option.bind_some, h]; rfl
    · obtain ⟨h1, h2⟩ := hi hw
      rw [tariff_reader_need_L1_s, decide_eq_true (by omega), cond_true, h2, Option.bind_some, take_n n w hl ha, Option.bind_some, h]
      dsimp only
      rw [Bool.not_true, cond_false, cond_true, inc64 (by omega)]
theorem need_2 {l : List Token} (hl : l.length ≤ 1000000) {a : Nat} {e : Int} (ha : a ≤ l.length) (w : Rt.Bs) : T2 (In2 l a) (fun n => tariff_reader_need n (Rd l a e) [w]) (fun n => ref35_Reader_need n (RR l a e) w) := by
  obtain ⟨b, e', h1, h2, h3, h4⟩ := need1_2 hl ha (e := e) w
  refine ⟨Rd l b e', RR l b e', ⟨2, fun n hn => ?_⟩, Ev.all h3, b, e', rfl, rfl, h1, h2⟩
  obtain ⟨n, rfl⟩ : ∃ k, n = k + 2 := ⟨n - 2, by omega⟩
  exact (h4 (n + 2) [w] 0 (n + 1) _ rfl (by simp)).trans rfl
theorem need3_2 {l : List Token} (hl : l.length ≤ 1000000) {a : Nat} {e : Int} (ha : a ≤ l.length) (u v w : Rt.Bs) : T2 (In2 l a) (fun n => tariff_reader_need n (Rd l a e) [u, v, w]) (fun n => (ref35_Reader_need n (RR l a e) u).bind fun v4 => (ref35_Reader_need n v4 v).bind fun v5 => ref35_Reader_need n v5 w) := by
  obtain ⟨b, e', h1, h2, h3, h4⟩ := need1_2 hl ha (e := e) u
  obtain ⟨b2, e2, g1, g2, g3, g4⟩ := need1_2 hl h2 (e := e') v
  obtain ⟨b3, e3, k1, k2, k3, k4⟩ := need1_2 hl g2 (e := e2) w
  refine ⟨Rd l b3 e3, RR l b3 e3, ⟨4, fun n hn => ?_⟩, Ev.all fun n => ?_, b3, e3, rfl, rfl, by omega, k2⟩
  · obtain ⟨n, rfl⟩ : ∃ k, n = k + 4 := ⟨n - 4, by omega⟩
    refine (h4 (n + 4) [u, v, w] 0 (n + 3) _ rfl (by simp)).trans ?_
    refine (g4 (n + 4) [u, v, w] 1 (n + 2) _ rfl (by simp)).trans ?_
    exact (k4 (n + 4) [u, v, w] 2 (n + 1) _ rfl (by simp)).trans rfl
  · rw [h3, Option.bind_some, g3, Option.bind_some, k3]
theorem one_2 {l : List Token} (hl : l.length ≤ 1000000) {a : Nat} {e : Int} (ha : a ≤ l.length) {k : Int} (hk : k ≠ 4) : T2 (fun p q => In2 l a p.1 q.1 ∧ p.2 = q.2) (fun n => tariff_reader_one n (Rd l a e) k) (fun n => ref35_Reader_one n (RR l a e) k) := by
  unfold tariff_reader_one ref35_Reader_one
  refine T2.l (Ev.all fun n => next_n n ha) (T2.r (Ev.all fun n => guard_n l a e) ?_)
  by_cases h : e ≠ 0 ∨ l.length ≤ a
  · refine T2.rt (decide_eq_true h) (T2.lt ?_ ?_)
    · rw [nextT_end h]; simpa [endT] using fun h => hk h.symm
    · exact T2.l (Ev.all fun n => fail_n n l a e 12) (T2.r (Ev.all fun n => rfail_n n l a e 12) (T2.pure ⟨In2.here ha, rfl⟩))
  · have h1 : e = 0 := by
      by_cases he : e = 0
      · exact he
      · exact absurd (.inl he) h
    have h2 : a < l.length := by
      rcases Nat.lt_or_ge a l.length with h2 | h2
      · exact h2
      · exact absurd (.inr h2) h
    subst h1
    refine T2.rf (decide_eq_false h) (T2.r (Ev.all fun n => ix_some h2) ?_)
    dsimp only
    rw [nextT_at h2]
    refine T2.bif (fun _ => ?_) (fun _ => ?_)
    · exact T2.l (Ev.all fun n => fail_n n l a 0 12) (T2.r (Ev.all fun n => rfail_n n l a 0 12) (T2.pure ⟨In2.here ha, rfl⟩))
    · rw [inc64 (by omega)]
      exact T2.pure ⟨⟨a + 1, 0, rfl, rfl, by omega, h2⟩, rfl⟩
end Go.Proofs.YtibkigpmkkkaeaaGreatDoor.Ta
