/-
  PLAIN: what one token is; what is printed is read back.
-/
import Derived.Test.YtaibejlploombaaDoorLexEqA
namespace Go.Proofs.YtaibejlploombaaDoor.Lx
open Rt M Go

/-! spans of two texts -/
theorem spanN_append {p : UInt8 → Bool} : ∀ {l r : Rt.Bs}, spanN p l = l.length → (r = [] ∨ p (r.headD 0) = false) → spanN p (l ++ r) = l.length
  | [], r, _, h => by
    rcases h with rfl | h
    · rfl
    · cases r with
      | nil => rfl
      | cons c r => simp only [List.headD_cons] at h; simp [spanN, h]
  | c :: l, r, h1, h => by
    simp only [spanN, List.length_cons] at h1
    cases hp : p c
    · simp [hp] at h1
    · simp only [hp, cond_true] at h1
      simp only [List.cons_append, spanN, hp, cond_true, List.length_cons]
      rw [spanN_append (by omega) h]
/-- a span ends where a byte follows that is none of its own -/
theorem spanN_stop {p : UInt8 → Bool} {c : UInt8} (hc : p c = false) (t : Rt.Bs) : ∀ l : Rt.Bs, spanN p (l ++ c :: t) = spanN p l
  | [] => by simp [spanN, hc]
  | d :: l => by
    have := spanN_stop hc t l
    simp only [List.cons_append, spanN, this]
theorem spanN_take {p : UInt8 → Bool} : ∀ (l : Rt.Bs) (j : Nat), spanN p l ≤ j → spanN p (l.take j) = spanN p l
  | [], j, _ => by simp
  | c :: l, 0, h => by
    simp only [spanN] at h ⊢
    cases hp : p c
    · simp [spanN]
    · simp [hp] at h
  | c :: l, j + 1, h => by
    simp only [List.take_succ_cons, spanN] at *
    cases hp : p c
    · rfl
    · simp only [hp, cond_true] at h ⊢
      rw [spanN_take l j (by omega)]
theorem spanN_full {p : UInt8 → Bool} : ∀ (l : Rt.Bs), spanN p (l.take (spanN p l)) = (l.take (spanN p l)).length := fun l => by
  rw [spanN_take l _ (Nat.le_refl _), List.length_take, Nat.min_eq_left (spanN_le p l)]
theorem headD_take {l : Rt.Bs} {j : Nat} (h : 1 ≤ j) : (l.take j).headD 0 = l.headD 0 := by
  cases l with
  | nil => simp
  | cons c r =>
    obtain ⟨k, rfl⟩ : ∃ k, j = k + 1 := ⟨j - 1, by omega⟩
    rfl
theorem headD_append {l r : Rt.Bs} (h : l ≠ []) : (l ++ r).headD 0 = l.headD 0 := by
  cases l with
  | nil => exact absurd rfl h
  | cons c l => rfl

/-! strings -/
theorem esc_len : ∀ v : Rt.Bs, v.length ≤ (escBody v).length
  | [] => by simp [escBody]
  | c :: v => by
    have := esc_len v
    simp only [escBody, esc1, List.length_append, List.length_cons]
    split <;> simp <;> omega
theorem spanN_cons {p : UInt8 → Bool} {c : UInt8} {v : Rt.Bs} (h : spanN p (c :: v) = (c :: v).length) : p c = true ∧ spanN p v = v.length := by
  simp only [spanN, List.length_cons] at h
  cases hp : p c
  · simp [hp] at h
  · simp only [hp, cond_true] at h; exact ⟨rfl, by omega⟩
theorem qloop_esc (rest : Rt.Bs) : ∀ (v acc : Rt.Bs) (n : Nat), spanN isPlain v = v.length → qloop (escBody v ++ 34 :: rest) acc n = some (acc ++ v, n + (escBody v).length)
  | [], acc, n, _ => by
    rw [escBody, List.nil_append, qloop_cons, if_neg (by decide), if_pos (by decide)]
    simp
  | c :: v, acc, n, h => by
    obtain ⟨hp, hv⟩ := spanN_cons h
    simp only [escBody, esc1]
    by_cases hc : c.toNat = 34 ∨ c.toNat = 92
    · rw [if_pos hc, List.append_assoc, List.cons_append, List.cons_append, List.nil_append, qloop_cons, if_neg (by decide), if_neg (by decide), if_pos (by decide)]
      simp only [if_pos hc]
      rw [qloop_esc rest v _ _ hv]
      simp; omega
    · rw [if_neg hc, List.append_assoc, List.cons_append, List.nil_append, qloop_cons, if_neg (by simp [hp]), if_neg (fun e => hc (.inl e)), if_neg (fun e => hc (.inr e)), qloop_esc rest v _ _ hv]
      simp; omega
theorem plain_snoc : ∀ {a : Rt.Bs} {c : UInt8}, isPlain c = true → spanN isPlain a = a.length → spanN isPlain (c :: a) = (c :: a).length := by
  intro a c h1 h2
  simp [spanN, h1, h2]
theorem qloop_some : ∀ {r acc v : Rt.Bs} {n k : Nat}, qloop r acc n = some (v, k) → ∃ u rest, v = acc ++ u ∧ spanN isPlain u = u.length ∧ r = escBody u ++ 34 :: rest ∧ k = n + (escBody u).length
  | [], _, _, _, _, h => by simp [qloop] at h
  | c :: r, acc, v, n, k, h => by
    rw [qloop_cons] at h
    split at h
    · cases h
    rename_i hp
    have hp : isPlain c = true := by simpa using hp
    split at h
    · rename_i h34
      cases h
      have : c = 34 := UInt8.toNat_inj.mp h34
      subst this
      exact ⟨[], r, by simp, rfl, rfl, rfl⟩
    rename_i h34
    split at h
    · rename_i h92
      have h92' : c = 92 := UInt8.toNat_inj.mp h92
      subst h92'
      cases r with
      | nil => cases h
      | cons d r' =>
        simp only at h
        split at h
        · rename_i hd
          obtain ⟨u, rest, rfl, h1, rfl, rfl⟩ := qloop_some h
          have hpd : isPlain d = true := by
            simp only [isPlain, decide_eq_true_eq]; omega
          exact ⟨d :: u, rest, by simp, plain_snoc hpd h1, by simp [escBody, esc1, hd], by simp [escBody, esc1, hd]; omega⟩
        · cases h
    · rename_i h92
      obtain ⟨u, rest, rfl, h1, rfl, rfl⟩ := qloop_some h
      have hc : ¬ (c.toNat = 34 ∨ c.toNat = 92) := fun e => e.elim h34 h92
      exact ⟨c :: u, rest, by simp, plain_snoc hp h1, by simp [escBody, esc1, hc], by simp [escBody, esc1, hc]; omega⟩

/-! one token -/
def Good (t : Token) : Prop :=
  (t.Kind = 0 ∧ name t.Text = true ∧ t.N = 0) ∨ (t.Kind = 1 ∧ (number t.Text).2 = true ∧ t.N = ((number t.Text).1 : Int)) ∨
  (t.Kind = 2 ∧ t.Text.length ≤ 400 ∧ spanN isPlain t.Text = t.Text.length ∧ t.N = 0) ∨ (t.Kind = 3 ∧ (∃ c, t.Text = [c] ∧ isSign c = true) ∧ t.N = 0)

theorem name_parts {l : Rt.Bs} (h : name l = true) : l ≠ [] ∧ isLetter (l.headD 0) = true ∧ l.length ≤ 20 ∧ spanN isInner l = l.length := by
  simp only [name, Bool.and_eq_true, Bool.not_eq_true', List.isEmpty_eq_false_iff, decide_eq_true_eq, beq_iff_eq] at h
  exact ⟨h.1.1.1, h.1.1.2, h.1.2, h.2⟩
theorem number_parts {l : Rt.Bs} (h : (number l).2 = true) : l ≠ [] ∧ spanN isDigit l = l.length ∧ l.length ≤ 13 ∧ (l.headD 0 = 48 → l = [48]) ∧ dec l ≤ maxNumber ∧ (number l).1 = dec l := by
  simp only [number] at *
  split at h
  · rename_i h1
    obtain ⟨h1, h2⟩ := h1
    rw [if_pos ⟨h1, h2⟩]
    simp only [numberOk, Bool.and_eq_true, Bool.not_eq_true', List.isEmpty_eq_false_iff, decide_eq_true_eq, beq_iff_eq, Bool.and_eq_false_iff, Bool.not_eq_false'] at h1
    refine ⟨h1.1.1.1, h1.1.1.2, h1.2, ?_, h2, rfl⟩
    intro e
    rcases h1.1.2 with h3 | h3
    · exact absurd e (by simpa using h3)
    · exact h3
  · cases h
theorem digit_letter {c : UInt8} (h : isDigit c = true) : isLetter c = false := by
  simp only [isDigit, isLetter, decide_eq_true_eq, decide_eq_false_iff_not] at *; omega
theorem headD_span {p : UInt8 → Bool} {l : Rt.Bs} (h0 : l ≠ []) (h : spanN p l = l.length) : p (l.headD 0) = true := by
  cases l with
  | nil => exact absurd rfl h0
  | cons c r => exact (spanN_cons h).1
theorem sign_all {c : UInt8} (h : isSign c = true) : isLetter c = false ∧ isDigit c = false ∧ c.toNat ≠ 34 ∧ isBlank c = false ∧ c.toNat ≠ 35 :=
  of_decide_eq_true (byte_all (p := fun c => decide (isSign c = true → isLetter c = false ∧ isDigit c = false ∧ c.toNat ≠ 34 ∧ isBlank c = false ∧ c.toNat ≠ 35)) (by decide +kernel) c) h

/-- a good token's text, and what may follow it -/
def Ends (r : Rt.Bs) : Prop := r = [] ∨ isInner (r.headD 0) = false
theorem Ends.digit {r : Rt.Bs} (h : Ends r) : r = [] ∨ isDigit (r.headD 0) = false := by
  rcases h with h | h
  · exact .inl h
  · right
    simp only [isInner, isDigit, decide_eq_false_iff_not] at *; omega
theorem Ends.inner {r : Rt.Bs} (h : Ends r) : r = [] ∨ isInner (r.headD 0) = false := h

theorem shown_ne {t : Token} (h : Good t) : shown t ≠ [] := by
  rcases h with ⟨hk, hn, _⟩ | ⟨hk, hn, _⟩ | ⟨hk, _⟩ | ⟨hk, ⟨c, hc, _⟩, _⟩
  · simp only [shown, hk]; exact (name_parts hn).1
  · simp only [shown, hk]; exact (number_parts hn).1
  · simp [shown, hk, escaped]
  · simp [shown, hk, hc]
theorem shown_head {t : Token} (h : Good t) : isBlank ((shown t).headD 0) = false ∧ ((shown t).headD 0).toNat ≠ 35 := by
  rcases h with ⟨hk, hn, _⟩ | ⟨hk, hn, _⟩ | ⟨hk, _⟩ | ⟨hk, ⟨c, hc, hs⟩, _⟩
  · have := (name_parts hn).2.1
    rw [shown, if_neg (by omega)]
    simp only [isLetter, isBlank, decide_eq_true_eq, decide_eq_false_iff_not] at *
    omega
  · have := headD_span (number_parts hn).1 (number_parts hn).2.1
    rw [shown, if_neg (by omega)]
    simp only [isDigit, isBlank, decide_eq_true_eq, decide_eq_false_iff_not] at *
    omega
  · simp [shown, hk, escaped]; decide
  · simp only [shown, hk, hc]
    exact ⟨(sign_all hs).2.2.2.1, (sign_all hs).2.2.2.2⟩

theorem next_shown {t : Token} (h : Good t) {r : Rt.Bs} (hr : Ends r) : next (shown t ++ r) = (⟨t.Kind, t.Text, t.N, 0⟩, (shown t).length, 0) := by
  have hne := shown_ne h
  have hh := headD_append (r := r) hne
  rcases h with ⟨hk, hn, h0⟩ | ⟨hk, hn, h0⟩ | ⟨hk, h4, hp, h0⟩ | ⟨hk, ⟨c, hc, hs⟩, h0⟩
  · have hs : shown t = t.Text := by simp [shown, hk]
    rw [hs] at hne hh ⊢
    obtain ⟨_, h2, _, h3⟩ := name_parts hn
    have h5 := spanN_append h3 hr.inner
    rw [next, hh, if_pos h2, h5, List.take_left' rfl, if_pos hn, hk, h0]
  · have hs : shown t = t.Text := by simp [shown, hk]
    rw [hs] at hne hh ⊢
    obtain ⟨_, h3, _⟩ := number_parts hn
    have h2 := headD_span hne h3
    have h5 := spanN_append h3 hr.digit
    rw [next, hh, if_neg (by rw [digit_letter h2]; decide), if_pos h2, h5, List.take_left' rfl, if_pos hn, hk, h0]
  · have hs : shown t = escaped t.Text := by simp [shown, hk]
    rw [hs] at hne hh ⊢
    have h2 : (escaped t.Text ++ r).headD 0 = 34 := by simp [escaped]
    have h3 : (escaped t.Text ++ r).drop 1 = escBody t.Text ++ 34 :: r := by simp [escaped]
    have h5 : quoted (escaped t.Text ++ r) = (t.Text, (escaped t.Text).length) := by
      rw [quoted, h3, qloop_esc r _ _ _ hp]
      simp only [List.nil_append]
      rw [if_neg (by omega)]
      simp [escaped]; omega
    have h6 : (escaped t.Text).length ≠ 0 := by simp [escaped]
    rw [next, h2, h5, if_neg (by decide), if_neg (by decide), if_pos (by decide)]
    simp only
    rw [if_neg h6, hk, h0]
  · have hs' : shown t = [c] := by simp [shown, hk, hc]
    rw [hs']
    obtain ⟨h1, h2, h3, _⟩ := sign_all hs
    simp [next, h1, h2, h3, hs, hk, hc, h0]

theorem quoted_some {l : Rt.Bs} (hz : (quoted l).2 ≠ 0) : ∃ u rest, l.drop 1 = escBody u ++ 34 :: rest ∧ spanN isPlain u = u.length ∧ u.length ≤ 400 ∧ quoted l = (u, (escBody u).length + 2) := by
  simp only [quoted] at *
  cases hq : qloop (l.drop 1) [] 1 with
  | none => rw [hq] at hz; exact absurd rfl hz
  | some x =>
    obtain ⟨v, k⟩ := x
    rw [hq] at hz
    simp only at hz ⊢
    by_cases h4 : v.length > 400
    · rw [if_pos h4] at hz; exact absurd rfl hz
    obtain ⟨u, rest, hv, h1, h2, rfl⟩ := qloop_some hq
    rw [List.nil_append] at hv
    subst hv
    exact ⟨v, rest, h2, h1, by omega, by rw [if_neg h4, show 1 + (escBody v).length + 1 = (escBody v).length + 2 by omega]⟩
theorem next_ok {l : Rt.Bs} (h0 : l ≠ []) (h : (next l).2.2 = 0) : Good (next l).1 ∧ (next l).1.Pos = 0 ∧ (next l).2.1 = (shown (next l).1).length ∧ l = shown (next l).1 ++ l.drop (next l).2.1 := by
  have hi := spanN_le isInner l
  have hd := spanN_le isDigit l
  by_cases hl : isLetter (l.headD 0) = true
  · by_cases hn : name (l.take (spanN isInner l)) = true
    · have e : next l = (⟨0, l.take (spanN isInner l), 0, 0⟩, spanN isInner l, 0) := by rw [next, if_pos hl, if_pos hn]
      rw [e]
      exact ⟨.inl ⟨rfl, hn, rfl⟩, rfl, by simp [shown, Nat.min_eq_left hi], by simp [shown]⟩
    · have e : next l = (errT, 0, 3) := by rw [next, if_pos hl, if_neg hn]
      rw [e] at h; cases h
  by_cases hdd : isDigit (l.headD 0) = true
  · by_cases hn : (number (l.take (spanN isDigit l))).2 = true
    · have e : next l = (⟨1, l.take (spanN isDigit l), (number (l.take (spanN isDigit l))).1, 0⟩, spanN isDigit l, 0) := by rw [next, if_neg hl, if_pos hdd, if_pos hn]
      rw [e]
      exact ⟨.inr (.inl ⟨rfl, hn, rfl⟩), rfl, by simp [shown, Nat.min_eq_left hd], by simp [shown]⟩
    · have e : next l = (errT, 0, 3) := by rw [next, if_neg hl, if_pos hdd, if_neg hn]
      rw [e] at h; cases h
  by_cases h34 : (l.headD 0).toNat = 34
  · by_cases hz : (quoted l).2 = 0
    · have e : next l = (errT, 0, 2) := by rw [next, if_neg hl, if_neg hdd, if_pos h34, if_pos hz]
      rw [e] at h; cases h
    · have e : next l = (⟨2, (quoted l).1, 0, 0⟩, (quoted l).2, 0) := by rw [next, if_neg hl, if_neg hdd, if_pos h34, if_neg hz]
      rw [e]
      obtain ⟨u, rest, h2, h1, h4, hq⟩ := quoted_some hz
      rw [hq]
      have hc : l = 34 :: l.drop 1 := by
        cases l with
        | nil => exact absurd rfl h0
        | cons c r =>
          have : c = 34 := UInt8.toNat_inj.mp h34
          rw [this]; rfl
      refine ⟨.inr (.inr (.inl ⟨rfl, h4, h1, rfl⟩)), rfl, by simp [shown, escaped], ?_⟩
      have e2 : l.drop ((escBody u).length + 2) = rest := by
        rw [show (escBody u).length + 2 = 1 + ((escBody u).length + 1) by omega, ← List.drop_drop, h2, ← List.drop_drop, List.drop_left' rfl]; rfl
      simp only
      rw [e2]
      simp only [shown, if_true, escaped]
      rw [List.cons_append, List.append_assoc, List.cons_append, List.nil_append, ← h2]
      exact hc
  by_cases hs : isSign (l.headD 0) = true
  · have e : next l = (⟨3, l.take 1, 0, 0⟩, 1, 0) := by rw [next, if_neg hl, if_neg hdd, if_neg h34, if_pos hs]
    rw [e]
    cases l with
    | nil => exact absurd rfl h0
    | cons c r => exact ⟨.inr (.inr (.inr ⟨rfl, ⟨c, rfl, hs⟩, rfl⟩)), rfl, by simp [shown], by simp [shown]⟩
  · have e : next l = (errT, 0, 10) := by rw [next, if_neg hl, if_neg hdd, if_neg h34, if_neg hs]
    rw [e] at h; cases h
end Go.Proofs.YtaibejlploombaaDoor.Lx
