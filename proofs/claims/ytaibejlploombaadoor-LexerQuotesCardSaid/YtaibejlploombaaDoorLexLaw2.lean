/-
  PLAIN: LexerErrors, LexerQuotes.
-/
import Derived.Test.YtaibejlploombaaDoorLexLaws
namespace Go.Proofs.YtaibejlploombaaDoor.Lx
open Rt M Go

theorem next_err (x : Rt.Bs) : (next x).2.2 = 0 ∨ (next x).2.2 = 2 ∨ (next x).2.2 = 3 ∨ (next x).2.2 = 10 := by
  rw [next]
  split
  · split
    · exact .inl rfl
    · exact .inr (.inr (.inl rfl))
  split
  · split
    · exact .inl rfl
    · exact .inr (.inr (.inl rfl))
  split
  · split
    · exact .inr (.inl rfl)
    · exact .inl rfl
  split
  · exact .inl rfl
  · exact .inr (.inr (.inr rfl))

theorem next_take {x : Rt.Bs} (h0 : x ≠ []) (h : (next x).2.2 = 0) {j : Nat} (hj : (next x).2.1 ≤ j) : next (x.take j) = next x := by
  have hi := spanN_le isInner x
  have hd := spanN_le isDigit x
  have h1 := next_len h0 h
  have hh : (x.take j).headD 0 = x.headD 0 := headD_take (by omega)
  have ht : ∀ k, k ≤ j → (x.take j).take k = x.take k := fun k hk => by rw [List.take_take, Nat.min_eq_left hk]
  by_cases hl : isLetter (x.headD 0) = true
  · have hN : ∀ y : Rt.Bs, y.headD 0 = x.headD 0 → next y = if name (y.take (spanN isInner y)) then (⟨0, y.take (spanN isInner y), 0, 0⟩, spanN isInner y, 0) else (errT, 0, 3) := fun y hy => by rw [next, hy, if_pos hl]
    rw [hN x rfl] at hj
    rw [hN x rfl] at h
    have hs : spanN isInner x ≤ j := by
      by_cases e : name (x.take (spanN isInner x)) = true
      · rw [if_pos e] at hj; exact hj
      · rw [if_neg e] at h; cases h
    rw [hN x rfl, hN _ hh, spanN_take x j hs, ht _ hs]
  by_cases hdd : isDigit (x.headD 0) = true
  · have hN : ∀ y : Rt.Bs, y.headD 0 = x.headD 0 → next y = if (number (y.take (spanN isDigit y))).2 then (⟨1, y.take (spanN isDigit y), (number (y.take (spanN isDigit y))).1, 0⟩, spanN isDigit y, 0) else (errT, 0, 3) := fun y hy => by rw [next, hy, if_neg hl, if_pos hdd]
    rw [hN x rfl] at hj
    rw [hN x rfl] at h
    have hs : spanN isDigit x ≤ j := by
      by_cases e : (number (x.take (spanN isDigit x))).2 = true
      · rw [if_pos e] at hj; exact hj
      · rw [if_neg e] at h; cases h
    rw [hN x rfl, hN _ hh, spanN_take x j hs, ht _ hs]
  by_cases h34 : (x.headD 0).toNat = 34
  · have hN : ∀ y : Rt.Bs, y.headD 0 = x.headD 0 → next y = if (quoted y).2 = 0 then (errT, 0, 2) else (⟨2, (quoted y).1, 0, 0⟩, (quoted y).2, 0) := fun y hy => by rw [next, hy, if_neg hl, if_neg hdd, if_pos h34]
    rw [hN x rfl] at hj
    rw [hN x rfl] at h
    have hz : (quoted x).2 ≠ 0 := by
      intro e; rw [if_pos e] at h; cases h
    rw [if_neg hz] at hj
    obtain ⟨u, rest, e1, e2, e3, e4⟩ := quoted_some hz
    rw [e4] at hj
    have e5 : quoted (x.take j) = (u, (escBody u).length + 2) := by
      have e6 : (x.take j).drop 1 = escBody u ++ 34 :: rest.take (j - ((escBody u).length + 2)) := by
        rw [List.drop_take, e1, List.take_append, List.take_of_length_le (by simp only at hj; omega), show j - 1 - (escBody u).length = (j - ((escBody u).length + 2)) + 1 by simp only at hj; omega, List.take_succ_cons]
      rw [quoted, e6, qloop_esc _ _ _ _ e2]
      simp only [List.nil_append]
      rw [if_neg (by omega), show 1 + (escBody u).length + 1 = (escBody u).length + 2 by omega]
    rw [hN x rfl, hN _ hh, e5, e4]
  · have hN : ∀ y : Rt.Bs, y.headD 0 = x.headD 0 → next y = if isSign (x.headD 0) then (⟨3, y.take 1, 0, 0⟩, 1, 0) else (errT, 0, 10) := fun y hy => by rw [next, hy, if_neg hl, if_neg hdd, if_neg h34]
    rw [hN x rfl, hN _ hh, ht 1 (by omega)]

/-- where a scan stops: before it all is well, and there it begins -/
theorem scanF_stop : ∀ {f : Nat} {r : Rt.Bs} {a : Nat}, r.length < f → (scanF f r a).2.2 ≠ 0 → ∃ k, (scanF f r a).2.1 = a + k ∧ k < r.length ∧ gapN false (r.drop k) = 0 ∧ (next (r.drop k)).2.2 = (scanF f r a).2.2 ∧ ∀ f', r.length < f' → (scanF f' (r.take k) a).2.2 = 0
  | f + 1, r, a, hf, h => by
    have hg := gapN_le false r
    by_cases h1 : gapN false r = r.length
    · rw [scanF_end h1] at h; exact absurd rfl h
    by_cases h2 : (next (r.drop (gapN false r))).2.2 = 0
    · have h3 := next_len (gap_ne h1) h2
      simp only [List.length_drop] at h3
      rw [scanF_more h1 h2] at h ⊢
      split at h
      · rename_i h4
        rw [if_pos h4]
        obtain ⟨k, e1, e2, e3, e4, e5⟩ := scanF_stop (f := f) (by rw [List.length_drop]; omega) h4
        simp only [List.length_drop] at e2 e5
        refine ⟨gapN false r + (next (r.drop (gapN false r))).2.1 + k, by rw [e1]; omega, by omega, by rw [← List.drop_drop]; exact e3, by rw [← List.drop_drop]; exact e4, ?_⟩
        intro f' hf'
        obtain ⟨f', rfl⟩ : ∃ k, f' = k + 1 := ⟨f' - 1, by omega⟩
        generalize hK : gapN false r + (next (r.drop (gapN false r))).2.1 + k = K at *
        have hgt : gapN false (r.take K) = gapN false r := by rw [gap_take]; omega
        have hnt : next ((r.take K).drop (gapN false r)) = next (r.drop (gapN false r)) := by
          rw [List.drop_take]
          exact next_take (gap_ne h1) h2 (by omega)
        have hlt : (r.take K).length = K := by rw [List.length_take]; omega
        have hrest : (r.take K).drop (gapN false r + (next (r.drop (gapN false r))).2.1) = (r.drop (gapN false r + (next (r.drop (gapN false r))).2.1)).take k := by
          rw [List.drop_take, show K - (gapN false r + (next (r.drop (gapN false r))).2.1) = k by omega]
        rw [scanF_more (by rw [hgt, hlt]; omega) (by rw [hgt, hnt]; exact h2), hgt, hnt, hrest]
        have := e5 f' (by omega)
        rw [if_neg (by rw [this]; simp)]
      · exact absurd rfl h
    · rw [scanF_bad h1 h2]
      refine ⟨gapN false r, rfl, by omega, gap_idem false r, rfl, ?_⟩
      intro f' hf'
      obtain ⟨f', rfl⟩ : ∃ k, f' = k + 1 := ⟨f' - 1, by omega⟩
      rw [scanF_end (by rw [gap_take, List.length_take]; omega)]

theorem scan_stop {s : Rt.Bs} (hs : s.length ≤ 4000) (h : (scan s).2.2 ≠ 0) : (scan s).2.1 < s.length ∧ ((scan s).2.2 = 2 ∨ (scan s).2.2 = 3 ∨ (scan s).2.2 = 10) ∧ (scan (s.take (scan s).2.1)).2.2 = 0 ∧ (scan (s.drop (scan s).2.1)).2.2 = (scan s).2.2 ∧ (scan (s.drop (scan s).2.1)).2.1 = 0 := by
  have e0 := scan_small hs
  have h' := h
  rw [e0] at h'
  obtain ⟨k, e1, e2, e3, e4, e5⟩ := scanF_stop (f := s.length + 1) (by omega) h'
  rw [← e0, Nat.zero_add] at e1
  rw [← e0] at e4
  have hne : s.drop k ≠ [] := by
    intro e; have := congrArg List.length e; simp only [List.length_drop, List.length_nil] at this; omega
  have hx : (next (s.drop k)).2.2 ≠ 0 := by rw [e4]; exact h
  have hd : scan (s.drop k) = ([], 0, (next (s.drop k)).2.2) := by
    rw [scan_small (by rw [List.length_drop]; omega), scanF_bad (by rw [e3, List.length_drop]; omega) (by rw [e3, List.drop_zero]; exact hx), e3, List.drop_zero]
  rw [e1]
  refine ⟨e2, ?_, ?_, ?_, ?_⟩
  · rw [← e4]
    rcases next_err (s.drop k) with h3 | h3
    · exact absurd h3 hx
    · exact h3
  · rw [scan_small (by rw [List.length_take]; omega), scanF_fuel (f' := s.length + 1) (by rw [List.length_take]; omega) (by rw [List.length_take]; omega)]
    exact e5 _ (by omega)
  · rw [hd]; exact e4
  · rw [hd]

/-! LexerErrors -/
theorem fill_step {n k : Nat} (hk : k < 4000) {kont : Rt.Bs → Option Bool} (m : Nat) : law06_LexerErrors_L1 n kont (m + 1) (List.replicate k 32) = law06_LexerErrors_L1 n kont m (List.replicate (k + k) 32) := by
  rw [law06_LexerErrors_L1_s, decide_eq_true (by simp; omega), cond_true, scat_le (by simp; omega), Option.bind_some, List.replicate_append_replicate]
theorem fill_end {n : Nat} {kont : Rt.Bs → Option Bool} (m : Nat) : law06_LexerErrors_L1 n kont (m + 10) [32, 32, 32, 32, 32, 32, 32, 32, 32, 32] = kont (List.replicate 5120 32) := by
  have e : ([32, 32, 32, 32, 32, 32, 32, 32, 32, 32] : Rt.Bs) = List.replicate 10 32 := rfl
  rw [e, fill_step (by omega) (m + 9), fill_step (by omega) (m + 8), fill_step (by omega) (m + 7), fill_step (by omega) (m + 6), fill_step (by omega) (m + 5), fill_step (by omega) (m + 4), fill_step (by omega) (m + 3),
    fill_step (by omega) (m + 2), fill_step (by omega) (m + 1), law06_LexerErrors_L1_s, decide_eq_false (by rw [List.length_replicate]; omega), cond_false]
theorem gap_spaces : ∀ k : Nat, gapN false (List.replicate k 32) = k
  | 0 => rfl
  | k + 1 => by rw [List.replicate_succ, gapN, if_pos (by decide), gap_spaces k]
theorem scan_spaces {s : Rt.Bs} {k : Nat} (h : s.length + 1 + k ≤ 4000) : (scan (s ++ 10 :: List.replicate k 32)).2.2 = (scan s).2.2 ∧ (scan (s ++ 10 :: List.replicate k 32)).1 = (scan s).1 := by
  rw [scan_join (by simp; omega), scanF_end (by rw [gap_spaces]; simp)]
  by_cases e : (scan s).2.2 = 0
  · simp [both, e]
  · simp [both, e]

theorem errors_end {s : Rt.Bs} (hs : s.length ≤ 900) {n : Nat} (hn : 10000 ≤ n) (h : (scan s).2.2 ≠ 0) :
    ((bif decide (((scan s).2.1 : Int) < 0) then some true else some (decide ((s.length : Int) ≤ ((scan s).2.1 : Int)))).bind fun v9 =>
      (bif v9 then some true else
        (bif (scan s).2.2 != 10 then some ((scan s).2.2 != 3) else some false).bind fun v16 =>
        (bif v16 then some ((scan s).2.2 != 2) else some false).bind fun v17 => some v17).bind fun v10 =>
      bif v10 then some false else
        (ssl s 0 ((scan s).2.1 : Int)).bind fun t6 =>
        (lexer_Scan n t6).bind fun v11 =>
        (ssl s ((scan s).2.1 : Int) s.length).bind fun t7 =>
        (lexer_Scan n t7).bind fun v12 =>
        (bif true then some (v11.2.2 == 0) else some false).bind fun v13 =>
        (bif v13 then some (v12.2.2 == (scan s).2.2) else some false).bind fun v14 =>
        (bif v14 then some (v12.2.1 == 0) else some false).bind fun v15 => some v15) = some true := by
  obtain ⟨h1, h2, h3, h4, h5⟩ := scan_stop (by omega) h
  have e : (bif (scan s).2.2 != 10 then some ((scan s).2.2 != 3) else some false).bind (fun v16 => (bif v16 then some ((scan s).2.2 != 2) else some false).bind fun v17 => some v17) = some false := by
    rcases h2 with h2 | h2 | h2 <;> rw [h2] <;> rfl
  rw [decide_eq_false (by omega), cond_false, decide_eq_false (by omega), Option.bind_some, cond_false, e]
  simp only [Option.bind_some, cond_false, cond_true]
  rw [ssl_to _ (by omega), ssl_from _ (by omega)]
  simp only [Option.bind_some]
  rw [scan_eq (by rw [List.length_take]; omega) (by rw [List.length_take]; omega), scan_eq (by rw [List.length_drop]; omega) (by rw [List.length_drop]; omega)]
  simp only [Option.bind_some, h3, h4, h5, beq_self_eq_true, cond_true]
  rfl

theorem lexerErrors (s : Rt.Bs) (full : Bool) : law06_LexerErrors 10000 s full = some true := by
  have hs := take_len s
  rw [law06_LexerErrors, sane (by omega), Option.bind_some, cut_eq, Option.bind_some, scan_eq (by omega) (by omega), Option.bind_some]
  cases full
  · rw [cond_false]
    by_cases h : (scan (s.take 900)).2.2 = 0
    · simp [h]
    · have e : ((scan (s.take 900)).2.2 == 0) = false := beq_eq_false_iff_ne.mpr h
      simp only [e, cond_false]
      exact errors_end hs (n := 10000) (by omega) h
  · rw [cond_true, fill_end 9990, scat_le (by simp; omega), Option.bind_some]
    have hl : (s.take 900 ++ [10]).length = (s.take 900).length + 1 := by simp
    have hi : ∀ k : Nat, k ≤ 5000 → isub .i64 (k : Int) ((s.take 900 ++ [10]).length : Int) = ((k : Int) - ((s.take 900).length + 1 : Nat)) := by
      intro k hk
      rw [isub, wrap_i64 _ (by omega) (by omega), hl]
    have ha : ∀ k : Nat, k ≤ 5000 → 901 ≤ k → ssl (List.replicate 5120 32) 0 (isub .i64 (k : Int) ((s.take 900 ++ [10]).length : Int)) = some (List.replicate (k - ((s.take 900).length + 1)) 32) := by
      intro k hk hk2
      rw [hi k hk, show ((k : Int) - ((s.take 900).length + 1 : Nat)) = ((k - ((s.take 900).length + 1) : Nat) : Int) by omega, ssl_to _ (by rw [List.length_replicate]; omega), List.take_replicate, Nat.min_eq_left (by omega)]
    have h4 := ha 4000 (by omega) (by omega)
    have h5 := ha 4001 (by omega) (by omega)
    have e0 : ∀ k, (s.take 900 ++ [10]) ++ List.replicate k 32 = s.take 900 ++ 10 :: List.replicate k 32 := fun k => by simp
    have e1 : ((4000 : Nat) : Int) = 4000 := rfl
    have e2 : ((4001 : Nat) : Int) = 4001 := rfl
    rw [e1] at h4
    rw [e2] at h5
    have h6 := scan_spaces (s := s.take 900) (k := 4000 - ((s.take 900).length + 1)) (by omega)
    have h7 : (s.take 900 ++ 10 :: List.replicate (4001 - ((s.take 900).length + 1)) 32).length = 4001 := by rw [List.length_append, List.length_cons, List.length_replicate]; omega
    have h9 : (s.take 900 ++ 10 :: List.replicate (4000 - ((s.take 900).length + 1)) 32).length = 4000 := by rw [List.length_append, List.length_cons, List.length_replicate]; omega
    have h8 : scan (s.take 900 ++ 10 :: List.replicate (4001 - ((s.take 900).length + 1)) 32) = ([], 0, 6) := by rw [scan, if_pos (by omega)]
    rw [h4, Option.bind_some, scat_le (by rw [List.length_replicate]; omega), Option.bind_some, e0, scan_eq (by omega) (by omega), Option.bind_some, h5, Option.bind_some, scat_le (by rw [List.length_replicate]; omega), Option.bind_some, e0, scan_eq (by omega) (by omega),
      Option.bind_some, h8]
    simp only [h6.1, h6.2, bne_self_eq_false, cond_false, Option.bind_some]
    have e3 : (((0 : Nat) : Int) != 0) = false := rfl
    rw [e3]
    simp only [Option.bind_some, cond_false]
    by_cases h : (scan (s.take 900)).2.2 = 0
    · simp [h]
    · have e : ((scan (s.take 900)).2.2 == 0) = false := beq_eq_false_iff_ne.mpr h
      simp only [e, cond_false]
      exact errors_end hs (n := 10000) (by omega) h

/-! LexerQuotes -/
theorem scan_one {t : Token} (h : Good t) (hl : (shown t).length ≤ 4000) : scan (shown t) = ([⟨t.Kind, t.Text, t.N, 0⟩], 0, 0) := by
  have h0 : (shown t).length ≠ 0 := fun e => shown_ne h (List.length_eq_zero_iff.mp e)
  rw [scan_small hl]
  have := scanF_shown (t := t) h (r := []) (.inl rfl) (shown t).length 0
  rw [List.append_nil] at this
  rw [this]
  obtain ⟨f, hf⟩ : ∃ f, (shown t).length = f + 1 := ⟨(shown t).length - 1, by omega⟩
  rw [hf, scanF_end rfl]; rfl

theorem quotes_loop {s : Rt.Bs} (hs : s.length ≤ 900) {n : Nat} {kont : Bool → Option Bool} :
    ∀ {r : Rt.Bs} {i m : Nat} {b : Bool}, s.drop i = r → i ≤ s.length → r.length < m → law06_LexerQuotes_L1 n s kont m b (i : Int) = kont (b && r.all isPlain)
  | [], i, m + 1, b, h, hi, _ => by
    have := drop_nil h hi
    rw [law06_LexerQuotes_L1_s]; simp [this]
  | c :: r, i, m + 1, b, h, hi, hm => by
    have h1 := len_drop h
    simp only [List.length_cons] at hm
    have e : (bif b then some (decide ((32 : Int) ≤ (c.toNat : Int))) else some false).bind (fun v43 => bif v43 then some (decide ((c.toNat : Int) ≤ 126)) else some false) = some (b && isPlain c) := by
      cases b
      · rfl
      · by_cases h2 : 32 ≤ c.toNat
        · rw [decide_eq_true (by omega)]
          by_cases h3 : c.toNat ≤ 126
          · rw [decide_eq_true (by omega)]
            have : isPlain c = true := by simp only [isPlain, decide_eq_true_eq]; omega
            rw [this]; rfl
          · rw [decide_eq_false (by omega)]
            have : isPlain c = false := by simp only [isPlain, decide_eq_false_iff_not]; omega
            rw [this]; rfl
        · rw [decide_eq_false (by omega)]
          have : isPlain c = false := by simp only [isPlain, decide_eq_false_iff_not]; omega
          rw [this]; rfl
    rw [law06_LexerQuotes_L1_s, decide_eq_true (by omega), cond_true, sidx_drop h]
    simp only [Option.bind_some]
    rw [← Option.bind_assoc, e, Option.bind_some, iadd_nat1 _ (by omega), quotes_loop hs (drop_succ h) (by omega) (by omega), List.all_cons, Bool.and_assoc]

/-- what a text's only token says about names and numbers -/
def namesR (s : Rt.Bs) : Prop :=
  (((scan s).2.2 ≠ 0 ∨ (scan s).1.length ≠ 1) → name s = false ∧ number s = (0, false)) ∧
  (∀ t, (scan s).2.2 = 0 → (scan s).1 = [t] → (name s = (t.Text == s && t.Pos == 0 && t.Kind == 0)) ∧ ((number s).2 = (t.Text == s && t.Pos == 0 && t.Kind == 1)) ∧ (name s = true → s.length ≤ 20) ∧
    ((number s).2 = true → ((number s).1 : Int) = t.N ∧ (number s).1 ≤ maxNumber))
theorem number_no {s : Rt.Bs} (h : (number s).2 = false) : number s = (0, false) := by
  rw [number] at *
  split
  · rename_i h1; rw [if_pos h1] at h; cases h
  · rfl
theorem names_ok {s : Rt.Bs} (hs : s.length ≤ 900) : namesR s := by
  have hname : name s = true → scan s = ([⟨0, s, 0, 0⟩], 0, 0) := fun h => by
    have e : shown ⟨0, s, 0, 0⟩ = s := rfl
    have := scan_one (t := ⟨0, s, 0, 0⟩) (.inl ⟨rfl, h, rfl⟩) (by rw [e]; omega)
    rw [e] at this
    exact this
  have hnum : (number s).2 = true → scan s = ([⟨1, s, ((number s).1 : Int), 0⟩], 0, 0) := fun h => by
    have e : shown ⟨1, s, ((number s).1 : Int), 0⟩ = s := rfl
    have := scan_one (t := ⟨1, s, ((number s).1 : Int), 0⟩) (.inr (.inl ⟨rfl, h, rfl⟩)) (by rw [e]; omega)
    rw [e] at this
    exact this
  refine ⟨fun h => ?_, fun t h1 h2 => ?_⟩
  · refine ⟨?_, number_no ?_⟩
    · cases hn : name s
      · rfl
      · rw [hname hn] at h; simp at h
    · cases hn : (number s).2
      · rfl
      · rw [hnum hn] at h; simp at h
  · have hg : Good t := by
      rw [scan_small (by omega)] at h1 h2
      exact (scanF_ok h1).1 t (by rw [h2]; simp)
    refine ⟨?_, ?_, fun h => (name_parts h).2.2.1, fun h => ?_⟩
    · cases hn : name s
      · symm
        rw [Bool.eq_false_iff]
        intro e
        simp only [Bool.and_eq_true, beq_iff_eq] at e
        rcases hg with ⟨hk, h3, _⟩ | ⟨hk, _⟩ | ⟨hk, _⟩ | ⟨hk, _⟩
        · rw [e.1.1, hn] at h3; cases h3
        all_goals rw [e.2] at hk; exact absurd hk (by decide)
      · rw [hname hn] at h2
        cases h2
        simp
    · cases hn : (number s).2
      · symm
        rw [Bool.eq_false_iff]
        intro e
        simp only [Bool.and_eq_true, beq_iff_eq] at e
        rcases hg with ⟨hk, _⟩ | ⟨hk, h3, _⟩ | ⟨hk, _⟩ | ⟨hk, _⟩
        · rw [e.2] at hk; exact absurd hk (by decide)
        · rw [e.1.1, hn] at h3; cases h3
        all_goals rw [e.2] at hk; exact absurd hk (by decide)
      · rw [hnum hn] at h2
        cases h2
        simp
    · have h3 := hnum h
      rw [h3] at h2
      cases h2
      exact ⟨rfl, by have := (number_parts h).2.2.2.2.1; rw [(number_parts h).2.2.2.2.2]; exact this⟩

theorem quotes_end {s : Rt.Bs} (hs : s.length ≤ 900) :
    ((bif (scan s).2.2 != 0 then some true else some (((scan s).1.length : Int) != 1)).bind fun v11 =>
      bif v11 then
        (bif true then some (!(name s)) else some false).bind fun v12 =>
        (bif v12 then some (!(number s).2) else some false).bind fun v13 =>
        (bif v13 then some (((number s).1 : Int) == 0) else some false).bind fun v14 => some v14
      else
        (ix (scan s).1 0).bind fun ex1 =>
        (bif ex1.Text == s then (ix (scan s).1 0).bind fun ex5 => some (ex5.Pos == 0) else some false).bind fun v15 =>
        (bif v15 then (ix (scan s).1 0).bind fun ex4 => some (ex4.Kind == 0) else some false).bind fun v16 =>
        (bif !(name s == v16) then some true else
          (bif v15 then (ix (scan s).1 0).bind fun ex3 => some (ex3.Kind == 1) else some false).bind fun v24 => some (!((number s).2 == v24))).bind fun v17 =>
        bif v17 then some false else
          (bif true then (bif !(name s) then some true else some (decide ((s.length : Int) ≤ 20))).bind fun v23 => some v23 else some false).bind fun v18 =>
          (bif v18 then
            (bif !(number s).2 then some true else
              (ix (scan s).1 0).bind fun ex2 =>
              (bif ((number s).1 : Int) == ex2.N then some (decide ((0 : Int) ≤ ((number s).1 : Int))) else some false).bind fun v21 =>
              (bif v21 then some (decide (((number s).1 : Int) ≤ 1099511627776)) else some false).bind fun v22 => some v22).bind fun v20 => some v20
          else some false).bind fun v19 => some v19) = some true := by
  obtain ⟨h1, h2⟩ := names_ok hs
  by_cases hz : (scan s).2.2 = 0 ∧ (scan s).1.length = 1
  · obtain ⟨t, ht⟩ := List.length_eq_one_iff.mp hz.2
    obtain ⟨e1, e2, e3, e4⟩ := h2 t hz.1 ht
    have hix : ix [t] 0 = some t := rfl
    rw [hz.1, ht, hix]
    have e5 : (((([t] : List Token).length : Nat) : Int) != 1) = false := rfl
    have f1 : (bif t.Text == s then some (t.Pos == 0) else some false) = some (t.Text == s && t.Pos == 0) := by cases t.Text == s <;> rfl
    have f2 : (bif (t.Text == s && t.Pos == 0) then some (t.Kind == 0) else some false) = some (name s) := by rw [e1]; cases (t.Text == s && t.Pos == 0) <;> rfl
    have f3 : (bif (t.Text == s && t.Pos == 0) then some (t.Kind == 1) else some false) = some ((number s).2) := by rw [e2]; cases (t.Text == s && t.Pos == 0) <;> rfl
    simp only [e5, bne_self_eq_false, cond_false, Option.bind_some, f1, f2, f3, beq_self_eq_true, Bool.not_true, cond_true]
    have f4 : (bif !name s then some true else some (decide ((s.length : Int) ≤ 20))) = some true := by
      cases hn : name s
      · rfl
      · have := e3 hn
        rw [decide_eq_true (by omega)]; rfl
    rw [f4]
    simp only [Option.bind_some, cond_true]
    cases hn : (number s).2
    · rfl
    · obtain ⟨g1, g2⟩ := e4 hn
      have : maxNumber = 1099511627776 := rfl
      rw [g1]
      rw [← g1, decide_eq_true (by omega), decide_eq_true (by omega)]
      simp
  · have hor : (scan s).2.2 ≠ 0 ∨ (scan s).1.length ≠ 1 := by
      by_cases h3 : (scan s).2.2 = 0
      · exact .inr fun e => hz ⟨h3, e⟩
      · exact .inl h3
    obtain ⟨g1, g2⟩ := h1 hor
    have e5 : (bif (scan s).2.2 != 0 then some true else some (((scan s).1.length : Int) != 1)) = some true := by
      by_cases h3 : (scan s).2.2 = 0
      · have h4 : (scan s).1.length ≠ 1 := fun e => hz ⟨h3, e⟩
        rw [h3]
        have : (((scan s).1.length : Int) != 1) = true := by simp; omega
        rw [this]; rfl
      · rw [bne_iff_ne.mpr h3]; rfl
    rw [e5, g1, g2]
    rfl

theorem lexerQuotes (s : Rt.Bs) : law06_LexerQuotes 10000 s = some true := by
  have hs := take_len s
  rw [law06_LexerQuotes, sane (by omega), Option.bind_some, cut_eq, Option.bind_some, quote_eq (by omega) (by omega), Option.bind_some]
  refine (quotes_loop hs (r := s.take 900) (i := 0) rfl (by omega) (by omega)).trans ?_
  have hE := quotes_end hs
  have e1 : decide (((s.take 900).length : Int) ≤ 400) = decide ((s.take 900).length ≤ 400) := by
    by_cases h : (s.take 900).length ≤ 400
    · rw [decide_eq_true h, decide_eq_true (by omega)]
    · rw [decide_eq_false h, decide_eq_false (by omega)]
  rw [e1]
  generalize s.take 900 = v at *
  by_cases hq : v.length ≤ 400 ∧ spanN isPlain v = v.length
  · have h1 : quote v = (escaped v, true) := by rw [quote, if_pos hq]
    have h2 : (decide (v.length ≤ 400) && v.all isPlain) = true := by rw [decide_eq_true hq.1, all_plain.mp hq.2]; rfl
    have h3 := esc_le v
    have h4 : scan (escaped v) = ([⟨2, v, 0, 0⟩], 0, 0) := by
      have := scan_one (t := ⟨2, v, 0, 0⟩) (.inr (.inr (.inl ⟨rfl, hq.1, hq.2, rfl⟩))) (by rw [shown, if_pos rfl]; simp only [escaped, List.length_cons, List.length_append, List.length_nil]; omega)
      rw [shown, if_pos rfl] at this
      exact this
    rw [h1, h2]
    simp only [beq_self_eq_true, Bool.not_true, cond_false, cond_true, Option.bind_some]
    rw [scan_eq (by simp only [escaped, List.length_cons, List.length_append, List.length_nil]; omega) (by simp only [escaped, List.length_cons, List.length_append, List.length_nil]; omega), Option.bind_some, h4]
    have e5 : ((([(⟨2, v, 0, 0⟩ : Token)].length : Nat) : Int) != 1) = false := rfl
    have e6 : ix [(⟨2, v, 0, 0⟩ : Token)] 0 = some ⟨2, v, 0, 0⟩ := rfl
    simp only [bne_self_eq_false, cond_false, Option.bind_some, e5, e6, eqb_refl, Bool.not_true]
    rw [scan_eq (by omega) (by omega), Option.bind_some, number_eq (by omega) (by omega), Option.bind_some, name_eq (by omega) (by omega), Option.bind_some]
    exact hE
  · have h1 : quote v = ([], false) := by rw [quote, if_neg hq]
    have h2 : (decide (v.length ≤ 400) && v.all isPlain) = false := by
      rw [Bool.eq_false_iff]
      intro e
      simp only [Bool.and_eq_true, decide_eq_true_eq] at e
      exact hq ⟨e.1, all_plain.mpr e.2⟩
    rw [h1, h2]
    simp only [beq_self_eq_true, Bool.not_true, Bool.not_false, cond_false, cond_true, Option.bind_some]
    rw [scan_eq (by omega) (by omega), Option.bind_some, number_eq (by omega) (by omega), Option.bind_some, name_eq (by omega) (by omega), Option.bind_some]
    exact hE
end Go.Proofs.YtaibejlploombaaDoor.Lx
