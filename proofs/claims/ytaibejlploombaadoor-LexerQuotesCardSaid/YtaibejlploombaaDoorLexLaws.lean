/-
  PLAIN: LexerJoins, LexerPlaces, LexerErrors, LexerQuotes.
-/
import Derived.Test.YtaibejlploombaaDoorLexEqC
namespace Go.Proofs.YtaibejlploombaaDoor.Lx
open Rt M Go

/-! two texts, one behind the other -/
theorem qloop_stop (t : Rt.Bs) : ∀ (r acc : Rt.Bs) (n : Nat), qloop (r ++ 10 :: t) acc n = qloop r acc n
  | [], acc, n => by rw [List.nil_append, qloop_cons, if_pos (by decide), qloop]
  | c :: r, acc, n => by
    rw [List.cons_append, qloop_cons, qloop_cons]
    split
    · rfl
    split
    · rfl
    split
    · cases r with
      | nil => simp
      | cons d r' =>
        simp only [List.cons_append]
        split
        · exact qloop_stop t r' _ _
        · rfl
    · exact qloop_stop t r _ _
theorem next_stop {x : Rt.Bs} (h0 : x ≠ []) (t : Rt.Bs) : next (x ++ 10 :: t) = next x := by
  have hi := spanN_le isInner x
  have hd := spanN_le isDigit x
  have h1 : 1 ≤ x.length := by cases x; exact absurd rfl h0; simp
  have e1 : (x ++ 10 :: t).take (spanN isInner x) = x.take (spanN isInner x) := List.take_append_of_le_length hi
  have e2 : (x ++ 10 :: t).take (spanN isDigit x) = x.take (spanN isDigit x) := List.take_append_of_le_length hd
  have e3 : (x ++ 10 :: t).take 1 = x.take 1 := List.take_append_of_le_length h1
  have e4 : quoted (x ++ 10 :: t) = quoted x := by
    rw [quoted, quoted, List.drop_append_of_le_length h1, qloop_stop]
  rw [next, next, headD_append h0, spanN_stop (by decide), spanN_stop (by decide), e1, e2, e3, e4]
theorem gap_all (t : Rt.Bs) : ∀ (b : Bool) (r : Rt.Bs), gapN b r = r.length → gapN b (r ++ 10 :: t) = r.length + 1 + gapN false t
  | true, [], _ => by simp [gapN]; omega
  | false, [], _ => by simp [gapN, isBlank]; omega
  | true, c :: r, h => by
    rw [List.cons_append]
    simp only [gapN, List.length_cons] at *
    split at h
    · rename_i h1; rw [if_pos h1, gap_all t false r (by omega)]; omega
    · rename_i h1; rw [if_neg h1, gap_all t true r (by omega)]; omega
  | false, c :: r, h => by
    rw [List.cons_append]
    simp only [gapN, List.length_cons] at *
    split at h
    · rename_i h1; rw [if_pos h1, gap_all t false r (by omega)]; omega
    · rename_i h1
      split at h
      · rename_i h2; rw [if_neg h1, if_pos h2, gap_all t true r (by omega)]; omega
      · omega
theorem gap_part (u : Rt.Bs) : ∀ (b : Bool) (r : Rt.Bs), gapN b r < r.length → gapN b (r ++ u) = gapN b r
  | _, [], h => by simp [gapN] at h
  | true, c :: r, h => by
    rw [List.cons_append]
    simp only [gapN, List.length_cons] at *
    split at h
    · rename_i h1; rw [if_pos h1, if_pos h1, gap_part u false r (by omega)]
    · rename_i h1; rw [if_neg h1, if_neg h1, gap_part u true r (by omega)]
  | false, c :: r, h => by
    rw [List.cons_append]
    simp only [gapN, List.length_cons] at *
    split at h
    · rename_i h1; rw [if_pos h1, if_pos h1, gap_part u false r (by omega)]
    · rename_i h1
      split at h
      · rename_i h2; rw [if_neg h1, if_pos h2, if_neg h1, if_pos h2, gap_part u true r (by omega)]
      · rename_i h2; rw [if_neg h1, if_neg h2, if_neg h1, if_neg h2]

def both (x y : List Token × Nat × Int) : List Token × Nat × Int := if x.2.2 ≠ 0 then x else if y.2.2 ≠ 0 then y else (x.1 ++ y.1, 0, 0)
theorem scanF_join (t : Rt.Bs) : ∀ {f f' : Nat} {r : Rt.Bs} {a : Nat}, r.length < f → (r ++ 10 :: t).length < f' → scanF f' (r ++ 10 :: t) a = both (scanF f r a) (scanF (t.length + 1) t (a + r.length + 1))
  | f + 1, f', r, a, hf, hf' => by
    have hl : (r ++ 10 :: t).length = r.length + 1 + t.length := by rw [List.length_append, List.length_cons]; omega
    have hg := gapN_le false r
    by_cases h1 : gapN false r = r.length
    · have h2 := gap_all t false r h1
      have h3 := gapN_le false t
      have h4 : ∀ j, (r ++ 10 :: t).drop (r.length + 1 + j) = t.drop j := by
        intro j
        rw [show r.length + 1 + j = r.length + (1 + j) by omega, ← List.drop_drop, List.drop_left, Nat.add_comm 1 j, List.drop_succ_cons]
      rw [scanF_skip hf', h2, h4, scanF_end h1, scanF_skip (show t.length < t.length + 1 by omega)]
      rw [both, if_neg (by simp), scanF_fuel (f := f') (f' := t.length + 1) (by rw [List.length_drop]; omega) (by rw [List.length_drop]; omega), show a + (r.length + 1 + gapN false t) = a + r.length + 1 + gapN false t by omega]
      by_cases hy : (scanF (t.length + 1) (t.drop (gapN false t)) (a + r.length + 1 + gapN false t)).2.2 = 0
      · rw [if_neg (by simp [hy]), List.nil_append]
        have := scanF_pos0 hy
        ext1
        · rfl
        · ext1
          · exact this
          · exact hy
      · rw [if_pos hy]
    obtain ⟨f', rfl⟩ : ∃ k, f' = k + 1 := ⟨f' - 1, by omega⟩
    have h2 := gap_part (10 :: t) false r (by omega)
    have hn := gap_ne h1
    have h3 : (r ++ 10 :: t).drop (gapN false r) = r.drop (gapN false r) ++ 10 :: t := List.drop_append_of_le_length hg
    have h4 := next_stop hn t
    have h5 : gapN false (r ++ 10 :: t) ≠ (r ++ 10 :: t).length := by rw [h2]; omega
    by_cases hx : (next (r.drop (gapN false r))).2.2 = 0
    · have h6 := next_len hn hx
      simp only [List.length_drop] at h6
      rw [scanF_more h5 (by rw [h2, h3, h4]; exact hx), scanF_more h1 hx, h2, h3, h4]
      have h7 : (r ++ 10 :: t).drop (gapN false r + (next (r.drop (gapN false r))).2.1) = r.drop (gapN false r + (next (r.drop (gapN false r))).2.1) ++ 10 :: t := List.drop_append_of_le_length (by omega)
      rw [h7, scanF_join t (f := f) (by rw [List.length_drop]; omega) (by rw [List.length_append, List.length_drop, List.length_cons]; omega)]
      have h8 : a + gapN false r + (next (r.drop (gapN false r))).2.1 + (r.drop (gapN false r + (next (r.drop (gapN false r))).2.1)).length + 1 = a + r.length + 1 := by rw [List.length_drop]; omega
      rw [h8]
      generalize scanF f (r.drop (gapN false r + (next (r.drop (gapN false r))).2.1)) (a + gapN false r + (next (r.drop (gapN false r))).2.1) = X
      generalize scanF (t.length + 1) t (a + r.length + 1) = Y
      by_cases e1 : X.2.2 = 0 <;> by_cases e2 : Y.2.2 = 0 <;> simp [both, e1, e2]
    · rw [scanF_bad h5 (by rw [h2, h3, h4]; exact hx), scanF_bad h1 hx, h2, h3, h4, both, if_pos hx]
where
  scanF_pos0 : ∀ {f : Nat} {r : Rt.Bs} {a : Nat}, (scanF f r a).2.2 = 0 → (scanF f r a).2.1 = 0
    | 0, _, _, _ => rfl
    | f + 1, r, a, h => by
      by_cases h1 : gapN false r = r.length
      · rw [scanF_end h1]
      by_cases h2 : (next (r.drop (gapN false r))).2.2 = 0
      · rw [scanF_more h1 h2] at h ⊢
        split at h
        · rename_i h3; exact absurd h h3
        · rename_i h3; rw [if_neg h3]
      · rw [scanF_bad h1 h2] at h; exact absurd h h2

def shiftT (k : Nat) (t : Token) : Token := ⟨t.Kind, t.Text, t.N, t.Pos + (k : Int)⟩
theorem scanF_shift (k : Nat) : ∀ {f : Nat} {r : Rt.Bs} {a : Nat}, scanF f r (a + k) = ((scanF f r a).1.map (shiftT k), if (scanF f r a).2.2 = 0 then 0 else (scanF f r a).2.1 + k, (scanF f r a).2.2)
  | 0, _, _ => rfl
  | f + 1, r, a => by
    by_cases h1 : gapN false r = r.length
    · rw [scanF_end h1, scanF_end h1]; rfl
    by_cases h2 : (next (r.drop (gapN false r))).2.2 = 0
    · rw [scanF_more h1 h2, scanF_more h1 h2, show a + k + gapN false r + (next (r.drop (gapN false r))).2.1 = (a + gapN false r + (next (r.drop (gapN false r))).2.1) + k by omega, scanF_shift k]
      generalize scanF f (r.drop (gapN false r + (next (r.drop (gapN false r))).2.1)) (a + gapN false r + (next (r.drop (gapN false r))).2.1) = X
      by_cases e1 : X.2.2 = 0
      · simp [e1, shiftT]; omega
      · simp [e1]
    · rw [scanF_bad h1 h2, scanF_bad h1 h2, if_neg h2]
      simp; omega

theorem scanF_pos : ∀ {f : Nat} {r : Rt.Bs} {a : Nat} {t : Token}, t ∈ (scanF f r a).1 → ∃ p : Nat, t.Pos = (p : Int) ∧ p < a + r.length
  | 0, _, _, _, h => by simp [scanF] at h
  | f + 1, r, a, t, h => by
    have hg := gapN_le false r
    by_cases h1 : gapN false r = r.length
    · rw [scanF_end h1] at h; simp at h
    by_cases h2 : (next (r.drop (gapN false r))).2.2 = 0
    · have h3 := next_len (gap_ne h1) h2
      simp only [List.length_drop] at h3
      rw [scanF_more h1 h2] at h
      split at h
      · obtain ⟨p, h4, h5⟩ := scanF_pos h
        simp only [List.length_drop] at h5
        exact ⟨p, h4, by omega⟩
      · simp only [List.mem_cons] at h
        rcases h with rfl | h
        · exact ⟨a + gapN false r, rfl, by omega⟩
        · obtain ⟨p, h4, h5⟩ := scanF_pos h
          simp only [List.length_drop] at h5
          exact ⟨p, h4, by omega⟩
    · rw [scanF_bad h1 h2] at h; simp at h

theorem take_len (s : Rt.Bs) : (s.take 900).length ≤ 900 := by simp; omega
theorem scan_small {s : Rt.Bs} (h : s.length ≤ 4000) : scan s = scanF (s.length + 1) s 0 := by rw [scan, if_neg (by omega)]
theorem scan_count {s : Rt.Bs} (h : s.length ≤ 4000) : (scan s).1.length ≤ s.length := by
  by_cases h1 : (scan s).2.2 = 0
  · rw [scan_small h] at h1 ⊢
    exact (scanF_ok h1).2.2
  · rw [scan_nil h1]; simp
theorem scan_pos {s : Rt.Bs} {t : Token} (h : s.length ≤ 4000) (ht : t ∈ (scan s).1) : ∃ p : Nat, t.Pos = (p : Int) ∧ p < s.length := by
  rw [scan_small h] at ht
  simpa using scanF_pos ht

/-! LexerJoins -/
theorem joins_loop {v2 : Rt.Bs} (h2 : v2.length ≤ 900) {A B : List Token} (hA : A.length ≤ 900) (hB : B.length ≤ 900) (hp : ∀ t ∈ B, ∃ p : Nat, t.Pos = (p : Int) ∧ p < 900) {x4 x5 x6 : Int × Int} {n : Nat} :
    ∀ {r : List Token} {j m : Nat}, (A ++ B.map (shiftT (v2.length + 1))).drop j = r → j ≤ (A ++ B.map (shiftT (v2.length + 1))).length → r.length < m →
      law06_LexerJoins_L1 n v2 (A, x4) (B, x5) (A ++ B.map (shiftT (v2.length + 1)), x6) (some true) m (j : Int) = some true
  | [], j, m + 1, h, hj, _ => by
    have : j = (A ++ B.map (shiftT (v2.length + 1))).length := by
      have := congrArg List.length h
      simp only [List.length_drop, List.length_nil] at this; omega
    rw [law06_LexerJoins_L1_s]
    dsimp only
    rw [decide_eq_false (by omega)]; rfl
  | t :: r, j, m + 1, h, hj, hm => by
    have h1 : j + r.length + 1 = (A ++ B.map (shiftT (v2.length + 1))).length := by
      have := congrArg List.length h
      simp only [List.length_drop, List.length_cons] at this; omega
    have h3 : (A ++ B.map (shiftT (v2.length + 1))).drop (j + 1) = r := by rw [← List.drop_drop, h, List.drop_one, List.tail_cons]
    have hl : (A ++ B.map (shiftT (v2.length + 1))).length = A.length + B.length := by simp
    simp only [List.length_cons] at hm
    have h4 : (A ++ B.map (shiftT (v2.length + 1)))[j]? = some t := by
      have := congrArg (·[0]?) h
      simpa using this
    rw [law06_LexerJoins_L1_s]
    dsimp only
    rw [decide_eq_true (by omega), cond_true]
    simp only [ix_drop h, Option.bind_some]
    by_cases hja : j < A.length
    · rw [List.getElem?_append_left hja] at h4
      have h5 : ix A (j : Int) = some t := by simp [ix, h4]
      rw [decide_eq_true (by omega), cond_true, h5, Option.bind_some, eqb_refl, Bool.not_true, cond_false, iadd_nat1 _ (by omega)]
      exact joins_loop h2 hA hB hp h3 (by omega) (by omega)
    · rw [List.getElem?_append_right (by omega), List.getElem?_map] at h4
      cases h6 : B[j - A.length]? with
      | none => rw [h6] at h4; cases h4
      | some b =>
        rw [h6] at h4
        cases h4
        obtain ⟨p, h7, h8⟩ := hp b (List.mem_of_getElem? h6)
        have h9 : isub .i64 (j : Int) (A.length : Int) = ((j - A.length : Nat) : Int) := by rw [isub, wrap_i64 _ (by omega) (by omega)]; omega
        have h5 : ix B ((j - A.length : Nat) : Int) = some b := by simp [ix, h6]
        rw [decide_eq_false (by omega), cond_false, h9, h5, Option.bind_some, h7, iadd_nat _ _ (by omega), iadd_nat1 _ (by omega)]
        have h10 : (⟨b.Kind, b.Text, b.N, ((p + v2.length + 1 : Nat) : Int)⟩ : Token) = shiftT (v2.length + 1) b := by
          rw [shiftT, h7]; simp; omega
        rw [h10, eqb_refl, Bool.not_true, cond_false, iadd_nat1 _ (by omega)]
        exact joins_loop h2 hA hB hp h3 (by omega) (by omega)

theorem scan_join {s t : Rt.Bs} (h : s.length + 1 + t.length ≤ 4000) : scan (s ++ 10 :: t) = both (scan s) (scanF (t.length + 1) t (s.length + 1)) := by
  have hl : (s ++ 10 :: t).length = s.length + 1 + t.length := by rw [List.length_append, List.length_cons]; omega
  rw [scan_small (by omega), scan_small (by omega), scanF_join t (f := s.length + 1) (by omega) (by omega), Nat.zero_add]

theorem lexerJoins (s t : Rt.Bs) : law06_LexerJoins 10000 s t = some true := by
  have hs := take_len s
  have ht := take_len t
  have e0 : (s.take 900 ++ [10]) ++ t.take 900 = s.take 900 ++ 10 :: t.take 900 := by simp
  have hl : (s.take 900 ++ 10 :: t.take 900).length = (s.take 900).length + 1 + (t.take 900).length := by rw [List.length_append, List.length_cons]; omega
  rw [law06_LexerJoins, sane (by omega), Option.bind_some, cut_eq, Option.bind_some, cut_eq, Option.bind_some, scan_eq (by omega) (by omega), Option.bind_some, scan_eq (by omega) (by omega), Option.bind_some,
    scat_le (by simp; omega), Option.bind_some, scat_le (by simp; omega), Option.bind_some, e0, scan_eq (by omega) (by omega), Option.bind_some, scan_join (by omega)]
  have hsh := scanF_shift ((s.take 900).length + 1) (f := (t.take 900).length + 1) (r := t.take 900) (a := 0)
  rw [Nat.zero_add, ← scan_small (by omega)] at hsh
  rw [hsh]
  by_cases e1 : (scan (s.take 900)).2.2 = 0
  · by_cases e2 : (scan (t.take 900)).2.2 = 0
    · have h1 := scan_count (s := s.take 900) (by omega)
      have h2 := scan_count (s := t.take 900) (by omega)
      simp only [e1, e2, both, bne_self_eq_false, cond_false, ne_eq, not_true_eq_false, if_false, Option.bind_some, List.length_append, List.length_map]
      rw [iadd_nat _ _ (by omega)]
      simp only [bne_self_eq_false, cond_false]
      exact joins_loop hs (by omega) (by omega) (fun t' h => by obtain ⟨p, h3, h4⟩ := scan_pos (by omega) h; exact ⟨p, h3, by omega⟩) (r := (scan (s.take 900)).1 ++ (scan (t.take 900)).1.map (shiftT ((s.take 900).length + 1))) (j := 0) rfl (by omega)
        (by rw [List.length_append, List.length_map]; omega)
    · have e3 : ((scan (t.take 900)).2.2 != 0) = true := bne_iff_ne.mpr e2
      have h3 : (scan (t.take 900)).2.1 ≤ 900 := by
        rw [scan_small (by omega)] at e2 ⊢
        have := err_pos e2
        omega
      simp only [e1, e2, e3, both, bne_self_eq_false, cond_false, cond_true, ne_eq, not_true_eq_false, not_false_eq_true, if_false, if_true, Option.bind_some, beq_self_eq_true, scan_nil e2]
      rw [iadd_nat1 _ (by omega), iadd_nat _ _ (by omega), Nat.add_comm ((s.take 900).length + 1) (scan (t.take 900)).2.1]
      simp
  · have e3 : ((scan (s.take 900)).2.2 != 0) = true := bne_iff_ne.mpr e1
    simp [e1, e3, both, scan_nil e1]
where
  err_pos : ∀ {f : Nat} {r : Rt.Bs} {a : Nat}, (scanF f r a).2.2 ≠ 0 → a ≤ (scanF f r a).2.1 ∧ (scanF f r a).2.1 < a + r.length
    | 0, _, _, h => absurd rfl h
    | f + 1, r, a, h => by
      have hg := gapN_le false r
      by_cases h1 : gapN false r = r.length
      · rw [scanF_end h1] at h; exact absurd rfl h
      by_cases h2 : (next (r.drop (gapN false r))).2.2 = 0
      · have h3 := next_len (gap_ne h1) h2
        simp only [List.length_drop] at h3
        rw [scanF_more h1 h2] at h ⊢
        split at h
        · rename_i h4
          rw [if_pos h4]
          have := err_pos h4
          simp only [List.length_drop] at this
          omega
        · exact absurd rfl h
      · rw [scanF_bad h1 h2]; simp only; omega

/-! LexerPlaces -/
theorem gap_take : ∀ (b : Bool) (r : Rt.Bs) (k : Nat), gapN b (r.take k) = min k (gapN b r)
  | _, [], k => by simp [gapN]
  | _, c :: r, 0 => by simp [gapN]
  | true, c :: r, k + 1 => by
    simp only [List.take_succ_cons, gapN]
    split
    · rw [gap_take false r k]; omega
    · rw [gap_take true r k]; omega
  | false, c :: r, k + 1 => by
    simp only [List.take_succ_cons, gapN]
    split
    · rw [gap_take false r k]; omega
    · split
      · rw [gap_take true r k]; omega
      · omega
theorem idle_loop {s : Rt.Bs} (hs : s.length ≤ 1000000) {n : Nat} :
    ∀ {r : Rt.Bs} {i m : Nat} {b : Bool}, s.drop i = r → i ≤ s.length → r.length < m → gapN b r = r.length → law06_idle_L1 n s (some true) m b (i : Int) = some true
  | [], i, m + 1, b, h, hi, _, _ => by
    have := drop_nil h hi
    rw [law06_idle_L1_s]; simp [this]
  | c :: r, i, m + 1, b, h, hi, hm, hg => by
    have h1 := len_drop h
    simp only [List.length_cons] at hm hg
    have hl := gapN_le false r
    have hl' := gapN_le true r
    rw [law06_idle_L1_s, decide_eq_true (by omega), cond_true, sidx_drop h]
    simp only [Option.bind_some, rblank_eq]
    by_cases h35 : c.toNat = 35
    · have e : ((c.toNat : Int) == 35) = true := by rw [h35]; rfl
      have eb : isBlank c = false := by simp [isBlank, h35]
      have hg2 : gapN true r = r.length := by cases b <;> simp [gapN, h35, eb] at hg <;> omega
      simp only [e, cond_true, Option.bind_some, Bool.not_true, cond_false]
      rw [iadd_nat1 _ (by omega)]
      exact idle_loop hs (drop_succ h) (by omega) (by omega) hg2
    have e : ((c.toNat : Int) == 35) = false := by rw [beq_eq_false_iff_ne]; omega
    simp only [e, cond_false]
    cases b
    · simp only [cond_false, Option.bind_some, Bool.not_false, cond_true]
      simp only [gapN, h35] at hg
      cases eb : isBlank c
      · simp [eb] at hg
      · simp only [eb, if_true] at hg
        simp only [Bool.not_true, cond_false]
        rw [iadd_nat1 _ (by omega)]
        exact idle_loop hs (drop_succ h) (by omega) (by omega) (by omega)
    · simp only [cond_true, Option.bind_some]
      simp only [gapN] at hg
      by_cases h10 : c.toNat = 10
      · have hc : c = 10 := UInt8.toNat_inj.mp h10
        have e2 : ((c.toNat : Int) != 10) = false := by rw [h10]; rfl
        have eb : isBlank c = true := by rw [hc]; decide
        rw [if_pos h10] at hg
        simp only [e2, eb, Bool.not_false, cond_true, Option.bind_some, Bool.not_true, cond_false]
        rw [iadd_nat1 _ (by omega)]
        exact idle_loop hs (drop_succ h) (by omega) (by omega) (by omega)
      · have e2 : ((c.toNat : Int) != 10) = true := by simp; omega
        rw [if_neg h10] at hg
        simp only [e2, Bool.not_true, cond_false, Option.bind_some]
        rw [iadd_nat1 _ (by omega)]
        exact idle_loop hs (drop_succ h) (by omega) (by omega) (by omega)
theorem idle_eq {s : Rt.Bs} (hs : s.length ≤ 1000000) {n : Nat} (hn : s.length < n) (h : gapN false s = s.length) : law06_idle n s = some true := by
  rw [law06_idle]
  exact idle_loop hs (r := s) (i := 0) (m := n) rfl (by omega) hn h

theorem good_n {t : Token} (h : Good t) : (bif t.Kind != 1 then some (t.N != 0) else some false) = some false := by
  rcases h with ⟨hk, _, h0⟩ | ⟨hk, _, _⟩ | ⟨hk, _, _, h0⟩ | ⟨hk, _, h0⟩
  · rw [h0]; cases t.Kind != 1 <;> rfl
  · rw [hk]; rfl
  · rw [h0]; cases t.Kind != 1 <;> rfl
  · rw [h0]; cases t.Kind != 1 <;> rfl

theorem places_loop {s : Rt.Bs} (hs : s.length ≤ 900) {T : List Token} (hT : T.length ≤ 900) {y : Int × Int} {n : Nat} (hn : 10000 ≤ n) {kont : Int → Option Bool}
    (hk : ∀ e : Nat, e ≤ s.length → gapN false (s.drop e) = (s.drop e).length → kont (e : Int) = some true) :
    ∀ {f : Nat} {r : Rt.Bs} {a i m : Nat}, s.drop a = r → a ≤ s.length → r.length < f → (scanF f r a).2.2 = 0 → T.drop i = (scanF f r a).1 → i ≤ T.length → (scanF f r a).1.length < m →
      law06_LexerPlaces_L1 n s (T, y) kont m (a : Int) (i : Int) = some true
  | f + 1, r, a, i, m + 1, h, ha, hf, hok, hd, hi, hm => by
    have hr : a + r.length = s.length := by
      have := congrArg List.length h
      simp only [List.length_drop] at this; omega
    have hg := gapN_le false r
    have hlen : i + (scanF (f + 1) r a).1.length = T.length := by
      have := congrArg List.length hd
      simp only [List.length_drop] at this; omega
    rw [law06_LexerPlaces_L1_s]
    dsimp only
    by_cases h1 : gapN false r = r.length
    · rw [scanF_end h1] at hlen
      simp only [List.length_nil] at hlen
      rw [decide_eq_false (by omega), cond_false]
      exact hk a ha (by rw [h]; exact h1)
    by_cases h2 : (next (r.drop (gapN false r))).2.2 = 0
    · have hne := gap_ne h1
      obtain ⟨g1, g2, g3, g4⟩ := next_ok hne h2
      have h3 := next_len hne h2
      simp only [List.length_drop] at h3
      rw [scanF_more h1 h2] at hok hd hlen hm
      split at hok
      · rename_i h4; exact absurd hok h4
      rename_i h4
      rw [if_neg h4] at hd hlen hm
      have hg1 := good_strip ((a + gapN false r : Nat) : Int) g1
      generalize ht : ({ (next (r.drop (gapN false r))).1 with Pos := ((a + gapN false r : Nat) : Int) } : Token) = t at hd hg1
      have e1 : t.Pos = ((a + gapN false r : Nat) : Int) := by rw [← ht]
      have e2 : shown t = shown (next (r.drop (gapN false r))).1 := by rw [← ht]; rfl
      rw [← e2] at g3 g4
      have h5 : T.drop (i + 1) = (scanF f (r.drop (gapN false r + (next (r.drop (gapN false r))).2.1)) (a + gapN false r + (next (r.drop (gapN false r))).2.1)).1 := by
        rw [← List.drop_drop, hd]; rfl
      simp only [List.length_cons] at hlen hm
      have hsub : ∀ L : Nat, L = (shown t).length → ssl s ((a + gapN false r : Nat) : Int) ((a + gapN false r + L : Nat) : Int) = some (shown t) := by
        intro L hL
        rw [ssl_nat _ _ (by omega) (by omega), List.drop_take, ← List.drop_drop, h, g4, List.take_left' (by omega)]
      have hgap : ssl s (a : Int) ((a + gapN false r : Nat) : Int) = some (r.take (gapN false r)) := by
        rw [ssl_nat _ _ (by omega) (by omega), List.drop_take, h, Nat.add_sub_cancel_left]
      have hidle : law06_idle n (r.take (gapN false r)) = some true := by
        refine idle_eq (by rw [List.length_take]; omega) (by rw [List.length_take]; omega) ?_
        rw [gap_take, List.length_take]; omega
      have ih := places_loop hs hT (y := y) hn hk (f := f) (r := r.drop (gapN false r + (next (r.drop (gapN false r))).2.1)) (a := a + gapN false r + (next (r.drop (gapN false r))).2.1) (i := i + 1) (m := m) (by rw [Nat.add_assoc, ← List.drop_drop, h]) (by omega)
        (by rw [List.length_drop]; omega) (Decidable.not_not.mp h4) h5 (by omega) (by omega)
      have hnz2 : (bif decide (((a + gapN false r : Nat) : Int) < (a : Int)) then some true else some (decide (isub .i64 (s.length : Int) ((shown t).length : Int) < ((a + gapN false r : Nat) : Int)))) = some false := by
        rw [decide_eq_false (by omega), cond_false, isub, wrap_i64 _ (by omega) (by omega), decide_eq_false (by omega)]
      have htext : t.Text.length ≤ 900 := by have := shown_le t; omega
      rw [decide_eq_true (by omega), cond_true, ix_drop hd, Option.bind_some, e1]
      by_cases hk2 : t.Kind = 2
      · have e : (t.Kind == 2) = true := by rw [hk2]; rfl
        have e' : (t.Kind != 2) = false := by rw [hk2]; rfl
        have e3 : shown t = escaped t.Text := by rw [shown, if_pos hk2]
        rw [e, cond_true, resc_eq (by omega) (by omega), Option.bind_some, ← e3, hnz2, Option.bind_some, cond_false, good_n hg1]
        simp only [Option.bind_some, cond_false]
        rw [decide_eq_false (by omega), iadd_nat _ _ (by omega), hsub _ rfl]
        simp only [Option.bind_some, cond_false, cond_true, e', beq_self_eq_true, Bool.not_true]
        rw [hgap]
        simp only [Option.bind_some]
        rw [hidle]
        simp only [Option.bind_some, Bool.not_true, cond_false]
        rw [iadd_nat1 _ (by omega), ← g3]
        exact ih
      · have e : (t.Kind == 2) = false := by rw [beq_eq_false_iff_ne]; exact hk2
        have e' : (t.Kind != 2) = true := bne_iff_ne.mpr hk2
        have e3 : shown t = t.Text := by rw [shown, if_neg hk2]
        rw [e, cond_false, ← e3, hnz2, Option.bind_some, cond_false, good_n hg1]
        simp only [Option.bind_some, cond_false]
        rw [decide_eq_false (by omega), iadd_nat _ _ (by omega), hsub _ rfl]
        simp only [Option.bind_some, cond_false, cond_true, e', beq_self_eq_true, Bool.not_true]
        rw [hgap]
        simp only [Option.bind_some]
        rw [hidle]
        simp only [Option.bind_some, Bool.not_true, cond_false]
        rw [iadd_nat1 _ (by omega), ← g3]
        exact ih
    · rw [scanF_bad h1 h2] at hok; exact absurd hok h2

theorem lexerPlaces (s : Rt.Bs) : law06_LexerPlaces 10000 s = some true := by
  have hs := take_len s
  rw [law06_LexerPlaces, sane (by omega), Option.bind_some, cut_eq, Option.bind_some, scan_eq (by omega) (by omega), Option.bind_some]
  have e0 := scan_small (s := s.take 900) (by omega)
  by_cases e1 : (scan (s.take 900)).2.2 = 0
  · have h1 := scan_count (s := s.take 900) (by omega)
    have h2 : (scan (s.take 900)).2.1 = 0 := by rw [e0] at e1 ⊢; exact scanF_join.scanF_pos0 e1
    simp only [e1, bne_self_eq_false, cond_false, h2]
    refine places_loop hs (by omega) (by omega) ?_ (f := (s.take 900).length + 1) (r := s.take 900) (a := 0) (i := 0) rfl (by omega) (by omega) (by rw [← e0]; exact e1) (by rw [e0]; rfl) (by omega) (by rw [← e0]; omega)
    intro e he hg
    have : ((0 : Nat) : Int) = 0 := rfl
    simp only [this, beq_self_eq_true, cond_true, Option.bind_some]
    rw [ssl_from _ he]
    simp only [Option.bind_some]
    rw [idle_eq (by rw [List.length_drop]; omega) (by rw [List.length_drop]; omega) hg]
    rfl
  · have e3 : ((scan (s.take 900)).2.2 != 0) = true := bne_iff_ne.mpr e1
    have h3 : (scan (s.take 900)).2.1 < (s.take 900).length := by
      rw [e0] at e1 ⊢
      have := lexerJoins.err_pos e1
      omega
    rw [e3, cond_true]
    simp only [cond_true]
    rw [decide_eq_true (by omega), Option.bind_some, cond_true, decide_eq_true (by omega)]
    rfl
end Go.Proofs.YtaibejlploombaaDoor.Lx
