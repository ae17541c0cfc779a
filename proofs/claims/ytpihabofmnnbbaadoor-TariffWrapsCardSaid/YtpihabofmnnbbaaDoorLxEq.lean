/-
  PLAIN: each mirror of the lexer is its model, given fuel.
-/
import Derived.Test.YtpihabofmnnbbaaDoorLxMod
namespace Go.Proofs.YtpihabofmnnbbaaDoor.Lx
open Rt M Go

/-! numbers -/
def decF (a : Nat) (l : Rt.Bs) : Nat := l.foldl (fun n c => 10 * n + (c.toNat - 48)) a
theorem digit_le {c : UInt8} (h : isDigit c = true) : c.toNat - 48 ≤ 9 := by
  simp only [isDigit, decide_eq_true_eq] at h; omega
theorem decF_lt : ∀ (l : Rt.Bs) (a : Nat), spanN isDigit l = l.length → decF a l < (a + 1) * 10 ^ l.length
  | [], a, _ => by simp [decF]
  | c :: r, a, h => by
    simp only [spanN, List.length_cons] at h
    cases hp : isDigit c
    · simp [hp] at h
    · simp only [hp, cond_true] at h
      have h1 := decF_lt r (10 * a + (c.toNat - 48)) (by omega)
      have h2 := digit_le hp
      show decF (10 * a + (c.toNat - 48)) r < _
      refine Nat.lt_of_lt_of_le h1 ?_
      rw [List.length_cons, Nat.pow_succ, Nat.mul_comm (10 ^ r.length) 10, ← Nat.mul_assoc]
      exact Nat.mul_le_mul_right _ (by omega)
theorem decF_ge : ∀ (l : Rt.Bs) (a : Nat), a * 10 ^ l.length ≤ decF a l
  | [], a => by simp [decF]
  | c :: r, a => by
    have h1 := decF_ge r (10 * a + (c.toNat - 48))
    show _ ≤ decF (10 * a + (c.toNat - 48)) r
    refine Nat.le_trans ?_ h1
    rw [List.length_cons, Nat.pow_succ, Nat.mul_comm (10 ^ r.length) 10, ← Nat.mul_assoc]
    exact Nat.mul_le_mul_right _ (by omega)

theorem number_loop {s : Rt.Bs} (hs : s.length ≤ 13) {n : Nat} {kont : Int → Option (Int × Bool)} :
    ∀ {r : Rt.Bs} {i m a : Nat}, s.drop i = r → i ≤ s.length → r.length < m → spanN isDigit r = r.length → a < 10 ^ i → lexer_Number_L1 n s kont m (a : Int) (i : Int) = kont ((decF a r : Nat) : Int)
  | [], i, m + 1, a, h, hi, _, _, _ => by
    have := drop_nil h hi
    rw [lexer_Number_L1_s]
    simp [this, decF]
  | c :: r, i, m + 1, a, h, hi, hm, hd, ha => by
    have h1 := len_drop h
    simp only [spanN, List.length_cons] at hd
    cases hp : isDigit c
    · simp [hp] at hd
    simp only [hp, cond_true] at hd
    have h2 := digit_le hp
    have h3 : a < 10 ^ 12 := Nat.lt_of_lt_of_le ha (Nat.pow_le_pow_right (by omega) (by omega))
    rw [lexer_Number_L1_s, sidx_drop h, decide_eq_true (by omega)]
    simp only [cond_true, Option.bind_some, sub48 c hp]
    have e1 : imul .i64 10 (a : Int) = ((10 * a : Nat) : Int) := by rw [imul, wrap_i64 _ (by omega) (by omega)]; simp
    rw [e1, iadd_nat _ _ (by omega), iadd_nat1 _ (by omega), number_loop hs (drop_succ h) (by omega) (by simp only [List.length_cons] at hm; omega) (by omega) (by rw [Nat.pow_succ]; omega)]
    rfl

theorem number_eq {s : Rt.Bs} (hs : s.length < 9223372036854775807) {n : Nat} (hn : s.length < n) : lexer_Number n s = some (((number s).1 : Int), (number s).2) := by
  cases hs0 : s with
  | nil => rfl
  | cons c r =>
    rw [← hs0]
    have h0 : s ≠ [] := by rw [hs0]; simp
    have h1 : (s == []) = false := by simp [hs0]
    have h2 : s.isEmpty = false := by simp [hs0]
    simp only [lexer_Number, h1, cond_false, span_eq (digit_eq n) hs hn, Option.bind_some, headD_idx h0, number, numberOk, h2, Bool.not_false, Bool.true_and]
    have e1 : ((((s.headD 0).toNat : Nat) : Int) == 48) = (s.headD 0 == 48) := toNat_inj (d := 48)
    rw [e1]
    by_cases h3 : spanN isDigit s = s.length
    · rw [h3]
      simp only [bne_self_eq_false, cond_false, beq_self_eq_true, Bool.true_and]
      have e2 : (bif s.headD 0 == 48 then some (!s == [48]) else some false).bind (fun v4 => some v4) = some (s.headD 0 == 48 && !s == [48]) := by
        cases s.headD 0 == 48 <;> rfl
      rw [e2]
      simp only [Option.bind_some]
      cases hz : (s.headD 0 == 48 && !s == [48])
      · by_cases h4 : s.length ≤ 13
        · rw [decide_eq_false (show ¬ (13 : Int) < s.length by omega)]
          simp only [cond_false, Option.bind_some]
          have := number_loop h4 (n := n) (kont := fun nx2 => bif decide (1099511627776 < nx2) then some (0, false) else some (nx2, true)) (r := s) (i := 0) (m := n) (a := 0) (by simp) (by omega) hn h3 (by simp)
          simp only [Int.natCast_zero] at this
          rw [this]
          have h5 : decF 0 s = dec s := rfl
          rw [h5]
          by_cases h6 : dec s ≤ maxNumber
          · rw [decide_eq_false (by simp only [maxNumber] at h6; omega)]
            simp [h4, h6]
          · rw [decide_eq_true (by simp only [maxNumber] at h6; omega)]
            simp [h6]
        · rw [decide_eq_true (show (13 : Int) < s.length by omega)]
          simp [h4]
      · simp
    · have e3 : (((spanN isDigit s : Nat) : Int) != (s.length : Int)) = true := by simp; omega
      have e4 : (spanN isDigit s == s.length) = false := by simp [h3]
      rw [e3, e4]
      simp

/-! gaps -/
def not10 (c : UInt8) : Bool := !(c == 10)
def hashN : Rt.Bs → Nat
  | [] => 0
  | c :: r => if c.toNat = 35 then gapN true r + 1 else 0
theorem gap_split : ∀ r : Rt.Bs, gapN false r = spanN isBlank r + hashN (r.drop (spanN isBlank r))
  | [] => rfl
  | c :: r => by
    cases hp : isBlank c
    · simp only [gapN, spanN, hp, cond_false, List.drop_zero, hashN]
      simp
    · simp only [gapN, spanN, hp, cond_true, List.drop_succ_cons, if_true, gap_split r]
      omega
theorem gap_true : ∀ r : Rt.Bs, gapN true r = spanN not10 r + gapN false (r.drop (spanN not10 r))
  | [] => rfl
  | c :: r => by
    by_cases h : c.toNat = 10
    · have h1 : c = 10 := UInt8.toNat_inj.mp h
      subst h1
      simp [gapN, spanN, not10, isBlank]
    · have h1 : not10 c = true := by
        have : c ≠ 10 := fun e => h (by rw [e]; rfl)
        simp [not10, this]
      simp only [gapN, spanN, h1, h, if_false, cond_true, List.drop_succ_cons, gap_true r]
      omega
theorem hashN_step {c : UInt8} {r : Rt.Bs} (h : c.toNat = 35) : hashN (c :: r) = spanN not10 (c :: r) + spanN isBlank ((c :: r).drop (spanN not10 (c :: r))) + hashN (((c :: r).drop (spanN not10 (c :: r))).drop (spanN isBlank ((c :: r).drop (spanN not10 (c :: r))))) := by
  have h1 : not10 c = true := by
    have : c ≠ 10 := fun e => by rw [e] at h; exact absurd h (by decide)
    simp [not10, this]
  simp only [hashN, h, if_true, spanN, h1, cond_true, List.drop_succ_cons, gap_true r, gap_split (r.drop (spanN not10 r))]
  omega
theorem gapN_le : ∀ (b : Bool) (r : Rt.Bs), gapN b r ≤ r.length
  | _, [] => by simp [gapN]
  | true, c :: r => by
    have h1 := gapN_le true r; have h2 := gapN_le false r
    simp only [gapN, List.length_cons]; split <;> omega
  | false, c :: r => by
    have h1 := gapN_le true r; have h2 := gapN_le false r
    simp only [gapN, List.length_cons]; split
    · omega
    · split <;> omega

theorem gap_loop2 {s : Rt.Bs} (hs : s.length ≤ 1000000) {n : Nat} {kont : Int → Option Int} :
    ∀ {r : Rt.Bs} {i m : Nat}, s.drop i = r → i ≤ s.length → r.length < m → lexer_gap_L2 n s kont m (i : Int) = kont ((i + spanN not10 r : Nat) : Int)
  | [], i, m + 1, h, hi, _ => by
    have := drop_nil h hi
    rw [lexer_gap_L2_s]
    simp [this, spanN]
  | c :: r, i, m + 1, h, hi, hm => by
    have h1 := len_drop h
    rw [lexer_gap_L2_s, sidx_drop h, decide_eq_true (by omega)]
    have e : ((c.toNat : Int) != 10) = not10 c := by rw [not10, bne, ← toNat_inj (d := 10)]; rfl
    simp only [cond_true, Option.bind_some, e]
    cases hp : not10 c
    · simp [spanN, hp]
    · rw [cond_true, iadd_nat1 _ (by omega), gap_loop2 hs (drop_succ h) (by omega) (by simp only [List.length_cons] at hm; omega)]
      simp only [spanN, hp, cond_true]
      congr 2; omega

theorem gap_loop1 {s : Rt.Bs} (hs : s.length ≤ 1000000) {n : Nat} (hn : s.length < n) {kont : Int → Option Int} :
    ∀ {m : Nat} {r : Rt.Bs} {i : Nat}, s.drop i = r → i ≤ s.length → r.length < m → lexer_gap_L1 n s kont m (i : Int) = kont ((i + hashN r : Nat) : Int)
  | m + 1, [], i, h, hi, _ => by
    have := drop_nil h hi
    rw [lexer_gap_L1_s]
    simp [this, hashN]
  | m + 1, c :: r, i, h, hi, hm => by
    have h1 := len_drop h
    rw [lexer_gap_L1_s, sidx_drop h, decide_eq_true (by omega)]
    simp only [cond_true, Option.bind_some]
    by_cases hc : c.toNat = 35
    · have e : ((c.toNat : Int) == 35) = true := by rw [hc]; rfl
      rw [e, cond_true, gap_loop2 hs h hi (by simp only [List.length_cons]; omega)]
      have h2 := spanN_le not10 (c :: r)
      simp only [List.length_cons] at h2 hm
      have h3 : s.drop (i + spanN not10 (c :: r)) = (c :: r).drop (spanN not10 (c :: r)) := by rw [← List.drop_drop, h]
      rw [ssl_from _ (by omega), Option.bind_some, h3, span_eq (blank_eq n) (by simp; omega) (by simp; omega), Option.bind_some]
      have h4 := spanN_le isBlank ((c :: r).drop (spanN not10 (c :: r)))
      simp only [List.length_drop, List.length_cons] at h4
      have h6 : 1 ≤ spanN not10 (c :: r) := by
        have h7 : not10 c = true := by
          have : c ≠ 10 := fun e => by rw [e] at hc; exact absurd hc (by decide)
          simp [not10, this]
        simp only [spanN, h7, cond_true]; omega
      rw [iadd_nat _ _ (by omega), gap_loop1 hs hn (r := ((c :: r).drop (spanN not10 (c :: r))).drop (spanN isBlank ((c :: r).drop (spanN not10 (c :: r)))))
        (by rw [← h3, List.drop_drop]) (by omega) (by simp only [List.length_drop, List.length_cons]; omega), hashN_step hc]
      congr 2; omega
    · have e : ((c.toNat : Int) == 35) = false := by rw [beq_eq_false_iff_ne]; omega
      rw [e, cond_false, hashN, if_neg hc]; rfl

theorem gap_eq {s : Rt.Bs} (hs : s.length ≤ 1000000) {n : Nat} (hn : s.length < n) : lexer_gap n s = some ((gapN false s : Nat) : Int) := by
  have h := spanN_le isBlank s
  simp only [lexer_gap, span_eq (blank_eq n) (by omega) hn, Option.bind_some]
  rw [gap_loop1 hs hn (r := s.drop (spanN isBlank s)) rfl h (by simp; omega), gap_split s]

/-! quoted strings -/
def ints (l : Rt.Bs) : List Int := l.map fun c => (c.toNat : Int)
theorem ints_snoc (l : Rt.Bs) (c : UInt8) : ints l ++ [(c.toNat : Int)] = ints (l ++ [c]) := by simp [ints]
theorem ints_len (l : Rt.Bs) : (ints l).length = l.length := by simp [ints]
theorem strOf_ints : ∀ l : Rt.Bs, strOf (ints l) = l
  | [] => rfl
  | c :: r => by
    have h := strOf_ints r
    simp only [strOf, ints, List.map_cons] at *
    rw [h]; simp
theorem qloop_cons (c : UInt8) (r acc : Rt.Bs) (n : Nat) : qloop (c :: r) acc n = if isPlain c = false then none
    else if c.toNat = 34 then some (acc, n)
    else if c.toNat = 92 then
      match r with
      | [] => none
      | d :: r' => if d.toNat = 34 ∨ d.toNat = 92 then qloop r' (acc ++ [d]) (n + 2) else none
    else qloop r (acc ++ [c]) (n + 1) := by
  cases r <;> simp only [qloop]

theorem quoted_loop {s : Rt.Bs} (hs : s.length ≤ 1000000) {n : Nat} {kont : Int → List Int → Option (Rt.Bs × Int)} :
    ∀ {m : Nat} {r acc : Rt.Bs} {i : Nat}, s.drop i = r → i ≤ s.length → acc.length ≤ i → r.length < m →
      lexer_quoted_L1 n s kont m (i : Int) (ints acc) = match qloop r acc i with
        | none => some ([], 0)
        | some (v, k) => kont (k : Int) (ints v)
  | m + 1, [], acc, i, h, hi, _, _ => by
    have := drop_nil h hi
    rw [lexer_quoted_L1_s]
    simp [this, qloop]
  | m + 1, c :: r, acc, i, h, hi, ha, hm => by
    have h1 := len_drop h
    simp only [List.length_cons] at hm
    rw [lexer_quoted_L1_s, sidx_drop h, decide_eq_false (by omega)]
    simp only [cond_false, Option.bind_some, plain_eq]
    cases hp : isPlain c
    · simp [qloop_cons, hp]
    simp only [Bool.not_true, cond_false]
    by_cases h34 : c.toNat = 34
    · rw [h34, qloop_cons, hp, if_neg (by simp), if_pos h34]; rfl
    have e34 : ((c.toNat : Int) == 34) = false := by rw [beq_eq_false_iff_ne]; omega
    rw [e34, cond_false]
    by_cases h92 : c.toNat = 92
    · have e : ((c.toNat : Int) == 92) = true := by rw [h92]; rfl
      rw [e, cond_true, iadd_nat1 _ (by omega)]
      cases r with
      | nil =>
        rw [decide_eq_true (by simp at h1; omega)]
        simp [qloop, hp, h92]
      | cons d r' =>
        have h' := drop_succ h
        have h1' := len_drop h'
        simp only [List.length_cons] at hm
        rw [decide_eq_false (by omega), sidx_drop h']
        simp only [cond_false, Option.bind_some]
        by_cases hd : d.toNat = 34 ∨ d.toNat = 92
        · have e2 : (bif (d.toNat : Int) != 34 then some ((d.toNat : Int) != 92) else some false) = some false := by
            rcases hd with hd | hd <;> rw [hd] <;> rfl
          have h3 : (((ints acc).length + [(d.toNat : Int)].length) * 1) ≤ 140737488355328 := by rw [ints_len]; simp; omega
          rw [e2]
          simp only [Option.bind_some, cond_false]
          rw [app, if_pos h3, Option.bind_some, ints_snoc, iadd_nat1 _ (by omega), quoted_loop hs (drop_succ h') (by omega) (by simp; omega) (by omega)]
          simp [qloop, hp, h92, hd]
        · have e2 : (bif (d.toNat : Int) != 34 then some ((d.toNat : Int) != 92) else some false) = some true := by
            have : ((d.toNat : Int) != 34) = true := by simp; omega
            rw [this, cond_true]
            have : ((d.toNat : Int) != 92) = true := by simp; omega
            rw [this]
          rw [e2]
          simp [qloop, hp, h92, hd]
    · have e : ((c.toNat : Int) == 92) = false := by rw [beq_eq_false_iff_ne]; omega
      have h3 : (((ints acc).length + [(c.toNat : Int)].length) * 1) ≤ 140737488355328 := by rw [ints_len]; simp; omega
      rw [e, cond_false, app, if_pos h3, Option.bind_some, ints_snoc, iadd_nat1 _ (by omega), quoted_loop hs (drop_succ h) (by omega) (by simp; omega) (by omega)]
      simp [qloop_cons, hp, h34, h92]

theorem qloop_lt : ∀ {r acc v : Rt.Bs} {i k : Nat}, qloop r acc i = some (v, k) → i ≤ k ∧ k < i + r.length
  | [], _, _, _, _, h => by simp [qloop] at h
  | c :: r, acc, v, i, k, h => by
    rw [qloop_cons] at h
    split at h
    · cases h
    split at h
    · cases h; simp
    split at h
    · cases r with
      | nil => cases h
      | cons d r' =>
        simp only at h
        split at h
        · have := qloop_lt h; simp only [List.length_cons]; omega
        · cases h
    · have := qloop_lt h; simp only [List.length_cons]; omega

theorem quoted_eq {s : Rt.Bs} (h0 : s ≠ []) (hs : s.length ≤ 1000000) {n : Nat} (hn : s.length < n) : lexer_quoted n s = some ((quoted s).1, ((quoted s).2 : Int)) := by
  have h1 : 1 ≤ s.length := by cases s; exact absurd rfl h0; simp
  have := quoted_loop hs (n := n) (kont := fun nx2 l2 => bif decide (400 < (l2.length : Int)) then some ([], 0) else some (strOf l2, iadd .i64 nx2 1)) (m := n) (r := s.drop 1) (acc := []) (i := 1) rfl h1 (by simp) (by simp; omega)
  simp only [lexer_quoted]
  refine this.trans ?_
  simp only [quoted]
  cases hq : qloop (s.drop 1) [] 1 with
  | none => rfl
  | some x =>
    obtain ⟨v, k⟩ := x
    have h2 := qloop_lt hq
    simp only [List.length_drop] at h2
    simp only [ints_len, strOf_ints]
    by_cases h3 : v.length > 400
    · rw [decide_eq_true (by omega), if_pos h3]; rfl
    · rw [decide_eq_false (by omega), if_neg h3, cond_false, iadd_nat1 _ (by omega)]

/-! one token -/
def signs : List UInt8 := [40, 41, 44, 59, 58, 61, 60, 43, 45, 42, 47, 123, 125]
theorem ix_drop {α : Type} {l r : List α} {i : Nat} {c : α} (h : l.drop i = c :: r) : ix l (i : Int) = some c := by
  have h1 : l[i]? = some c := by
    have := congrArg (·[0]?) h
    simpa using this
  simp [ix, h1]
theorem next_loop {s : Rt.Bs} (h0 : s ≠ []) {n : Nat} {kont : Option (Token × Int × Int)} :
    ∀ {r : List UInt8} {i m : Nat}, signs.drop i = r → i ≤ 13 → r.length < m → lexer_next_L1 n s kont m (i : Int) = if r.contains (s.headD 0) then some (⟨3, s.take 1, 0, 0⟩, 1, 0) else kont
  | [], i, m + 1, h, hi, _ => by
    have := congrArg List.length h
    simp only [signs, List.length_drop, List.length_cons, List.length_nil] at this
    have : i = 13 := by omega
    subst this
    rw [lexer_next_L1_s]; rfl
  | c :: r, i, m + 1, h, hi, hm => by
    have h1 := congrArg List.length h
    simp only [signs, List.length_drop, List.length_cons, List.length_nil] at h1 hm
    have h2 : ([40, 41, 44, 59, 58, 61, 60, 43, 45, 42, 47, 123, 125] : List Int).drop i = ints (c :: r) := by
      rw [← h, ints, List.map_drop]; rfl
    have h3 : 1 ≤ s.length := by cases s; exact absurd rfl h0; simp
    rw [lexer_next_L1_s, decide_eq_true (by omega), cond_true, ix_drop h2, headD_idx h0, Option.bind_some, Option.bind_some, toNat_inj]
    by_cases e : s.headD 0 = c
    · rw [e, beq_self_eq_true, cond_true, show (1 : Int) = ((1 : Nat) : Int) from rfl, ssl_to 1 h3]
      simp
    · have e1 : (s.headD 0 == c) = false := beq_eq_false_iff_ne.mpr e
      rw [e1, cond_false, iadd_nat1 _ (by omega), next_loop h0 (r := r) (by rw [← List.drop_drop, h]; rfl) (by omega) (by omega), List.contains_cons, e1, Bool.false_or]

theorem next_eq {s : Rt.Bs} (h0 : s ≠ []) (hs : s.length ≤ 1000000) {n : Nat} (hn : s.length + 13 < n) : lexer_next n s = some ((next s).1, ((next s).2.1 : Int), (next s).2.2) := by
  have hi := spanN_le isInner s
  have hd := spanN_le isDigit s
  simp only [lexer_next, headD_idx h0, Option.bind_some, letter_eq, digit_eq, next]
  cases hl : isLetter (s.headD 0)
  · cases hdd : isDigit (s.headD 0)
    · simp only [cond_false, Bool.false_eq_true, if_false]
      by_cases hq : (s.headD 0).toNat = 34
      · rw [hq, if_pos rfl]
        simp only [quoted_eq h0 hs (n := n) (by omega), Option.bind_some]
        by_cases hz : (quoted s).2 = 0
        · rw [hz, if_pos rfl]; rfl
        · have e : ((((quoted s).2 : Nat) : Int) == 0) = false := by rw [beq_eq_false_iff_ne]; omega
          rw [e, if_neg hz]; rfl
      · have e : (((s.headD 0).toNat : Int) == 34) = false := by rw [beq_eq_false_iff_ne]; omega
        rw [e, if_neg hq, cond_false]
        have := next_loop h0 (n := n) (kont := some (⟨0, [], 0, 0⟩, 0, 10)) (r := signs) (i := 0) (m := n) rfl (by omega) (by simp [signs]; omega)
        refine this.trans ?_
        have e : isSign (s.headD 0) = signs.contains (s.headD 0) := rfl
        rw [e]
        split <;> rfl
    · simp only [cond_false, cond_true, Bool.false_eq_true, if_false, if_true]
      rw [span_eq (digit_eq n) (by omega) (by omega), Option.bind_some, ssl_to _ hd, Option.bind_some, number_eq (by simp; omega) (by simp; omega), Option.bind_some]
      cases h : (number (s.take (spanN isDigit s))).2
      · rfl
      · simp [Nat.min_eq_left hd]
  · simp only [cond_true, if_true]
    rw [span_eq (inner_eq n) (by omega) (by omega), Option.bind_some, ssl_to _ hi, Option.bind_some, name_eq (by simp; omega) (by simp; omega), Option.bind_some]
    cases h : name (s.take (spanN isInner s))
    · rfl
    · simp [Nat.min_eq_left hi]

/-! all tokens -/
theorem span_pos {p : UInt8 → Bool} {l : Rt.Bs} (h0 : l ≠ []) (h : p (l.headD 0) = true) : 1 ≤ spanN p l := by
  cases l with
  | nil => exact absurd rfl h0
  | cons c r => simp only [List.headD_cons] at h; simp only [spanN, h, cond_true]; omega
theorem letter_inner {c : UInt8} (h : isLetter c = true) : isInner c = true := by
  simp only [isLetter, isInner, decide_eq_true_eq] at *; omega
theorem quoted_len {l : Rt.Bs} (h0 : l ≠ []) : (quoted l).2 ≤ l.length := by
  have h1 : 1 ≤ l.length := by cases l; exact absurd rfl h0; simp
  simp only [quoted]
  cases hq : qloop (l.drop 1) [] 1 with
  | none => simp
  | some x =>
    obtain ⟨v, k⟩ := x
    have := qloop_lt hq
    simp only [List.length_drop] at this
    simp only
    split
    · simp
    · simp only; omega
theorem next_len {l : Rt.Bs} (h0 : l ≠ []) (h : (next l).2.2 = 0) : 1 ≤ (next l).2.1 ∧ (next l).2.1 ≤ l.length := by
  have h1 : 1 ≤ l.length := by cases l; exact absurd rfl h0; simp
  have hi := spanN_le isInner l
  have hd := spanN_le isDigit l
  have hq := quoted_len h0
  simp only [next] at *
  split at h
  · rename_i hl
    have := span_pos h0 (letter_inner hl)
    split at h
    · rename_i hn; simp only [hl, hn, if_true]; omega
    · cases h
  rename_i hl
  split at h
  · rename_i hd'
    have := span_pos h0 hd'
    split at h
    · rename_i hn; simp only [hl, hd', hn, if_true]; simp only [Bool.false_eq_true, if_false]; omega
    · cases h
  rename_i hd'
  split at h
  · rename_i h34
    split at h
    · cases h
    · rename_i hn; simp only [hl, hd', h34, hn, if_true, if_false]; simp only [Bool.false_eq_true, if_false]; omega
  rename_i h34
  split at h
  · rename_i hn; simp only [hl, hd', h34, hn, if_true, if_false]; simp only [Bool.false_eq_true, if_false]; omega
  · cases h

theorem scanF_end {f a : Nat} {r : Rt.Bs} (h : gapN false r = r.length) : scanF (f + 1) r a = ([], 0, 0) := by rw [scanF, if_pos h]
theorem scanF_bad {f a : Nat} {r : Rt.Bs} (h : gapN false r ≠ r.length) (hx : (next (r.drop (gapN false r))).2.2 ≠ 0) : scanF (f + 1) r a = ([], a + gapN false r, (next (r.drop (gapN false r))).2.2) := by
  rw [scanF, if_neg h, if_pos hx]
theorem scanF_more {f a : Nat} {r : Rt.Bs} (h : gapN false r ≠ r.length) (hx : (next (r.drop (gapN false r))).2.2 = 0) : scanF (f + 1) r a =
    if (scanF f (r.drop (gapN false r + (next (r.drop (gapN false r))).2.1)) (a + gapN false r + (next (r.drop (gapN false r))).2.1)).2.2 ≠ 0 then
      scanF f (r.drop (gapN false r + (next (r.drop (gapN false r))).2.1)) (a + gapN false r + (next (r.drop (gapN false r))).2.1)
    else ({ (next (r.drop (gapN false r))).1 with Pos := ((a + gapN false r : Nat) : Int) } :: (scanF f (r.drop (gapN false r + (next (r.drop (gapN false r))).2.1)) (a + gapN false r + (next (r.drop (gapN false r))).2.1)).1, 0, 0) := by
  rw [scanF, if_neg h, if_neg (Decidable.not_not.mpr hx)]
theorem scan_loop {s : Rt.Bs} (hs : s.length ≤ 1000000) {n : Nat} (hn : s.length + 13 < n) :
    ∀ {m f at_ : Nat} {r : Rt.Bs} {acc : List Token}, s.drop at_ = r → at_ ≤ s.length → acc.length ≤ at_ → r.length < m → r.length < f →
      lexer_Scan_L1 n s m (at_ : Int) acc = some (if (scanF f r at_).2.2 = 0 then (acc ++ (scanF f r at_).1, 0, 0) else ([], ((scanF f r at_).2.1 : Int), (scanF f r at_).2.2))
  | m + 1, f + 1, at_, r, acc, h, hi, ha, hm, hf => by
    have h1 : at_ + r.length = s.length := by
      have := congrArg List.length h
      simp only [List.length_drop] at this; omega
    have hg := gapN_le false r
    rw [lexer_Scan_L1_s, ssl_from _ hi, Option.bind_some, h, gap_eq (by omega) (by omega), Option.bind_some, iadd_nat _ _ (by omega)]
    by_cases hend : gapN false r = r.length
    · have e : (((at_ + gapN false r : Nat) : Int) == (s.length : Int)) = true := by rw [beq_iff_eq]; omega
      rw [e, scanF_end hend]; simp
    have e : (((at_ + gapN false r : Nat) : Int) == (s.length : Int)) = false := by rw [beq_eq_false_iff_ne]; omega
    have h2 : r.drop (gapN false r) ≠ [] := by
      intro e; have := congrArg List.length e; simp only [List.length_drop, List.length_nil] at this; omega
    have h3 : s.drop (at_ + gapN false r) = r.drop (gapN false r) := by rw [← List.drop_drop, h]
    rw [e, cond_false, ssl_from _ (by omega), Option.bind_some, h3, next_eq h2 (by simp; omega) (by simp; omega), Option.bind_some]
    by_cases hx : (next (r.drop (gapN false r))).2.2 = 0
    · have h4 := next_len h2 hx
      have h5 : ((acc.length + [(⟨(next (r.drop (gapN false r))).1.Kind, (next (r.drop (gapN false r))).1.Text, (next (r.drop (gapN false r))).1.N, ((at_ + gapN false r : Nat) : Int)⟩ : Token)].length) * 40) ≤ 140737488355328 := by
        simp only [List.length_cons, List.length_nil]; omega
      have e2 : ((next (r.drop (gapN false r))).2.2 != 0) = false := by rw [hx]; rfl
      simp only [List.length_drop] at h4
      simp only [e2, cond_false]
      rw [scanF_more hend hx, app, if_pos h5, Option.bind_some, iadd_nat _ _ (by omega), scan_loop hs hn (f := f) (r := r.drop (gapN false r + (next (r.drop (gapN false r))).2.1))
        (by rw [Nat.add_assoc, ← List.drop_drop, h]) (by omega) (by simp only [List.length_append, List.length_cons, List.length_nil]; omega) (by simp only [List.length_drop]; omega) (by simp only [List.length_drop]; omega)]
      by_cases hy : (scanF f (r.drop (gapN false r + (next (r.drop (gapN false r))).2.1)) (at_ + gapN false r + (next (r.drop (gapN false r))).2.1)).2.2 = 0
      · simp [hy]
      · simp [hy]
    · have e2 : ((next (r.drop (gapN false r))).2.2 != 0) = true := bne_iff_ne.mpr hx
      rw [scanF_bad hend hx, if_neg hx]
      simp only [e2, cond_true]

theorem scan_eq {s : Rt.Bs} (hs : s.length ≤ 1000000) {n : Nat} (hn : s.length + 13 < n) : lexer_Scan n s = some ((scan s).1, ((scan s).2.1 : Int), (scan s).2.2) := by
  simp only [lexer_Scan, scan]
  by_cases h : s.length > 4000
  · rw [decide_eq_true (by omega), if_pos h]; rfl
  · rw [decide_eq_false (by omega), if_neg h, cond_false]
    have h1 := scan_loop hs hn (m := n) (f := s.length + 1) (at_ := 0) (r := s) (acc := []) rfl (by omega) (by simp) (by omega) (by omega)
    refine h1.trans ?_
    by_cases h2 : (scanF (s.length + 1) s 0).2.2 = 0
    · have : (scanF (s.length + 1) s 0).2.1 = 0 := by
        have h3 : ∀ (f : Nat) (r : Rt.Bs) (a : Nat), (scanF f r a).2.2 = 0 → (scanF f r a).2.1 = 0 := by
          intro f
          induction f with
          | zero => intro r a _; rfl
          | succ f ih =>
            intro r a h
            by_cases h1 : gapN false r = r.length
            · rw [scanF_end h1]
            by_cases h2 : (next (r.drop (gapN false r))).2.2 = 0
            · rw [scanF_more h1 h2] at h ⊢
              split at h
              · rename_i h3; exact absurd h h3
              · rename_i h3; rw [if_neg h3]
            · rw [scanF_bad h1 h2] at h; exact absurd h h2
        exact h3 _ _ _ h2
      simp [h2, this]
    · have : (scanF (s.length + 1) s 0).1 = [] := by
        have h3 : ∀ (f : Nat) (r : Rt.Bs) (a : Nat), (scanF f r a).2.2 ≠ 0 → (scanF f r a).1 = [] := by
          intro f
          induction f with
          | zero => intro r a _; rfl
          | succ f ih =>
            intro r a h
            by_cases h1 : gapN false r = r.length
            · rw [scanF_end h1]
            by_cases h2 : (next (r.drop (gapN false r))).2.2 = 0
            · rw [scanF_more h1 h2] at h ⊢
              split at h
              · rename_i h3; rw [if_pos h3]; exact ih _ _ h3
              · exact absurd rfl h
            · rw [scanF_bad h1 h2]
        exact h3 _ _ _ h2
      simp [h2, this]

end Go.Proofs.YtpihabofmnnbbaaDoor.Lx
