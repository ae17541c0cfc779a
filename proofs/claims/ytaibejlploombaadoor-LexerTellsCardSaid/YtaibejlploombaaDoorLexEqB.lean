/-
  PLAIN: each mirror of the reference is the same model.
-/
import Derived.Test.YtaibejlploombaaDoorLexBack
namespace Go.Proofs.YtaibejlploombaaDoor.Lx
open Rt M Go

theorem ssl_one {s r : Rt.Bs} {i : Nat} {c : UInt8} (h : s.drop i = c :: r) : ssl s (i : Int) ((i + 1 : Nat) : Int) = some [c] := by
  have h1 := len_drop h
  rw [ssl_nat _ _ (by omega) (by omega), List.drop_take, h]
  simp
theorem scat_le {a b : Rt.Bs} (h : a.length + b.length ≤ 9223372036854775807) : scat a b = some (a ++ b) := by rw [scat, if_pos h]
theorem int_beq {a b : Nat} : (((a : Nat) : Int) == (b : Int)) = (a == b) := by
  by_cases h : a = b
  · simp [h]
  · rw [beq_eq_false_iff_ne.mpr h, beq_eq_false_iff_ne]; omega

/-! values, names, numbers -/
theorem value_loop {s : Rt.Bs} (hs : s.length ≤ 1000000) {n : Nat} {b : Bool} :
    ∀ {r : Rt.Bs} {i m : Nat}, s.drop i = r → i ≤ s.length → r.length < m → ref06_Value_L1 n s (some b) m (i : Int) = some (b && decide (spanN isPlain r = r.length))
  | [], i, m + 1, h, hi, _ => by
    have := drop_nil h hi
    rw [ref06_Value_L1_s]
    simp [this, spanN]
  | c :: r, i, m + 1, h, hi, hm => by
    have h1 := len_drop h
    simp only [List.length_cons] at hm
    rw [ref06_Value_L1_s, sidx_drop h, decide_eq_true (by omega)]
    simp only [cond_true, Option.bind_some]
    have e : (bif decide ((c.toNat : Int) < 32) then some true else some (decide (126 < (c.toNat : Int)))) = some (!isPlain c) := by
      by_cases h2 : c.toNat < 32
      · rw [decide_eq_true (by omega)]
        have : isPlain c = false := by simp only [isPlain, decide_eq_false_iff_not]; omega
        rw [this]; rfl
      · rw [decide_eq_false (by omega), cond_false]
        by_cases h3 : 126 < c.toNat
        · rw [decide_eq_true (by omega)]
          have : isPlain c = false := by simp only [isPlain, decide_eq_false_iff_not]; omega
          rw [this]; rfl
        · rw [decide_eq_false (by omega)]
          have : isPlain c = true := by simp only [isPlain, decide_eq_true_eq]; omega
          rw [this]; rfl
    rw [e, Option.bind_some]
    cases hp : isPlain c
    · simp [spanN, hp]
    · rw [Bool.not_true, cond_false, iadd_nat1 _ (by omega), value_loop hs (drop_succ h) (by omega) (by omega)]
      simp [spanN, hp]
theorem value_eq {s : Rt.Bs} (hs : s.length ≤ 1000000) {n : Nat} (hn : s.length < n) : ref06_Value n s = some (decide (s.length ≤ 400) && decide (spanN isPlain s = s.length)) := by
  have h := value_loop hs (n := n) (b := decide ((s.length : Int) ≤ 400)) (r := s) (i := 0) (m := n) rfl (by omega) hn
  rw [ref06_Value]
  refine h.trans ?_
  by_cases h2 : s.length ≤ 400
  · rw [decide_eq_true (show (s.length : Int) ≤ 400 by omega), decide_eq_true h2]
  · rw [decide_eq_false (show ¬ (s.length : Int) ≤ 400 by omega), decide_eq_false h2]

theorem rname_loop {s : Rt.Bs} (hs : s.length ≤ 1000000) {n : Nat} :
    ∀ {r : Rt.Bs} {i m : Nat}, s.drop i = r → i ≤ s.length → r.length < m → ref06_Name_L1 n s (some true) m (i : Int) = some (decide (spanN isInner r = r.length))
  | [], i, m + 1, h, hi, _ => by
    have := drop_nil h hi
    rw [ref06_Name_L1_s]
    simp [this, spanN]
  | c :: r, i, m + 1, h, hi, hm => by
    have h1 := len_drop h
    simp only [List.length_cons] at hm
    have e : (bif (bif !isLetter c then !isDigit c else false) then (c.toNat : Int) != 95 else false) = !isInner c :=
      of_decide_eq_true (byte_all (p := fun c => decide ((bif (bif !isLetter c then !isDigit c else false) then (c.toNat : Int) != 95 else false) = !isInner c)) (by decide +kernel) c)
    have e2 : ((bif !isLetter c then some (!isDigit c) else some false).bind fun v4 => (bif v4 then some ((c.toNat : Int) != 95) else some false)) = some (!isInner c) := by
      rw [← e]
      cases isLetter c <;> cases isDigit c <;> rfl
    rw [ref06_Name_L1_s, sidx_drop h, decide_eq_true (by omega)]
    simp only [cond_true, Option.bind_some, rletter_eq, rdigit_eq]
    rw [← Option.bind_assoc, e2, Option.bind_some]
    cases hp : isInner c
    · simp [spanN, hp]
    · rw [Bool.not_true, cond_false, iadd_nat1 _ (by omega), rname_loop hs (drop_succ h) (by omega) (by omega)]
      simp [spanN, hp]
theorem rname_eq {s : Rt.Bs} (hs : s.length ≤ 1000000) {n : Nat} (hn : s.length < n) : ref06_Name n s = some (name s) := by
  cases hs0 : s with
  | nil => rfl
  | cons c r =>
    have h2 : 1 ≤ s.length := by rw [hs0]; simp
    have h3 : s.drop 0 = c :: r := hs0
    have h4 : s.drop 1 = r := drop_succ h3
    have h5 : s.length = r.length + 1 := by rw [hs0]; simp
    have h6 := sidx_drop h3
    simp only [Int.natCast_zero] at h6
    have h7 := rname_loop hs (n := n) (r := r) (i := 1) (m := n) h4 h2 (by omega)
    rw [← hs0, ref06_Name, decide_eq_false (show ¬ (s.length : Int) < 1 by omega), h6]
    simp only [cond_false, Option.bind_some, rletter_eq]
    have h8 : name s = (isLetter c && (decide (s.length ≤ 20) && decide (spanN isInner r = r.length))) := by
      rw [name, hs0]
      cases hl : isLetter c
      · simp [hl]
      · simp only [List.isEmpty_cons, Bool.not_false, List.headD_cons, hl, Bool.true_and, spanN, letter_inner hl, cond_true, List.length_cons]
        congr 1
        rw [Bool.eq_iff_iff]; simp
    rw [h8]
    by_cases h9 : s.length ≤ 20
    · rw [decide_eq_false (show ¬ (20 : Int) < s.length by omega), decide_eq_true h9]
      simp only [cond_false, Option.bind_some]
      cases isLetter c
      · rfl
      · simp only [Bool.not_true, cond_false, Bool.true_and]; exact h7
    · rw [decide_eq_true (show (20 : Int) < s.length by omega), decide_eq_false h9]
      simp

theorem rnumber_loop {s : Rt.Bs} (hs : s.length ≤ 1000000) {n : Nat} {kont : Int → Option (Int × Bool)} (hk : ∀ a : Nat, maxNumber < a → kont (a : Int) = some (0, false)) :
    ∀ {r : Rt.Bs} {i m a : Nat}, s.drop i = r → i ≤ s.length → r.length < m → ref06_Number_L1 n s kont m (a : Int) (i : Int) = if spanN isDigit r = r.length then kont ((decF a r : Nat) : Int) else some (0, false)
  | [], i, m + 1, a, h, hi, _ => by
    have := drop_nil h hi
    rw [ref06_Number_L1_s]
    simp [this, decF, spanN]
  | c :: r, i, m + 1, a, h, hi, hm => by
    have h1 := len_drop h
    simp only [List.length_cons] at hm
    rw [ref06_Number_L1_s, sidx_drop h, decide_eq_true (by omega)]
    simp only [cond_true, Option.bind_some, rdigit_eq]
    cases hp : isDigit c
    · simp [spanN, hp]
    · simp only [Bool.not_true, cond_false, Option.bind_some]
      by_cases h2 : maxNumber < a
      · have h3 := decF_ge (c :: r) a
        have h4 : a ≤ a * 10 ^ (c :: r).length := Nat.le_mul_of_pos_right _ (Nat.pow_pos (by omega))
        have e8 : decide (1099511627776 < (a : Int)) = true := decide_eq_true (by simp only [maxNumber] at h2; omega)
        rw [e8, cond_true, hk _ (Nat.lt_of_lt_of_le h2 (Nat.le_trans h4 h3))]
        split <;> rfl
      · have h5 := digit_le hp
        have h6 : 48 ≤ c.toNat := by simp only [isDigit, decide_eq_true_eq] at hp; omega
        have h7 : isub .i64 (iadd .i64 (imul .i64 10 (a : Int)) (IntKind.i64.wrap (c.toNat : Int))) 48 = ((10 * a + (c.toNat - 48) : Nat) : Int) := by
          simp only [maxNumber] at h2
          rw [imul, wrap_i64 _ (by omega) (by omega), wrap_i64 (c.toNat : Int) (by omega) (by omega), iadd, wrap_i64 _ (by omega) (by omega), isub, wrap_i64 _ (by omega) (by omega)]
          omega
        rw [decide_eq_false (by simp only [maxNumber] at h2; omega), cond_false, h7, iadd_nat1 _ (by omega), rnumber_loop hs hk (drop_succ h) (by omega) (by omega)]
        simp only [spanN, hp, cond_true, List.length_cons, Nat.add_right_cancel_iff]
        rfl

theorem rnumber_eq {s : Rt.Bs} (hs : s.length ≤ 1000000) {n : Nat} (hn : s.length < n) : ref06_Number n s = some (((number s).1 : Int), (number s).2) := by
  cases hs0 : s with
  | nil =>
    have : 0 < n := by omega
    obtain ⟨k, rfl⟩ : ∃ k, n = k + 1 := ⟨n - 1, by omega⟩
    rfl
  | cons c r =>
    have h2 : 1 ≤ s.length := by rw [hs0]; simp
    have h3 : s.drop 0 = c :: r := hs0
    have h6 := sidx_drop h3
    simp only [Int.natCast_zero] at h6
    have h5 : s.length = r.length + 1 := by rw [hs0]; simp
    rw [← hs0, ref06_Number]
    have e1 : (((c.toNat : Nat) : Int) == 48) = (c == 48) := toNat_inj (d := 48)
    have hk : ∀ a : Nat, (bif decide ((s.length : Int) < 1) then some true else (bif decide (1 < (s.length : Int)) then (sidx s 0).bind fun c1 => some (c1 == 48) else some false).bind fun v3 => some v3).bind (fun v1 =>
        (bif v1 then some true else some (decide (1099511627776 < (a : Int)))).bind fun v2 => bif v2 then some ((0 : Int), false) else some ((a : Int), true)) =
        some (if ((decide (1 < s.length) && c == 48) || decide (maxNumber < a)) = true then ((0 : Int), false) else ((a : Int), true)) := by
      intro a
      have e2 : decide (1099511627776 < (a : Int)) = decide (maxNumber < a) := by
        have e9 : maxNumber = 1099511627776 := rfl
        by_cases h : maxNumber < a
        · rw [decide_eq_true h, decide_eq_true (by omega)]
        · rw [decide_eq_false h, decide_eq_false (by omega)]
      have e3 : decide (1 < (s.length : Int)) = decide (1 < s.length) := by
        rw [Bool.eq_iff_iff]; simp only [decide_eq_true_eq]; omega
      rw [decide_eq_false (show ¬ (s.length : Int) < 1 by omega), h6, e2, e3]
      simp only [cond_false, Option.bind_some, e1]
      cases decide (1 < s.length) <;> cases c == 48 <;> cases decide (maxNumber < a) <;> rfl
    have h7 := rnumber_loop hs (n := n) (kont := fun (nx2 : Int) => (bif decide ((s.length : Int) < 1) then some true else (bif decide (1 < (s.length : Int)) then (sidx s 0).bind fun c1 => some (c1 == 48) else some false).bind fun v3 => some v3).bind (fun v1 =>
        (bif v1 then some true else some (decide (1099511627776 < nx2))).bind fun v2 => bif v2 then some ((0 : Int), false) else some (nx2, true)))
      (fun a ha => by rw [hk, decide_eq_true ha]; simp) (r := s) (i := 0) (m := n) (a := 0) rfl (by omega) hn
    refine h7.trans ?_
    simp only [hk]
    have h8 : s.isEmpty = false := by rw [hs0]; rfl
    have h9 : s.headD 0 = c := by rw [hs0]; rfl
    have h10 : (decide (1 < s.length) && c == 48) = (c == 48 && !(s == [48])) := by
      rw [Bool.eq_iff_iff]
      simp only [Bool.and_eq_true, decide_eq_true_eq, beq_iff_eq, Bool.not_eq_true', beq_eq_false_iff_ne]
      constructor
      · rintro ⟨h, h'⟩; exact ⟨h', fun e => by rw [e] at h; simp at h⟩
      · rintro ⟨h, h'⟩
        refine ⟨?_, h⟩
        rcases Nat.lt_or_ge 1 s.length with h11 | h11
        · exact h11
        · exfalso; apply h'
          have : r = [] := List.length_eq_zero_iff.mp (by omega)
          rw [hs0, h, this]
    rw [number, numberOk, h8, h9, h10]
    by_cases hd : spanN isDigit s = s.length
    · rw [if_pos hd, hd]
      have h11 : decF 0 s = dec s := rfl
      rw [h11]
      cases hz : (c == 48 && !(s == [48]))
      · by_cases h12 : dec s ≤ maxNumber
        · have h13 : s.length ≤ 13 := by
            rcases Nat.lt_or_ge 13 s.length with h14 | h14
            · exfalso
              obtain ⟨hp, _⟩ := spanN_cons (hs0 ▸ hd)
              have h15 : dec s = decF (c.toNat - 48) r := by
                rw [hs0]; show decF (10 * 0 + (c.toNat - 48)) r = _; simp
              have h16 := decF_ge r (c.toNat - 48)
              have h17 : 1 ≤ c.toNat - 48 := by
                have h18 : c ≠ 48 := by
                  intro e
                  rw [e] at hz
                  have : (s == [48]) = true := by simpa using hz
                  have := eq_of_beq this
                  rw [this] at h14; simp at h14
                have h19 : c.toNat ≠ 48 := fun e => h18 (UInt8.toNat_inj.mp e)
                simp only [isDigit, decide_eq_true_eq] at hp; omega
              have h20 : 10 ^ 13 ≤ 10 ^ r.length := Nat.pow_le_pow_right (by omega) (by omega)
              have h21 : 10 ^ r.length ≤ (c.toNat - 48) * 10 ^ r.length := Nat.le_mul_of_pos_left _ (by omega)
              simp only [maxNumber] at h12
              omega
            · omega
          have e5 : decide (maxNumber < dec s) = false := by simp; omega
          simp [h12, h13, e5]
        · have e5 : decide (maxNumber < dec s) = true := by simp; omega
          simp [h12, e5]
      · simp
    · rw [if_neg hd]
      have : (spanN isDigit s == s.length) = false := by simp [hd]
      simp [this]

/-! escaped -/
theorem resc_loop {s : Rt.Bs} (hs : s.length ≤ 1000000) {n : Nat} {kont : Rt.Bs → Option Rt.Bs} :
    ∀ {r : Rt.Bs} {i m : Nat} {t : Rt.Bs}, s.drop i = r → i ≤ s.length → t.length ≤ 2 * i + 1 → r.length < m → ref06_Escaped_L1 n s kont m t (i : Int) = kont (t ++ escBody r)
  | [], i, m + 1, t, h, hi, _, _ => by
    have := drop_nil h hi
    rw [ref06_Escaped_L1_s]
    simp [this, escBody]
  | c :: r, i, m + 1, t, h, hi, ht, hm => by
    have h1 := len_drop h
    simp only [List.length_cons] at hm
    have e : (bif (c.toNat : Int) == 34 then some true else some ((c.toNat : Int) == 92)) = some (decide (c.toNat = 34 ∨ c.toNat = 92)) := by
      by_cases h2 : c.toNat = 34
      · rw [h2]; rfl
      · have e3 : ((c.toNat : Int) == 34) = false := by rw [beq_eq_false_iff_ne]; omega
        rw [e3, cond_false]
        by_cases h3 : c.toNat = 92
        · rw [h3]; rfl
        · have e4 : ((c.toNat : Int) == 92) = false := by rw [beq_eq_false_iff_ne]; omega
          rw [e4]; simp [h2, h3]
    rw [ref06_Escaped_L1_s, sidx_drop h, decide_eq_true (by omega)]
    simp only [cond_true, Option.bind_some]
    rw [e, Option.bind_some]
    by_cases hc : c.toNat = 34 ∨ c.toNat = 92
    · rw [decide_eq_true hc, cond_true, scat_le (by simp; omega), Option.bind_some, iadd_nat1 _ (by omega), ssl_one h, Option.bind_some, scat_le (by simp; omega), Option.bind_some,
        resc_loop hs (drop_succ h) (by omega) (by simp; omega) (by omega)]
      simp [escBody, esc1, hc]
    · rw [decide_eq_false hc, cond_false, iadd_nat1 _ (by omega), ssl_one h, Option.bind_some, scat_le (by simp; omega), Option.bind_some,
        resc_loop hs (drop_succ h) (by omega) (by simp; omega) (by omega)]
      simp [escBody, esc1, hc]
theorem esc_le : ∀ v : Rt.Bs, (escBody v).length ≤ 2 * v.length
  | [] => by simp [escBody]
  | c :: v => by
    have := esc_le v
    simp only [escBody, esc1, List.length_append, List.length_cons]
    split <;> simp <;> omega
theorem resc_eq {s : Rt.Bs} (hs : s.length ≤ 1000000) {n : Nat} (hn : s.length < n) : ref06_Escaped n s = some (escaped s) := by
  have h := resc_loop hs (n := n) (kont := fun t2 => (scat t2 [34]).bind fun t3 => some t3) (r := s) (i := 0) (m := n) (t := [34]) rfl (by omega) (by simp) hn
  have h2 := esc_le s
  rw [ref06_Escaped]
  refine h.trans ?_
  rw [scat_le (by simp; omega)]
  simp [escaped]
theorem rquote_eq {s : Rt.Bs} (hs : s.length ≤ 1000000) {n : Nat} (hn : s.length < n) : ref06_Quote n s = some (quote s) := by
  rw [ref06_Quote, value_eq hs hn, Option.bind_some, resc_eq hs hn, quote]
  by_cases h : s.length ≤ 400 <;> by_cases h2 : spanN isPlain s = s.length <;> simp [h, h2]

/-! quoted strings -/
/-- the reference reads on to the quote, and looks at the value at the end -/
def rq : Rt.Bs → Rt.Bs → Nat → Option (Rt.Bs × Nat)
  | [], _, _ => none
  | c :: r, acc, n =>
    if c.toNat = 34 then some (acc, n)
    else if c.toNat = 92 then
      match r with
      | [] => none
      | d :: r' => if d.toNat = 34 ∨ d.toNat = 92 then rq r' (acc ++ [d]) (n + 2) else none
    else rq r (acc ++ [c]) (n + 1)
theorem rq_cons (c : UInt8) (r acc : Rt.Bs) (n : Nat) : rq (c :: r) acc n = if c.toNat = 34 then some (acc, n)
    else if c.toNat = 92 then
      match r with
      | [] => none
      | d :: r' => if d.toNat = 34 ∨ d.toNat = 92 then rq r' (acc ++ [d]) (n + 2) else none
    else rq r (acc ++ [c]) (n + 1) := by
  cases r <;> simp only [rq]
theorem all_plain {l : Rt.Bs} : (spanN isPlain l = l.length) ↔ l.all isPlain = true := by
  induction l with
  | nil => simp [spanN]
  | cons c l ih =>
    simp only [spanN, List.length_cons, List.all_cons, Bool.and_eq_true]
    cases hp : isPlain c
    · simp
    · simp [ih]
theorem rq_bad : ∀ {r acc v : Rt.Bs} {n k : Nat}, rq r acc n = some (v, k) → acc.all isPlain = false → v.all isPlain = false
  | [], _, _, _, _, h, _ => by simp [rq] at h
  | c :: r, acc, v, n, k, h, ha => by
    rw [rq_cons] at h
    split at h
    · cases h; exact ha
    split at h
    · cases r with
      | nil => cases h
      | cons d r' =>
        simp only at h
        split at h
        · exact rq_bad h (by simp only [List.all_append, ha, Bool.false_and])
        · cases h
    · exact rq_bad h (by simp only [List.all_append, ha, Bool.false_and])
theorem qloop_rq : ∀ (r acc : Rt.Bs) (n : Nat), acc.all isPlain = true → qloop r acc n = match rq r acc n with
    | none => none
    | some (v, k) => if v.all isPlain = true then some (v, k) else none
  | [], _, _, _ => by simp [qloop, rq]
  | c :: r, acc, n, ha => by
    rw [qloop_cons, rq_cons]
    cases hp : isPlain c
    · have h34 : ¬ c.toNat = 34 := fun e => by simp [isPlain, e] at hp
      have h92 : ¬ c.toNat = 92 := fun e => by simp [isPlain, e] at hp
      rw [if_pos rfl, if_neg h34, if_neg h92]
      cases hr : rq r (acc ++ [c]) (n + 1) with
      | none => rfl
      | some x =>
        obtain ⟨v, k⟩ := x
        have := rq_bad hr (by simp only [List.all_append, List.all_cons, hp, Bool.false_and, Bool.and_false])
        simp [this]
    · rw [if_neg (by simp)]
      by_cases h34 : c.toNat = 34
      · rw [if_pos h34, if_pos h34]; simp [ha]
      rw [if_neg h34, if_neg h34]
      by_cases h92 : c.toNat = 92
      · rw [if_pos h92, if_pos h92]
        cases r with
        | nil => rfl
        | cons d r' =>
          simp only
          by_cases hd : d.toNat = 34 ∨ d.toNat = 92
          · have hpd : isPlain d = true := by simp only [isPlain, decide_eq_true_eq]; omega
            rw [if_pos hd, if_pos hd]
            exact qloop_rq r' _ _ (by simp only [List.all_append, ha, List.all_cons, hpd, List.all_nil, Bool.and_true])
          · rw [if_neg hd, if_neg hd]
      · rw [if_neg h92, if_neg h92]
        exact qloop_rq r _ _ (by simp only [List.all_append, ha, List.all_cons, hp, List.all_nil, Bool.and_true])

theorem rquoted_loop {s : Rt.Bs} (hs : s.length ≤ 1000000) {n : Nat} {kont : Rt.Bs → Int → Option (Rt.Bs × Int × Bool)} (hk : ∀ v, v.length ≤ 1000000 → kont v (s.length : Int) = some ([], 0, false)) (b : Nat) :
    ∀ {m : Nat} {r acc : Rt.Bs} {i : Nat}, s.drop i = r → i ≤ s.length → acc.length ≤ i → b ≤ i → r.length < m →
      ref06_quoted_L1 n s kont m acc (i : Int) = match rq r acc (i - b) with
        | none => some ([], 0, false)
        | some (v, k) => kont v ((k + b : Nat) : Int)
  | m + 1, [], acc, i, h, hi, ha, _, _ => by
    have := drop_nil h hi
    rw [ref06_quoted_L1_s, decide_eq_false (by omega)]
    simp only [cond_false, Option.bind_some, rq]
    rw [this, hk _ (by omega)]
  | m + 1, c :: r, acc, i, h, hi, ha, hb, hm => by
    have h1 := len_drop h
    simp only [List.length_cons] at hm
    rw [ref06_quoted_L1_s, sidx_drop h, decide_eq_true (by omega), rq_cons]
    simp only [cond_true, Option.bind_some]
    by_cases h34 : c.toNat = 34
    · have e34' : ((c.toNat : Int) != 34) = false := by rw [h34]; rfl
      rw [e34', if_pos h34, cond_false]
      simp only
      rw [show i - b + b = i by omega]
    have e34 : ((c.toNat : Int) != 34) = true := by simp; omega
    rw [e34, if_neg h34, cond_true]
    by_cases h92 : c.toNat = 92
    · have e : ((c.toNat : Int) == 92) = true := by rw [h92]; rfl
      rw [e, if_pos h92, iadd_nat1 _ (by omega), cond_true]
      cases r with
      | nil =>
        rw [decide_eq_true (by simp at h1; omega)]
        rfl
      | cons d r' =>
        have h' := drop_succ h
        have h1' := len_drop h'
        simp only [List.length_cons] at hm
        rw [decide_eq_false (by omega), sidx_drop h']
        simp only [cond_false, Option.bind_some]
        by_cases hd : d.toNat = 34 ∨ d.toNat = 92
        · have e2 : (bif (d.toNat : Int) != 34 then some ((d.toNat : Int) != 92) else some false) = some false := by
            rcases hd with hd | hd <;> rw [hd] <;> rfl
          rw [e2, if_pos hd]
          simp only [Option.bind_some, cond_false]
          rw [iadd_nat1 _ (by omega), ssl_one h', Option.bind_some, scat_le (by simp; omega), Option.bind_some, rquoted_loop hs hk b (drop_succ h') (by omega) (by simp; omega) (by omega) (by omega),
            show i + 1 + 1 - b = i - b + 2 by omega]
        · have e2 : (bif (d.toNat : Int) != 34 then some ((d.toNat : Int) != 92) else some false) = some true := by
            have : ((d.toNat : Int) != 34) = true := by simp; omega
            rw [this, cond_true]
            have : ((d.toNat : Int) != 92) = true := by simp; omega
            rw [this]
          rw [e2, if_neg hd]; rfl
    · have e : ((c.toNat : Int) == 92) = false := by rw [beq_eq_false_iff_ne]; omega
      rw [e, cond_false, if_neg h92, iadd_nat1 _ (by omega), ssl_one h, Option.bind_some, scat_le (by simp; omega), Option.bind_some, rquoted_loop hs hk b (drop_succ h) (by omega) (by simp; omega) (by omega) (by omega),
        show i + 1 - b = i - b + 1 by omega]

theorem rq_lt : ∀ {r acc v : Rt.Bs} {i k : Nat}, rq r acc i = some (v, k) → k < i + r.length ∧ v.length + i ≤ acc.length + k
  | [], _, _, _, _, h => by simp [rq] at h
  | c :: r, acc, v, i, k, h => by
    rw [rq_cons] at h
    split at h
    · cases h; simp
    split at h
    · cases r with
      | nil => cases h
      | cons d r' =>
        simp only at h
        split at h
        · have := rq_lt h; simp only [List.length_append, List.length_cons, List.length_nil] at *; omega
        · cases h
    · have := rq_lt h; simp only [List.length_append, List.length_cons, List.length_nil] at *; omega

theorem rquoted_eq {s x : Rt.Bs} {at_ : Nat} (hx : s.drop at_ = x) (h0 : x ≠ []) (hs : s.length ≤ 1000000) {n : Nat} (hn : s.length < n) :
    ref06_quoted n s (at_ : Int) = some (if (quoted x).2 = 0 then ([], 0, false) else ((quoted x).1, ((at_ + (quoted x).2 : Nat) : Int), true)) := by
  have hlen : at_ + x.length = s.length := by
    have := congrArg List.length hx
    have h1 : 1 ≤ x.length := by cases x; exact absurd rfl h0; simp
    simp only [List.length_drop] at this; omega
  have h1 : 1 ≤ x.length := by cases x; exact absurd rfl h0; simp
  have hk : ∀ (v : Rt.Bs) (i : Nat), v.length ≤ 1000000 → i ≤ s.length → (bif decide ((s.length : Int) ≤ (i : Int)) then some true else (ref06_Value n v).bind fun v2 => some (!v2)).bind (fun v1 => bif v1 then some (([] : Rt.Bs), (0 : Int), false) else some (v, iadd .i64 (i : Int) 1, true)) =
      some (if i < s.length ∧ v.length < n ∧ v.length ≤ 400 ∧ v.all isPlain = true then (v, ((i + 1 : Nat) : Int), true) else ([], 0, false)) ∨ n ≤ v.length := by
    intro v i hv hi
    by_cases hvn : v.length < n
    · left
      by_cases h : i < s.length
      · rw [decide_eq_false (by omega), cond_false, value_eq hv hvn, Option.bind_some, Option.bind_some, iadd_nat1 _ (by omega)]
        by_cases h2 : v.length ≤ 400 <;> by_cases h3 : v.all isPlain = true
        · simp [h, h2, hvn, all_plain.mpr h3, h3]
        · have : ¬ spanN isPlain v = v.length := fun e => h3 (all_plain.mp e)
          rw [if_neg (fun e => h3 e.2.2.2)]; simp [this]
        · rw [if_neg (fun e => h2 e.2.2.1)]; simp [h2]
        · rw [if_neg (fun e => h2 e.2.2.1)]; simp [h2]
      · rw [decide_eq_true (by omega), if_neg (fun e => h e.1)]; rfl
    · right; omega
  have hl := rquoted_loop hs (n := n) (kont := fun (value2 : Rt.Bs) (i2 : Int) => (bif decide ((s.length : Int) ≤ i2) then some true else (ref06_Value n value2).bind fun v2 => some (!v2)).bind (fun v1 => bif v1 then some (([] : Rt.Bs), (0 : Int), false) else some (value2, iadd .i64 i2 1, true)))
    (fun v hv => by rw [decide_eq_true (by omega)]; rfl) at_ (m := n) (r := x.drop 1) (acc := []) (i := at_ + 1) (by rw [← List.drop_drop, hx]) (by omega) (by simp) (by omega) (by simp; omega)
  rw [ref06_quoted, iadd_nat1 _ (by omega)]
  refine hl.trans ?_
  rw [quoted, show at_ + 1 - at_ = 1 by omega, qloop_rq _ _ _ rfl]
  cases hr : rq (x.drop 1) [] 1 with
  | none => rfl
  | some y =>
    obtain ⟨v, k⟩ := y
    have h2 := rq_lt hr
    simp only [List.length_drop, List.length_nil] at h2
    rcases hk v (k + at_) (by omega) (by omega) with h3 | h3
    · simp only
      rw [h3]
      by_cases h4 : v.all isPlain = true
      · simp only [h4, if_true]
        by_cases h5 : v.length > 400
        · rw [if_pos h5, if_neg (by omega)]; simp
        · rw [if_neg h5, if_pos ⟨by omega, by omega, by omega, trivial⟩]
          simp; omega
      · rw [if_neg h4, if_neg (fun e => h4 e.2.2.2)]; simp
    · omega
end Go.Proofs.YtaibejlploombaaDoor.Lx
