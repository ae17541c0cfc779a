/-
  PLAIN: each mirror of the reference is the same model.
-/
import Derived.Test.YtibkigpmkkkaeaaGreatDoorLxEq
import Derived.Test.YtibkigpmkkkaeaaGreatDoorMirR6
namespace Go.Proofs.YtibkigpmkkkaeaaGreatDoor.Lx
open Rt M Go
theorem rblank_eq (n : Nat) (c : UInt8) : ref06_Blank n (c.toNat : Int) = some (isBlank c) :=
  of_decide_eq_true (byte_all (p := fun c => decide (ref06_Blank 0 (c.toNat : Int) = some (isBlank c))) (by decide +kernel) c)
theorem rletter_eq (n : Nat) (c : UInt8) : ref06_letter n (c.toNat : Int) = some (isLetter c) :=
  of_decide_eq_true (byte_all (p := fun c => decide (ref06_letter 0 (c.toNat : Int) = some (isLetter c))) (by decide +kernel) c)
theorem rdigit_eq (n : Nat) (c : UInt8) : ref06_digit n (c.toNat : Int) = some (isDigit c) :=
  of_decide_eq_true (byte_all (p := fun c => decide (ref06_digit 0 (c.toNat : Int) = some (isDigit c))) (by decide +kernel) c)
theorem spanN_cons {p : UInt8 → Bool} {c : UInt8} {v : Rt.Bs} (h : spanN p (c :: v) = (c :: v).length) : p c = true ∧ spanN p v = v.length := by
  simp only [spanN, List.length_cons] at h
  cases hp : p c
  · simp [hp] at h
  · simp only [hp, cond_true] at h; exact ⟨rfl, by omega⟩
theorem ssl_one {s r : Rt.Bs} {i : Nat} {c : UInt8} (h : s.drop i = c :: r) : ssl s (i : Int) ((i + 1 : Nat) : Int) = some [c] := by
  have h1 := len_drop h
  rw [ssl_nat _ _ (by omega) (by omega), List.drop_take, h]
  simp
theorem scat_le {a b : Rt.Bs} (h : a.length + b.length ≤ 9223372036854775807) : scat a b = some (a ++ b) := by rw [scat, if_pos h]
/-! values, names, numbers -/
theorem value_loop {s : Rt.Bs} (hs : s.length ≤ 1000000) {n : Nat} {b : Bool} :
    ∀ {r : Rt.Bs} {i m : Nat}, s.drop i = r → i ≤ s.length → r.length < m → ref06_Value_L1 n s (some b) m (i : Int) = some (b && decide (spanN isPlain r = r.length))
  | [], i, m + 1, h, hi, _ => by
    have := drop_nil h hi
    rw [ref06_Value_L1_s]
    simp [this, spanN]
  | c :: r, i, m + 1, h, hi, hm => by
    have h1 := len_drop h
    simp only [List.length_cons] at hm
    rw [ref06_Value_L1_s, sidx_drop h, decide_eq_true (by omega)]
    simp only [cond_true, Option.bind_some]
    have e : (bif decide ((c.toNat : Int) < 32) then some true else some (decide (126 < (c.toNat : Int)))) = some (!isPlain c) := by
      by_cases h2 : c.toNat < 32
      · rw [decide_eq_true (by omega)]
        have : isPlain c = false := by simp only [isPlain, decide_eq_false_iff_not]; omega
        rw [this]; rfl
      · rw [decide_eq_false (by omega), cond_false]
        by_cases h3 : 126 < c.toNat
        · rw [decide_eq_true (by omega)]
          have : isPlain c = false := by simp only [isPlain, decide_eq_false_iff_not]; omega
          rw [this]; rfl
        · rw [decide_eq_false (by omega)]
          have : isPlain c = true := by simp only [isPlain, decide_eq_true_eq]; omega
          rw [this]; rfl
    rw [e, Option.bind_some]
    cases hp : isPlain c
    · simp [spanN, hp]
    · rw [Bool.not_true, cond_false, iadd_nat1 _ (by omega), value_loop hs (drop_succ h) (by omega) (by omega)]
      simp [spanN, hp]
theorem value_eq {s : Rt.Bs} (hs : s.length ≤ 1000000) {n : Nat} (hn : s.length < n) : ref06_Value n s = some (decide (s.length ≤ 400) && decide (spanN isPlain s = s.length)) := by
  have h := value_loop hs (n := n) (b := decide ((s.length : Int) ≤ 400)) (r := s) (i := 0) (m := n) rfl (by omega) hn
  rw [ref06_Value]
  refine h.trans ?_
  by_cases h2 : s.length ≤ 400
  · rw [decide_eq_true (show (s.length : Int) ≤ 400 by omega), decide_eq_true h2]
  · rw [decide_eq_false (show ¬ (s.length : Int) ≤ 400 by omega), decide_eq_false h2]
theorem rname_loop {s : Rt.Bs} (hs : s.length ≤ 1000000) {n : Nat} :
    ∀ {r : Rt.Bs} {i m : Nat}, s.drop i = r → i ≤ s.length → r.length < m → ref06_Name_L1 n s (some true) m (i : Int) = some (decide (spanN isInner r = r.length))
  | [], i, m + 1, h, hi, _ => by
    have := drop_nil h hi
    rw [ref06_Name_L1_s]
    simp [this, spanN]
  | c :: r, i, m + 1, h, hi, hm => by
    have h1 := len_drop h
    simp only [List.length_cons] at hm
    have e : (bif (bif !isLetter c then !isDigit c else false) then (c.toNat : Int) != 95 else false) = !isInner c :=
      of_decide_eq_true (byte_all (p := fun c => decide ((bif (bif !isLetter c then !isDigit c else false) then (c.toNat : Int) != 95 else false) = !isInner c)) (by decide +kernel) c)
    have e2 : ((bif !isLetter c then some (!isDigit c) else some false).bind fun v4 => (bif v4 then some ((c.toNat : Int) != 95) else some false)) = some (!isInner c) := by
      rw [← e]
      cases isLetter c <;> cases isDigit c <;> rfl
    rw [ref06_Name_L1_s, sidx_drop h, decide_eq_true (by omega)]
    simp only [cond_true, Option.bind_some, rletter_eq, rdigit_eq]
    rw [← Option.bind_assoc, e2, Option.bind_some]
    cases hp : isInner c
    · simp [spanN, hp]
    · rw [Bool.not_true, cond_false, iadd_nat1 _ (by omega), rname_loop hs (drop_succ h) (by omega) (by omega)]
      simp [spanN, hp]
theorem rname_eq {s : Rt.Bs} (hs : s.length ≤ 1000000) {n : Nat} (hn : s.length < n) : ref06_Name n s = some (name s) := by
  cases hs0 : s with
  | nil => rfl
  | cons c r =>
    have h2 : 1 ≤ s.length := by rw [hs0]; simp
    have h3 : s.drop 0 = c :: r := hs0
    have h4 : s.drop 1 = r := drop_succ h3
    have h5 : s.length = r.length + 1 := by rw [hs0]; simp
    have h6 := sidx_drop h3
    simp only [Int.natCast_zero] at h6
    have h7 := rname_loop hs (n := n) (r := r) (i := 1) (m := n) h4 h2 (by omega)
    rw [← hs0, ref06_Name, decide_eq_false (show ¬ (s.length : Int) < 1 by omega), h6]
    simp only [cond_false, Option.bind_some, rletter_eq]
    have h8 : name s = (isLetter c && (decide (s.length ≤ 20) && decide (spanN isInner r = r.length))) := by
      rw [name, hs0]
      cases hl : isLetter c
      · simp [hl]
      · simp only [List.isEmpty_cons, Bool.not_false, List.headD_cons, hl, Bool.true_and, spanN, letter_inner hl, cond_true, List.length_cons]
        congr 1
        rw [Bool.eq_iff_iff]; simp
    rw [h8]
    by_cases h9 : s.length ≤ 20
    · rw [decide_eq_false (show ¬ (20 : Int) < s.length by omega), decide_eq_true h9]
      simp only [cond_false, Option.bind_some]
      cases isLetter c
      · rfl
      · simp only [Bool.not_true, cond_false, Bool.true_and]; exact h7
    · rw [decide_eq_true (show (20 : Int) < s.length by omega), decide_eq_false h9]
      simp
theorem rnumber_loop {s : Rt.Bs} (hs : s.length ≤ 1000000) {n : Nat} {kont : Int → Option (Int × Bool)} (hk : ∀ a : Nat, maxNumber < a → kont (a : Int) = some (0, false)) :
    ∀ {r : Rt.Bs} {i m a : Nat}, s.drop i = r → i ≤ s.length → r.length < m → ref06_Number_L1 n s kont m (a : Int) (i : Int) = if spanN isDigit r = r.length then kont ((decF a r : Nat) : Int) else some (0, false)
  | [], i, m + 1, a, h, hi, _ => by
    have := drop_nil h hi
    rw [ref06_Number_L1_s]
    simp [this, decF, spanN]
  | c :: r, i, m + 1, a, h, hi, hm => by
    have h1 := len_drop h
    simp only [List.length_cons] at hm
    rw [ref06_Number_L1_s, sidx_drop h, decide_eq_true (by omega)]
    simp only [cond_true, Option.bind_some, rdigit_eq]
    cases hp : isDigit c
    · simp [spanN, hp]
    · simp only [Bool.not_true, cond_false, Option.bind_some]
      by_cases h2 : maxNumber < a
      · have h3 := decF_ge (c :: r) a
        have h4 : a ≤ a * 10 ^ (c :: r).length := Nat.le_mul_of_pos_right _ (Nat.pow_pos (by omega))
        have e8 : decide (1099511627776 < (a : Int)) = true := decide_eq_true (by simp only [maxNumber] at h2; omega)
        rw [e8, cond_true, hk _ (Nat.lt_of_lt_of_le h2 (Nat.le_trans h4 h3))]
        split <;> rfl
      · have h5 := digit_le hp
        have h6 : 48 ≤ c.toNat := by simp only [isDigit, decide_eq_true_eq] at hp; omega
        have h7 : isub .i64 (iadd .i64 (imul .i64 10 (a : Int)) (IntKind.i64.wrap (c.toNat : Int))) 48 = ((10 * a + (c.toNat - 48) : Nat) : Int) := by
          simp only [maxNumber] at h2
          rw [imul, wrap_i64 _ (by omega) (by omega), wrap_i64 (c.toNat : Int) (by omega) (by omega), iadd, wrap_i64 _ (by omega) (by omega), isub, wrap_i64 _ (by omega) (by omega)]
          omega
        rw [decide_eq_false (by simp only [maxNumber] at h2; omega), cond_false, h7, iadd_nat1 _ (by omega), rnumber_loop hs hk (drop_succ h) (by omega) (by omega)]
        simp only [spanN, hp, cond_true, List.length_cons, Nat.add_right_cancel_iff]
        rfl
theorem rnumber_eq {s : Rt.Bs} (hs : s.length ≤ 1000000) {n : Nat} (hn : s.length < n) : ref06_Number n s = some (((number s).1 : Int), (number s).2) := by
  cases hs0 : s with
  | nil =>
    have : 0 < n := by omega
    obtain ⟨k, rfl⟩ : ∃ k, n = k + 1 := ⟨n - 1, by omega⟩
    rfl
  | cons c r =>
    have h2 : 1 ≤ s.length := by rw [hs0]; simp
    have h3 : s.drop 0 = c :: r := hs0
    have h6 := sidx_drop h3
    simp only [Int.natCast_zero] at h6
    have h5 : s.length = r.length + 1 := by rw [hs0]; simp
    rw [← hs0, ref06_Number]
    have e1 : (((c.toNat : Nat) : Int) == 48) = (c == 48) := toNat_inj (d := 48)
    have hk : ∀ a : Nat, (bif decide ((s.length : Int) < 1) then some true else (bif decide (1 < (s.length : Int)) then (sidx s 0).bind fun c1 => some (c1 == 48) else some false).bind fun v3 => some v3).bind (fun v1 =>
        (bif v1 then some true else some (decide (1099511627776 < (a : Int)))).bind fun v2 => bif v2 then some ((0 : Int), false) else some ((a : Int), true)) =
        some (if ((decide (1 < s.length) && c == 48) || decide (maxNumber < a)) = true then ((0 : Int), false) else ((a : Int), true)) := by
      intro a
      have e2 : decide (1099511627776 < (a : Int)) = decide (maxNumber < a) := by
        have e9 : maxNumber = 1099511627776 := rfl
        by_cases h : maxNumber < a
        · rw [decide_eq_true h, decide_eq_true (by omega)]
        · rw [decide_eq_false h, decide_eq_false (by omega)]
      have e3 : decide (1 < (s.length : Int)) = decide (1 < s.length) := by
        rw [Bool.eq_iff_iff]; simp only [decide_eq_true_eq]; omega
      rw [decide_eq_false (show ¬ (s.length : Int) < 1 by omega), h6, e2, e3]
      simp only [cond_false, Option.bind_some, e1]
      cases decide (1 < s.length) <;> cases c == 48 <;> cases decide (maxNumber < a) <;> rfl
    have h7 := rnumber_loop hs (n := n) (kont := fun (nx2 : Int) => (bif decide ((s.length : Int) < 1) then some true else (bif decide (1 < (s.length : Int)) then (sidx s 0).bind fun c1 => some (c1 == 48) else some false).bind fun v3 => some v3).bind (fun v1 =>
        (bif v1 then some true else some (decide (1099511627776 < nx2))).bind fun v2 => bif v2 then some ((0 : Int), false) else some (nx2, true)))
      (fun a ha => by rw [hk, decide_eq_true ha]; simp) (r := s) (i := 0) (m := n) (a := 0) rfl (by omega) hn
    refine h7.trans ?_
    simp only [hk]
    have h8 : s.isEmpty = false := by rw [hs0]; rfl
    have h9 : s.headD 0 = c := by rw [hs0]; rfl
    have h10 : (decide (1 < s.length) && c == 48) = (c == 48 && !(s == [48])) := by
      rw [Bool.eq_iff_iff]
      simp only [Bool.and_eq_true, decide_eq_true_eq, beq_iff_eq, Bool.not_eq_true', beq_eq_false_iff_ne]
      constructor
      · rintro ⟨h, h'⟩; exact ⟨h', fun e => by rw [e] at h; simp at h⟩
      · rintro ⟨h, h'⟩
        refine ⟨?_, h⟩
        rcases Nat.lt_or_ge 1 s.length with h11 | h11
        · exact h11
        · exfalso; apply h'
          have : r = [] := List.length_eq_zero_iff.mp (by omega)
          rw [hs0, h, this]
    rw [number, numberOk, h8, h9, h10]
    by_cases hd : spanN isDigit s = s.length
    · rw [if_pos hd, hd]
      have h11 : decF 0 s = dec s := rfl
      rw [h11]
      cases hz : (c == 48 && !(s == [48]))
      · by_cases h12 : dec s ≤ maxNumber
        · have h13 : s.length ≤ 13 := by
            rcases Nat.lt_or_ge 13 s.length with h14 | h14
            · exfalso
              obtain ⟨hp, _⟩ := spanN_cons (hs0 ▸ hd)
              have h15 : dec s = decF (c.toNat - 48) r := by
                rw [hs0]; show decF (10 * 0 + (c.toNat - 48)) r = _; simp
              have h16 := decF_ge r (c.toNat - 48)
              have h17 : 1 ≤ c.toNat - 48 := by
                have h18 : c ≠ 48 := by
                  intro e
                  rw [e] at hz
                  have : (s == [48]) = true := by simpa using hz
                  have := eq_of_beq this
                  rw [this] at h14; simp at h14
                have h19 : c.toNat ≠ 48 := fun e => h18 (UInt8.toNat_inj.mp e)
                simp only [isDigit, decide_eq_true_eq] at hp; omega
              have h20 : 10 ^ 13 ≤ 10 ^ r.length := Nat.pow_le_pow_right (by omega) (by omega)
              have h21 : 10 ^ r.length ≤ (c.toNat - 48) * 10 ^ r.length := Nat.le_mul_of_pos_left _ (by omega)
              simp only [maxNumber] at h12
              omega
            · omega
          have e5 : decide (maxNumber < dec s) = false := by simp; omega
          simp [h12, h13, e5]
        · have e5 : decide (maxNumber < dec s) = true := by simp; omega
          simp [h12, e5]
      · simp
    · rw [if_neg hd]
      have : (spanN isDigit s == s.length) = false := by simp [hd]
      simp [this]
/-! quoted strings -/
/-- the reference reads on to the quote, and looks at the value at the end -/
def rq : Rt.Bs → Rt.Bs → Nat → Option (Rt.Bs × Nat)
  | [], _, _ => none
  | c :: r, acc, n =>
    if c.toNat = 34 then some (acc, n)
    else if c.toNat = 92 then
      match r with
      | [] => none
      | d :: r' => if d.toNat = 34 ∨ d.toNat = 92 then rq r' (acc ++ [d]) (n + 2) else none
    else rq r (acc ++ [c]) (n + 1)
theorem rq_cons (c : UInt8) (r acc : Rt.Bs) (n : Nat) : rq (c :: r) acc n = if c.toNat = 34 then some (acc, n)
    else if c.toNat = 92 then
      match r with
      | [] => none
      | d :: r' => if d.toNat = 34 ∨ d.toNat = 92 then rq r' (acc ++ [d]) (n + 2) else none
    else rq r (acc ++ [c]) (n + 1) := by
  cases r <;> simp only [rq]
theorem all_plain {l : Rt.Bs} : (spanN isPlain l = l.length) ↔ l.all isPlain = true := by
  induction l with
  | nil => simp [spanN]
  | cons c l ih =>
    simp only [spanN, List.length_cons, List.all_cons, Bool.and_eq_true]
    cases hp : isPlain c
    · simp
    · simp [ih]
theorem rq_bad : ∀ {r acc v : Rt.Bs} {n k : Nat}, rq r acc n = some (v, k) → acc.all isPlain = false → v.all isPlain = false
  | [], _, _, _, _, h, _ => by simp [rq] at h
  | c :: r, acc, v, n, k, h, ha => by
    rw [rq_cons] at h
    split at h
    · cases h; exact ha
    split at h
    · cases r with
      | nil => cases h
      | cons d r' =>
        simp only at h
        split at h
        · exact rq_bad h (by simp only [List.all_append, ha, Bool.false_and])
        · cases h
    · exact rq_bad h (by simp only [List.all_append, ha, Bool.false_and])
theorem qloop_rq : ∀ (r acc : Rt.Bs) (n : Nat), acc.all isPlain = true → qloop r acc n = match rq r acc n with
    | none => none
    | some (v, k) => if v.all isPlain = true then some (v, k) else none
  | [], _, _, _ => by simp [qloop, rq]
  | c :: r, acc, n, ha => by
    rw [qloop_cons, rq_cons]
    cases hp : isPlain c
    · have h34 : ¬ c.toNat = 34 := fun e => by simp [isPlain, e] at hp
      have h92 : ¬ c.toNat = 92 := fun e => by simp [isPlain, e] at hp
      rw [if_pos rfl, if_neg h34, if_neg h92]
      cases hr : rq r (acc ++ [c]) (n + 1) with
      | none => rfl
      | some x =>
        obtain ⟨v, k⟩ := x
        have := rq_bad hr (by simp only [List.all_append, List.all_cons, hp, Bool.false_and, Bool.and_false])
        simp [this]
    · rw [if_neg (by simp)]
      by_cases h34 : c.toNat = 34
      · rw [if_pos h34, if_pos h34]; simp [ha]
      rw [if_neg h34, if_neg h34]
      by_cases h92 : c.toNat = 92
      · rw [if_pos h92, if_pos h92]
        cases r with
        | nil => rfl
        | cons d r' =>
          simp only
          by_cases hd : d.toNat = 34 ∨ d.toNat = 92
          · have hpd : isPlain d = true := by simp only [isPlain, decide_eq_true_eq]; omega
            rw [if_pos hd, if_pos hd]
            exact qloop_rq r' _ _ (by simp only [List.all_append, ha, List.all_cons, hpd, List.all_nil, Bool.and_true])
          · rw [if_neg hd, if_neg hd]
      · rw [if_neg h92, if_neg h92]
        exact qloop_rq r _ _ (by simp only [List.all_append, ha, List.all_cons, hp, List.all_nil, Bool.and_true])
theorem rquoted_loop {s : Rt.Bs} (hs : s.length ≤ 1000000) {n : Nat} {kont : Rt.Bs → Int → Option (Rt.Bs × Int × Bool)} (hk : ∀ v, v.length ≤ 1000000 → kont v (s.length : Int) = some ([], 0, false)) (b : Nat) :
    ∀ {m : Nat} {r acc : Rt.Bs} {i : Nat}, s.drop i = r → i ≤ s.length → acc.length ≤ i → b ≤ i → r.length < m →
      ref06_quoted_L1 n s kont m acc (i : Int) = match rq r acc (i - b) with
        | none => some ([], 0, false)
        | some (v, k) => kont v ((k + b : Nat) : Int)
  | m + 1, [], acc, i, h, hi, ha, _, _ => by
    have := drop_nil h hi
    rw [ref06_quoted_L1_s, decide_eq_false (by omega)]
    simp only [cond_false, Option.bind_some, rq]
    rw [this, hk _ (by omega)]
  | m + 1, c :: r, acc, i, h, hi, ha, hb, hm => by
    have h1 := len_drop h
    simp only [List.length_cons] at hm
    rw [ref06_quoted_L1_s, sidx_drop h, decide_eq_true (by omega), rq_cons]
    simp only [cond_true, Option.bind_some]
    by_cases h34 : c.toNat = 34
    · have e34' : ((c.toNat : Int) != 34) = false := by rw [h34]; rfl
      rw [e34', if_pos h34, cond_false]
      simp only
      rw [show i - b + b = i by omega]
    have e34 : ((c.toNat : Int) != 34) = true := by simp; omega
    rw [e34, if_neg h34, cond_true]
    by_cases h92 : c.toNat = 92
    · have e : ((c.toNat : Int) == 92) = true := by rw [h92]; rfl
      rw [e, if_pos h92, iadd_nat1 _ (by omega), cond_true]
      cases r with
      | nil =>
        rw [decide_eq_true (by simp at h1; omega)]
        rfl
      | cons d r' =>
        have h' := drop_succ h
        have h1' := len_drop h'
        simp only [List.length_cons] at hm
        rw [decide_eq_false (by omega), sidx_drop h']
        simp only [cond_false, Option.bind_some]
        by_cases hd : d.toNat = 34 ∨ d.toNat = 92
        · have e2 : (bif (d.toNat : Int) != 34 then some ((d.toNat : Int) != 92) else some false) = some false := by
            rcases hd with hd | hd <;> rw [hd] <;> rfl
          rw [e2, if_pos hd]
          simp only [Option.bind_some, cond_false]
          rw [iadd_nat1 _ (by omega), ssl_one h', Option.bind_some, scat_le (by simp; omega), Option.bind_some, rquoted_loop hs hk b (drop_succ h') (by omega) (by simp; omega) (by omega) (by omega),
            show i + 1 + 1 - b = i - b + 2 by omega]
        · have e2 : (bif (d.toNat : Int) != 34 then some ((d.toNat : Int) != 92) else some false) = some true := by
            have : ((d.toNat : Int) != 34) = true := by simp; omega
            rw [this, cond_true]
            have : ((d.toNat : Int) != 92) = true := by simp; omega
            rw [this]
          rw [e2, if_neg hd]; rfl
    · have e : ((c.toNat : Int) == 92) = false := by rw [beq_eq_false_iff_ne]; omega
      rw [e, cond_false, if_neg h92, iadd_nat1 _ (by omega), ssl_one h, Option.bind_some, scat_le (by simp; omega), Option.bind_some, rquoted_loop hs hk b (drop_succ h) (by omega) (by simp; omega) (by omega) (by omega),
        show i + 1 - b = i - b + 1 by omega]
theorem rq_lt : ∀ {r acc v : Rt.Bs} {i k : Nat}, rq r acc i = some (v, k) → k < i + r.length ∧ v.length + i ≤ acc.length + k
  | [], _, _, _, _, h => by simp [rq] at h
  | c :: r, acc, v, i, k, h => by
    rw [rq_cons] at h
    split at h
    · cases h; simp
    split at h
    · cases r with
      | nil => cases h
      | cons d r' =>
        simp only at h
        split at h
        · have := rq_lt h; simp only [List.length_append, List.length_cons, List.length_nil] at *; omega
        · cases h
    · have := rq_lt h; simp only [List.length_append, List.length_cons, List.length_nil] at *; omega
theorem rquoted_eq {s x : Rt.Bs} {at_ : Nat} (hx : s.drop at_ = x) (h0 : x ≠ []) (hs : s.length ≤ 1000000) {n : Nat} (hn : s.length < n) :
    ref06_quoted n s (at_ : Int) = some (if (quoted x).2 = 0 then ([], 0, false) else ((quoted x).1, ((at_ + (quoted x).2 : Nat) : Int), true)) := by
  have hlen : at_ + x.length = s.length := by
    have := congrArg List.length hx
    have h1 : 1 ≤ x.length := by cases x; exact absurd rfl h0; simp
    simp only [List.length_drop] at this; omega
  have h1 : 1 ≤ x.length := by cases x; exact absurd rfl h0; simp
  have hk : ∀ (v : Rt.Bs) (i : Nat), v.length ≤ 1000000 → i ≤ s.length → (bif decide ((s.length : Int) ≤ (i : Int)) then some true else (ref06_Value n v).bind fun v2 => some (!v2)).bind (fun v1 => bif v1 then some (([] : Rt.Bs), (0 : Int), false) else some (v, iadd .i64 (i : Int) 1, true)) =
      some (if i < s.length ∧ v.length < n ∧ v.length ≤ 400 ∧ v.all isPlain = true then (v, ((i + 1 : Nat) : Int), true) else ([], 0, false)) ∨ n ≤ v.length := by
    intro v i hv hi
    by_cases hvn : v.length < n
    · left
      by_cases h : i < s.length
      · rw [decide_eq_false (by omega), cond_false, value_eq hv hvn, Option.bind_some, Option.bind_some, iadd_nat1 _ (by omega)]
        by_cases h2 : v.length ≤ 400 <;> by_cases h3 : v.all isPlain = true
        · simp [h, h2, hvn, all_plain.mpr h3, h3]
        · have : ¬ spanN isPlain v = v.length := fun e => h3 (all_plain.mp e)
          rw [if_neg (fun e => h3 e.2.2.2)]; simp [this]
        · rw [if_neg (fun e => h2 e.2.2.1)]; simp [h2]
        · rw [if_neg (fun e => h2 e.2.2.1)]; simp [h2]
      · rw [decide_eq_true (by omega), if_neg (fun e => h e.1)]; rfl
    · right; omega
  have hl := rquoted_loop hs (n := n) (kont := fun (value2 : Rt.Bs) (i2 : Int) => (bif decide ((s.length : Int) ≤ i2) then some true else (ref06_Value n value2).bind fun v2 => some (!v2)).bind (fun v1 => bif v1 then some (([] : Rt.Bs), (0 : Int), false) else some (value2, iadd .i64 i2 1, true)))
    (fun v hv => by rw [decide_eq_true (by omega)]; rfl) at_ (m := n) (r := x.drop 1) (acc := []) (i := at_ + 1) (by rw [← List.drop_drop, hx]) (by omega) (by simp) (by omega) (by simp; omega)
  rw [ref06_quoted, iadd_nat1 _ (by omega)]
  refine hl.trans ?_
  rw [quoted, show at_ + 1 - at_ = 1 by omega, qloop_rq _ _ _ rfl]
  cases hr : rq (x.drop 1) [] 1 with
  | none => rfl
  | some y =>
    obtain ⟨v, k⟩ := y
    have h2 := rq_lt hr
    simp only [List.length_drop, List.length_nil] at h2
    rcases hk v (k + at_) (by omega) (by omega) with h3 | h3
    · simp only
      rw [h3]
      by_cases h4 : v.all isPlain = true
      · simp only [h4, if_true]
        by_cases h5 : v.length > 400
        · rw [if_pos h5, if_neg (by omega)]; simp
        · rw [if_neg h5, if_pos ⟨by omega, by omega, by omega, trivial⟩]
          simp; omega
      · rw [if_neg h4, if_neg (fun e => h4 e.2.2.2)]; simp
    · omega
theorem gap_ne {r : Rt.Bs} (h : gapN false r ≠ r.length) : r.drop (gapN false r) ≠ [] := by
  intro e
  have := congrArg List.length e
  have h2 := gapN_le false r
  simp only [List.length_drop, List.length_nil] at this; omega
theorem rspan1 {s : Rt.Bs} (hs : s.length ≤ 1000000) {n : Nat} {kont : Int → Option (Token × Int × Int)} :
    ∀ {r : Rt.Bs} {i m : Nat}, s.drop i = r → i ≤ s.length → r.length < m → ref06_token_L1 n s kont m (i : Int) = kont ((i + spanN isInner r : Nat) : Int)
  | [], i, m + 1, h, hi, _ => by
    have := drop_nil h hi
    rw [ref06_token_L1_s]
    simp [this, spanN]
  | c :: r, i, m + 1, h, hi, hm => by
    have h1 := len_drop h
    simp only [List.length_cons] at hm
    have e : (bif (bif isLetter c then true else isDigit c) then true else (c.toNat : Int) == 95) = isInner c :=
      of_decide_eq_true (byte_all (p := fun c => decide ((bif (bif isLetter c then true else isDigit c) then true else (c.toNat : Int) == 95) = isInner c)) (by decide +kernel) c)
    have e2 : ((bif isLetter c then some true else some (isDigit c)).bind fun v5 => (bif v5 then some true else some ((c.toNat : Int) == 95))) = some (isInner c) := by
      rw [← e]
      cases isLetter c <;> cases isDigit c <;> rfl
    rw [ref06_token_L1_s, sidx_drop h, decide_eq_true (by omega)]
    simp only [cond_true, Option.bind_some, rletter_eq, rdigit_eq]
    have e3 : ((bif isLetter c then some true else some (isDigit c)).bind fun v5 => (bif v5 then some true else some ((c.toNat : Int) == 95)).bind fun v6 => some v6) = some (isInner c) := by
      rw [← e2]
      cases isLetter c <;> cases isDigit c <;> rfl
    rw [e3, Option.bind_some]
    cases hp : isInner c
    · simp [spanN, hp]
    · rw [cond_true, iadd_nat1 _ (by omega), rspan1 hs (drop_succ h) (by omega) (by omega)]
      simp only [spanN, hp, cond_true]
      congr 2; omega
theorem rspan2 {s : Rt.Bs} (hs : s.length ≤ 1000000) {n : Nat} {kont : Int → Option (Token × Int × Int)} :
    ∀ {r : Rt.Bs} {i m : Nat}, s.drop i = r → i ≤ s.length → r.length < m → ref06_token_L2 n s kont m (i : Int) = kont ((i + spanN isDigit r : Nat) : Int)
  | [], i, m + 1, h, hi, _ => by
    have := drop_nil h hi
    rw [ref06_token_L2_s]
    simp [this, spanN]
  | c :: r, i, m + 1, h, hi, hm => by
    have h1 := len_drop h
    simp only [List.length_cons] at hm
    rw [ref06_token_L2_s, sidx_drop h, decide_eq_true (by omega)]
    simp only [cond_true, Option.bind_some, rdigit_eq]
    cases hp : isDigit c
    · simp [spanN, hp]
    · rw [cond_true, iadd_nat1 _ (by omega), rspan2 hs (drop_succ h) (by omega) (by omega)]
      simp only [spanN, hp, cond_true]
      congr 2; omega
theorem rsign_loop (n : Nat) (c : UInt8) :
    ∀ {r : Rt.Bs} {i m : Nat}, signs.drop i = r → i ≤ 13 → r.length < m → ref06_sign_L1 n (c.toNat : Int) (some false) m (i : Int) = some (r.contains c)
  | [], i, m + 1, h, hi, _ => by
    have := congrArg List.length h
    simp only [signs, List.length_drop, List.length_cons, List.length_nil] at this
    have : i = 13 := by omega
    subst this
    rw [ref06_sign_L1_s]; rfl
  | d :: r, i, m + 1, h, hi, hm => by
    have h1 := congrArg List.length h
    simp only [signs, List.length_drop, List.length_cons, List.length_nil] at h1 hm
    have h2 : sidx [40, 41, 44, 59, 58, 61, 60, 43, 45, 42, 47, 123, 125] (i : Int) = some (d.toNat : Int) := sidx_drop (s := signs) h
    rw [ref06_sign_L1_s, decide_eq_true (by simp only [List.length_cons, List.length_nil]; omega), cond_true, h2, Option.bind_some, toNat_inj, List.contains_cons, Bool.beq_comm (a := d) (b := c)]
    cases e : (c == d)
    · rw [cond_false, iadd_nat1 _ (by omega), rsign_loop n c (r := r) (by rw [← List.drop_drop, h]; rfl) (by omega) (by omega), Bool.false_or]
    · rfl
theorem rsign_eq {n : Nat} (hn : 13 < n) (c : UInt8) : ref06_sign n (c.toNat : Int) = some (isSign c) :=
  rsign_loop n c (r := signs) (i := 0) rfl (by omega) (by simpa [signs] using hn)
def rtok (x : Rt.Bs) (at_ : Nat) : Token × Int × Int :=
  if (next x).2.2 = 0 then ({ (next x).1 with Pos := (at_ : Int) }, ((at_ + (next x).2.1 : Nat) : Int), 0) else (errT, 0, (next x).2.2)
theorem token_eq {s x : Rt.Bs} {at_ : Nat} (hx : s.drop at_ = x) (h0 : x ≠ []) (hs : s.length ≤ 1000000) {n : Nat} (hn : s.length + 13 < n) : ref06_token n s (at_ : Int) = some (rtok x at_) := by
  obtain ⟨c, r, rfl⟩ : ∃ c r, x = c :: r := by
    cases x with
    | nil => exact absurd rfl h0
    | cons c r => exact ⟨c, r, rfl⟩
  have h1 := len_drop hx
  have hr := drop_succ hx
  have hi := spanN_le isInner r
  have hd := spanN_le isDigit r
  simp only [ref06_token, sidx_drop hx, Option.bind_some, rletter_eq, rdigit_eq]
  have hsub : ∀ k, k ≤ r.length → ssl s (at_ : Int) ((at_ + 1 + k : Nat) : Int) = some ((c :: r).take (k + 1)) := by
    intro k hk
    rw [ssl_nat _ _ (by omega) (by omega), List.drop_take, hx, show at_ + 1 + k - at_ = k + 1 by omega]
  rw [rtok]
  by_cases hl : isLetter c = true
  · have h2 : spanN isInner (c :: r) = spanN isInner r + 1 := by simp only [spanN, letter_inner hl, cond_true]
    have hN : next (c :: r) = if name ((c :: r).take (spanN isInner (c :: r))) then (⟨0, (c :: r).take (spanN isInner (c :: r)), 0, 0⟩, spanN isInner (c :: r), 0) else (errT, 0, 3) := by rw [next, if_pos (by simpa using hl)]
    rw [hN, hl, cond_true, iadd_nat1 _ (by omega), rspan1 hs hr (by omega) (by omega), hsub _ hi, Option.bind_some, rname_eq (by simp only [List.length_take, List.length_cons]; omega) (by simp only [List.length_take, List.length_cons]; omega), Option.bind_some, h2]
    cases hn : name ((c :: r).take (spanN isInner r + 1))
    · rfl
    · simp only [Bool.not_true, cond_false, Option.bind_some, if_true]
      rw [show at_ + 1 + spanN isInner r = at_ + (spanN isInner r + 1) by omega]
  have hl' : isLetter c = false := by simpa using hl
  rw [hl', cond_false]
  by_cases hdd : isDigit c = true
  · have h2 : spanN isDigit (c :: r) = spanN isDigit r + 1 := by simp only [spanN, hdd, cond_true]
    have hN : next (c :: r) = if (number ((c :: r).take (spanN isDigit (c :: r)))).2 then (⟨1, (c :: r).take (spanN isDigit (c :: r)), (number ((c :: r).take (spanN isDigit (c :: r)))).1, 0⟩, spanN isDigit (c :: r), 0) else (errT, 0, 3) := by
      rw [next, if_neg (by simpa using hl), if_pos (by simpa using hdd)]
    rw [hN, hdd, cond_true, iadd_nat1 _ (by omega), rspan2 hs hr (by omega) (by omega), hsub _ hd, Option.bind_some, rnumber_eq (by simp only [List.length_take, List.length_cons]; omega) (by simp only [List.length_take, List.length_cons]; omega), Option.bind_some, h2]
    cases hn : (number ((c :: r).take (spanN isDigit r + 1))).2
    · rfl
    · simp only [Bool.not_true, cond_false, Option.bind_some, if_true]
      rw [show at_ + 1 + spanN isDigit r = at_ + (spanN isDigit r + 1) by omega]
  have hdd' : isDigit c = false := by simpa using hdd
  rw [hdd', cond_false]
  by_cases hq : c.toNat = 34
  · have e : ((c.toNat : Int) == 34) = true := by rw [hq]; rfl
    have hN : next (c :: r) = if (quoted (c :: r)).2 = 0 then (errT, 0, 2) else (⟨2, (quoted (c :: r)).1, 0, 0⟩, (quoted (c :: r)).2, 0) := by
      rw [next, if_neg (by simpa using hl), if_neg (by simpa using hdd), if_pos (by simpa using hq)]
    rw [hN, e, cond_true, rquoted_eq hx h0 hs (by omega), Option.bind_some]
    by_cases hz : (quoted (c :: r)).2 = 0
    · rw [if_pos hz, if_pos hz]; rfl
    · rw [if_neg hz, if_neg hz]; rfl
  have e : ((c.toNat : Int) == 34) = false := by rw [beq_eq_false_iff_ne]; omega
  have hN : next (c :: r) = if isSign c then (⟨3, (c :: r).take 1, 0, 0⟩, 1, 0) else (errT, 0, 10) := by
    rw [next, if_neg (by simpa using hl), if_neg (by simpa using hdd), if_neg (by simpa using hq)]; rfl
  rw [hN, e, cond_false, rsign_eq (by omega), Option.bind_some]
  cases hsg : isSign c
  · rfl
  · have := hsub 0 (by omega)
    simp only [Nat.add_zero, Nat.zero_add] at this
    rw [Bool.not_true, cond_false, iadd_nat1 _ (by omega), this]; rfl
/-! all tokens -/
theorem gap_idem : ∀ (b : Bool) (r : Rt.Bs), gapN false (r.drop (gapN b r)) = 0
  | _, [] => by simp [gapN]
  | true, c :: r => by
    simp only [gapN]
    split
    · exact gap_idem false r
    · exact gap_idem true r
  | false, c :: r => by
    simp only [gapN]
    split
    · exact gap_idem false r
    · rename_i h1
      split
      · exact gap_idem true r
      · rename_i h2
        simp only [List.drop_zero, gapN, h1, h2, if_false]
        simp
theorem scanF_fuel : ∀ {f f' : Nat} {r : Rt.Bs} {a : Nat}, r.length < f → r.length < f' → scanF f r a = scanF f' r a
  | f + 1, f' + 1, r, a, h, h' => by
    by_cases h1 : gapN false r = r.length
    · rw [scanF_end h1, scanF_end h1]
    have h4 := gapN_le false r
    by_cases h2 : (next (r.drop (gapN false r))).2.2 = 0
    · have h3 := next_len (gap_ne h1) h2
      rw [scanF_more h1 h2, scanF_more h1 h2, scanF_fuel (f := f) (f' := f') (by simp only [List.length_drop]; omega) (by simp only [List.length_drop]; omega)]
    · rw [scanF_bad h1 h2, scanF_bad h1 h2]
theorem scanF_skip {f : Nat} {r : Rt.Bs} {a : Nat} (h : r.length < f) : scanF f r a = scanF f (r.drop (gapN false r)) (a + gapN false r) := by
  obtain ⟨f, rfl⟩ : ∃ k, f = k + 1 := ⟨f - 1, by omega⟩
  have h4 := gapN_le false r
  have hz := gap_idem false r
  by_cases h1 : gapN false r = r.length
  · rw [scanF_end h1, scanF_end (by rw [hz, List.length_drop]; omega)]
  have h1' : gapN false (r.drop (gapN false r)) ≠ (r.drop (gapN false r)).length := by rw [hz, List.length_drop]; omega
  by_cases h2 : (next (r.drop (gapN false r))).2.2 = 0
  · rw [scanF_more h1 h2, scanF_more h1' (by rw [hz, List.drop_zero]; exact h2), hz, List.drop_zero, Nat.zero_add, List.drop_drop, Nat.add_zero]
  · rw [scanF_bad h1 h2, scanF_bad h1' (by rw [hz, List.drop_zero]; exact h2), hz, List.drop_zero, Nat.add_zero]
/-- what is left to do: in a comment or not -/
def rest (b : Bool) (r : Rt.Bs) (a : Nat) : List Token × Nat × Int := scanF (r.length + 1) (r.drop (gapN b r)) (a + gapN b r)
theorem rest_false (r : Rt.Bs) (a : Nat) : rest false r a = scanF (r.length + 1) r a := (scanF_skip (by omega)).symm
def outc (acc : List Token) (x : List Token × Nat × Int) : List Token × Int × Int := if x.2.2 = 0 then (acc ++ x.1, 0, 0) else ([], (x.2.1 : Int), x.2.2)
theorem rest_step {b b' : Bool} {c : UInt8} {r : Rt.Bs} {a : Nat} (h : gapN b (c :: r) = gapN b' r + 1) : rest b (c :: r) a = rest b' r (a + 1) := by
  have h4 := gapN_le b' r
  rw [rest, rest, h, List.drop_succ_cons, List.length_cons, show a + (gapN b' r + 1) = a + 1 + gapN b' r by omega]
  exact scanF_fuel (by simp only [List.length_drop]; omega) (by simp only [List.length_drop]; omega)
theorem rscan_loop {s : Rt.Bs} (hs : s.length ≤ 1000000) {n : Nat} (hn : s.length + 13 < n) :
    ∀ {m at_ : Nat} {b : Bool} {r : Rt.Bs} {acc : List Token}, s.drop at_ = r → at_ ≤ s.length → acc.length ≤ at_ → 2 * r.length + (if b then 0 else 1) < m →
      ref06_Scan_L1 n s (fun l2 => some (l2, 0, 0)) m (at_ : Int) b acc = some (outc acc (rest b r at_))
  | m + 1, at_, b, [], acc, h, hi, ha, hm => by
    have := drop_nil h hi
    rw [ref06_Scan_L1_s, decide_eq_false (by omega), cond_false, rest]
    cases b <;> simp [gapN, scanF, outc]
  | m + 1, at_, b, c :: r, acc, h, hi, ha, hm => by
    have h1 := len_drop h
    simp only [List.length_cons] at hm
    rw [ref06_Scan_L1_s, decide_eq_true (by omega), cond_true, sidx_drop h]
    simp only [Option.bind_some, rblank_eq]
    by_cases h10 : c.toNat = 10
    · have hc : c = 10 := UInt8.toNat_inj.mp h10
      have e : ((c.toNat : Int) == 10) = true := by rw [h10]; rfl
      have eb : isBlank c = true := by rw [hc]; decide
      have hg : gapN b (c :: r) = gapN false r + 1 := by cases b <;> simp [gapN, h10, eb]
      rw [e, eb, cond_true, Option.bind_some, cond_false, Option.bind_some, cond_true, iadd_nat1 _ (by omega), rscan_loop hs hn (drop_succ h) (by omega) (by omega) (by simp; split at hm <;> omega), rest_step hg]
    have e : ((c.toNat : Int) == 10) = false := by rw [beq_eq_false_iff_ne]; omega
    rw [e, cond_false, Option.bind_some]
    cases b
    · simp only [cond_false, Option.bind_some]
      cases eb : isBlank c
      · rw [cond_false]
        by_cases h35 : c.toNat = 35
        · have e5 : ((c.toNat : Int) == 35) = true := by rw [h35]; rfl
          have hg : gapN false (c :: r) = gapN true (c :: r) := by simp [gapN, eb, h35]
          rw [e5, cond_true, rscan_loop hs hn h hi ha (by simp at hm ⊢; omega), rest, rest, hg]
        · have e5 : ((c.toNat : Int) == 35) = false := by rw [beq_eq_false_iff_ne]; omega
          have hg : gapN false (c :: r) = 0 := by simp [gapN, eb, h35]
          have hne : gapN false (c :: r) ≠ (c :: r).length := by rw [hg]; simp
          rw [e5, cond_false, token_eq h (by simp) hs hn, Option.bind_some, rest_false, List.length_cons]
          by_cases hx : (next (c :: r)).2.2 = 0
          · have h3 := next_len (l := c :: r) (by simp) hx
            simp only [List.length_cons] at h3
            rw [rtok, if_pos hx]
            simp only [bne_self_eq_false, cond_false]
            have h5 : ((acc.length + [(⟨(next (c :: r)).1.Kind, (next (c :: r)).1.Text, (next (c :: r)).1.N, (at_ : Int)⟩ : Token)].length) * 40) ≤ 140737488355328 := by
              simp only [List.length_cons, List.length_nil]; omega
            rw [app, if_pos h5, Option.bind_some, rscan_loop hs hn (r := (c :: r).drop (next (c :: r)).2.1) (by rw [← List.drop_drop, h]) (by omega) (by simp only [List.length_append, List.length_cons, List.length_nil]; omega)
              (by simp only [List.length_drop, List.length_cons]; simp at hm ⊢; omega), rest_false]
            rw [scanF_more hne (by rw [hg]; exact hx), hg, List.drop_zero, Nat.zero_add, Nat.add_zero,
              scanF_fuel (f := ((c :: r).drop (next (c :: r)).2.1).length + 1) (f' := r.length + 1) (by omega) (by simp only [List.length_drop, List.length_cons]; omega)]
            by_cases hy : (scanF (r.length + 1) ((c :: r).drop (next (c :: r)).2.1) (at_ + (next (c :: r)).2.1)).2.2 = 0
            · simp [outc, hy]
            · simp [outc, hy]
          · rw [rtok, if_neg hx, scanF_bad hne (by rw [hg]; exact hx), hg, List.drop_zero, Nat.add_zero]
            have e2 : ((next (c :: r)).2.2 != 0) = true := bne_iff_ne.mpr hx
            simp only [e2, cond_true, outc]
            rw [if_neg hx]
      · have hg : gapN false (c :: r) = gapN false r + 1 := by simp [gapN, eb]
        rw [cond_true, iadd_nat1 _ (by omega), rscan_loop hs hn (drop_succ h) (by omega) (by omega) (by simp at hm ⊢; omega), rest_step hg]
    · have hg : gapN true (c :: r) = gapN true r + 1 := by simp [gapN, h10]
      simp only [cond_true, Option.bind_some]
      rw [iadd_nat1 _ (by omega), rscan_loop hs hn (drop_succ h) (by omega) (by omega) (by simp at hm ⊢; omega), rest_step hg]
theorem rscan_eq {s : Rt.Bs} (hs : s.length ≤ 1000000) {n : Nat} (hn : 2 * s.length + 13 < n) : ref06_Scan n s = some ((scan s).1, ((scan s).2.1 : Int), (scan s).2.2) := by
  have he := scan_eq hs (n := n) (by omega)
  rw [← he, ref06_Scan, lexer_Scan]
  by_cases h : s.length > 4000
  · rw [decide_eq_true (by omega)]; rfl
  · have h1 := rscan_loop hs (n := n) (by omega) (m := n) (at_ := 0) (b := false) (r := s) (acc := []) rfl (by omega) (by simp) (by simp; omega)
    have h2 := scan_loop hs (n := n) (by omega) (m := n) (f := s.length + 1) (at_ := 0) (r := s) (acc := []) rfl (by omega) (by simp) (by omega) (by omega)
    rw [decide_eq_false (by omega), cond_false, cond_false]
    refine h1.trans (Eq.trans ?_ h2.symm)
    rw [rest_false]; rfl
end Go.Proofs.YtibkigpmkkkaeaaGreatDoor.Lx
