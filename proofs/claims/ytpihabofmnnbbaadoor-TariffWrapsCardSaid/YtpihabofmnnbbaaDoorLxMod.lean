/-
  PLAIN: tokens, and the small laws of indices, slices and spans that the equations of the mirrors lean on.
-/
import Derived.Test.YtpihabofmnnbbaaDoorMirA
import Derived.Test.YtpihabofmnnbbaaDoorLexDefs
namespace Go.Proofs.YtpihabofmnnbbaaDoor.Lx
open Rt M Go

def errT : Token := ⟨0, [], 0, 0⟩
def next (l : Rt.Bs) : Token × Nat × Int :=
  if isLetter (l.headD 0) then
    if name (l.take (spanN isInner l)) then (⟨0, l.take (spanN isInner l), 0, 0⟩, spanN isInner l, 0) else (errT, 0, 3)
  else if isDigit (l.headD 0) then
    if (number (l.take (spanN isDigit l))).2 then (⟨1, l.take (spanN isDigit l), (number (l.take (spanN isDigit l))).1, 0⟩, spanN isDigit l, 0) else (errT, 0, 3)
  else if (l.headD 0).toNat = 34 then
    if (quoted l).2 = 0 then (errT, 0, 2) else (⟨2, (quoted l).1, 0, 0⟩, (quoted l).2, 0)
  else if isSign (l.headD 0) then (⟨3, l.take 1, 0, 0⟩, 1, 0)
  else (errT, 0, 10)

/-- the tokens from a place on -/
def scanF : Nat → Rt.Bs → Nat → List Token × Nat × Int
  | 0, _, _ => ([], 0, 0)
  | f + 1, r, at_ =>
    if gapN false r = r.length then ([], 0, 0)
    else if (next (r.drop (gapN false r))).2.2 ≠ 0 then ([], at_ + gapN false r, (next (r.drop (gapN false r))).2.2)
    else if (scanF f (r.drop (gapN false r + (next (r.drop (gapN false r))).2.1)) (at_ + gapN false r + (next (r.drop (gapN false r))).2.1)).2.2 ≠ 0 then
      scanF f (r.drop (gapN false r + (next (r.drop (gapN false r))).2.1)) (at_ + gapN false r + (next (r.drop (gapN false r))).2.1)
    else ({ (next (r.drop (gapN false r))).1 with Pos := ((at_ + gapN false r : Nat) : Int) } :: (scanF f (r.drop (gapN false r + (next (r.drop (gapN false r))).2.1)) (at_ + gapN false r + (next (r.drop (gapN false r))).2.1)).1, 0, 0)

def scan (l : Rt.Bs) : List Token × Nat × Int := if l.length > 4000 then ([], 0, 6) else scanF (l.length + 1) l 0


/-! indices -/
theorem sidx_drop {s r : Rt.Bs} {i : Nat} {c : UInt8} (h : s.drop i = c :: r) : sidx s (i : Int) = some (c.toNat : Int) := by
  have h1 : s[i]? = some c := by
    have := congrArg (·[0]?) h
    simpa using this
  simp [sidx, h1]
theorem len_drop {s r : Rt.Bs} {i : Nat} {c : UInt8} (h : s.drop i = c :: r) : i + r.length + 1 = s.length := by
  have := congrArg List.length h
  simp only [List.length_drop, List.length_cons] at this
  omega
theorem drop_succ {s r : Rt.Bs} {i : Nat} {c : UInt8} (h : s.drop i = c :: r) : s.drop (i + 1) = r := by
  rw [← List.drop_drop, h, List.drop_one, List.tail_cons]
theorem drop_nil {s : Rt.Bs} {i : Nat} (h : s.drop i = []) (hi : i ≤ s.length) : i = s.length := by
  have := congrArg List.length h
  simp only [List.length_drop, List.length_nil] at this
  omega
theorem wrap_i64 (x : Int) (h1 : -9223372036854775808 ≤ x) (h2 : x < 9223372036854775808) : IntKind.i64.wrap x = x := by
  simp [IntKind.wrap, IntKind.signed, IntKind.bits]
  split <;> omega
theorem iadd_nat (a b : Nat) (h : a + b < 9223372036854775808) : iadd .i64 (a : Int) (b : Int) = ((a + b : Nat) : Int) := by
  rw [iadd, wrap_i64 _ (by omega) (by omega)]; simp
theorem iadd_nat1 (a : Nat) (h : a + 1 < 9223372036854775808) : iadd .i64 (a : Int) 1 = ((a + 1 : Nat) : Int) := iadd_nat a 1 h
theorem ssl_nat {s : Rt.Bs} (a b : Nat) (h : a ≤ b) (hb : b ≤ s.length) : ssl s (a : Int) (b : Int) = some ((s.take b).drop a) := by
  rw [ssl, if_pos (by omega)]; simp
theorem ssl_from {s : Rt.Bs} (a : Nat) (h : a ≤ s.length) : ssl s (a : Int) (s.length : Int) = some (s.drop a) := by
  rw [ssl_nat a _ h (Nat.le_refl _), List.take_length]
theorem ssl_to {s : Rt.Bs} (b : Nat) (h : b ≤ s.length) : ssl s 0 (b : Int) = some (s.take b) := by
  have := ssl_nat (s := s) 0 b (by omega) h
  simpa using this

/-! the predicates of bytes -/
theorem byte_all {p : UInt8 → Bool} (h : (List.range 256).all (fun k => p (UInt8.ofNat k)) = true) (c : UInt8) : p c = true := by
  have := List.all_eq_true.mp h c.toNat (by simpa using c.toNat_lt)
  simpa using this
theorem blank_eq (n : Nat) (c : UInt8) : lexer_blank n (c.toNat : Int) = some (isBlank c) :=
  of_decide_eq_true (byte_all (p := fun c => decide (lexer_blank 0 (c.toNat : Int) = some (isBlank c))) (by decide +kernel) c)
theorem letter_eq (n : Nat) (c : UInt8) : lexer_letter n (c.toNat : Int) = some (isLetter c) :=
  of_decide_eq_true (byte_all (p := fun c => decide (lexer_letter 0 (c.toNat : Int) = some (isLetter c))) (by decide +kernel) c)
theorem digit_eq (n : Nat) (c : UInt8) : lexer_digit n (c.toNat : Int) = some (isDigit c) :=
  of_decide_eq_true (byte_all (p := fun c => decide (lexer_digit 0 (c.toNat : Int) = some (isDigit c))) (by decide +kernel) c)
theorem inner_eq (n : Nat) (c : UInt8) : lexer_inner n (c.toNat : Int) = some (isInner c) :=
  of_decide_eq_true (byte_all (p := fun c => decide (lexer_inner 0 (c.toNat : Int) = some (isInner c))) (by decide +kernel) c)
theorem plain_eq (n : Nat) (c : UInt8) : lexer_plain n (c.toNat : Int) = some (isPlain c) :=
  of_decide_eq_true (byte_all (p := fun c => decide (lexer_plain 0 (c.toNat : Int) = some (isPlain c))) (by decide +kernel) c)
theorem sub48 (c : UInt8) (h : isDigit c = true) : IntKind.i64.wrap (isub .u8 (c.toNat : Int) 48) = ((c.toNat - 48 : Nat) : Int) :=
  of_decide_eq_true (byte_all (p := fun c => decide (isDigit c = true → IntKind.i64.wrap (isub .u8 (c.toNat : Int) 48) = ((c.toNat - 48 : Nat) : Int))) (by decide +kernel) c) h
theorem toNat_inj {c d : UInt8} : ((c.toNat : Int) == (d.toNat : Int)) = (c == d) := by
  by_cases h : c = d
  · simp [h]
  · have : c.toNat ≠ d.toNat := fun e => h (UInt8.toNat_inj.mp e)
    rw [beq_eq_false_iff_ne.mpr h, beq_eq_false_iff_ne]; omega

/-! spans -/
theorem span_loop {p : UInt8 → Bool} {f : Int → Option Bool} (hf : ∀ c : UInt8, f c.toNat = some (p c)) {s : Rt.Bs} (hs : s.length < 9223372036854775807) {n : Nat} {kont : Int → Option Int} :
    ∀ {r : Rt.Bs} {i m : Nat}, s.drop i = r → i ≤ s.length → r.length < m → lexer_span_L1 n s f kont m (i : Int) = kont ((i + spanN p r : Nat) : Int)
  | [], i, m + 1, h, hi, _ => by
    have := drop_nil h hi
    rw [lexer_span_L1_s]
    simp [this, spanN]
  | c :: r, i, m + 1, h, hi, hm => by
    have h1 := len_drop h
    rw [lexer_span_L1_s, sidx_drop h, decide_eq_true (by omega)]
    simp only [cond_true, Option.bind_some, hf]
    cases hp : p c
    · simp [spanN, hp]
    · rw [cond_true, iadd_nat1 _ (by omega), span_loop hf hs (drop_succ h) (by omega) (by simp only [List.length_cons] at hm; omega)]
      simp only [spanN, hp, cond_true]
      congr 2; omega
theorem span_eq {p : UInt8 → Bool} {f : Int → Option Bool} (hf : ∀ c : UInt8, f c.toNat = some (p c)) {s : Rt.Bs} (hs : s.length < 9223372036854775807) {n : Nat} (hn : s.length < n) :
    lexer_span n s f = some ((spanN p s : Nat) : Int) := by
  have := span_loop hf hs (n := n) (kont := fun nx2 => some nx2) (r := s) (i := 0) (m := n) (by simp) (by omega) hn
  simpa [lexer_span] using this

theorem headD_idx {s : Rt.Bs} (h : s ≠ []) : sidx s 0 = some ((s.headD 0).toNat : Int) := by
  cases s with
  | nil => exact absurd rfl h
  | cons c r => exact sidx_drop (i := 0) rfl

theorem name_eq {s : Rt.Bs} (hs : s.length < 9223372036854775807) {n : Nat} (hn : s.length < n) : lexer_Name n s = some (name s) := by
  cases hs0 : s with
  | nil => rfl
  | cons c r =>
    rw [← hs0]
    have h0 : s ≠ [] := by rw [hs0]; simp
    have h1 : (s == []) = false := by simp [hs0]
    simp only [lexer_Name, h1, Bool.not_false, cond_true, headD_idx h0, Option.bind_some, letter_eq, span_eq (inner_eq n) hs hn, name]
    have h2 : s.isEmpty = false := by simp [hs0]
    rw [h2]
    cases isLetter (s.headD 0) <;> by_cases h3 : s.length ≤ 20 <;> simp [h3]
    · rw [decide_eq_true (by omega)]
      simp only [cond_true, Option.some.injEq]
      rw [Bool.eq_iff_iff]; simp; omega
    · rw [decide_eq_false (by omega)]; simp
end Go.Proofs.YtpihabofmnnbbaaDoor.Lx
