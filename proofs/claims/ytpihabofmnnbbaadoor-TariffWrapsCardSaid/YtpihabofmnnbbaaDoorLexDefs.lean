/-
  PLAIN: what the lexer's functions compute, on lists of bytes; no program in sight.
-/
import Derived.KernelRfl
namespace Go.Proofs.YtpihabofmnnbbaaDoor.Lx

abbrev Bs := List UInt8

def isLetter (c : UInt8) : Bool := decide ((97 ≤ c.toNat ∧ c.toNat ≤ 122) ∨ (65 ≤ c.toNat ∧ c.toNat ≤ 90))
def isDigit (c : UInt8) : Bool := decide (48 ≤ c.toNat ∧ c.toNat ≤ 57)
def isInner (c : UInt8) : Bool := decide ((97 ≤ c.toNat ∧ c.toNat ≤ 122) ∨ (65 ≤ c.toNat ∧ c.toNat ≤ 90) ∨ (48 ≤ c.toNat ∧ c.toNat ≤ 57) ∨ c.toNat = 95)
def isPlain (c : UInt8) : Bool := decide (32 ≤ c.toNat ∧ c.toNat ≤ 126)
def isBlank (c : UInt8) : Bool := decide (c.toNat = 32 ∨ c.toNat = 9 ∨ c.toNat = 10)
def isSign (c : UInt8) : Bool := [40, 41, 44, 59, 58, 61, 60, 43, 45, 42, 47, 123, 125].contains c

def spanN (p : UInt8 → Bool) : Bs → Nat
  | [] => 0
  | c :: r => bif p c then spanN p r + 1 else 0

theorem spanN_le (p : UInt8 → Bool) : ∀ l, spanN p l ≤ l.length
  | [] => by simp [spanN]
  | c :: r => by
    have := spanN_le p r
    simp only [spanN, List.length_cons]; cases p c <;> simp <;> omega

theorem spanN_drop (p : UInt8 → Bool) (l : Bs) (k : Nat) (h : k < l.length) : spanN p (l.drop k) = bif p l[k] then spanN p (l.drop (k+1)) + 1 else 0 := by
  rw [List.drop_eq_getElem_cons h, spanN]

def name (l : Bs) : Bool := !l.isEmpty && isLetter (l.headD 0) && decide (l.length ≤ 20) && (spanN isInner l == l.length)

def dec (l : Bs) : Nat := l.foldl (fun n c => 10 * n + (c.toNat - 48)) 0

def maxNumber : Nat := 1099511627776

def numberOk (l : Bs) : Bool := !l.isEmpty && (spanN isDigit l == l.length) && !(l.headD 0 == 48 && !(l == [48])) && decide (l.length ≤ 13)
def number (l : Bs) : Nat × Bool := if numberOk l ∧ dec l ≤ maxNumber then (dec l, true) else (0, false)

def esc1 (c : UInt8) : Bs := if c.toNat = 34 ∨ c.toNat = 92 then [92, c] else [c]
def escBody : Bs → Bs
  | [] => []
  | c :: r => esc1 c ++ escBody r
def escaped (l : Bs) : Bs := 34 :: (escBody l ++ [34])

def quote (l : Bs) : Bs × Bool := if l.length ≤ 400 ∧ spanN isPlain l = l.length then (escaped l, true) else ([], false)

/-- the loop that reads a quoted string: what is left of the text, what has been read, how many bytes -/
def qloop : Bs → Bs → Nat → Option (Bs × Nat)
  | [], _, _ => none
  | c :: r, acc, n =>
    if isPlain c = false then none
    else if c.toNat = 34 then some (acc, n)
    else if c.toNat = 92 then
      match r with
      | [] => none
      | d :: r' => if d.toNat = 34 ∨ d.toNat = 92 then qloop r' (acc ++ [d]) (n + 2) else none
    else qloop r (acc ++ [c]) (n + 1)

def quoted (l : Bs) : Bs × Nat :=
  match qloop (l.drop 1) [] 1 with
  | none => ([], 0)
  | some (v, n) => if v.length > 400 then ([], 0) else (v, n + 1)

/-- how many bytes of blanks and comments a text begins with; inside of a comment or not -/
def gapN : Bool → Bs → Nat
  | _, [] => 0
  | true, c :: r => if c.toNat = 10 then gapN false r + 1 else gapN true r + 1
  | false, c :: r => if isBlank c then gapN false r + 1 else if c.toNat = 35 then gapN true r + 1 else 0

end Go.Proofs.YtpihabofmnnbbaaDoor.Lx
