/-
  DIGITS TO THE BASE 2^20: what lists of digits mean, and what the loops over them compute (no program in sight).
-/
import Derived.Test.YtaanocaobllohaaGreatDoorEv
namespace Go.Proofs.YtaanocaobllohaaGreatDoor.D
def val : List Int → Int
  | [] => 0
  | d :: l => d + 1048576 * val l
def valc : List Int → Int → Int
  | [], c => c
  | d :: l, c => d + 1048576 * valc l c
def pw : Nat → Int
  | 0 => 1
  | k + 1 => 1048576 * pw k
def InR (l : List Int) : Prop := ∀ d ∈ l, 0 ≤ d ∧ d < 1048576
theorem InR.nil : InR [] := by intro d hd; simp at hd
theorem InR.cons {d : Int} {l : List Int} (h0 : 0 ≤ d) (h1 : d < 1048576) (h : InR l) : InR (d :: l) := by
  intro e he
  rcases List.mem_cons.1 he with rfl | he
  · exact ⟨h0, h1⟩
  · exact h e he
theorem InR.head {d : Int} {l : List Int} (h : InR (d :: l)) : 0 ≤ d ∧ d < 1048576 := h d (by simp)
theorem InR.tail {d : Int} {l : List Int} (h : InR (d :: l)) : InR l := fun e he => h e (by simp [he])
theorem InR.append {a b : List Int} (h : InR a) (k : InR b) : InR (a ++ b) := by
  intro e he
  rcases List.mem_append.1 he with he | he
  · exact h e he
  · exact k e he
theorem InR.left {a b : List Int} (h : InR (a ++ b)) : InR a := fun e he => h e (by simp [he])
theorem InR.right {a b : List Int} (h : InR (a ++ b)) : InR b := fun e he => h e (by simp [he])
theorem InR.rep (k : Nat) : InR (List.replicate k 0) := by
  intro e he
  rw [(List.mem_replicate.1 he).2]; decide
theorem InR.headD {l : List Int} (h : InR l) : 0 ≤ l.headD 0 ∧ l.headD 0 < 1048576 := by
  cases l with
  | nil => simp
  | cons d l => simpa using h.head
theorem InR.tail' {l : List Int} (h : InR l) : InR l.tail := by
  cases l with
  | nil => exact h
  | cons d l => exact h.tail
theorem pw_pos : ∀ k, 0 < pw k
  | 0 => by decide
  | k + 1 => by have := pw_pos k; simp only [pw]; omega
theorem valc_eq : ∀ (l : List Int) (c : Int), valc l c = val l + pw l.length * c
  | [], c => by simp [valc, val, pw]
  | d :: l, c => by simp only [valc, val, pw, List.length_cons, valc_eq l c]; grind
theorem val_append : ∀ (a b : List Int), val (a ++ b) = val a + pw a.length * val b
  | [], b => by simp [val, pw]
  | d :: a, b => by simp only [List.cons_append, val, pw, List.length_cons, val_append a b]; grind
theorem b4k (a b : List Int) : valc a (val b) = val (a ++ b) := by rw [valc_eq, val_append]
theorem val_nonneg : ∀ {l : List Int}, InR l → 0 ≤ val l
  | [], _ => by simp [val]
  | d :: l, h => by have := val_nonneg h.tail; have := h.head; simp only [val]; omega
theorem val_lt : ∀ {l : List Int}, InR l → val l < pw l.length
  | [], _ => by simp [val, pw]
  | d :: l, h => by have := val_lt h.tail; have := h.head; simp only [val, pw, List.length_cons]; omega
theorem val_rep : ∀ k, val (List.replicate k 0) = 0
  | 0 => rfl
  | k + 1 => by rw [List.replicate_succ]; simp only [val, val_rep k]; rfl
/- the digits of a number -/
def dig (v : Nat) : List Int := if v = 0 then [] else ((v % 1048576 : Nat) : Int) :: dig (v / 1048576)
  termination_by v
  decreasing_by omega
theorem dig_zero : dig 0 = [] := by rw [dig]; simp
theorem b1g {v : Nat} (h : v ≠ 0) : dig v = ((v % 1048576 : Nat) : Int) :: dig (v / 1048576) := by rw [dig]; simp [h]
theorem a2c (v : Nat) : val (dig v) = v := by
  induction v using Nat.strongRecOn with
  | ind v ih =>
    by_cases h : v = 0
    · subst h; rw [dig_zero]; rfl
    · rw [b1g h]; simp only [val]; rw [ih (v / 1048576) (by omega)]; omega
theorem a2p (v : Nat) : InR (dig v) := by
  induction v using Nat.strongRecOn with
  | ind v ih =>
    by_cases h : v = 0
    · subst h; rw [dig_zero]; exact InR.nil
    · rw [b1g h]; exact InR.cons (by omega) (by omega) (ih _ (by omega))
theorem b1n {v : Nat} (h : v ≠ 0) : dig v ≠ [] := by rw [b1g h]; simp
theorem b4x (v : Nat) : (dig v).getLast? ≠ some 0 := by
  induction v using Nat.strongRecOn with
  | ind v ih =>
    by_cases h : v = 0
    · subst h; rw [dig_zero]; simp
    · rw [b1g h]
      by_cases h2 : v / 1048576 = 0
      · rw [h2, dig_zero]; simp; omega
      · have := ih _ (show v / 1048576 < v by omega)
        rw [List.getLast?_cons]
        have h3 := b1n h2
        cases hg : (dig (v / 1048576)).getLast? with
        | none => rw [List.getLast?_eq_none_iff] at hg; exact absurd hg h3
        | some z => simp [hg] at this ⊢; exact this
def Canon (l : List Int) : Prop := InR l ∧ l.getLast? ≠ some 0
theorem Canon.tail {d : Int} {l : List Int} (h : Canon (d :: l)) : Canon l := by
  refine ⟨h.1.tail, ?_⟩
  cases l with
  | nil => simp
  | cons e l => have := h.2; rw [List.getLast?_cons_cons] at this; exact this
theorem a8x (v : Nat) : Canon (dig v) := ⟨a2p v, b4x v⟩
theorem dig_val : ∀ {l : List Int}, Canon l → dig (val l).toNat = l
  | [], _ => by simp [val, dig_zero]
  | d :: l, h => by
    have ih := dig_val h.tail
    have h0 := h.1.head
    have h1 := val_nonneg h.1.tail
    simp only [val]
    have hne : (d + 1048576 * val l).toNat ≠ 0 := by
      intro e
      have e1 : val l = 0 := by omega
      have e2 : d = 0 := by omega
      rw [e1] at ih
      simp only [Int.toNat_zero, dig_zero] at ih
      subst ih e2
      exact h.2 rfl
    rw [b1g hne]
    have e1 : (((d + 1048576 * val l).toNat % 1048576 : Nat) : Int) = d := by omega
    have e2 : (d + 1048576 * val l).toNat / 1048576 = (val l).toNat := by omega
    rw [e1, e2, ih]
theorem c9b {u v : Nat} (h : dig u = dig v) : u = v := by
  have h1 := a2c u
  rw [h, a2c] at h1; omega
/-- digits, with zeros behind them -/
theorem split_dig : ∀ {l : List Int}, InR l → ∃ r, l = dig (val l).toNat ++ List.replicate r 0
  | [], _ => ⟨0, by simp [val, dig_zero]⟩
  | d :: l, h => by
    obtain ⟨r, hr⟩ := split_dig h.tail
    have h0 := h.head
    have h1 := val_nonneg h.tail
    simp only [val]
    by_cases hz : (d + 1048576 * val l).toNat = 0
    · have e1 : val l = 0 := by omega
      have e2 : d = 0 := by omega
      rw [e1] at hr
      simp only [Int.toNat_zero, dig_zero, List.nil_append] at hr
      refine ⟨r + 1, ?_⟩
      rw [hz, dig_zero, e2, hr, List.replicate_succ]; simp
    · refine ⟨r, ?_⟩
      rw [b1g hz]
      have e1 : (((d + 1048576 * val l).toNat % 1048576 : Nat) : Int) = d := by omega
      have e2 : (d + 1048576 * val l).toNat / 1048576 = (val l).toNat := by omega
      rw [e1, e2]
      conv => lhs; rw [hr]
      simp
theorem b5t {l : List Int} (h : InR l) : (dig (val l).toNat).length ≤ l.length := by
  obtain ⟨r, hr⟩ := split_dig h
  conv => rhs; rw [hr]
  simp
theorem val_lt_of_len : ∀ {a b : List Int}, InR a → Canon b → a.length < b.length → val a < val b
  | [], [], _, _, h => by simp at h
  | [], d :: l, _, hb, _ => by
    have h1 := val_nonneg hb.1
    have h2 : val (d :: l) ≠ 0 := by
      intro e
      have := dig_val hb
      rw [e] at this
      simp [dig_zero] at this
    simp only [val] at *; omega
  | x :: xs, [], _, _, h => by simp at h
  | x :: xs, y :: ys, ha, hb, h => by
    have := val_lt_of_len ha.tail hb.tail (by simpa using h)
    have := ha.head
    have := hb.1.head
    simp only [val]; omega
theorem a3e {u v : Nat} (h : u ≤ v) : (dig u).length ≤ (dig v).length := by
  rcases Nat.lt_or_ge (dig v).length (dig u).length with h1 | h1
  · have := val_lt_of_len (a2p v) (a8x u) h1
    rw [a2c, a2c] at this; omega
  · exact h1
/- sums -/
def addD : Int → List Int → List Int → List Int × Int
  | c, [], _ => ([], c)
  | c, x :: xs, ys => ((c + x + ys.headD 0) % 1048576 :: (addD ((c + x + ys.headD 0) / 1048576) xs ys.tail).1, (addD ((c + x + ys.headD 0) / 1048576) xs ys.tail).2)
theorem addD_val : ∀ (xs ys : List Int) (c : Int), ys.length ≤ xs.length → valc (addD c xs ys).1 (addD c xs ys).2 = c + val xs + val ys
  | [], ys, c, h => by
    have : ys = [] := List.eq_nil_of_length_eq_zero (by simpa using h)
    subst this; simp [addD, valc, val]
  | x :: xs, ys, c, h => by
    have ih := addD_val xs ys.tail ((c + x + ys.headD 0) / 1048576) (by simp at h ⊢; omega)
    simp only [addD, valc, ih, val]
    cases ys with
    | nil => simp [val]; omega
    | cons y ys => simp [val]; omega
theorem addD_len : ∀ (xs ys : List Int) (c : Int), (addD c xs ys).1.length = xs.length
  | [], _, _ => rfl
  | x :: xs, ys, c => by simp [addD, addD_len xs]
theorem addD_in : ∀ (xs ys : List Int) (c : Int), InR (addD c xs ys).1
  | [], _, _ => InR.nil
  | x :: xs, ys, c => InR.cons (by omega) (by omega) (addD_in xs _ _)
theorem addD_carry : ∀ (xs ys : List Int) (c : Int), InR xs → InR ys → 0 ≤ c → c ≤ 1 → 0 ≤ (addD c xs ys).2 ∧ (addD c xs ys).2 ≤ 1
  | [], _, c, _, _, h0, h1 => ⟨h0, h1⟩
  | x :: xs, ys, c, hx, hy, h0, h1 => by
    have := hx.head
    have := hy.headD
    exact addD_carry xs ys.tail _ hx.tail hy.tail' (by omega) (by omega)
/- differences, of multiples -/
def setD (g : Int) : Int → List Int → List Int → List Int × Int
  | b, [], _ => ([], b)
  | b, u :: us, vs => ((u - b - g * vs.headD 0) % 1048576 :: (setD g (-((u - b - g * vs.headD 0) / 1048576)) us vs.tail).1, (setD g (-((u - b - g * vs.headD 0) / 1048576)) us vs.tail).2)
theorem b9y (g : Int) : ∀ (us vs : List Int) (b : Int), vs.length ≤ us.length → valc (setD g b us vs).1 (-(setD g b us vs).2) = val us - b - g * val vs
  | [], vs, b, h => by
    have : vs = [] := List.eq_nil_of_length_eq_zero (by simpa using h)
    subst this; simp [setD, valc, val]
  | u :: us, vs, b, h => by
    have ih := b9y g us vs.tail (-((u - b - g * vs.headD 0) / 1048576)) (by simp at h ⊢; omega)
    simp only [setD, valc, ih, val]
    cases vs with
    | nil => simp [val]; omega
    | cons v vs =>
      simp only [List.headD_cons, List.tail_cons, val]
      rw [show g * (v + 1048576 * val vs) = g * v + 1048576 * (g * val vs) by grind]
      generalize g * v = p
      generalize g * val vs = q
      omega
theorem b3l (g : Int) : ∀ (us vs : List Int) (b : Int), (setD g b us vs).1.length = us.length
  | [], _, _ => rfl
  | x :: xs, ys, c => by simp [setD, b3l g xs]
theorem b3a (g : Int) : ∀ (us vs : List Int) (b : Int), InR (setD g b us vs).1
  | [], _, _ => InR.nil
  | x :: xs, ys, c => InR.cons (by omega) (by omega) (b3a g xs _ _)
theorem b4j {g v : Int} (hg : 0 ≤ g) (h0 : 0 ≤ v) (h1 : v < 1048576) : 0 ≤ g * v ∧ g * v ≤ g * 1048576 - g := by
  have h2 := Int.mul_nonneg hg h0
  have h3 := Int.mul_le_mul_of_nonneg_left (show v ≤ 1048575 by omega) hg
  omega
theorem b4h {g : Int} (hg : 0 ≤ g) : ∀ (us vs : List Int) (b : Int), InR us → InR vs → 0 ≤ b → b ≤ g → 0 ≤ (setD g b us vs).2 ∧ (setD g b us vs).2 ≤ g
  | [], _, b, _, _, h0, h1 => ⟨h0, h1⟩
  | u :: us, vs, b, hu, hv, h0, h1 => by
    have := hu.head
    have := hv.headD
    have := b4j (g := g) hg this.1 this.2
    exact b4h hg us vs.tail _ hu.tail hv.tail' (by omega) (by omega)
/- products -/
def mulD (x : Int) : Int → List Int → List Int → List Int × Int
  | c, [], _ => ([], c)
  | c, y :: ys, ws => ((ws.headD 0 + x * y + c) % 1048576 :: (mulD x ((ws.headD 0 + x * y + c) / 1048576) ys ws.tail).1, (mulD x ((ws.headD 0 + x * y + c) / 1048576) ys ws.tail).2)
theorem c3a (x : Int) : ∀ (ys ws : List Int) (c : Int), ws.length = ys.length → valc (mulD x c ys ws).1 (mulD x c ys ws).2 = val ws + x * val ys + c
  | [], ws, c, h => by
    have : ws = [] := List.eq_nil_of_length_eq_zero (by simpa using h)
    subst this; simp [mulD, valc, val]
  | y :: ys, [], c, h => by simp at h
  | y :: ys, w :: ws, c, h => by
    have ih := c3a x ys ws ((w + x * y + c) / 1048576) (by simpa using h)
    simp only [mulD, List.headD_cons, List.tail_cons, valc, ih, val]
    rw [show x * (y + 1048576 * val ys) = x * y + 1048576 * (x * val ys) by grind]
    generalize x * y = p
    generalize x * val ys = q
    omega
theorem b6k (x : Int) : ∀ (ys ws : List Int) (c : Int), (mulD x c ys ws).1.length = ys.length
  | [], _, _ => rfl
  | y :: ys, ws, c => by simp [mulD, b6k x ys]
theorem c1z (x : Int) : ∀ (ys ws : List Int) (c : Int), InR (mulD x c ys ws).1
  | [], _, _ => InR.nil
  | y :: ys, ws, c => InR.cons (by omega) (by omega) (c1z x ys _ _)
theorem b8d {x y : Int} (h0 : 0 ≤ x) (h1 : x < 1048576) (h2 : 0 ≤ y) (h3 : y < 1048576) : 0 ≤ x * y ∧ x * y ≤ 1099509530625 := by
  have h4 := b4j h0 h2 h3
  omega
theorem b5f {x : Int} (h0 : 0 ≤ x) (h1 : x < 1048576) : ∀ (ys ws : List Int) (c : Int), InR ys → InR ws → 0 ≤ c → c < 1048576 → 0 ≤ (mulD x c ys ws).2 ∧ (mulD x c ys ws).2 < 1048576
  | [], _, c, _, _, h2, h3 => ⟨h2, h3⟩
  | y :: ys, ws, c, hy, hw, h2, h3 => by
    have e1 := hy.head
    have e2 := hw.headD
    have e3 := b8d h0 h1 e1.1 e1.2
    exact b5f h0 h1 ys ws.tail _ hy.tail hw.tail' (by omega) (by omega)
/-- the rounds of the product: each adds a multiple, and leaves a digit -/
def mulF (b : List Int) : List Int → List Int → List Int
  | [], w => w
  | x :: xs, w => ((mulD x 0 b w).1 ++ [(mulD x 0 b w).2]).headD 0 :: mulF b xs (((mulD x 0 b w).1 ++ [(mulD x 0 b w).2]).tail)
theorem c5w {l : List Int} (h : l ≠ []) : l.headD 0 + 1048576 * val l.tail = val l := by
  cases l with
  | nil => exact absurd rfl h
  | cons d l => rfl
theorem c0d (b : List Int) : ∀ (xs w : List Int), w.length = b.length → val (mulF b xs w) = val w + val xs * val b
  | [], w, _ => by simp [mulF, val]
  | x :: xs, w, h => by
    have e1 := c3a x b w 0 h
    have e2 := c0d b xs (((mulD x 0 b w).1 ++ [(mulD x 0 b w).2]).tail) (by simp [b6k])
    have e3 := c5w (l := (mulD x 0 b w).1 ++ [(mulD x 0 b w).2]) (by simp)
    have e4 : val ((mulD x 0 b w).1 ++ [(mulD x 0 b w).2]) = valc (mulD x 0 b w).1 (mulD x 0 b w).2 := by
      rw [← b4k]; simp [val]
    simp only [mulF, val, e2]
    rw [show (x + 1048576 * val xs) * val b = x * val b + 1048576 * (val xs * val b) by grind]
    generalize x * val b = p at *
    generalize val xs * val b = q at *
    omega
theorem b6o (b : List Int) : ∀ (xs w : List Int), w.length = b.length → (mulF b xs w).length = xs.length + b.length
  | [], w, h => by simp [mulF, h]
  | x :: xs, w, h => by simp [mulF, b6o b xs _ (show (((mulD x 0 b w).1 ++ [(mulD x 0 b w).2]).tail).length = b.length by simp [b6k])]; omega
theorem c1m {b : List Int} (hb : InR b) : ∀ (xs w : List Int), InR xs → InR w → InR (mulF b xs w)
  | [], w, _, hw => hw
  | x :: xs, w, hx, hw => by
    have h0 := hx.head
    have e1 := b5f h0.1 h0.2 b w 0 hb hw (by decide) (by decide)
    have e2 : InR ((mulD x 0 b w).1 ++ [(mulD x 0 b w).2]) := (c1z x b w 0).append (InR.cons e1.1 e1.2 InR.nil)
    simp only [mulF]
    exact InR.cons e2.headD.1 e2.headD.2 (c1m hb xs _ hx.tail e2.tail')
/- divisions, digit by digit from the top -/
def a5t (V : Int) : List Int → Int → List Int × Int
  | [], r => ([], r)
  | x :: xs, r => (((a5t V xs r).2 * 1048576 + x) / V :: (a5t V xs r).1, ((a5t V xs r).2 * 1048576 + x) % V)
theorem b7i {V : Int} : ∀ (l : List Int) (r : Int), val (a5t V l r).1 * V + (a5t V l r).2 = valc l r
  | [], r => by simp [a5t, val, valc]
  | x :: xs, r => by
    have ih := b7i (V := V) xs r
    simp only [a5t, val, valc]
    have h1 := Int.mul_ediv_add_emod ((a5t V xs r).2 * 1048576 + x) V
    rw [Int.add_mul, Int.mul_assoc]
    rw [Int.mul_comm V] at h1
    generalize ((a5t V xs r).2 * 1048576 + x) / V * V = p at *
    generalize val (a5t V xs r).1 * V = q at *
    omega
theorem b4z (V : Int) : ∀ (l : List Int) (r : Int), (a5t V l r).1.length = l.length
  | [], _ => rfl
  | x :: xs, r => by simp [a5t, b4z V xs]
theorem b5b {V : Int} (hV : 0 < V) : ∀ (l : List Int) (r : Int), 0 ≤ r → r < V → 0 ≤ (a5t V l r).2 ∧ (a5t V l r).2 < V
  | [], r, h0, h1 => ⟨h0, h1⟩
  | x :: xs, r, _, _ => ⟨Int.emod_nonneg _ (by omega), Int.emod_lt_of_pos _ hV⟩
theorem b9k {V : Int} (hV : 0 < V) : ∀ (l : List Int) (r : Int), InR l → 0 ≤ r → r < V → InR (a5t V l r).1
  | [], _, _, _, _ => InR.nil
  | x :: xs, r, hl, h0, h1 => by
    have h2 := b5b hV xs r h0 h1
    have h3 := hl.head
    refine InR.cons (Int.ediv_nonneg (by omega) (by omega)) (Int.ediv_lt_of_lt_mul hV ?_) (b9k hV xs r hl.tail h0 h1)
    omega
/- the order -/
def sg (x : Int) : Int := if x < 0 then -1 else if 0 < x then 1 else 0
def cmpD : List Int → List Int → Int
  | x :: xs, y :: ys => if cmpD xs ys = 0 then sg (x - y) else cmpD xs ys
  | _, _ => 0
theorem cmpD_val : ∀ {a b : List Int}, InR a → InR b → a.length = b.length → cmpD a b = sg (val a - val b)
  | [], [], _, _, _ => by simp [cmpD, sg, val]
  | [], _ :: _, _, _, h => by simp at h
  | _ :: _, [], _, _, h => by simp at h
  | x :: xs, y :: ys, ha, hb, h => by
    have ih := cmpD_val ha.tail hb.tail (by simpa using h)
    have h1 := ha.head
    have h2 := hb.head
    simp only [cmpD, val, ih]
    unfold sg
    split <;> split <;> (try split) <;> (try split) <;> (try split) <;> omega
theorem cmpD_drop : ∀ (k : Nat) (a b : List Int), cmpD (a.drop k) (b.drop k) ≠ 0 → cmpD a b = cmpD (a.drop k) (b.drop k)
  | 0, _, _, _ => by simp
  | k + 1, [], b, h => by simp [cmpD] at h
  | k + 1, _ :: _, [], h => by simp [cmpD] at h
  | k + 1, x :: xs, y :: ys, h => by
    simp only [List.drop_succ_cons] at h ⊢
    have ih := cmpD_drop k xs ys h
    simp only [cmpD, ih, if_neg h]
theorem b2u (V : Int) : ∀ (a b : List Int) (r : Int), a5t V (a ++ b) r = ((a5t V a (a5t V b r).2).1 ++ (a5t V b r).1, (a5t V a (a5t V b r).2).2)
  | [], b, r => rfl
  | x :: xs, b, r => by
    simp only [List.cons_append, a5t, b2u V xs b r]
theorem pw_mono : ∀ {a b : Nat}, a ≤ b → pw a ≤ pw b
  | 0, 0, _ => Int.le_refl _
  | 0, b + 1, _ => by have := pw_pos b; have := pw_mono (Nat.zero_le b); simp only [pw] at *; omega
  | a + 1, 0, h => by omega
  | a + 1, b + 1, h => by have := pw_mono (show a ≤ b by omega); simp only [pw]; omega
/- Knuth's estimate -/
theorem c3u {V1 V2 Vl P g rest T u2 Ul B : Int} (hB : B = 1048576) (hT : g * V1 + rest = T) (hV : 0 ≤ Vl) (hU : Ul < P) (hg : 0 ≤ g) (hbig : rest * B + u2 < g * V2) (hP : 0 < P) :
    Ul + P * (u2 + B * T) < g * (Vl + P * (V2 + B * V1)) := by
  have h1 : Ul + P * (u2 + B * T) - g * (Vl + P * (V2 + B * V1)) = Ul - g * Vl + P * (u2 + rest * B - g * V2) := by grind
  have h2 := Int.mul_nonneg hg hV
  have h3 : P * (u2 + rest * B - g * V2) ≤ P * (-1) := Int.mul_le_mul_of_nonneg_left (by omega) (by omega)
  omega
theorem c4p {V1 V2 Vl P g rest T u2 Ul B : Int} (hB : B = 1048576) (hT : g * V1 + rest = T) (hV : 0 ≤ Vl) (hVP : Vl ≤ P) (hU : 0 ≤ Ul) (hgB : g ≤ B) (hsm : g * V2 ≤ rest * B + u2) (hP : 0 < P) (h1 : 1 ≤ V1) (h2 : 0 ≤ V2) :
    (g - 1) * (Vl + P * (V2 + B * V1)) ≤ Ul + P * (u2 + B * T) := by
  have e1 : Ul + P * (u2 + B * T) - (g - 1) * (Vl + P * (V2 + B * V1)) = Ul - g * Vl + P * (u2 + rest * B - g * V2) + Vl + P * V2 + P * B * V1 := by grind
  have e2 : 0 ≤ P * (u2 + rest * B - g * V2) := Int.mul_nonneg (by omega) (by omega)
  have e3 : g * Vl ≤ B * P := Int.mul_le_mul hgB hVP hV (by omega)
  have e4 : P * B * 1 ≤ P * B * V1 := Int.mul_le_mul_of_nonneg_left h1 (Int.mul_nonneg (by omega) (by omega))
  have e5 : 0 ≤ P * V2 := Int.mul_nonneg (by omega) h2
  have e6 : B * P = P * B := Int.mul_comm _ _
  omega
theorem b9u {U V q : Int} (hV : 0 < V) (h0 : q * V ≤ U) (h1 : U < (q + 1) * V) : U / V = q ∧ U % V = U - q * V := by
  have h2 : (q + 1) * V = q * V + V := by grind
  have h3 := Int.ediv_emod_unique (a := U) (b := V) (r := U - q * V) (q := q) hV
  have h4 := h3.2 ⟨by rw [Int.mul_comm V q]; omega, by omega, by omega⟩
  exact h4
end Go.Proofs.YtaanocaobllohaaGreatDoor.D
