/-
  THE BIG INTEGERS' FUNCTIONS, as arithmetic, fourth part: the text.
-/
import Derived.Test.YtaanocaobllohaaGreatDoorBigU
import Derived.Test.YtaanocaobllohaaGreatDoorMirC
namespace Go.Proofs.YtaanocaobllohaaGreatDoor.D
open Go Rt M

theorem rev_L (n : Nat) (kont : List Bs → Option (List Bs)) : ∀ (k : Nat) (M P S : List Bs) (m : Nat), M.length ≤ k → k < m → P.length + M.length + S.length < 1099511627776 →
    slices_Reverse_string_string_L1 n kont m (P.length : Int) ((P.length : Int) + M.length - 1) (P ++ (M ++ S)) = kont (P ++ (M.reverse ++ S)) := by
  intro k
  induction k with
  | zero =>
    intro M P S m h1 h2 h3
    obtain ⟨m, rfl⟩ : ∃ m', m = m' + 1 := ⟨m - 1, by omega⟩
    obtain rfl : M = [] := List.length_eq_zero_iff.1 (by omega)
    unfold slices_Reverse_string_string_L1
    rw [show decide ((P.length : Int) < (P.length : Int) + (([] : List Bs).length : Int) - 1) = false by simp; omega, cond_false]; rfl
  | succ k ih =>
    intro M P S m h1 h2 h3
    obtain ⟨m, rfl⟩ : ∃ m', m = m' + 1 := ⟨m - 1, by omega⟩
    unfold slices_Reverse_string_string_L1
    rcases M with _ | ⟨x, M⟩
    · rw [show decide ((P.length : Int) < (P.length : Int) + (([] : List Bs).length : Int) - 1) = false by simp; omega, cond_false]; rfl
    rcases List.eq_nil_or_concat M with rfl | ⟨M, y, rfl⟩
    · rw [show decide ((P.length : Int) < (P.length : Int) + (([x] : List Bs).length : Int) - 1) = false by simp, cond_false]; rfl
    · simp only [List.concat_eq_append, List.length_cons, List.length_append, List.length_nil] at h1 h3 ⊢
      rw [show decide ((P.length : Int) < (P.length : Int) + ((M.length + (0 + 1) + 1 : Nat) : Int) - 1) = true by simp; omega, cond_true]
      have e1 : P ++ (x :: (M ++ [y]) ++ S) = (P ++ x :: M) ++ y :: S := by simp
      have e2 : P ++ (x :: (M ++ [y]) ++ S) = P ++ x :: (M ++ y :: S) := by simp
      have e3 : P ++ y :: (M ++ y :: S) = (P ++ y :: M) ++ y :: S := by simp
      have hj : ∀ z : Bs, (P.length : Int) + ((M.length + (0 + 1) + 1 : Nat) : Int) - 1 = ((P ++ z :: M).length : Int) := by intro z; simp; omega
      rw [show ix (P ++ (x :: (M ++ [y]) ++ S)) ((P.length : Int) + ((M.length + (0 + 1) + 1 : Nat) : Int) - 1) = some y by rw [e1]; exact ix_mid _ _ _ (hj x), Option.bind_some,
        show ix (P ++ (x :: (M ++ [y]) ++ S)) (P.length : Int) = some x by rw [e2]; exact ix_mid _ _ _ rfl, Option.bind_some, Option.bind_some,
        show lset (P ++ (x :: (M ++ [y]) ++ S)) (P.length : Int) y = some (P ++ y :: (M ++ y :: S)) by rw [e2]; exact lset_mid _ _ _ _ rfl, Option.bind_some,
        show ix (P ++ y :: (M ++ y :: S)) ((P.length : Int) + ((M.length + (0 + 1) + 1 : Nat) : Int) - 1) = some y by rw [e3]; exact ix_mid _ _ _ (hj y), Option.bind_some,
        show lset (P ++ y :: (M ++ y :: S)) ((P.length : Int) + ((M.length + (0 + 1) + 1 : Nat) : Int) - 1) x = some ((P ++ [y]) ++ (M ++ (x :: S))) by rw [e3, lset_mid _ _ _ _ (hj y)]; simp, Option.bind_some]
      have e4 : iadd .i64 (P.length : Int) 1 = ((P ++ [y]).length : Int) := by rw [iadd_i64 (by omega) (by omega)]; simp
      have e5 : isub .i64 ((P.length : Int) + ((M.length + (0 + 1) + 1 : Nat) : Int) - 1) 1 = ((P ++ [y]).length : Int) + M.length - 1 := by rw [isub_i64 (by omega) (by omega)]; simp; omega
      rw [e4, e5, ih M (P ++ [y]) (x :: S) m (by omega) (by omega) (by simp; omega)]
      simp
theorem rev_n {l : List Bs} {n : Nat} (hl : l.length < 1099511627776) (hn : l.length < n) : slices_Reverse_string_string n l = some l.reverse := by
  unfold slices_Reverse_string_string
  have h := rev_L n (fun l2 => some l2) l.length l [] [] n (by omega) hn (by simp; omega)
  simp only [List.nil_append, List.append_nil, List.length_nil, Int.natCast_zero, Int.zero_add] at h
  rw [isub_i64 (by omega) (by omega)]
  exact h

/- the decimal digits, five at a time -/
def c8 (v : Nat) : UInt8 := UInt8.ofNat (48 + v % 10)
def five (v : Nat) : Bs := [c8 (v / 10000), c8 (v / 1000), c8 (v / 100), c8 (v / 10), c8 v]
theorem dec_big {v : Nat} (h : 10 ≤ v) : Lib.decDigits v = Lib.decDigits (v / 10) ++ [c8 v] := by
  rw [Lib.decDigits, dif_neg (by omega)]; rfl
theorem dec_small {v : Nat} (h : v < 10) : Lib.decDigits v = [c8 v] := by
  rw [Lib.decDigits, dif_pos h]; unfold c8; rw [Nat.mod_eq_of_lt h]
theorem dec_five {v : Nat} (h : 100000 ≤ v) : Lib.decDigits v = Lib.decDigits (v / 100000) ++ five v := by
  rw [dec_big (v := v) (by omega), dec_big (v := v / 10) (by omega), dec_big (v := v / 10 / 10) (by omega), dec_big (v := v / 10 / 10 / 10) (by omega), dec_big (v := v / 10 / 10 / 10 / 10) (by omega)]
  rw [show v / 10 / 10 = v / 100 by omega, show v / 100 / 10 = v / 1000 by omega, show v / 1000 / 10 = v / 10000 by omega, show v / 10000 / 10 = v / 100000 by omega]
  simp [five]
theorem c8_mod (v k : Nat) (h : k = 1 ∨ k = 10 ∨ k = 100 ∨ k = 1000 ∨ k = 10000) : c8 (v % 100000 / k) = c8 (v / k) := by
  unfold c8; congr 2
  rcases h with rfl | rfl | rfl | rfl | rfl <;> omega
theorem c8_zero {v : Nat} (h : v < 10) (h0 : v = 0) : c8 v = 48 := by subst h0; rfl
theorem pad_five (v : Nat) : Lib.repeatL [48] (5 - (Lib.decDigits (v % 100000)).length) ++ Lib.decDigits (v % 100000) = five v := by
  have e : five v = [c8 (v % 100000 / 10000), c8 (v % 100000 / 1000), c8 (v % 100000 / 100), c8 (v % 100000 / 10), c8 (v % 100000)] := by
    have := c8_mod v 1 (by simp)
    rw [c8_mod v 10000 (by simp), c8_mod v 1000 (by simp), c8_mod v 100 (by simp), c8_mod v 10 (by simp), show c8 (v % 100000) = c8 v by simpa using this]; rfl
  rw [e]
  have hr : v % 100000 < 100000 := Nat.mod_lt _ (by decide)
  generalize v % 100000 = r at *
  have z : c8 0 = 48 := rfl
  by_cases h1 : r < 10
  · rw [dec_small h1, show r / 10 = 0 by omega, show r / 100 = 0 by omega, show r / 1000 = 0 by omega, show r / 10000 = 0 by omega, z]; rfl
  by_cases h2 : r < 100
  · rw [dec_big (by omega), dec_small (v := r / 10) (by omega), show r / 100 = 0 by omega, show r / 1000 = 0 by omega, show r / 10000 = 0 by omega, z]; rfl
  by_cases h3 : r < 1000
  · rw [dec_big (by omega), dec_big (v := r / 10) (by omega), dec_small (v := r / 10 / 10) (by omega), show r / 10 / 10 = r / 100 by omega, show r / 1000 = 0 by omega, show r / 10000 = 0 by omega, z]; rfl
  by_cases h4 : r < 10000
  · rw [dec_big (by omega), dec_big (v := r / 10) (by omega), dec_big (v := r / 10 / 10) (by omega), dec_small (v := r / 10 / 10 / 10) (by omega), show r / 10 / 10 = r / 100 by omega, show r / 100 / 10 = r / 1000 by omega, show r / 10000 = 0 by omega, z]; rfl
  · rw [dec_big (by omega), dec_big (v := r / 10) (by omega), dec_big (v := r / 10 / 10) (by omega), dec_big (v := r / 10 / 10 / 10) (by omega), dec_small (v := r / 10 / 10 / 10 / 10) (by omega), show r / 10 / 10 = r / 100 by omega, show r / 100 / 10 = r / 1000 by omega, show r / 1000 / 10 = r / 10000 by omega]; rfl

def chunks (v : Nat) : List Bs := if v = 0 then [] else (if v / 100000 = 0 then Lib.decDigits v else five v) :: chunks (v / 100000)
  termination_by v
  decreasing_by omega
theorem chunks_zero : chunks 0 = [] := by rw [chunks]; simp
theorem chunks_pos {v : Nat} (h : v ≠ 0) : chunks v = (if v / 100000 = 0 then Lib.decDigits v else five v) :: chunks (v / 100000) := by rw [chunks]; simp [h]
theorem chunks_flat (v : Nat) (h : v ≠ 0) : (chunks v).reverse.flatten = Lib.decDigits v := by
  induction v using Nat.strongRecOn with
  | ind v ih =>
    rw [chunks_pos h]
    by_cases h1 : v / 100000 = 0
    · rw [h1, chunks_zero]; simp
    · rw [if_neg h1, List.reverse_cons, List.flatten_append, ih (v / 100000) (by omega) h1, dec_five (v := v) (by omega)]; simp
theorem chunks_len : ∀ (c v : Nat), v < 65536 ^ c → (chunks v).length ≤ c := by
  intro c
  induction c with
  | zero => intro v h; have : v = 0 := by simp at h; omega
            rw [this, chunks_zero]; simp
  | succ c ih =>
    intro v h
    by_cases h0 : v = 0
    · rw [h0, chunks_zero]; simp
    · rw [chunks_pos h0, List.length_cons]
      have := ih (v / 100000) (by rw [Nat.pow_succ] at h; omega)
      omega
theorem dec_len : ∀ (c v : Nat), v < 8 ^ c → (Lib.decDigits v).length ≤ c + 1 := by
  intro c
  induction c with
  | zero => intro v h; rw [dec_small (by simp at h; omega)]; simp
  | succ c ih =>
    intro v h
    by_cases h0 : v < 10
    · rw [dec_small h0]; simp
    · rw [dec_big (by omega), List.length_append, List.length_singleton]
      have := ih (v / 10) (by rw [Nat.pow_succ] at h; omega)
      omega
theorem itoa_small {r : Nat} (h : r < 100000) (n : Nat) : strconv_Itoa n (r : Int) = some (Lib.decDigits r) := by
  unfold strconv_Itoa
  rw [if_pos ⟨by omega, by omega⟩]
  unfold Lib.itoa
  rw [if_neg (by omega), Int.toNat_natCast]
theorem dec_len5 {r : Nat} (h : r < 100000) : (Lib.decDigits r).length ≤ 5 := by
  have h1 := congrArg List.length (pad_five r)
  rw [Nat.mod_eq_of_lt h, List.length_append, Lib.repeatL_length] at h1
  simp only [five, List.length_cons, List.length_nil] at h1
  omega
theorem short_dig {v n : Nat} (h : (dig v).length < 1073741824) (hn : (dig v).length < n) : big_short n (dig v) 100000 = some (dig (v / 100000), ((v % 100000 : Nat) : Int)) := by
  have h1 := short_n (d := 100000) (InR_dig v) h (by decide) (by decide) hn
  rw [val_dig] at h1
  rw [h1, show ((v : Int) / 100000).toNat = v / 100000 by omega, show (v : Int) % 100000 = ((v % 100000 : Nat) : Int) by omega]
theorem Text_L (n : Nat) (kont : List Bs → Option Bs) (v : Nat) : ∀ (m : Nat) (acc : List Bs), (dig v).length < 1073741824 → (dig v).length < n → (chunks v).length < m → acc.length + (chunks v).length < 1099511627776 →
    big_Text_L1 n kont m (dig v) acc = kont (acc ++ chunks v) := by
  induction v using Nat.strongRecOn with
  | ind v ih =>
    intro m acc h1 h2 h3 h4
    obtain ⟨m, rfl⟩ : ∃ m', m = m' + 1 := ⟨m - 1, by omega⟩
    rw [big_Text_L1_s]
    by_cases h : v = 0
    · subst h
      rw [dig_zero, chunks_zero, List.append_nil]; rfl
    · have hc := chunks_pos h
      rw [hc] at h3 h4 ⊢
      simp only [List.length_cons] at h3 h4
      have hlv : 0 < (dig v).length := List.length_pos_iff.2 (dig_ne h)
      rw [show decide (0 < ((dig v).length : Int)) = true by simp; omega, cond_true, short_dig h1 h2, Option.bind_some]
      have hr : v % 100000 < 100000 := Nat.mod_lt _ (by decide)
      have h5 := dec_len5 hr
      rw [show strconv_Itoa n ((dig (v / 100000), ((v % 100000 : Nat) : Int)).2) = some (Lib.decDigits (v % 100000)) from itoa_small hr n, Option.bind_some]
      have e : (bif decide (0 < ((dig (v / 100000), ((v % 100000 : Nat) : Int)).1.length : Int)) then
          (strings_Repeat n [48] (isub .i64 5 ((Lib.decDigits (v % 100000)).length : Int))).bind fun v6 =>
          (scat v6 (Lib.decDigits (v % 100000))).bind fun t2 =>
          some t2
        else
          some (Lib.decDigits (v % 100000))) = some (if v / 100000 = 0 then Lib.decDigits v else five v) := by
        by_cases hq : v / 100000 = 0
        · rw [if_pos hq]
          show (bif decide (0 < ((dig (v / 100000)).length : Int)) then _ else _) = _
          rw [hq, dig_zero, show decide (0 < (([] : List Int).length : Int)) = false from rfl, cond_false, Nat.mod_eq_of_lt (by omega)]
        · rw [if_neg hq]
          have hlq : 0 < (dig (v / 100000)).length := List.length_pos_iff.2 (dig_ne hq)
          show (bif decide (0 < ((dig (v / 100000)).length : Int)) then _ else _) = _
          rw [show decide (0 < ((dig (v / 100000)).length : Int)) = true by simp; omega, cond_true, isub_i64 (by omega) (by omega)]
          have e1 : strings_Repeat n [48] (5 - ((Lib.decDigits (v % 100000)).length : Int)) = some (Lib.repeatL [48] (5 - (Lib.decDigits (v % 100000)).length)) := by
            unfold strings_Repeat
            rw [if_pos ⟨by omega, by omega, by simp; omega⟩]
            congr 2
            omega
          rw [e1, Option.bind_some]
          unfold scat
          rw [if_pos (by rw [Lib.repeatL_length]; simp; omega), Option.bind_some, pad_five]
      rw [e, Option.bind_some, app_eq (by simp; omega), Option.bind_some]
      show big_Text_L1 n kont m (dig (v / 100000)) _ = _
      have hm := len_mono (Nat.div_le_self v 100000)
      rw [ih (v / 100000) (by omega) m _ (by omega) (by omega) (by omega) (by simp; omega)]
      simp
def txt (x : Int) : Bs := if x < 0 then 45 :: Lib.decDigits x.natAbs else Lib.decDigits x.natAbs
theorem join_nilsep : ∀ l : List Bs, Lib.join l [] = l.flatten
  | [] => rfl
  | x :: l => by
    rw [Lib.join_cons]
    unfold Lib.joinTail
    rw [List.flatten_cons, show (fun y : Bs => ([] : Bs) ++ y) = id from rfl, List.map_id]
theorem natAbs_lt {x : Int} {k : Nat} (h : Sm k x) : x.natAbs < 2 ^ (20 * k) := by
  unfold Sm at h
  rw [pw_two] at h
  have : ((x.natAbs : Nat) : Int) < ((2 ^ (20 * k) : Nat) : Int) := by simpa using h
  exact Int.ofNat_lt.1 this
theorem txt_len {x : Int} {k : Nat} (h : Sm k x) : (txt x).length ≤ 7 * k + 2 := by
  have h1 := natAbs_lt h
  have h2 := dec_len (7 * k) x.natAbs (Nat.lt_of_lt_of_le h1 (by rw [show (8 : Nat) = 2 ^ 3 from rfl, ← Nat.pow_mul]; exact Nat.pow_le_pow_right (by decide) (by omega)))
  unfold txt; split <;> simp <;> omega
theorem Text_ev {x : Int} {k : Nat} (h : Sm k x) (hk : k < 1000000) : Ev (fun n => big_Text n (toB x)) (txt x) := by
  have hl := len_of_sm h
  have h1 := natAbs_lt h
  have hc := chunks_len (2 * k) x.natAbs (Nat.lt_of_lt_of_le h1 (by rw [show (65536 : Nat) = 2 ^ 16 from rfl, ← Nat.pow_mul]; exact Nat.pow_le_pow_right (by decide) (by omega)))
  have ht := txt_len h
  unfold big_Text
  refine Ev.bind (Right_toB h (by omega)) ?_
  refine Ev.else rfl ?_
  refine Ev.from (g := fun _ => some (txt x)) (max (k + 1) (2 * k + 1)) (fun n hn => ?_) (Ev.pure _)
  show big_Text_L1 n _ n (dig x.natAbs) [] = _
  rw [Text_L n _ x.natAbs n [] (by omega) (by omega) (by omega) (by simp; omega), List.nil_append]
  show (slices_Reverse_string_string n (chunks x.natAbs)).bind _ = _
  rw [rev_n (by omega) (by omega), Option.bind_some]
  have ej : strings_Join n (chunks x.natAbs).reverse [] = some (chunks x.natAbs).reverse.flatten := by
    unfold strings_Join
    rw [join_nilsep, if_pos]
    refine ⟨by simp; omega, ?_⟩
    by_cases h0 : x.natAbs = 0
    · rw [h0, chunks_zero]; simp
    · rw [chunks_flat _ h0]; unfold txt at ht; split at ht <;> (try simp only [List.length_cons] at ht) <;> omega
  rw [ej, Option.bind_some]
  show (bif sg x == 0 then some [48] else bif sg x == -1 then _ else _) = _
  rcases sg_cases x with ⟨a, b⟩ | ⟨a, b⟩ | ⟨a, b⟩ <;> rw [b]
  · rw [show ((-1 : Int) == 0) = false from rfl, cond_false, show ((-1 : Int) == -1) = true from rfl, cond_true, chunks_flat _ (by omega)]
    unfold txt at ht ⊢
    rw [if_pos a] at ht ⊢
    unfold scat
    rw [if_pos (by simp at ht ⊢; omega)]; rfl
  · subst a
    rw [show ((0 : Int) == 0) = true from rfl, cond_true]
    unfold txt
    rw [if_neg (by omega), show (0 : Int).natAbs = 0 from rfl, dec_small (by decide)]; rfl
  · rw [show ((1 : Int) == 0) = false from rfl, cond_false, show ((1 : Int) == -1) = false from rfl, cond_false, chunks_flat _ (by omega)]
    unfold txt
    rw [if_neg (by omega)]
theorem Text_not {a : Big} (hl : a.Digits.length < 1099511627776) (hr : rightb a = false) : Ev (fun n => big_Text n a) [] := by
  unfold big_Text
  refine Ev.bind (Right_ev hl) ?_
  exact Ev.then (by rw [hr]; rfl) (Ev.pure _)

/- what digits are worth -/
def isd (b : UInt8) : Bool := decide (48 ≤ b.toNat) && decide (b.toNat ≤ 57)
def dval : Nat → Bs → Nat
  | v, [] => v
  | v, b :: l => dval (10 * v + (b.toNat - 48)) l
theorem dval_append : ∀ (l m : Bs) (v : Nat), dval v (l ++ m) = dval (dval v l) m
  | [], _, _ => rfl
  | _ :: l, m, _ => dval_append l m _
theorem c8_nat (v : Nat) : (c8 v).toNat = 48 + v % 10 := by
  unfold c8
  have : v % 10 < 10 := Nat.mod_lt _ (by decide)
  simp; omega
theorem isd_c8 (v : Nat) : isd (c8 v) = true := by
  unfold isd
  have : v % 10 < 10 := Nat.mod_lt _ (by decide)
  rw [c8_nat]; simp; omega
theorem dval_dec (u : Nat) : dval 0 (Lib.decDigits u) = u := by
  induction u using Nat.strongRecOn with
  | ind u ih =>
    by_cases h : u < 10
    · have e := c8_nat u
      rw [dec_small h]
      show 10 * 0 + ((c8 u).toNat - 48) = u
      omega
    · have e := c8_nat u
      rw [dec_big (v := u) (by omega), dval_append, ih (u / 10) (by omega)]
      show 10 * (u / 10) + ((c8 u).toNat - 48) = u
      omega
theorem isd_dec (u : Nat) : (Lib.decDigits u).all isd = true := by
  induction u using Nat.strongRecOn with
  | ind u ih =>
    by_cases h : u < 10
    · rw [dec_small h]; simp [isd_c8]
    · rw [dec_big (v := u) (by omega), List.all_append, ih (u / 10) (by omega)]; simp [isd_c8]
theorem dec_ne (u : Nat) : Lib.decDigits u ≠ [] := by
  by_cases h : u < 10
  · rw [dec_small h]; simp
  · rw [dec_big (v := u) (by omega)]; simp
theorem dec_head (u : Nat) (h : u ≠ 0) : ∃ b l, Lib.decDigits u = b :: l ∧ b ≠ 48 ∧ b ≠ 45 := by
  induction u using Nat.strongRecOn with
  | ind u ih =>
    by_cases h1 : u < 10
    · refine ⟨c8 u, [], dec_small h1, ?_, ?_⟩ <;> intro e <;> have := congrArg UInt8.toNat e <;> rw [c8_nat] at this <;> simp at this <;> omega
    · obtain ⟨b, l, h2, h3, h4⟩ := ih (u / 10) (by omega) (by omega)
      exact ⟨b, l ++ [c8 u], by rw [dec_big (v := u) (by omega), h2]; rfl, h3, h4⟩
theorem txt_inj {x y : Int} (h : txt x = txt y) : x = y := by
  have hd : ∀ u l, Lib.decDigits u ≠ 45 :: l := by
    intro u l e
    have := isd_dec u
    rw [e] at this
    simp [isd] at this
  have hq : ∀ u v, Lib.decDigits u = Lib.decDigits v → u = v := fun u v e => by rw [← dval_dec u, e, dval_dec]
  unfold txt at h
  split at h <;> split at h
  · have := hq _ _ (List.cons.inj h).2; omega
  · exact absurd h.symm (hd _ _)
  · exact absurd h (hd _ _)
  · have := hq _ _ h; omega
end Go.Proofs.YtaanocaobllohaaGreatDoor.D
