/-
  THE BIG INTEGERS' FUNCTIONS, as arithmetic: each mirror at right big integers is what the integers say.
-/
import Derived.Test.YtaanocaobllohaaGreatDoorBigE
namespace Go.Proofs.YtaanocaobllohaaGreatDoor.D
open Go Rt M

/-- the big integer of a number -/
def toB (x : Int) : Big := ⟨sg x, dig x.natAbs⟩
/-- small enough: at most k digits -/
def Sm (k : Nat) (x : Int) : Prop := (x.natAbs : Int) < pw k

theorem sg_cases (x : Int) : (x < 0 ∧ sg x = -1) ∨ (x = 0 ∧ sg x = 0) ∨ (0 < x ∧ sg x = 1) := by
  unfold sg; split
  · exact .inl ⟨by assumption, rfl⟩
  · split
    · exact .inr (.inr ⟨by assumption, rfl⟩)
    · exact .inr (.inl ⟨by omega, rfl⟩)
theorem sg_pos {x : Int} (h : 0 < x) : sg x = 1 := by rcases sg_cases x with h1 | h1 | h1 <;> omega
theorem sg_neg {x : Int} (h : x < 0) : sg x = -1 := by rcases sg_cases x with h1 | h1 | h1 <;> omega
theorem sg_zero : sg 0 = 0 := by decide
theorem sg_mul (x y : Int) : sg (x * y) = sg x * sg y := by
  rcases sg_cases x with ⟨h1, h2⟩ | ⟨h1, h2⟩ | ⟨h1, h2⟩ <;> rcases sg_cases y with ⟨h3, h4⟩ | ⟨h3, h4⟩ | ⟨h3, h4⟩ <;> rw [h2, h4]
  · exact sg_pos (Int.mul_pos_of_neg_of_neg h1 h3)
  · subst h3; rw [Int.mul_zero]; decide
  · exact sg_neg (Int.mul_neg_of_neg_of_pos h1 h3)
  · subst h1; rw [Int.zero_mul]; decide
  · subst h1; rw [Int.zero_mul]; decide
  · subst h1; rw [Int.zero_mul]; decide
  · exact sg_neg (Int.mul_neg_of_pos_of_neg h1 h3)
  · subst h3; rw [Int.mul_zero]; decide
  · exact sg_pos (Int.mul_pos h1 h3)
theorem sg_natAbs (x : Int) : sg x * (x.natAbs : Int) = x := by
  rcases sg_cases x with ⟨h1, h2⟩ | ⟨h1, h2⟩ | ⟨h1, h2⟩ <;> rw [h2] <;> omega
theorem sg_range (x : Int) : -1 ≤ sg x ∧ sg x ≤ 1 := by rcases sg_cases x with h | h | h <;> omega

theorem pw_add (a : Nat) : ∀ b, pw (a + b) = pw a * pw b
  | 0 => by simp [pw]
  | b + 1 => by rw [← Nat.add_assoc]; simp only [pw, pw_add a b]; grind
theorem len_of_sm {k : Nat} {x : Int} (h : Sm k x) : (dig x.natAbs).length ≤ k := by
  rcases Nat.lt_or_ge k (dig x.natAbs).length with h1 | h1
  · exfalso
    have h2 : val (List.replicate k (1048575 : Int)) < val (dig x.natAbs) := val_lt_of_len (fun e he => by rw [(List.mem_replicate.1 he).2]; decide) (Canon_dig _) (by simpa using h1)
    have h3 : ∀ k, val (List.replicate k (1048575 : Int)) = pw k - 1 := by
      intro k
      induction k with
      | zero => rfl
      | succ k ih => rw [List.replicate_succ]; simp only [val, pw, ih]; omega
    rw [h3, val_dig] at h2
    unfold Sm at h
    omega
  · exact h1
theorem sm_of_len {k : Nat} {x : Int} (h : (dig x.natAbs).length ≤ k) : Sm k x := by
  have h1 := val_lt (InR_dig x.natAbs)
  rw [val_dig] at h1
  exact Int.lt_of_lt_of_le h1 (pw_mono h)
theorem Sm.mono {k l : Nat} {x : Int} (h : Sm k x) (hkl : k ≤ l) : Sm l x := Int.lt_of_lt_of_le h (pw_mono hkl)
theorem Sm.add {k : Nat} {x y : Int} (h : Sm k x) (h2 : Sm k y) : Sm (k + 1) (x + y) := by
  unfold Sm at *; simp only [pw]; omega
theorem Sm.neg {k : Nat} {x : Int} (h : Sm k x) : Sm k (-x) := by unfold Sm at *; omega
theorem Sm.sub {k : Nat} {x y : Int} (h : Sm k x) (h2 : Sm k y) : Sm (k + 1) (x - y) := by rw [Int.sub_eq_add_neg]; exact h.add h2.neg
theorem Sm.mul {k l : Nat} {x y : Int} (h : Sm k x) (h2 : Sm l y) : Sm (k + l) (x * y) := by
  unfold Sm at *
  rw [pw_add, Int.natAbs_mul, Int.natCast_mul]
  have h3 : (x.natAbs : Int) * y.natAbs ≤ x.natAbs * pw l := Int.mul_le_mul_of_nonneg_left (by omega) (by omega)
  have h4 : (x.natAbs : Int) * pw l < pw k * pw l := Int.mul_lt_mul_of_pos_right h (pw_pos l)
  omega
theorem Sm.le {k : Nat} {x y : Int} (h : Sm k x) (h2 : y.natAbs ≤ x.natAbs) : Sm k y := by unfold Sm at *; omega

/- Right -/
def okd (d : Int) : Bool := decide (0 ≤ d) && decide (d < 1048576)
def rightb (a : Big) : Bool := a.Digits.all okd && (if a.Digits = [] then a.Sign == 0 else (a.Sign == 1 || a.Sign == -1) && (a.Digits.getLast?.getD 0 != 0))
theorem Right_L (n : Nat) (a : Big) (kont : Option Bool) (hl : a.Digits.length < 1099511627776) : ∀ (us : List Int) (i m : Nat), a.Digits.drop i = us → us.length < m → big_Right_L1 n a kont m (i : Int) = bif us.all okd then kont else some false
  | [], i, m + 1, hd, _ => by
    rw [big_Right_L1_s]
    have := drop_nil hd
    rw [show decide ((i : Int) < (a.Digits.length : Int)) = false by simp; omega]; rfl
  | x :: xs, i, m + 1, hd, hm => by
    rw [big_Right_L1_s]
    obtain ⟨f1, f2, f3⟩ := drop_cons hd
    rw [show decide ((i : Int) < (a.Digits.length : Int)) = true by simp; omega, cond_true, f1, Option.bind_some]
    have e1 : ((bif decide (x < 0) then some true else some (decide (1048575 < x))) : Option Bool) = some (!okd x) := by
      unfold okd
      by_cases h : x < 0
      · rw [show decide (x < 0) = true by simpa using h, show decide (0 ≤ x) = false by simp; omega]; rfl
      · rw [show decide (x < 0) = false by simpa using h, show decide (0 ≤ x) = true by simp; omega, cond_false]
        by_cases h2 : x < 1048576
        · rw [show decide (1048575 < x) = false by simp; omega, show decide (x < 1048576) = true by simpa using h2]; rfl
        · rw [show decide (1048575 < x) = true by simp; omega, show decide (x < 1048576) = false by simpa using h2]; rfl
    rw [e1, Option.bind_some, List.all_cons]
    cases h : okd x with
    | false => rfl
    | true =>
      rw [inc64 (by omega), Right_L n a kont hl xs (i + 1) m f2 (by simpa using hm)]; rfl
  | _, _, 0, _, h => by omega
theorem Right_n {a : Big} (hl : a.Digits.length < 1099511627776) {n : Nat} (hn : a.Digits.length < n) : big_Right n a = some (rightb a) := by
  unfold big_Right
  have h := fun kont => Right_L n a kont hl a.Digits 0 n rfl hn
  rw [show ((0 : Nat) : Int) = 0 from rfl] at h
  rw [h]
  unfold rightb
  cases ha : a.Digits.all okd with
  | false => rfl
  | true =>
    rw [cond_true, Bool.true_and]
    rcases List.eq_nil_or_concat a.Digits with h0 | ⟨p, d, h0⟩
    · rw [h0]; rfl
    · rw [List.concat_eq_append] at h0
      have hne : a.Digits ≠ [] := by rw [h0]; simp
      have e1 : ((a.Digits.length : Int) == 0) = false := by rw [h0]; simp; omega
      have e2 : isub .i64 (a.Digits.length : Int) 1 = (p.length : Int) := by rw [isub_i64 (by omega) (by omega), h0]; simp
      have e3 : ix a.Digits (p.length : Int) = some d := by rw [h0]; exact ix_mid p d [] rfl
      rw [e1, cond_false, if_neg hne, e2, e3]
      have e4 : a.Digits.getLast?.getD 0 = d := by rw [h0]; simp
      rw [e4]
      cases h1 : (a.Sign == 1) <;> cases h2 : (a.Sign == -1) <;> rfl
theorem Right_ev {a : Big} (hl : a.Digits.length < 1099511627776) : Ev (fun n => big_Right n a) (rightb a) := ⟨a.Digits.length + 1, fun _ hn => Right_n hl hn⟩
theorem rightb_toB (x : Int) : rightb (toB x) = true := by
  unfold rightb toB
  have h1 : (dig x.natAbs).all okd = true := by
    rw [List.all_eq_true]
    intro d hd
    have := InR_dig _ d hd
    unfold okd; simp; omega
  simp only [h1, Bool.true_and]
  by_cases h : x = 0
  · subst h; rw [show (0 : Int).natAbs = 0 from rfl, dig_zero]; rfl
  · rw [if_neg (dig_ne (by omega))]
    have h2 : (dig x.natAbs).getLast?.getD 0 ≠ 0 := by
      have h3 := dig_last x.natAbs
      cases h4 : (dig x.natAbs).getLast? with
      | none => rw [List.getLast?_eq_none_iff] at h4; exact absurd h4 (dig_ne (by omega))
      | some d => rw [h4] at h3; simpa using h3
    rcases sg_cases x with ⟨_, h5⟩ | ⟨h6, _⟩ | ⟨_, h5⟩
    · rw [h5]; simpa using h2
    · exact absurd h6 h
    · rw [h5]; simpa using h2
theorem toB_of_right {a : Big} (h : rightb a = true) : ∃ x, a = toB x := by
  obtain ⟨s, l⟩ := a
  unfold rightb at h
  simp only [Bool.and_eq_true, List.all_eq_true] at h
  obtain ⟨h1, h2⟩ := h
  have hi : InR l := fun d hd => by have := h1 d hd; unfold okd at this; simpa using this
  by_cases hl : l = []
  · subst hl
    simp only [if_true, beq_iff_eq] at h2
    subst h2
    exact ⟨0, by unfold toB; rw [show (0 : Int).natAbs = 0 from rfl, dig_zero]; rfl⟩
  · simp only [if_neg hl, Bool.and_eq_true, Bool.or_eq_true, beq_iff_eq, bne_iff_ne] at h2
    have hc : Canon l := by
      refine ⟨hi, fun h3 => ?_⟩
      rw [h3] at h2; exact h2.2 rfl
    have hv := val_nonneg hi
    have hv0 : val l ≠ 0 := fun e => by have := dig_val hc; rw [e, Int.toNat_zero, dig_zero] at this; exact hl this.symm
    have hd := dig_val hc
    rcases h2.1 with h3 | h3
    · refine ⟨val l, ?_⟩
      unfold toB
      rw [sg_pos (by omega), h3, show (val l).natAbs = (val l).toNat by omega, hd]
    · refine ⟨-val l, ?_⟩
      unfold toB
      rw [sg_neg (by omega), h3, show (-val l).natAbs = (val l).toNat by omega, hd]
theorem toB_inj {x y : Int} (h : toB x = toB y) : x = y := by
  unfold toB at h
  simp only [Big.mk.injEq] at h
  have := dig_inj h.2
  have h1 := sg_natAbs x
  have h2 := sg_natAbs y
  rw [h.1, this] at h1
  omega
theorem toB_zero : toB 0 = ⟨0, []⟩ := by unfold toB; rw [show (0 : Int).natAbs = 0 from rfl, dig_zero]; rfl
theorem Right_toB {x : Int} {k : Nat} (h : Sm k x) (hk : k < 1099511627776) : Ev (fun n => big_Right n (toB x)) true := by
  have := Right_ev (a := toB x) (by have := len_of_sm h; simp only [toB]; omega)
  rwa [rightb_toB] at this

/- signed -/
theorem signed_ev (s : Int) {v : Nat} (h : (dig v).length < 1099511627776) : Ev (fun n => big_signed n s (dig v)) (if v = 0 then ⟨0, []⟩ else ⟨s, dig v⟩) := by
  unfold big_signed
  have h1 := trim_ev (InR_dig v) h
  rw [val_dig, Int.toNat_natCast] at h1
  refine Ev.bind h1 ?_
  by_cases hv : v = 0
  · rw [if_pos hv]
    refine Ev.then (by rw [hv, dig_zero]; rfl) (Ev.pure _)
  · rw [if_neg hv]
    refine Ev.else ?_ (Ev.pure _)
    have := dig_ne hv
    cases hd : dig v with
    | nil => exact absurd hd this
    | cons a l => simp; omega
/-- a sign and digits, as a number -/
theorem signed_toB {s : Int} {v : Nat} (z : Int) (hz : z.natAbs = v) (hs : v ≠ 0 → s = sg z) : (if v = 0 then (⟨0, []⟩ : Big) else ⟨s, dig v⟩) = toB z := by
  by_cases hv : v = 0
  · rw [if_pos hv]
    have : z = 0 := by omega
    rw [this, toB_zero]
  · rw [if_neg hv, hs hv]; unfold toB; rw [hz]

/- Neg -/
theorem Neg_ev {x : Int} {k : Nat} (h : Sm k x) (hk : k < 1073741824) : Ev (fun n => big_Neg n (toB x)) (toB (-x)) := by
  unfold big_Neg
  have hl := len_of_sm h
  refine Ev.bind (Right_toB h (by omega)) ?_
  refine Ev.else rfl ?_
  refine Ev.bind (clone_ev (a := (toB x).Digits) (by simp only [toB]; omega)) ?_
  have hr := sg_range x
  refine Ev.bind (signed_ev (IntKind.i64.wrap (0 - (toB x).Sign)) (v := x.natAbs) (by omega)) ?_
  refine (Ev.pure _).eq ?_
  rw [signed_toB (-x) (by omega) (fun hv => by
    show IntKind.i64.wrap (0 - sg x) = _
    rw [wrap_i64 (by omega) (by omega)]
    rcases sg_cases x with ⟨h1, h2⟩ | ⟨h1, h2⟩ | ⟨h1, h2⟩
    · rw [h2, sg_pos (by omega)]; rfl
    · omega
    · rw [h2, sg_neg (by omega)]; rfl)]

/- Add -/
theorem Or_n (n : Nat) (x y : Int) (hn : 2 < n) : cmp_Or_int n [x, y] = some (if x ≠ 0 then x else y) := by
  obtain ⟨n, rfl⟩ : ∃ k, n = k + 3 := ⟨n - 3, by omega⟩
  have h0 : ix [x, y] 0 = some x := rfl
  have h1 : ix [x, y] 1 = some y := rfl
  have a1 : iadd .i64 0 1 = 1 := by decide
  have a2 : iadd .i64 1 1 = 2 := by decide
  unfold cmp_Or_int
  rw [cmp_Or_int_L1_s, show decide ((0 : Int) < (([x, y] : List Int).length : Int)) = true by rfl, cond_true, h0, Option.bind_some]
  by_cases hx : x = 0
  · rw [show (x != 0) = false by simpa using hx, cond_false, a1, cmp_Or_int_L1_s, show decide ((1 : Int) < (([x, y] : List Int).length : Int)) = true by rfl, cond_true, h1, Option.bind_some, if_neg (by simpa using hx)]
    by_cases hy : y = 0
    · rw [show (y != 0) = false by simpa using hy, cond_false, a2, cmp_Or_int_L1_s, show decide ((2 : Int) < (([x, y] : List Int).length : Int)) = false by rfl, cond_false, hy]
    · rw [show (y != 0) = true by simpa using hy, cond_true]
  · rw [show (x != 0) = true by simpa using hx, cond_true, if_pos hx]

theorem add_nat (u v : Nat) (hu : (dig u).length < 1073741824) (hv : (dig v).length < 1073741824) : Ev (fun n => big_add n (dig u) (dig v)) (dig (u + v)) := by
  have := add_ev (InR_dig u) (InR_dig v) hu hv
  rwa [val_dig, val_dig, show ((u : Int) + v).toNat = u + v by omega] at this
theorem sub_nat (u v : Nat) (hu : (dig u).length < 1073741824) (hvu : v ≤ u) : Ev (fun n => big_sub n (dig u) (dig v)) (dig (u - v)) := by
  have := sub_ev (InR_dig u) (InR_dig v) hu (len_mono hvu) (by rw [val_dig, val_dig]; omega)
  rwa [val_dig, val_dig, show ((u : Int) - v).toNat = u - v by omega] at this
theorem mul_nat (u v : Nat) (hu : (dig u).length < 536870912) (hv : (dig v).length < 536870912) : Ev (fun n => big_mul n (dig u) (dig v)) (dig (u * v)) := by
  have := mul_ev (InR_dig u) (InR_dig v) hu hv
  rwa [val_dig, val_dig, ← Int.natCast_mul, Int.toNat_natCast] at this
theorem compare_nat (u v : Nat) (hu : (dig u).length < 1073741824) : Ev (fun n => big_compare n (dig u) (dig v)) (sg ((u : Int) - v)) := ⟨(dig u).length + 1, fun n hn => by
  have := compare_n (n := n) (Canon_dig u) (Canon_dig v) (by omega) (by omega)
  rwa [val_dig, val_dig] at this⟩
theorem checked_true (n : Nat) (c : Big) : big_checked n true c = some (c, 0) := rfl

theorem imul_sg (x y : Int) : imul .i64 (sg x) (sg y) = sg (x * y) := by
  rw [sg_mul]
  have h1 := sg_range x
  have h2 := sg_range y
  refine imul_i64 ?_ ?_ <;> rcases sg_cases x with ⟨_, h⟩ | ⟨_, h⟩ | ⟨_, h⟩ <;> rw [h] <;> omega

theorem Add_ev {x y : Int} {k : Nat} (hx : Sm k x) (hy : Sm k y) (hk : k < 536870912) : Ev (fun n => big_Add n (toB x) (toB y)) (toB (x + y), 0) := by
  have lx := len_of_sm hx
  have ly := len_of_sm hy
  have lxy := len_of_sm (hx.add hy)
  unfold big_Add
  refine Ev.bind (Right_toB hx (by omega)) ?_
  refine Ev.bind (a := false) (Ev.else rfl (Ev.bind (Right_toB hy (by omega)) (Ev.pure _))) ?_
  refine Ev.else rfl ?_
  show Ev (fun n => bif decide (0 ≤ imul .i64 (sg x) (sg y)) then _ else _) _
  rw [imul_sg]
  by_cases hs : 0 ≤ sg (x * y)
  · -- the same sign
    refine Ev.then (by simpa using hs) ?_
    refine Ev.bind (a := if sg x ≠ 0 then sg x else sg y) ⟨3, fun n hn => Or_n n _ _ (by omega)⟩ ?_
    refine Ev.bind (add_nat x.natAbs y.natAbs (by omega) (by omega)) ?_
    have hab : x.natAbs + y.natAbs = (x + y).natAbs := by
      rw [sg_mul] at hs
      rcases sg_cases x with ⟨h1, h2⟩ | ⟨h1, h2⟩ | ⟨h1, h2⟩ <;> rcases sg_cases y with ⟨h3, h4⟩ | ⟨h3, h4⟩ | ⟨h3, h4⟩ <;> rw [h2, h4] at hs <;> omega
    rw [hab]
    refine Ev.bind (signed_ev _ (by omega)) ?_
    rw [signed_toB (x + y) rfl (fun hv => by
      rw [sg_mul] at hs
      rcases sg_cases x with ⟨h1, h2⟩ | ⟨h1, h2⟩ | ⟨h1, h2⟩ <;> rcases sg_cases y with ⟨h3, h4⟩ | ⟨h3, h4⟩ | ⟨h3, h4⟩ <;> rw [h2, h4] at hs ⊢ <;>
        first
          | omega
          | (rw [sg_neg (by omega)]; decide)
          | (rw [sg_pos (by omega)]; decide))]
    exact Ev.step (checked_true 0 _) (Ev.pure _)
  · refine Ev.else (by simpa using hs) ?_
    have hne : x ≠ 0 ∧ y ≠ 0 := by
      constructor
      · intro h; subst h; rw [Int.zero_mul] at hs; exact hs (by decide)
      · intro h; subst h; rw [Int.mul_zero] at hs; exact hs (by decide)
    have hop : sg x = -sg y := by
      rw [sg_mul] at hs
      rcases sg_cases x with ⟨h1, h2⟩ | ⟨h1, h2⟩ | ⟨h1, h2⟩ <;> rcases sg_cases y with ⟨h3, h4⟩ | ⟨h3, h4⟩ | ⟨h3, h4⟩ <;> rw [h2, h4] at hs ⊢ <;> omega
    refine Ev.bind (compare_nat x.natAbs y.natAbs (by omega)) ?_
    by_cases hlt : x.natAbs < y.natAbs
    · refine Ev.then (by rw [sg_neg (by omega)]; rfl) ?_
      refine Ev.bind (sub_nat y.natAbs x.natAbs (by omega) (by omega)) ?_
      rw [show y.natAbs - x.natAbs = (x + y).natAbs by
        rcases sg_cases x with ⟨h1, h2⟩ | ⟨h1, h2⟩ | ⟨h1, h2⟩ <;> rcases sg_cases y with ⟨h3, h4⟩ | ⟨h3, h4⟩ | ⟨h3, h4⟩ <;> omega]
      refine Ev.bind (signed_ev _ (by omega)) ?_
      rw [signed_toB (x + y) rfl (fun hv => by
        show sg y = _
        rcases sg_cases y with ⟨h3, h4⟩ | ⟨h3, h4⟩ | ⟨h3, h4⟩
        · rw [h4, sg_neg (by omega)]
        · omega
        · rw [h4, sg_pos (by omega)])]
      exact Ev.step (checked_true 0 _) (Ev.pure _)
    · refine Ev.else (by
        rcases sg_cases ((x.natAbs : Int) - y.natAbs) with h | h | h
        · omega
        · rw [h.2]; rfl
        · rw [h.2]; rfl) ?_
      refine Ev.bind (sub_nat x.natAbs y.natAbs (by omega) (by omega)) ?_
      rw [show x.natAbs - y.natAbs = (x + y).natAbs by
        rcases sg_cases x with ⟨h1, h2⟩ | ⟨h1, h2⟩ | ⟨h1, h2⟩ <;> rcases sg_cases y with ⟨h3, h4⟩ | ⟨h3, h4⟩ | ⟨h3, h4⟩ <;> omega]
      refine Ev.bind (signed_ev _ (by omega)) ?_
      rw [signed_toB (x + y) rfl (fun hv => by
        show sg x = _
        rcases sg_cases x with ⟨h3, h4⟩ | ⟨h3, h4⟩ | ⟨h3, h4⟩
        · rw [h4, sg_neg (by omega)]
        · omega
        · rw [h4, sg_pos (by omega)])]
      exact Ev.step (checked_true 0 _) (Ev.pure _)

theorem Mul_ev {x y : Int} {k : Nat} (hx : Sm k x) (hy : Sm k y) (hk : k < 268435456) : Ev (fun n => big_Mul n (toB x) (toB y)) (toB (x * y), 0) := by
  have lx := len_of_sm hx
  have ly := len_of_sm hy
  have lxy := len_of_sm (hx.mul hy)
  unfold big_Mul
  refine Ev.bind (Right_toB hx (by omega)) ?_
  refine Ev.bind (a := false) (Ev.else rfl (Ev.bind (Right_toB hy (by omega)) (Ev.pure _))) ?_
  refine Ev.else rfl ?_
  refine Ev.bind (mul_nat x.natAbs y.natAbs (by omega) (by omega)) ?_
  rw [← Int.natAbs_mul]
  refine Ev.bind (signed_ev (imul .i64 (sg x) (sg y)) (by omega)) ?_
  rw [signed_toB (x * y) rfl (fun _ => imul_sg x y)]
  exact Ev.step (checked_true 0 _) (Ev.pure _)
end Go.Proofs.YtaanocaobllohaaGreatDoor.D
