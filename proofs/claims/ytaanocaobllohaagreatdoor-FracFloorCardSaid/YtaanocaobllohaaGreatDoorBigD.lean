/-
  THE LOOPS OF THE BIG INTEGERS' DIGITS, second part: differences, products, short divisions, the order.
-/
import Derived.Test.YtaanocaobllohaaGreatDoorBigC
namespace Go.Proofs.YtaanocaobllohaaGreatDoor.D
open Go Rt M

theorem clone_n (n : Nat) {a : List Int} (h : a.length < 1073741824) : slices_Clone_int_int n a = some a := by
  have h2 : (([] : List Int).length + a.length) * 8 ≤ 140737488355328 := by simp only [List.length_nil, Nat.zero_add]; omega
  show app 8 [] a = some a
  rw [app_eq h2, List.nil_append]
theorem clone_all {a : List Int} (h : a.length < 1073741824) : ∀ n, slices_Clone_int_int n a = some a := fun n => clone_n n h
theorem clone_ev' {a : List Int} (h : ∀ n, slices_Clone_int_int n a = some a) : Ev (fun n => slices_Clone_int_int n a) a := ⟨0, fun n _ => h n⟩
theorem clone_ev {a : List Int} (h : a.length < 1073741824) : Ev (fun n => slices_Clone_int_int n a) a := clone_ev' (clone_all h)

/- sub -/
theorem sub_step {x c y : Int} (h0 : 0 ≤ c) (h1 : c ≤ 1) (hx0 : 0 ≤ x) (hx1 : x < 1048576) (hy0 : 0 ≤ y) (hy1 : y < 1048576) {t : Int} (ht : t = x - c - y) : t / 1048576 % 2 = -(t / 1048576) ∧ 0 ≤ -(t / 1048576) ∧ -(t / 1048576) ≤ 1 := by
  subst ht; omega
theorem sub_L (n : Nat) (b v : List Int) (kont : List Int → Option (List Int)) (hv : v.length < 1099511627776) (hb : InR b) : ∀ (us : List Int) (i : Nat) (c : Int) (pre : List Int) (m : Nat), InR us → 0 ≤ c → c ≤ 1 → pre.length = i → i + us.length = v.length → us.length < m →
    big_sub_L1 n b v kont m c (i : Int) (pre ++ us) = kont (pre ++ (setD 1 c us (b.drop i)).1)
  | [], i, c, pre, m + 1, _, _, _, _, hl, _ => by
    rw [big_sub_L1_s]
    simp only [List.length_nil] at hl
    have e1 : decide ((i : Int) < (v.length : Int)) = false := by simp; omega
    rw [e1]; simp [setD]
  | x :: xs, i, c, pre, m + 1, hx, h0, h1, hp, hl, hm => by
    rw [big_sub_L1_s]
    simp only [List.length_cons] at hl hm
    have e4 : decide ((i : Int) < (v.length : Int)) = true := by simp; omega
    have hx0 := hx.head
    have hy0 := (InR.drop hb i).headD
    have e7 : b.drop (i + 1) = (b.drop i).tail := by simp
    obtain ⟨t, ht⟩ : ∃ t, t = x - c - (b.drop i).headD 0 := ⟨_, rfl⟩
    have e5 : (bif decide ((i : Int) < (b.length : Int)) then (ix b (i : Int)).bind fun ex3 => some (isub .i64 (isub .i64 x c) ex3) else some (isub .i64 x c)) = some t := by
      rw [ht]
      cases hbd : b.drop i with
      | nil =>
        have := drop_nil hbd
        have e6 : decide ((i : Int) < (b.length : Int)) = false := by simp; omega
        rw [e6, isub_i64 (by omega) (by omega)]; simp
      | cons y ys =>
        obtain ⟨f1, _, f3⟩ := drop_cons hbd
        have e6 : decide ((i : Int) < (b.length : Int)) = true := by simp; omega
        rw [hbd] at hy0
        simp only [List.headD_cons] at hy0
        rw [e6, f1, isub_i64 (x := x) (by omega) (by omega)]
        simp only [cond_true, Option.bind_some, List.headD_cons]
        rw [isub_i64 (by omega) (by omega)]
    obtain ⟨b1, b2, b3⟩ := sub_step h0 h1 hx0.1 hx0.2 hy0.1 hy0.2 ht
    have e8 : x - c - 1 * (b.drop i).headD 0 = t := by rw [ht, Int.one_mul]
    have e9 : setD 1 c (x :: xs) (b.drop i) = (t % 1048576 :: (setD 1 (-(t / 1048576)) xs (b.drop (i + 1))).1, (setD 1 (-(t / 1048576)) xs (b.drop (i + 1))).2) := by
      rw [e7]; simp only [setD, e8]
    have ih := sub_L n b v kont hv hb xs (i + 1) (-(t / 1048576)) (pre ++ [t % 1048576]) m hx.tail b2 b3 (by simp; omega) (by omega) (by omega)
    rw [e4, ix_mid pre x xs (by omega)]
    simp only [cond_true, Option.bind_some]
    rw [e5, Option.bind_some, shr_i64, iand_mask, lset_mid pre x _ xs (by omega), inc64 (by omega)]
    simp only [Option.bind_some]
    rw [iand_one, b1, e9]
    rw [List.append_assoc, List.singleton_append] at ih
    rw [ih, List.append_assoc, List.singleton_append]
  | _, _, _, _, 0, _, _, _, _, _, h => by omega

theorem setD_exact {us vs : List Int} {g : Int} (hu : InR us) (hv : InR vs) (hl : vs.length ≤ us.length) (hg : 0 ≤ g) (h : g * val vs ≤ val us) : (setD g 0 us vs).2 = 0 ∧ val (setD g 0 us vs).1 = val us - g * val vs := by
  have e1 := setD_val g us vs 0 hl
  have e2 := setD_borrow hg us vs 0 hu hv (by decide) hg
  have e3 := val_lt (setD_in g us vs 0)
  rw [valc_eq, setD_len] at e1
  rw [setD_len] at e3
  have hb : (setD g 0 us vs).2 = 0 := by
    rcases (show 0 < (setD g 0 us vs).2 ∨ (setD g 0 us vs).2 ≤ 0 by omega) with h4 | h4
    · have h5 : pw us.length * (-(setD g 0 us vs).2) ≤ pw us.length * (-1) := Int.mul_le_mul_of_nonneg_left (by omega) (by have := pw_pos us.length; omega)
      omega
    · omega
  refine ⟨hb, ?_⟩
  rw [hb] at e1
  simp only [Int.neg_zero, Int.mul_zero] at e1
  omega

theorem sub_ev {a b : List Int} (ha : InR a) (hb : InR b) (hla : a.length < 1073741824) (hlb : b.length ≤ a.length) (h : val b ≤ val a) : Ev (fun n => big_sub n a b) (dig (val a - val b).toNat) := by
  unfold big_sub
  refine Ev.bind (clone_ev hla) ?_
  refine ⟨a.length + 1, fun n hn => ?_⟩
  have h1 := sub_L n b a (fun (l2 : List Int) => (big_trim n l2).bind fun v2 => some v2) (by omega) hb a 0 0 [] n ha (by decide) (by decide) rfl (by simp) (by omega)
  simp only [List.nil_append, List.drop_zero] at h1
  rw [show ((0 : Nat) : Int) = 0 from rfl] at h1
  dsimp only
  rw [h1, trim_n (setD_in _ _ _ _) (by rw [setD_len]; omega) (by rw [setD_len]; omega)]
  have h2 := setD_exact (g := 1) ha hb hlb (by decide) (by omega)
  simp only [Option.bind_some]
  rw [h2.2, Int.one_mul]

/- settle -/
theorem settle_L1 (n : Nat) (u v : List Int) (g : Int) (kont : Int → List Int → Option (List Int × Int)) (hlu : u.length < 1099511627776) (hv : InR v) (hg0 : 0 ≤ g) (hg1 : g ≤ 1048576) : ∀ (us : List Int) (i : Nat) (c : Int) (pre : List Int) (m : Nat), InR us → 0 ≤ c → c ≤ g → pre.length = i → i + us.length = u.length → us.length < m →
    big_settle_L1 n u v g kont m c (i : Int) (pre ++ us) = kont (setD g c us (v.drop i)).2 (pre ++ (setD g c us (v.drop i)).1)
  | [], i, c, pre, m + 1, _, _, _, _, hl, _ => by
    rw [big_settle_L1_s]
    simp only [List.length_nil] at hl
    have e1 : decide ((i : Int) < (u.length : Int)) = false := by simp; omega
    rw [e1]; simp [setD]
  | x :: xs, i, c, pre, m + 1, hx, h0, h1, hp, hl, hm => by
    rw [big_settle_L1_s]
    simp only [List.length_cons] at hl hm
    have e4 : decide ((i : Int) < (u.length : Int)) = true := by simp; omega
    have hx0 := hx.head
    have hy0 := (InR.drop hv i).headD
    have hmul := mul_dig hg0 hy0.1 hy0.2
    have e5 : (bif decide ((i : Int) < (v.length : Int)) then (ix v (i : Int)).bind fun ex6 => some (isub .i64 (isub .i64 x c) (imul .i64 g ex6)) else some (isub .i64 x c)) = some (x - c - g * (v.drop i).headD 0) := by
      cases hbd : v.drop i with
      | nil =>
        have := drop_nil hbd
        have e6 : decide ((i : Int) < (v.length : Int)) = false := by simp; omega
        rw [e6, isub_i64 (by omega) (by omega)]; simp
      | cons y ys =>
        obtain ⟨f1, _, f3⟩ := drop_cons hbd
        have e6 : decide ((i : Int) < (v.length : Int)) = true := by simp; omega
        rw [hbd] at hy0 hmul
        simp only [List.headD_cons] at hy0 hmul
        rw [e6, f1, isub_i64 (x := x) (by omega) (by omega)]
        simp only [cond_true, Option.bind_some, List.headD_cons]
        rw [imul_i64 (by omega) (by omega), isub_i64 (by omega) (by omega)]
    rw [e4, ix_mid pre x xs (by omega)]
    simp only [cond_true, Option.bind_some]
    rw [e5]
    simp only [Option.bind_some]
    rw [shr_i64, iand_mask, lset_mid pre x _ xs (by omega), inc64 (by omega)]
    simp only [Option.bind_some]
    rw [Int.zero_sub, wrap_i64 (by omega) (by omega)]
    have ih := settle_L1 n u v g kont hlu hv hg0 hg1 xs (i + 1) (-((x - c - g * (v.drop i).headD 0) / 1048576)) (pre ++ [(x - c - g * (v.drop i).headD 0) % 1048576]) m hx.tail (by omega) (by omega) (by simp; omega) (by omega) (by omega)
    rw [List.append_assoc, List.singleton_append] at ih
    rw [ih]
    have e7 : v.drop (i + 1) = (v.drop i).tail := by simp
    simp only [setD, e7, List.append_assoc, List.nil_append, List.cons_append]
  | _, _, _, _, 0, _, _, _, _, _, h => by omega

theorem settle_L2 (n : Nat) (v l0 : List Int) (kont : List Int → Option (List Int × Int)) (hl0 : l0.length < 1099511627776) (hv : InR v) : ∀ (us : List Int) (i : Nat) (c : Int) (pre : List Int) (m : Nat), InR us → 0 ≤ c → c ≤ 1 → pre.length = i → i + us.length = l0.length → us.length < m →
    big_settle_L2 n v l0 kont m c (i : Int) (pre ++ us) = kont (pre ++ (addD c us (v.drop i)).1)
  | [], i, c, pre, m + 1, _, _, _, _, hl, _ => by
    rw [big_settle_L2_s]
    simp only [List.length_nil] at hl
    have e1 : decide ((i : Int) < (l0.length : Int)) = false := by simp; omega
    rw [e1]; simp [addD]
  | x :: xs, i, c, pre, m + 1, hx, h0, h1, hp, hl, hm => by
    rw [big_settle_L2_s]
    simp only [List.length_cons] at hl hm
    have e4 : decide ((i : Int) < (l0.length : Int)) = true := by simp; omega
    have hx0 := hx.head
    have hy0 := (InR.drop hv i).headD
    have e5 : (bif decide ((i : Int) < (v.length : Int)) then (ix v (i : Int)).bind fun ex3 => some (iadd .i64 (iadd .i64 c x) ex3) else some (iadd .i64 c x)) = some (c + x + (v.drop i).headD 0) := by
      cases hbd : v.drop i with
      | nil =>
        have := drop_nil hbd
        have e6 : decide ((i : Int) < (v.length : Int)) = false := by simp; omega
        rw [e6, iadd_i64 (by omega) (by omega)]; simp
      | cons y ys =>
        obtain ⟨f1, _, f3⟩ := drop_cons hbd
        have e6 : decide ((i : Int) < (v.length : Int)) = true := by simp; omega
        rw [hbd] at hy0
        simp only [List.headD_cons] at hy0
        rw [e6, f1, iadd_i64 (x := c) (by omega) (by omega)]
        simp only [cond_true, Option.bind_some, List.headD_cons]
        rw [iadd_i64 (by omega) (by omega)]
    rw [e4, ix_mid pre x xs (by omega)]
    simp only [cond_true, Option.bind_some]
    rw [e5]
    simp only [Option.bind_some]
    rw [shr_i64, iand_mask, lset_mid pre x _ xs (by omega), inc64 (by omega)]
    simp only [Option.bind_some]
    have ih := settle_L2 n v l0 kont hl0 hv xs (i + 1) ((c + x + (v.drop i).headD 0) / 1048576) (pre ++ [(c + x + (v.drop i).headD 0) % 1048576]) m hx.tail (by omega) (by omega) (by simp; omega) (by omega) (by omega)
    rw [List.append_assoc, List.singleton_append] at ih
    rw [ih]
    have e7 : v.drop (i + 1) = (v.drop i).tail := by simp
    simp only [addD, e7, List.append_assoc, List.nil_append, List.cons_append]
  | _, _, _, _, 0, _, _, _, _, _, h => by omega

theorem settle_n {u v : List Int} {g : Int} (hu : InR u) (hv : InR v) (hl : v.length ≤ u.length) (hlu : u.length < 1073741824) (hg0 : 0 ≤ g) (hg1 : g ≤ 1048576) (hV : 0 < val v) (h1 : val u < (g + 1) * val v) (h2 : (g - 1) * val v ≤ val u) {n : Nat} (hn : u.length < n) :
    ∃ r, big_settle n u v g = some (r, val u / val v) ∧ InR r ∧ r.length = u.length ∧ val r = val u % val v := by
  have e0 := settle_L1 n u v g (fun (borrow2 : Int) (l2 : List Int) => bif borrow2 == 0 then some (l2, g) else big_settle_L2 n v l2 (fun (l4 : List Int) => some (l4, isub .i64 g 1)) n 0 0 l2) (by omega) hv hg0 hg1 u 0 0 [] n hu (by decide) hg0 rfl (by simp) hn
  simp only [List.nil_append, List.drop_zero] at e0
  rw [show ((0 : Nat) : Int) = 0 from rfl] at e0
  have e1 := setD_len g u v 0
  by_cases h : g * val v ≤ val u
  · obtain ⟨f1, f2⟩ := setD_exact hu hv hl hg0 h
    obtain ⟨q1, q2⟩ := quot_of hV h h1
    refine ⟨(setD g 0 u v).1, ?_, setD_in g u v 0, e1, by rw [f2, q2]⟩
    unfold big_settle
    rw [e0, f1, q1]; rfl
  · have e2 := setD_val g u v 0 hl
    have e3 := setD_borrow hg0 u v 0 hu hv (by decide) hg0
    have e4 := val_lt (setD_in g u v 0)
    have e5 := val_nonneg (setD_in g u v 0)
    have e6 := val_lt hv
    have e7 := pw_mono hl
    have e8 := pw_pos u.length
    rw [valc_eq, e1] at e2
    rw [e1] at e4
    have e9 : (g - 1) * val v = g * val v - val v := by grind
    have hb : (setD g 0 u v).2 = 1 := by
      rcases (show 1 < (setD g 0 u v).2 ∨ (setD g 0 u v).2 ≤ 1 by omega) with h4 | h4
      · have h5 : pw u.length * (-(setD g 0 u v).2) ≤ pw u.length * (-2) := Int.mul_le_mul_of_nonneg_left (by omega) (by omega)
        omega
      · rcases (show 0 < (setD g 0 u v).2 ∨ (setD g 0 u v).2 ≤ 0 by omega) with h5 | h5
        · omega
        · have : (setD g 0 u v).2 = 0 := by omega
          rw [this] at e2
          simp only [Int.neg_zero, Int.mul_zero] at e2
          omega
    rw [hb] at e2
    have e10 := settle_L2 n v (setD g 0 u v).1 (fun (l4 : List Int) => some (l4, isub .i64 g 1)) (by rw [e1]; omega) hv (setD g 0 u v).1 0 0 [] n (setD_in g u v 0) (by decide) (by decide) rfl (by simp) (by rw [e1]; exact hn)
    simp only [List.nil_append, List.drop_zero] at e10
    rw [show ((0 : Nat) : Int) = 0 from rfl] at e10
    have a1 := addD_len (setD g 0 u v).1 v 0
    have a2 := addD_val (setD g 0 u v).1 v 0 (by rw [e1]; exact hl)
    have a3 := addD_carry (setD g 0 u v).1 v 0 (setD_in g u v 0) hv (by decide) (by decide)
    have a4 := addD_in (setD g 0 u v).1 v 0
    have a5 := val_lt a4
    have a6 := val_nonneg a4
    rw [valc_eq, a1, e1] at a2
    rw [a1, e1] at a5
    obtain ⟨q1, q2⟩ := quot_of (q := g - 1) hV h2 (by rw [show g - 1 + 1 = g by omega]; omega)
    have hc : (addD 0 (setD g 0 u v).1 v).2 = 1 := by
      rcases (show 0 < (addD 0 (setD g 0 u v).1 v).2 ∨ (addD 0 (setD g 0 u v).1 v).2 ≤ 0 by omega) with h5 | h5
      · omega
      · have : (addD 0 (setD g 0 u v).1 v).2 = 0 := by omega
        rw [this] at a2
        omega
    rw [hc] at a2
    refine ⟨(addD 0 (setD g 0 u v).1 v).1, ?_, a4, by rw [a1, e1], by rw [q2]; omega⟩
    unfold big_settle
    have hb' : ((setD g 0 u v).2 == 0) = false := by rw [hb]; rfl
    rw [e0, hb']
    simp only [cond_false]
    rw [e10, isub_i64 (by omega) (by omega), q1]

/- mul -/
theorem mul_L2 (n : Nat) (b : List Int) (i : Nat) (x : Int) (kont : Int → List Int → Option (List Int)) (hlb : b.length < 1073741824) (hi : i < 1073741824) (hx0 : 0 ≤ x) (hx1 : x < 1048576) : ∀ (ys ws : List Int) (k : Nat) (c : Int) (pre rest : List Int) (m : Nat), b.drop k = ys → InR ys → InR ws → ws.length = ys.length → 0 ≤ c → c < 1048576 → pre.length = i + k → ys.length < m →
    big_mul_L2 n b (i : Int) x kont m c (k : Int) (pre ++ (ws ++ rest)) = kont (mulD x c ys ws).2 (pre ++ ((mulD x c ys ws).1 ++ rest))
  | [], ws, k, c, pre, rest, m + 1, hd, _, _, hw, _, _, _, _ => by
    rw [big_mul_L2_s]
    have := drop_nil hd
    have e1 : decide ((k : Int) < (b.length : Int)) = false := by simp; omega
    have : ws = [] := List.eq_nil_of_length_eq_zero (by simpa using hw)
    subst this
    rw [e1]; simp [mulD]
  | y :: ys, [], k, c, pre, rest, m + 1, _, _, _, hw, _, _, _, _ => by simp at hw
  | y :: ys, w :: ws, k, c, pre, rest, m + 1, hd, hy, hws, hw, h0, h1, hp, hm => by
    rw [big_mul_L2_s]
    obtain ⟨f1, f2, f3⟩ := drop_cons hd
    simp only [List.length_cons] at hw hm
    have e4 : decide ((k : Int) < (b.length : Int)) = true := by simp; omega
    have hw0 := hws.head
    have hy0 := hy.head
    have hmul := dig_mul_dig hx0 hx1 hy0.1 hy0.2
    have e5 : iadd .i64 (i : Int) (k : Int) = (pre.length : Int) := by rw [iadd_i64 (by omega) (by omega)]; omega
    rw [e4, f1, e5, List.cons_append, ix_mid pre w _ rfl]
    simp only [cond_true, Option.bind_some]
    rw [imul_i64 (by omega) (by omega), iadd_i64 (x := w) (by omega) (by omega), iadd_i64 (by omega) (by omega), iand_mask, lset_mid pre w _ _ rfl, shr_i64, inc64 (by omega)]
    simp only [Option.bind_some]
    have ih := mul_L2 n b i x kont hlb hi hx0 hx1 ys ws (k + 1) ((w + x * y + c) / 1048576) (pre ++ [(w + x * y + c) % 1048576]) rest m f2 hy.tail hws.tail (by omega) (by omega) (by omega) (by simp; omega) (by omega)
    rw [List.append_assoc, List.singleton_append] at ih
    rw [ih]
    simp only [mulD, List.headD_cons, List.tail_cons, List.append_assoc, List.nil_append, List.cons_append]
  | _, _, _, _, _, _, 0, _, _, _, _, _, _, _, h => by omega

theorem mul_L1 (n : Nat) (a b : List Int) (kont : List Int → Option (List Int)) (hla : a.length < 1073741824) (hlb : b.length < 1073741824) (hb : InR b) (hn : b.length < n) : ∀ (us : List Int) (w : List Int) (i : Nat) (pre : List Int) (m : Nat), a.drop i = us → InR us → InR w → w.length = b.length → pre.length = i → us.length < m →
    big_mul_L1 n a b kont m (i : Int) (pre ++ (w ++ List.replicate us.length 0)) = kont (pre ++ mulF b us w)
  | [], w, i, pre, m + 1, hd, _, _, _, _, _ => by
    rw [big_mul_L1_s]
    have := drop_nil hd
    have e1 : decide ((i : Int) < (a.length : Int)) = false := by simp; omega
    rw [e1]; simp [mulF]
  | x :: xs, w, i, pre, m + 1, hd, hx, hw, hwl, hp, hm => by
    rw [big_mul_L1_s]
    obtain ⟨f1, f2, f3⟩ := drop_cons hd
    simp only [List.length_cons] at hm
    have e4 : decide ((i : Int) < (a.length : Int)) = true := by simp; omega
    have hx0 := hx.head
    rw [e4, f1]
    simp only [cond_true, Option.bind_some, List.length_cons, List.replicate_succ]
    have h2 := mul_L2 n b i x (fun (carry2 : Int) (l5 : List Int) =>
        (ix l5 (iadd .i64 (i : Int) (b.length : Int))).bind fun ex2 =>
        (ix l5 (iadd .i64 (i : Int) (b.length : Int))).bind fun _ =>
        (lset l5 (iadd .i64 (i : Int) (b.length : Int)) (iadd .i64 ex2 carry2)).bind fun l6 =>
        big_mul_L1 n a b kont m (iadd .i64 (i : Int) 1) l6) hlb (by omega) hx0.1 hx0.2 b w 0 0 pre (0 :: List.replicate xs.length 0) n rfl hb hw hwl (by decide) (by decide) (by omega) hn
    rw [show ((0 : Nat) : Int) = 0 from rfl] at h2
    rw [h2]
    have hc := mulD_carry hx0.1 hx0.2 b w 0 hb hw (by decide) (by decide)
    have hlen := mulD_len x b w 0
    have e5 : iadd .i64 (i : Int) (b.length : Int) = (((pre ++ (mulD x 0 b w).1).length : Nat) : Int) := by
      rw [iadd_i64 (by omega) (by omega), List.length_append, hlen]; omega
    rw [e5, ← List.append_assoc, ix_mid _ 0 _ rfl]
    simp only [Option.bind_some]
    rw [lset_mid _ 0 _ _ rfl, iadd_i64 (by omega) (by omega), inc64 (by omega)]
    simp only [Option.bind_some, Int.zero_add]
    -- the window goes on by one digit
    have hne : (mulD x 0 b w).1 ++ [(mulD x 0 b w).2] ≠ [] := by simp
    obtain ⟨h, t, ht⟩ := List.exists_cons_of_ne_nil hne
    have e6 : pre ++ (mulD x 0 b w).1 ++ (mulD x 0 b w).2 :: List.replicate xs.length 0 = (pre ++ [h]) ++ (t ++ List.replicate xs.length 0) := by
      rw [List.append_assoc, List.append_assoc, ← List.singleton_append (x := (mulD x 0 b w).2), ← List.append_assoc (mulD x 0 b w).1, ht]
      simp
    have hin : InR ((mulD x 0 b w).1 ++ [(mulD x 0 b w).2]) := (mulD_in x b w 0).append (InR.cons hc.1 hc.2 InR.nil)
    rw [ht] at hin
    have htl : t.length = b.length := by
      have := congrArg List.length ht
      simp [hlen] at this
      omega
    have ih := mul_L1 n a b kont hla hlb hb hn xs t (i + 1) (pre ++ [h]) m f2 hx.tail hin.tail htl (by simp; omega) (by omega)
    rw [e6, ih]
    simp only [mulF, ht, List.headD_cons, List.tail_cons, List.append_assoc, List.singleton_append]
  | _, _, _, _, 0, _, _, _, _, _, h => by omega

theorem mul_ev {a b : List Int} (ha : InR a) (hb : InR b) (hla : a.length < 536870912) (hlb : b.length < 536870912) : Ev (fun n => big_mul n a b) (dig (val a * val b).toNat) := by
  unfold big_mul
  refine Ev.step (by rw [iadd_i64 (by omega) (by omega), show (a.length : Int) + (b.length : Int) = ((a.length + b.length : Nat) : Int) by omega]; exact mks_eq (by omega)) ?_
  refine ⟨a.length + b.length + 1, fun n hn => ?_⟩
  have h1 := mul_L1 n a b (fun (l3 : List Int) => (big_trim n l3).bind fun v1 => some v1) (by omega) (by omega) hb (by omega) a (List.replicate b.length 0) 0 [] n rfl ha (InR.rep _) (by simp) rfl (by omega)
  simp only [List.nil_append, List.replicate_append_replicate] at h1
  rw [show ((0 : Nat) : Int) = 0 from rfl, Nat.add_comm] at h1
  dsimp only
  rw [h1, trim_n (mulF_in hb _ _ ha (InR.rep _)) (by rw [mulF_len b a _ (by simp)]; omega) (by rw [mulF_len b a _ (by simp)]; omega)]
  simp only [Option.bind_some]
  rw [mulF_val b a _ (by simp), val_rep, Int.zero_add]

/- short -/
theorem short_L (n : Nat) (a : List Int) (d : Int) (kont : Int → List Int → Option (List Int × Int)) (ha : InR a) (hla : a.length < 1073741824) (hd : 0 < d) (hd1 : d ≤ 1048576) : ∀ (k : Nat) (m : Nat), k ≤ a.length → k < m →
    big_short_L1 n a d kont m (longD d (a.drop k) 0).2 ((k : Int) - 1) (List.replicate k 0 ++ (longD d (a.drop k) 0).1) = kont (longD d a 0).2 (longD d a 0).1
  | 0, m + 1, _, _ => by
    rw [big_short_L1_s]
    have e1 : decide ((0 : Int) ≤ ((0 : Nat) : Int) - 1) = false := by decide
    rw [e1]; simp
  | k + 1, m + 1, hk, hm => by
    rw [big_short_L1_s]
    have hk' : k < a.length := by omega
    have hdrop : a.drop k = a[k] :: a.drop (k + 1) := List.drop_eq_getElem_cons hk'
    have hx := ha a[k] (List.getElem_mem hk')
    have e0 : ((k + 1 : Nat) : Int) - 1 = (k : Int) := by omega
    have e1 : decide ((0 : Int) ≤ (k : Int)) = true := by simp
    have e2 : ix a (k : Int) = some a[k] := (drop_cons hdrop).1
    have hr := longD_rem hd (a.drop (k + 1)) 0 (by decide) hd
    rw [e0, e1, e2, shl_i64 (by omega) (by omega)]
    simp only [cond_true, Option.bind_some]
    have e3 : 0 ≤ (longD d (a.drop (k + 1)) 0).2 * 1048576 + a[k] := by omega
    rw [ior_i64 hr.1 (by omega) hx.1 hx.2, quo_i64 e3 (by omega) hd, rem_pos e3 hd, List.replicate_succ', List.append_assoc, List.singleton_append, ix_mid _ 0 _ (by simp)]
    simp only [Option.bind_some]
    rw [lset_mid _ 0 _ _ (by simp)]
    simp only [Option.bind_some]
    have e4 : isub .i64 (k : Int) 1 = (k : Int) - 1 := isub_i64 (by omega) (by omega)
    have ih := short_L n a d kont ha hla hd hd1 k m (by omega) (by omega)
    rw [hdrop] at ih
    simp only [longD] at ih
    rw [e4, ih]
  | _, 0, _, h => by omega

theorem short_n {a : List Int} {d : Int} (ha : InR a) (hla : a.length < 1073741824) (hd : 0 < d) (hd1 : d ≤ 1048576) {n : Nat} (hn : a.length < n) : big_short n a d = some (dig (val a / d).toNat, val a % d) := by
  unfold big_short
  rw [mks_eq (by omega), Option.bind_some]
  have h1 := short_L n a d (fun (rx2 : Int) (l3 : List Int) => (big_trim n l3).bind fun v1 => some (v1, rx2)) ha hla hd hd1 a.length n (by omega) (by omega)
  simp only [List.drop_length, longD, List.append_nil] at h1
  rw [isub_i64 (by omega) (by omega), h1, trim_n (longD_in hd a 0 ha (by decide) hd) (by rw [longD_len]; omega) (by rw [longD_len]; omega)]
  simp only [Option.bind_some]
  have h2 := longD_val (V := d) a 0
  have h3 := longD_rem hd a 0 (by decide) hd
  rw [valc_eq, Int.mul_zero, Int.add_zero] at h2
  have h4 : ((val (longD d a 0).1) + 1) * d = val (longD d a 0).1 * d + d := by grind
  obtain ⟨q1, q2⟩ := quot_of (U := val a) (q := val (longD d a 0).1) hd (by omega) (by omega)
  rw [q1, show (longD d a 0).2 = val a % d by omega]
theorem short_ev {a : List Int} {d : Int} (ha : InR a) (hla : a.length < 1073741824) (hd : 0 < d) (hd1 : d ≤ 1048576) : Ev (fun n => big_short n a d) (dig (val a / d).toNat, val a % d) :=
  ⟨a.length + 1, fun _ hn => short_n ha hla hd hd1 hn⟩

/- compare -/
theorem Compare_int (n : Nat) (x y : Int) : cmp_Compare_int n x y = some (sg (x - y)) := by
  unfold cmp_Compare_int cmp_isNaN_int
  simp only [Option.bind_some, bne_self_eq_false, cond_false]
  unfold sg
  by_cases h : x < y
  · simp only [h, decide_true, cond_true]; rw [if_pos (by omega)]
  · by_cases h2 : y < x
    · simp only [h, h2, decide_true, decide_false, cond_true, cond_false]; rw [if_neg (by omega), if_pos (by omega)]
    · simp only [h, h2, decide_false, cond_false]; rw [if_neg (by omega), if_neg (by omega)]
theorem compare_L (n : Nat) (a b : List Int) (hl : a.length = b.length) (hla : a.length < 1099511627776) : ∀ (k : Nat) (m : Nat), k ≤ a.length → k < m → cmpD (a.drop k) (b.drop k) = 0 → big_compare_L1 n a b (some 0) m ((k : Int) - 1) = some (cmpD a b)
  | 0, m + 1, _, _, h => by
    rw [big_compare_L1_s]
    have e1 : decide ((0 : Int) ≤ ((0 : Nat) : Int) - 1) = false := by decide
    rw [e1]
    simp only [List.drop_zero] at h
    rw [h]; rfl
  | k + 1, m + 1, hk, hm, h => by
    rw [big_compare_L1_s]
    have hk' : k < a.length := by omega
    have hkb : k < b.length := by omega
    have hda : a.drop k = a[k] :: a.drop (k + 1) := List.drop_eq_getElem_cons hk'
    have hdb : b.drop k = b[k] :: b.drop (k + 1) := List.drop_eq_getElem_cons hkb
    have e0 : ((k + 1 : Nat) : Int) - 1 = (k : Int) := by omega
    have e1 : decide ((0 : Int) ≤ (k : Int)) = true := by simp
    rw [e0, e1, (drop_cons hda).1, (drop_cons hdb).1]
    simp only [cond_true, Option.bind_some, Compare_int]
    have e2 : cmpD (a.drop k) (b.drop k) = sg (a[k] - b[k]) := by rw [hda, hdb]; simp only [cmpD, h, if_true]
    by_cases hne : a[k] = b[k]
    · have e3 : (a[k] != b[k]) = false := by simp [hne]
      rw [e3]
      simp only [cond_false]
      rw [isub_i64 (by omega) (by omega)]
      refine compare_L n a b hl hla k m (by omega) (by omega) ?_
      rw [e2, hne]; simp [sg]
    · have e3 : (a[k] != b[k]) = true := by simpa using hne
      rw [e3]
      simp only [cond_true]
      have e4 : sg (a[k] - b[k]) ≠ 0 := by unfold sg; split <;> (try split) <;> omega
      rw [cmpD_drop k a b (by rw [e2]; exact e4), e2]
  | _, 0, _, h, _ => by omega
theorem compare_n {a b : List Int} (ha : Canon a) (hb : Canon b) (hla : a.length < 1099511627776) {n : Nat} (hn : a.length < n) : big_compare n a b = some (sg (val a - val b)) := by
  unfold big_compare
  by_cases hl : a.length = b.length
  · have e1 : ((a.length : Int) != (b.length : Int)) = false := by rw [hl]; simp
    rw [e1]
    simp only [cond_false]
    have h := compare_L n a b hl hla a.length n (Nat.le_refl _) hn (by rw [List.drop_length]; rfl)
    rw [isub_i64 (by omega) (by omega), h, cmpD_val ha.1 hb.1 hl]
  · have e1 : ((a.length : Int) != (b.length : Int)) = true := by simp; omega
    rw [e1]
    simp only [cond_true, Compare_int, Option.bind_some]
    congr 1
    unfold sg
    rcases Nat.lt_or_ge a.length b.length with h | h
    · have := val_lt_of_len ha.1 hb h
      rw [if_pos (by omega), if_pos (by omega)]
    · have := val_lt_of_len hb.1 ha (by omega)
      rw [if_neg (by omega), if_pos (by omega), if_neg (by omega), if_pos (by omega)]
end Go.Proofs.YtaanocaobllohaaGreatDoor.D
