/- Several texts in one. -/
import Derived.Test.YtaanocaobllohaaGreatDoorMirB
import Derived.Test.YtaanocaobllohaaGreatDoorDig
import Derived.Test.YtaanocaobllohaaGreatDoorMirC
/-
  THE LOOPS OF THE BIG INTEGERS' DIGITS: each mirror is what the plain functions over digits say, with fuel enough.
-/
namespace Go.Proofs.YtaanocaobllohaaGreatDoor.D
open Go Rt M
theorem b2m {i : Nat} (h : i < 4611686018427387904) : iadd .i64 (i : Int) 1 = ((i + 1 : Nat) : Int) := by rw [a2q (by omega) (by omega)]; omega
theorem d0m {i : Nat} (h : i < 4611686018427387904) : isub .i64 ((i + 1 : Nat) : Int) 1 = (i : Int) := by rw [a2g (by omega) (by omega)]; omega
theorem a2z {α : Type} {a : List α} {i : Nat} {x : α} {xs : List α} (h : a.drop i = x :: xs) : ix a (i : Int) = some x ∧ a.drop (i + 1) = xs ∧ i < a.length := by
  have h1 : a[i]? = some x := by have := congrArg (fun l => l[0]?) h; simpa using this
  refine ⟨by rw [b2z]; exact h1, ?_, (List.getElem?_eq_some_iff.1 h1).1⟩
  rw [← List.drop_drop, h]; rfl
theorem a5j {α : Type} {a : List α} {i : Nat} (h : a.drop i = []) : a.length ≤ i := by simpa using h
theorem InR.drop {l : List Int} (h : InR l) (k : Nat) : InR (l.drop k) := fun e he => h e (List.mem_of_mem_drop he)
theorem InR.take {l : List Int} (h : InR l) (k : Nat) : InR (l.take k) := fun e he => h e (List.mem_of_mem_take he)
/- trim -/
theorem c7x (n : Nat) (kont : Int → Option (List Int)) : ∀ (r : Nat) (c : List Int) (m : Nat), Canon c → c.length + r < 1099511627776 → r < m →
    a6d n (c ++ List.replicate r 0) kont m ((c.length + r : Nat) : Int) = kont (c.length : Int)
  | 0, c, m + 1, hc, hl, _ => by
    rw [a7w]
    simp only [Nat.add_zero, List.replicate_zero, List.append_nil]
    rcases List.eq_nil_or_concat c with rfl | ⟨p, d, rfl⟩
    · rfl
    · rw [List.concat_eq_append] at *
      have hd : (d == 0) = false := by
        have := hc.2
        simpa using this
      have e0 : isub .i64 (((p ++ [d]).length : Nat) : Int) 1 = (p.length : Int) := by rw [List.length_append, List.length_singleton]; exact d0m (by simp at hl; omega)
      have e1 : decide ((0 : Int) < ((p ++ [d]).length : Int)) = true := by rw [decide_eq_true_eq, List.length_append, List.length_singleton]; omega
      rw [e1, e0, a5x p d [] rfl]
      simp only [cond_true, Option.bind_some, hd, cond_false]
  | r + 1, c, m + 1, hc, hl, hm => by
    rw [a7w]
    have e1 : decide ((0 : Int) < ((c.length + (r + 1) : Nat) : Int)) = true := by simp; try omega
    have e0 : isub .i64 ((c.length + (r + 1) : Nat) : Int) 1 = ((c.length + r : Nat) : Int) := by rw [a2g (by omega) (by omega)]; omega
    have e2 : ix (c ++ List.replicate (r + 1) 0) ((c.length + r : Nat) : Int) = some 0 := by
      rw [b2z, List.getElem?_append_right (by omega)]
      simp
    rw [e1, e0, e2]
    simp only [cond_true, Option.bind_some, beq_self_eq_true]
    -- the last zero is not looked at any more
    have e3 : ∀ (m : Nat) (k : Nat), k ≤ c.length + r → a6d n (c ++ List.replicate (r + 1) 0) kont m (k : Int) = a6d n (c ++ List.replicate r 0) kont m (k : Int) := by
      intro m
      induction m with
      | zero => intro k _; rfl
      | succ m ih =>
        intro k hk
        rw [a7w, a7w]
        cases k with
        | zero => rfl
        | succ k =>
          rw [d0m (by omega)]
          have e4 : ix (c ++ List.replicate (r + 1) 0) (k : Int) = ix (c ++ List.replicate r 0) (k : Int) := by
            rw [b2z, b2z, List.replicate_succ', ← List.append_assoc, List.getElem?_append_left (by simp; omega)]
          rw [e4, ih k (by omega)]
    rw [e3 m _ (Nat.le_refl _)]
    exact c7x n kont r c m hc (by omega) (by omega)
  | _, _, 0, _, _, h => by omega
theorem b7w {l : List Int} (hl : InR l) (hlen : l.length < 1099511627776) {n : Nat} (hn : l.length < n) : a2u n l = some (dig (val l).toNat) := by
  obtain ⟨r, hr⟩ := split_dig hl
  have h1 : l.length = (dig (val l).toNat).length + r := by conv => lhs; rw [hr]
                                                            simp
  unfold a2u
  have h2 := c7x n (fun (nx2 : Int) => (lsl l 0 nx2).bind fun l2 => some l2) r (dig (val l).toNat) n (a8x _) (by omega) (by omega)
  rw [← hr, ← h1] at h2
  rw [h2]
  have h3 := c4b (l := l) (p := 0) (q := (dig (val l).toNat).length) (by omega) (by omega)
  rw [show ((0 : Nat) : Int) = 0 from rfl] at h3
  rw [h3]
  simp only [Option.bind_some, List.drop_zero]
  have h4 : ∀ c : List Int, l = c ++ List.replicate r 0 → l.take c.length = c := fun c hc => by rw [hc]; exact List.take_left
  rw [h4 _ hr]
theorem c2g {l : List Int} (hl : InR l) (hlen : l.length < 1099511627776) : Ev (fun n => a2u n l) (dig (val l).toNat) := ⟨l.length + 1, fun _ hn => b7w hl hlen hn⟩
/- add -/
theorem d0f (n : Nat) (a b : List Int) (kont : Int → List Int → Option (List Int)) (ha : a.length < 1099511627776) (hb : InR b) : ∀ (us : List Int) (i : Nat) (c : Int) (pre suf : List Int) (m : Nat), a.drop i = us → InR us → 0 ≤ c → c ≤ 1 → pre.length = i → us.length ≤ suf.length → us.length < m →
    a7u n a b kont m c (i : Int) (pre ++ suf) = kont (addD c us (b.drop i)).2 (pre ++ ((addD c us (b.drop i)).1 ++ suf.drop us.length))
  | [], i, c, pre, suf, m + 1, hd, _, _, _, _, _, _ => by
    rw [b3e]
    have := a5j hd
    have e1 : decide ((i : Int) < (a.length : Int)) = false := by simp; omega
    rw [e1]; simp [addD]
  | x :: xs, i, c, pre, [], m + 1, _, _, _, _, _, hs, _ => by simp at hs
  | x :: xs, i, c, pre, z :: suf, m + 1, hd, hx, h0, h1, hp, hs, hm => by
    rw [b3e]
    obtain ⟨e1, e2, e3⟩ := a2z hd
    have e4 : decide ((i : Int) < (a.length : Int)) = true := by simp; omega
    have hx0 := hx.head
    have hy0 := (InR.drop hb i).headD
    have e5 : (bif decide ((i : Int) < (b.length : Int)) then (ix b (i : Int)).bind fun ex4 => some (iadd .i64 (iadd .i64 c x) ex4) else some (iadd .i64 c x)) = some (c + x + (b.drop i).headD 0) := by
      cases hbd : b.drop i with
      | nil =>
        have := a5j hbd
        have e6 : decide ((i : Int) < (b.length : Int)) = false := by simp; omega
        rw [e6, a2q (by omega) (by omega)]; simp
      | cons y ys =>
        obtain ⟨f1, _, f3⟩ := a2z hbd
        have e6 : decide ((i : Int) < (b.length : Int)) = true := by simp; omega
        rw [hbd] at hy0
        simp only [List.headD_cons] at hy0
        rw [e6, f1, a2q (x := c) (by omega) (by omega)]
        simp only [cond_true, Option.bind_some, List.headD_cons]
        rw [a2q (by omega) (by omega)]
    rw [e4, e1]
    simp only [cond_true, Option.bind_some]
    rw [e5]
    simp only [Option.bind_some]
    rw [a5x pre z suf (by omega), b2k, a6n pre z _ suf (by omega), b8p, b2m (by omega)]
    simp only [Option.bind_some]
    have ih := d0f n a b kont ha hb xs (i + 1) ((c + x + (b.drop i).headD 0) / 1048576) (pre ++ [(c + x + (b.drop i).headD 0) % 1048576]) suf m e2 hx.tail (by omega) (by omega) (by simp; omega) (by simpa using hs) (by simpa using hm)
    rw [List.append_assoc, List.singleton_append] at ih
    rw [ih]
    have e7 : b.drop (i + 1) = (b.drop i).tail := by simp
    simp only [addD, e7, List.append_assoc, List.nil_append, List.cons_append, List.drop_succ_cons, List.length_cons]
  | _, _, _, _, _, 0, _, _, _, _, _, _, h => by omega
theorem c9w {a b : List Int} (ha : InR a) (hb : InR b) (hla : a.length < 1073741824) (hlb : b.length < 1073741824) : Ev (fun n => b1j n a b) (dig (val a + val b).toNat) := by
  -- the longer one first
  have key : ∀ {a b : List Int}, InR a → InR b → a.length < 1073741824 → b.length ≤ a.length → Ev (fun n => (mks 8 (0 : Int) (iadd .i64 (a.length : Int) 1)).bind fun l1 =>
      a7u n a b (fun (carry2 : Int) (l3 : List Int) => (ix l3 (a.length : Int)).bind fun _ => (lset l3 (a.length : Int) carry2).bind fun l4 => (a2u n l4).bind fun v1 => some v1) n 0 0 l1) (dig (val a + val b).toNat) := by
    intro a b ha hb hla hle
    refine Ev.step (by rw [b2m (by omega)]; exact b8o (by omega)) ?_
    refine ⟨a.length + 2, fun n hn => ?_⟩
    have h1 := d0f n a b (fun (carry2 : Int) (l3 : List Int) => (ix l3 (a.length : Int)).bind fun _ => (lset l3 (a.length : Int) carry2).bind fun l4 => (a2u n l4).bind fun v1 => some v1) (by omega) hb a 0 0 [] (List.replicate (a.length + 1) 0) n rfl ha (by decide) (by decide) rfl (by simp) (by omega)
    simp only [List.nil_append, List.drop_zero] at h1
    rw [show ((0 : Nat) : Int) = 0 from rfl] at h1
    dsimp only
    rw [h1]
    have e1 : (List.replicate (a.length + 1) (0 : Int)).drop a.length = [0] := by simp
    have e2 := addD_len a b 0
    have e3 := addD_carry a b 0 ha hb (by decide) (by decide)
    have e4 := addD_val a b 0 hle
    rw [e1, a5x _ 0 [] (by rw [e2]), a6n _ 0 _ [] (by rw [e2])]
    simp only [Option.bind_some]
    have e5 : InR ((addD 0 a b).1 ++ [(addD 0 a b).2]) := (addD_in a b 0).append (InR.cons e3.1 (by omega) InR.nil)
    rw [b7w e5 (by simp [e2]; omega) (by simp [e2]; omega)]
    simp only [Option.bind_some]
    have e6 : val ((addD 0 a b).1 ++ [(addD 0 a b).2]) = val a + val b := by
      rw [← b4k]
      simp only [val, Int.mul_zero, Int.add_zero]
      omega
    rw [e6]
  unfold b1j
  by_cases hlt : a.length < b.length
  · refine Ev.step (a := (b, a)) (by rw [show decide ((a.length : Int) < (b.length : Int)) = true from by simp; omega]; rfl) ?_
    rw [Int.add_comm]
    exact key hb ha hlb (by omega)
  · refine Ev.step (a := (a, b)) (by rw [show decide ((a.length : Int) < (b.length : Int)) = false from by simp; omega]; rfl) ?_
    exact key ha hb hla (by omega)
end Go.Proofs.YtaanocaobllohaaGreatDoor.D

/-
  THE LOOPS OF THE BIG INTEGERS' DIGITS, second part: differences, products, short divisions, the order.
-/
namespace Go.Proofs.YtaanocaobllohaaGreatDoor.D
open Go Rt M
theorem c8n (n : Nat) {a : List Int} (h : a.length < 1073741824) : a1v n a = some a := by
  have h2 : (([] : List Int).length + a.length) * 8 ≤ 140737488355328 := by simp only [List.length_nil, Nat.zero_add]; omega
  show app 8 [] a = some a
  rw [b4w h2, List.nil_append]
theorem c4l {a : List Int} (h : a.length < 1073741824) : ∀ n, a1v n a = some a := fun n => c8n n h
theorem c5z {a : List Int} (h : ∀ n, a1v n a = some a) : Ev (fun n => a1v n a) a := ⟨0, fun n _ => h n⟩
theorem b4t {a : List Int} (h : a.length < 1073741824) : Ev (fun n => a1v n a) a := c5z (c4l h)
/- sub -/
theorem c6y {x c y : Int} (h0 : 0 ≤ c) (h1 : c ≤ 1) (hx0 : 0 ≤ x) (hx1 : x < 1048576) (hy0 : 0 ≤ y) (hy1 : y < 1048576) {t : Int} (ht : t = x - c - y) : t / 1048576 % 2 = -(t / 1048576) ∧ 0 ≤ -(t / 1048576) ∧ -(t / 1048576) ≤ 1 := by
  subst ht; omega
theorem c9z (n : Nat) (b v : List Int) (kont : List Int → Option (List Int)) (hv : v.length < 1099511627776) (hb : InR b) : ∀ (us : List Int) (i : Nat) (c : Int) (pre : List Int) (m : Nat), InR us → 0 ≤ c → c ≤ 1 → pre.length = i → i + us.length = v.length → us.length < m →
    a8n n b v kont m c (i : Int) (pre ++ us) = kont (pre ++ (setD 1 c us (b.drop i)).1)
  | [], i, c, pre, m + 1, _, _, _, _, hl, _ => by
    rw [b3i]
    simp only [List.length_nil] at hl
    have e1 : decide ((i : Int) < (v.length : Int)) = false := by simp; omega
    rw [e1]; simp [setD]
  | x :: xs, i, c, pre, m + 1, hx, h0, h1, hp, hl, hm => by
    rw [b3i]
    simp only [List.length_cons] at hl hm
    have e4 : decide ((i : Int) < (v.length : Int)) = true := by simp; omega
    have hx0 := hx.head
    have hy0 := (InR.drop hb i).headD
    have e7 : b.drop (i + 1) = (b.drop i).tail := by simp
    obtain ⟨t, ht⟩ : ∃ t, t = x - c - (b.drop i).headD 0 := ⟨_, rfl⟩
    have e5 : (bif decide ((i : Int) < (b.length : Int)) then (ix b (i : Int)).bind fun ex3 => some (isub .i64 (isub .i64 x c) ex3) else some (isub .i64 x c)) = some t := by
      rw [ht]
      cases hbd : b.drop i with
      | nil =>
        have := a5j hbd
        have e6 : decide ((i : Int) < (b.length : Int)) = false := by simp; omega
        rw [e6, a2g (by omega) (by omega)]; simp
      | cons y ys =>
        obtain ⟨f1, _, f3⟩ := a2z hbd
        have e6 : decide ((i : Int) < (b.length : Int)) = true := by simp; omega
        rw [hbd] at hy0
        simp only [List.headD_cons] at hy0
        rw [e6, f1, a2g (x := x) (by omega) (by omega)]
        simp only [cond_true, Option.bind_some, List.headD_cons]
        rw [a2g (by omega) (by omega)]
    obtain ⟨b1, b2, b3⟩ := c6y h0 h1 hx0.1 hx0.2 hy0.1 hy0.2 ht
    have e8 : x - c - 1 * (b.drop i).headD 0 = t := by rw [ht, Int.one_mul]
    have e9 : setD 1 c (x :: xs) (b.drop i) = (t % 1048576 :: (setD 1 (-(t / 1048576)) xs (b.drop (i + 1))).1, (setD 1 (-(t / 1048576)) xs (b.drop (i + 1))).2) := by
      rw [e7]; simp only [setD, e8]
    have ih := c9z n b v kont hv hb xs (i + 1) (-(t / 1048576)) (pre ++ [t % 1048576]) m hx.tail b2 b3 (by simp; omega) (by omega) (by omega)
    rw [e4, a5x pre x xs (by omega)]
    simp only [cond_true, Option.bind_some]
    rw [e5, Option.bind_some, b8p, b2k, a6n pre x _ xs (by omega), b2m (by omega)]
    simp only [Option.bind_some]
    rw [c6g, b1, e9]
    rw [List.append_assoc, List.singleton_append] at ih
    rw [ih, List.append_assoc, List.singleton_append]
  | _, _, _, _, 0, _, _, _, _, _, h => by omega
theorem b8z {us vs : List Int} {g : Int} (hu : InR us) (hv : InR vs) (hl : vs.length ≤ us.length) (hg : 0 ≤ g) (h : g * val vs ≤ val us) : (setD g 0 us vs).2 = 0 ∧ val (setD g 0 us vs).1 = val us - g * val vs := by
  have e1 := b9y g us vs 0 hl
  have e2 := b4h hg us vs 0 hu hv (by decide) hg
  have e3 := val_lt (b3a g us vs 0)
  rw [valc_eq, b3l] at e1
  rw [b3l] at e3
  have hb : (setD g 0 us vs).2 = 0 := by
    rcases (show 0 < (setD g 0 us vs).2 ∨ (setD g 0 us vs).2 ≤ 0 by omega) with h4 | h4
    · have h5 : pw us.length * (-(setD g 0 us vs).2) ≤ pw us.length * (-1) := Int.mul_le_mul_of_nonneg_left (by omega) (by have := pw_pos us.length; omega)
      omega
    · omega
  refine ⟨hb, ?_⟩
  rw [hb] at e1
  simp only [Int.neg_zero, Int.mul_zero] at e1
  omega
theorem c9v {a b : List Int} (ha : InR a) (hb : InR b) (hla : a.length < 1073741824) (hlb : b.length ≤ a.length) (h : val b ≤ val a) : Ev (fun n => b3c n a b) (dig (val a - val b).toNat) := by
  unfold b3c
  refine Ev.bind (b4t hla) ?_
  refine ⟨a.length + 1, fun n hn => ?_⟩
  have h1 := c9z n b a (fun (l2 : List Int) => (a2u n l2).bind fun v2 => some v2) (by omega) hb a 0 0 [] n ha (by decide) (by decide) rfl (by simp) (by omega)
  simp only [List.nil_append, List.drop_zero] at h1
  rw [show ((0 : Nat) : Int) = 0 from rfl] at h1
  dsimp only
  rw [h1, b7w (b3a _ _ _ _) (by rw [b3l]; omega) (by rw [b3l]; omega)]
  have h2 := b8z (g := 1) ha hb hlb (by decide) (by omega)
  simp only [Option.bind_some]
  rw [h2.2, Int.one_mul]
/- settle -/
theorem c1i (n : Nat) (u v : List Int) (g : Int) (kont : Int → List Int → Option (List Int × Int)) (hlu : u.length < 1099511627776) (hv : InR v) (hg0 : 0 ≤ g) (hg1 : g ≤ 1048576) : ∀ (us : List Int) (i : Nat) (c : Int) (pre : List Int) (m : Nat), InR us → 0 ≤ c → c ≤ g → pre.length = i → i + us.length = u.length → us.length < m →
    a6a n u v g kont m c (i : Int) (pre ++ us) = kont (setD g c us (v.drop i)).2 (pre ++ (setD g c us (v.drop i)).1)
  | [], i, c, pre, m + 1, _, _, _, _, hl, _ => by
    rw [a9y]
    simp only [List.length_nil] at hl
    have e1 : decide ((i : Int) < (u.length : Int)) = false := by simp; omega
    rw [e1]; simp [setD]
  | x :: xs, i, c, pre, m + 1, hx, h0, h1, hp, hl, hm => by
    rw [a9y]
    simp only [List.length_cons] at hl hm
    have e4 : decide ((i : Int) < (u.length : Int)) = true := by simp; omega
    have hx0 := hx.head
    have hy0 := (InR.drop hv i).headD
    have hmul := b4j hg0 hy0.1 hy0.2
    have e5 : (bif decide ((i : Int) < (v.length : Int)) then (ix v (i : Int)).bind fun ex6 => some (isub .i64 (isub .i64 x c) (imul .i64 g ex6)) else some (isub .i64 x c)) = some (x - c - g * (v.drop i).headD 0) := by
      cases hbd : v.drop i with
      | nil =>
        have := a5j hbd
        have e6 : decide ((i : Int) < (v.length : Int)) = false := by simp; omega
        rw [e6, a2g (by omega) (by omega)]; simp
      | cons y ys =>
        obtain ⟨f1, _, f3⟩ := a2z hbd
        have e6 : decide ((i : Int) < (v.length : Int)) = true := by simp; omega
        rw [hbd] at hy0 hmul
        simp only [List.headD_cons] at hy0 hmul
        rw [e6, f1, a2g (x := x) (by omega) (by omega)]
        simp only [cond_true, Option.bind_some, List.headD_cons]
        rw [a6k (by omega) (by omega), a2g (by omega) (by omega)]
    rw [e4, a5x pre x xs (by omega)]
    simp only [cond_true, Option.bind_some]
    rw [e5]
    simp only [Option.bind_some]
    rw [b8p, b2k, a6n pre x _ xs (by omega), b2m (by omega)]
    simp only [Option.bind_some]
    rw [Int.zero_sub, a5k (by omega) (by omega)]
    have ih := c1i n u v g kont hlu hv hg0 hg1 xs (i + 1) (-((x - c - g * (v.drop i).headD 0) / 1048576)) (pre ++ [(x - c - g * (v.drop i).headD 0) % 1048576]) m hx.tail (by omega) (by omega) (by simp; omega) (by omega) (by omega)
    rw [List.append_assoc, List.singleton_append] at ih
    rw [ih]
    have e7 : v.drop (i + 1) = (v.drop i).tail := by simp
    simp only [setD, e7, List.append_assoc, List.nil_append, List.cons_append]
  | _, _, _, _, 0, _, _, _, _, _, h => by omega
theorem c0m (n : Nat) (v l0 : List Int) (kont : List Int → Option (List Int × Int)) (hl0 : l0.length < 1099511627776) (hv : InR v) : ∀ (us : List Int) (i : Nat) (c : Int) (pre : List Int) (m : Nat), InR us → 0 ≤ c → c ≤ 1 → pre.length = i → i + us.length = l0.length → us.length < m →
    a4u n v l0 kont m c (i : Int) (pre ++ us) = kont (pre ++ (addD c us (v.drop i)).1)
  | [], i, c, pre, m + 1, _, _, _, _, hl, _ => by
    rw [a9p]
    simp only [List.length_nil] at hl
    have e1 : decide ((i : Int) < (l0.length : Int)) = false := by simp; omega
    rw [e1]; simp [addD]
  | x :: xs, i, c, pre, m + 1, hx, h0, h1, hp, hl, hm => by
    rw [a9p]
    simp only [List.length_cons] at hl hm
    have e4 : decide ((i : Int) < (l0.length : Int)) = true := by simp; omega
    have hx0 := hx.head
    have hy0 := (InR.drop hv i).headD
    have e5 : (bif decide ((i : Int) < (v.length : Int)) then (ix v (i : Int)).bind fun ex3 => some (iadd .i64 (iadd .i64 c x) ex3) else some (iadd .i64 c x)) = some (c + x + (v.drop i).headD 0) := by
      cases hbd : v.drop i with
      | nil =>
        have := a5j hbd
        have e6 : decide ((i : Int) < (v.length : Int)) = false := by simp; omega
        rw [e6, a2q (by omega) (by omega)]; simp
      | cons y ys =>
        obtain ⟨f1, _, f3⟩ := a2z hbd
        have e6 : decide ((i : Int) < (v.length : Int)) = true := by simp; omega
        rw [hbd] at hy0
        simp only [List.headD_cons] at hy0
        rw [e6, f1, a2q (x := c) (by omega) (by omega)]
        simp only [cond_true, Option.bind_some, List.headD_cons]
        rw [a2q (by omega) (by omega)]
    rw [e4, a5x pre x xs (by omega)]
    simp only [cond_true, Option.bind_some]
    rw [e5]
    simp only [Option.bind_some]
    rw [b8p, b2k, a6n pre x _ xs (by omega), b2m (by omega)]
    simp only [Option.bind_some]
    have ih := c0m n v l0 kont hl0 hv xs (i + 1) ((c + x + (v.drop i).headD 0) / 1048576) (pre ++ [(c + x + (v.drop i).headD 0) % 1048576]) m hx.tail (by omega) (by omega) (by simp; omega) (by omega) (by omega)
    rw [List.append_assoc, List.singleton_append] at ih
    rw [ih]
    have e7 : v.drop (i + 1) = (v.drop i).tail := by simp
    simp only [addD, e7, List.append_assoc, List.nil_append, List.cons_append]
  | _, _, _, _, 0, _, _, _, _, _, h => by omega
theorem c6d {u v : List Int} {g : Int} (hu : InR u) (hv : InR v) (hl : v.length ≤ u.length) (hlu : u.length < 1073741824) (hg0 : 0 ≤ g) (hg1 : g ≤ 1048576) (hV : 0 < val v) (h1 : val u < (g + 1) * val v) (h2 : (g - 1) * val v ≤ val u) {n : Nat} (hn : u.length < n) :
    ∃ r, a7t n u v g = some (r, val u / val v) ∧ InR r ∧ r.length = u.length ∧ val r = val u % val v := by
  have e0 := c1i n u v g (fun (borrow2 : Int) (l2 : List Int) => bif borrow2 == 0 then some (l2, g) else a4u n v l2 (fun (l4 : List Int) => some (l4, isub .i64 g 1)) n 0 0 l2) (by omega) hv hg0 hg1 u 0 0 [] n hu (by decide) hg0 rfl (by simp) hn
  simp only [List.nil_append, List.drop_zero] at e0
  rw [show ((0 : Nat) : Int) = 0 from rfl] at e0
  have e1 := b3l g u v 0
  by_cases h : g * val v ≤ val u
  · obtain ⟨f1, f2⟩ := b8z hu hv hl hg0 h
    obtain ⟨q1, q2⟩ := b9u hV h h1
    refine ⟨(setD g 0 u v).1, ?_, b3a g u v 0, e1, by rw [f2, q2]⟩
    unfold a7t
    rw [e0, f1, q1]; rfl
  · have e2 := b9y g u v 0 hl
    have e3 := b4h hg0 u v 0 hu hv (by decide) hg0
    have e4 := val_lt (b3a g u v 0)
    have e5 := val_nonneg (b3a g u v 0)
    have e6 := val_lt hv
    have e7 := pw_mono hl
    have e8 := pw_pos u.length
    rw [valc_eq, e1] at e2
    rw [e1] at e4
    have e9 : (g - 1) * val v = g * val v - val v := by grind
    have hb : (setD g 0 u v).2 = 1 := by
      rcases (show 1 < (setD g 0 u v).2 ∨ (setD g 0 u v).2 ≤ 1 by omega) with h4 | h4
      · have h5 : pw u.length * (-(setD g 0 u v).2) ≤ pw u.length * (-2) := Int.mul_le_mul_of_nonneg_left (by omega) (by omega)
        omega
      · rcases (show 0 < (setD g 0 u v).2 ∨ (setD g 0 u v).2 ≤ 0 by omega) with h5 | h5
        · omega
        · have : (setD g 0 u v).2 = 0 := by omega
          rw [this] at e2
          simp only [Int.neg_zero, Int.mul_zero] at e2
          omega
    rw [hb] at e2
    have e10 := c0m n v (setD g 0 u v).1 (fun (l4 : List Int) => some (l4, isub .i64 g 1)) (by rw [e1]; omega) hv (setD g 0 u v).1 0 0 [] n (b3a g u v 0) (by decide) (by decide) rfl (by simp) (by rw [e1]; exact hn)
    simp only [List.nil_append, List.drop_zero] at e10
    rw [show ((0 : Nat) : Int) = 0 from rfl] at e10
    have a1 := addD_len (setD g 0 u v).1 v 0
    have a2 := addD_val (setD g 0 u v).1 v 0 (by rw [e1]; exact hl)
    have a3 := addD_carry (setD g 0 u v).1 v 0 (b3a g u v 0) hv (by decide) (by decide)
    have a4 := addD_in (setD g 0 u v).1 v 0
    have a5 := val_lt a4
    have a6 := val_nonneg a4
    rw [valc_eq, a1, e1] at a2
    rw [a1, e1] at a5
    obtain ⟨q1, q2⟩ := b9u (q := g - 1) hV h2 (by rw [show g - 1 + 1 = g by omega]; omega)
    have hc : (addD 0 (setD g 0 u v).1 v).2 = 1 := by
      rcases (show 0 < (addD 0 (setD g 0 u v).1 v).2 ∨ (addD 0 (setD g 0 u v).1 v).2 ≤ 0 by omega) with h5 | h5
      · omega
      · have : (addD 0 (setD g 0 u v).1 v).2 = 0 := by omega
        rw [this] at a2
        omega
    rw [hc] at a2
    refine ⟨(addD 0 (setD g 0 u v).1 v).1, ?_, a4, by rw [a1, e1], by rw [q2]; omega⟩
    unfold a7t
    have hb' : ((setD g 0 u v).2 == 0) = false := by rw [hb]; rfl
    rw [e0, hb']
    simp only [cond_false]
    rw [e10, a2g (by omega) (by omega), q1]
/- mul -/
theorem c7u (n : Nat) (b : List Int) (i : Nat) (x : Int) (kont : Int → List Int → Option (List Int)) (hlb : b.length < 1073741824) (hi : i < 1073741824) (hx0 : 0 ≤ x) (hx1 : x < 1048576) : ∀ (ys ws : List Int) (k : Nat) (c : Int) (pre rest : List Int) (m : Nat), b.drop k = ys → InR ys → InR ws → ws.length = ys.length → 0 ≤ c → c < 1048576 → pre.length = i + k → ys.length < m →
    a7o n b (i : Int) x kont m c (k : Int) (pre ++ (ws ++ rest)) = kont (mulD x c ys ws).2 (pre ++ ((mulD x c ys ws).1 ++ rest))
  | [], ws, k, c, pre, rest, m + 1, hd, _, _, hw, _, _, _, _ => by
    rw [b2t]
    have := a5j hd
    have e1 : decide ((k : Int) < (b.length : Int)) = false := by simp; omega
    have : ws = [] := List.eq_nil_of_length_eq_zero (by simpa using hw)
    subst this
    rw [e1]; simp [mulD]
  | y :: ys, [], k, c, pre, rest, m + 1, _, _, _, hw, _, _, _, _ => by simp at hw
  | y :: ys, w :: ws, k, c, pre, rest, m + 1, hd, hy, hws, hw, h0, h1, hp, hm => by
    rw [b2t]
    obtain ⟨f1, f2, f3⟩ := a2z hd
    simp only [List.length_cons] at hw hm
    have e4 : decide ((k : Int) < (b.length : Int)) = true := by simp; omega
    have hw0 := hws.head
    have hy0 := hy.head
    have hmul := b8d hx0 hx1 hy0.1 hy0.2
    have e5 : iadd .i64 (i : Int) (k : Int) = (pre.length : Int) := by rw [a2q (by omega) (by omega)]; omega
    rw [e4, f1, e5, List.cons_append, a5x pre w _ rfl]
    simp only [cond_true, Option.bind_some]
    rw [a6k (by omega) (by omega), a2q (x := w) (by omega) (by omega), a2q (by omega) (by omega), b2k, a6n pre w _ _ rfl, b8p, b2m (by omega)]
    simp only [Option.bind_some]
    have ih := c7u n b i x kont hlb hi hx0 hx1 ys ws (k + 1) ((w + x * y + c) / 1048576) (pre ++ [(w + x * y + c) % 1048576]) rest m f2 hy.tail hws.tail (by omega) (by omega) (by omega) (by simp; omega) (by omega)
    rw [List.append_assoc, List.singleton_append] at ih
    rw [ih]
    simp only [mulD, List.headD_cons, List.tail_cons, List.append_assoc, List.nil_append, List.cons_append]
  | _, _, _, _, _, _, 0, _, _, _, _, _, _, _, h => by omega
theorem c8c (n : Nat) (a b : List Int) (kont : List Int → Option (List Int)) (hla : a.length < 1073741824) (hlb : b.length < 1073741824) (hb : InR b) (hn : b.length < n) : ∀ (us : List Int) (w : List Int) (i : Nat) (pre : List Int) (m : Nat), a.drop i = us → InR us → InR w → w.length = b.length → pre.length = i → us.length < m →
    a6y n a b kont m (i : Int) (pre ++ (w ++ List.replicate us.length 0)) = kont (pre ++ mulF b us w)
  | [], w, i, pre, m + 1, hd, _, _, _, _, _ => by
    rw [b2w]
    have := a5j hd
    have e1 : decide ((i : Int) < (a.length : Int)) = false := by simp; omega
    rw [e1]; simp [mulF]
  | x :: xs, w, i, pre, m + 1, hd, hx, hw, hwl, hp, hm => by
    rw [b2w]
    obtain ⟨f1, f2, f3⟩ := a2z hd
    simp only [List.length_cons] at hm
    have e4 : decide ((i : Int) < (a.length : Int)) = true := by simp; omega
    have hx0 := hx.head
    rw [e4, f1]
    simp only [cond_true, Option.bind_some, List.length_cons, List.replicate_succ]
    have h2 := c7u n b i x (fun (carry2 : Int) (l5 : List Int) =>
        (ix l5 (iadd .i64 (i : Int) (b.length : Int))).bind fun ex2 =>
        (ix l5 (iadd .i64 (i : Int) (b.length : Int))).bind fun _ =>
        (lset l5 (iadd .i64 (i : Int) (b.length : Int)) (iadd .i64 ex2 carry2)).bind fun l6 =>
        a6y n a b kont m (iadd .i64 (i : Int) 1) l6) hlb (by omega) hx0.1 hx0.2 b w 0 0 pre (0 :: List.replicate xs.length 0) n rfl hb hw hwl (by decide) (by decide) (by omega) hn
    rw [show ((0 : Nat) : Int) = 0 from rfl] at h2
    rw [h2]
    have hc := b5f hx0.1 hx0.2 b w 0 hb hw (by decide) (by decide)
    have hlen := b6k x b w 0
    have e5 : iadd .i64 (i : Int) (b.length : Int) = (((pre ++ (mulD x 0 b w).1).length : Nat) : Int) := by
      rw [a2q (by omega) (by omega), List.length_append, hlen]; omega
    rw [e5, ← List.append_assoc, a5x _ 0 _ rfl]
    simp only [Option.bind_some]
    rw [a6n _ 0 _ _ rfl, a2q (by omega) (by omega), b2m (by omega)]
    simp only [Option.bind_some, Int.zero_add]
    -- the window goes on by one digit
    have hne : (mulD x 0 b w).1 ++ [(mulD x 0 b w).2] ≠ [] := by simp
    obtain ⟨h, t, ht⟩ := List.exists_cons_of_ne_nil hne
    have e6 : pre ++ (mulD x 0 b w).1 ++ (mulD x 0 b w).2 :: List.replicate xs.length 0 = (pre ++ [h]) ++ (t ++ List.replicate xs.length 0) := by
      rw [List.append_assoc, List.append_assoc, ← List.singleton_append (x := (mulD x 0 b w).2), ← List.append_assoc (mulD x 0 b w).1, ht]
      simp
    have hin : InR ((mulD x 0 b w).1 ++ [(mulD x 0 b w).2]) := (c1z x b w 0).append (InR.cons hc.1 hc.2 InR.nil)
    rw [ht] at hin
    have htl : t.length = b.length := by
      have := congrArg List.length ht
      simp [hlen] at this
      omega
    have ih := c8c n a b kont hla hlb hb hn xs t (i + 1) (pre ++ [h]) m f2 hx.tail hin.tail htl (by simp; omega) (by omega)
    rw [e6, ih]
    simp only [mulF, ht, List.headD_cons, List.tail_cons, List.append_assoc, List.singleton_append]
  | _, _, _, _, 0, _, _, _, _, _, h => by omega
theorem c4n {a b : List Int} (ha : InR a) (hb : InR b) (hla : a.length < 536870912) (hlb : b.length < 536870912) : Ev (fun n => a8o n a b) (dig (val a * val b).toNat) := by
  unfold a8o
  refine Ev.step (by rw [a2q (by omega) (by omega), show (a.length : Int) + (b.length : Int) = ((a.length + b.length : Nat) : Int) by omega]; exact b8o (by omega)) ?_
  refine ⟨a.length + b.length + 1, fun n hn => ?_⟩
  have h1 := c8c n a b (fun (l3 : List Int) => (a2u n l3).bind fun v1 => some v1) (by omega) (by omega) hb (by omega) a (List.replicate b.length 0) 0 [] n rfl ha (InR.rep _) (by simp) rfl (by omega)
  simp only [List.nil_append, List.replicate_append_replicate] at h1
  rw [show ((0 : Nat) : Int) = 0 from rfl, Nat.add_comm] at h1
  dsimp only
  rw [h1, b7w (c1m hb _ _ ha (InR.rep _)) (by rw [b6o b a _ (by simp)]; omega) (by rw [b6o b a _ (by simp)]; omega)]
  simp only [Option.bind_some]
  rw [c0d b a _ (by simp), val_rep, Int.zero_add]
/- short -/
theorem c5q (n : Nat) (a : List Int) (d : Int) (kont : Int → List Int → Option (List Int × Int)) (ha : InR a) (hla : a.length < 1073741824) (hd : 0 < d) (hd1 : d ≤ 1048576) : ∀ (k : Nat) (m : Nat), k ≤ a.length → k < m →
    a6u n a d kont m (a5t d (a.drop k) 0).2 ((k : Int) - 1) (List.replicate k 0 ++ (a5t d (a.drop k) 0).1) = kont (a5t d a 0).2 (a5t d a 0).1
  | 0, m + 1, _, _ => by
    rw [b1h]
    have e1 : decide ((0 : Int) ≤ ((0 : Nat) : Int) - 1) = false := by decide
    rw [e1]; simp
  | k + 1, m + 1, hk, hm => by
    rw [b1h]
    have hk' : k < a.length := by omega
    have hdrop : a.drop k = a[k] :: a.drop (k + 1) := List.drop_eq_getElem_cons hk'
    have hx := ha a[k] (List.getElem_mem hk')
    have e0 : ((k + 1 : Nat) : Int) - 1 = (k : Int) := by omega
    have e1 : decide ((0 : Int) ≤ (k : Int)) = true := by simp
    have e2 : ix a (k : Int) = some a[k] := (a2z hdrop).1
    have hr := b5b hd (a.drop (k + 1)) 0 (by decide) hd
    rw [e0, e1, e2, b7c (by omega) (by omega)]
    simp only [cond_true, Option.bind_some]
    have e3 : 0 ≤ (a5t d (a.drop (k + 1)) 0).2 * 1048576 + a[k] := by omega
    rw [b6r hr.1 (by omega) hx.1 hx.2, b5p e3 (by omega) hd, b5m e3 hd, List.replicate_succ', List.append_assoc, List.singleton_append, a5x _ 0 _ (by simp)]
    simp only [Option.bind_some]
    rw [a6n _ 0 _ _ (by simp)]
    simp only [Option.bind_some]
    have e4 : isub .i64 (k : Int) 1 = (k : Int) - 1 := a2g (by omega) (by omega)
    have ih := c5q n a d kont ha hla hd hd1 k m (by omega) (by omega)
    rw [hdrop] at ih
    simp only [a5t] at ih
    rw [e4, ih]
  | _, 0, _, h => by omega
theorem c1r {a : List Int} {d : Int} (ha : InR a) (hla : a.length < 1073741824) (hd : 0 < d) (hd1 : d ≤ 1048576) {n : Nat} (hn : a.length < n) : a5s n a d = some (dig (val a / d).toNat, val a % d) := by
  unfold a5s
  rw [b8o (by omega), Option.bind_some]
  have h1 := c5q n a d (fun (rx2 : Int) (l3 : List Int) => (a2u n l3).bind fun v1 => some (v1, rx2)) ha hla hd hd1 a.length n (by omega) (by omega)
  simp only [List.drop_length, a5t, List.append_nil] at h1
  rw [a2g (by omega) (by omega), h1, b7w (b9k hd a 0 ha (by decide) hd) (by rw [b4z]; omega) (by rw [b4z]; omega)]
  simp only [Option.bind_some]
  have h2 := b7i (V := d) a 0
  have h3 := b5b hd a 0 (by decide) hd
  rw [valc_eq, Int.mul_zero, Int.add_zero] at h2
  have h4 : ((val (a5t d a 0).1) + 1) * d = val (a5t d a 0).1 * d + d := by grind
  obtain ⟨q1, q2⟩ := b9u (U := val a) (q := val (a5t d a 0).1) hd (by omega) (by omega)
  rw [q1, show (a5t d a 0).2 = val a % d by omega]
theorem c7c {a : List Int} {d : Int} (ha : InR a) (hla : a.length < 1073741824) (hd : 0 < d) (hd1 : d ≤ 1048576) : Ev (fun n => a5s n a d) (dig (val a / d).toNat, val a % d) :=
  ⟨a.length + 1, fun _ hn => c1r ha hla hd hd1 hn⟩
/- compare -/
theorem b4c (n : Nat) (x y : Int) : cmp_Compare_int n x y = some (sg (x - y)) := by
  unfold cmp_Compare_int cmp_isNaN_int
  simp only [Option.bind_some, bne_self_eq_false, cond_false]
  unfold sg
  by_cases h : x < y
  · simp only [h, decide_true, cond_true]; rw [if_pos (by omega)]
  · by_cases h2 : y < x
    · simp only [h, h2, decide_true, decide_false, cond_true, cond_false]; rw [if_neg (by omega), if_pos (by omega)]
    · simp only [h, h2, decide_false, cond_false]; rw [if_neg (by omega), if_neg (by omega)]
theorem c1l (n : Nat) (a b : List Int) (hl : a.length = b.length) (hla : a.length < 1099511627776) : ∀ (k : Nat) (m : Nat), k ≤ a.length → k < m → cmpD (a.drop k) (b.drop k) = 0 → a5n n a b (some 0) m ((k : Int) - 1) = some (cmpD a b)
  | 0, m + 1, _, _, h => by
    rw [a9c]
    have e1 : decide ((0 : Int) ≤ ((0 : Nat) : Int) - 1) = false := by decide
    rw [e1]
    simp only [List.drop_zero] at h
    rw [h]; rfl
  | k + 1, m + 1, hk, hm, h => by
    rw [a9c]
    have hk' : k < a.length := by omega
    have hkb : k < b.length := by omega
    have hda : a.drop k = a[k] :: a.drop (k + 1) := List.drop_eq_getElem_cons hk'
    have hdb : b.drop k = b[k] :: b.drop (k + 1) := List.drop_eq_getElem_cons hkb
    have e0 : ((k + 1 : Nat) : Int) - 1 = (k : Int) := by omega
    have e1 : decide ((0 : Int) ≤ (k : Int)) = true := by simp
    rw [e0, e1, (a2z hda).1, (a2z hdb).1]
    simp only [cond_true, Option.bind_some, b4c]
    have e2 : cmpD (a.drop k) (b.drop k) = sg (a[k] - b[k]) := by rw [hda, hdb]; simp only [cmpD, h, if_true]
    by_cases hne : a[k] = b[k]
    · have e3 : (a[k] != b[k]) = false := by simp [hne]
      rw [e3]
      simp only [cond_false]
      rw [a2g (by omega) (by omega)]
      refine c1l n a b hl hla k m (by omega) (by omega) ?_
      rw [e2, hne]; simp [sg]
    · have e3 : (a[k] != b[k]) = true := by simpa using hne
      rw [e3]
      simp only [cond_true]
      have e4 : sg (a[k] - b[k]) ≠ 0 := by unfold sg; split <;> (try split) <;> omega
      rw [cmpD_drop k a b (by rw [e2]; exact e4), e2]
  | _, 0, _, h, _ => by omega
theorem c1c {a b : List Int} (ha : Canon a) (hb : Canon b) (hla : a.length < 1099511627776) {n : Nat} (hn : a.length < n) : a6p n a b = some (sg (val a - val b)) := by
  unfold a6p
  by_cases hl : a.length = b.length
  · have e1 : ((a.length : Int) != (b.length : Int)) = false := by rw [hl]; simp
    rw [e1]
    simp only [cond_false]
    have h := c1l n a b hl hla a.length n (Nat.le_refl _) hn (by rw [List.drop_length]; rfl)
    rw [a2g (by omega) (by omega), h, cmpD_val ha.1 hb.1 hl]
  · have e1 : ((a.length : Int) != (b.length : Int)) = true := by simp; omega
    rw [e1]
    simp only [cond_true, b4c, Option.bind_some]
    congr 1
    unfold sg
    rcases Nat.lt_or_ge a.length b.length with h | h
    · have := val_lt_of_len ha.1 hb h
      rw [if_pos (by omega), if_pos (by omega)]
    · have := val_lt_of_len hb.1 ha (by omega)
      rw [if_neg (by omega), if_pos (by omega), if_neg (by omega), if_pos (by omega)]
end Go.Proofs.YtaanocaobllohaaGreatDoor.D

/-
  THE LOOPS OF THE BIG INTEGERS' DIGITS, third part: the long division.
-/
namespace Go.Proofs.YtaanocaobllohaaGreatDoor.D
open Go Rt M
/-- the guess -/
theorem c9x (n : Nat) (v u : List Int) (k : Nat) {vl ul lo zs : List Int} {v1 v2 t1 t0 u2 : Int} (hv : v = vl ++ [v2, v1]) (hu : u = lo ++ (ul ++ [u2, t0, t1]) ++ zs) (hlo : lo.length = k) (hul : ul.length = vl.length)
    (hlv : v.length < 1073741824) (hlu : u.length < 1073741824) (hvi : InR v) (hui : InR (ul ++ [u2, t0, t1])) (hv1 : 1 ≤ v1) (hlt : val (ul ++ [u2, t0, t1]) < 1048576 * val v) :
    ∀ (N : Nat) (g rest : Int), g.toNat = N → 0 ≤ g → 0 ≤ rest → g * v1 + rest = t1 * 1048576 + t0 → val (ul ++ [u2, t0, t1]) < (g + 1) * val v →
      ∃ g', 0 ≤ g' ∧ g' ≤ 1048576 ∧ val (ul ++ [u2, t0, t1]) < (g' + 1) * val v ∧ (g' - 1) * val v ≤ val (ul ++ [u2, t0, t1]) ∧ ∀ (kont : Int → Option (List Int × List Int)) m, N < m → a7s n v (k : Int) u kont m g rest = kont g' := by
  have hv2 : 0 ≤ v2 ∧ v2 < 1048576 := hvi v2 (by rw [hv]; simp)
  have hv1' : 0 ≤ v1 ∧ v1 < 1048576 := hvi v1 (by rw [hv]; simp)
  have ht1 : 0 ≤ t1 ∧ t1 < 1048576 := hui t1 (by simp)
  have ht0 : 0 ≤ t0 ∧ t0 < 1048576 := hui t0 (by simp)
  have hu2 : 0 ≤ u2 ∧ u2 < 1048576 := hui u2 (by simp)
  have hvl : InR vl := fun e he => hvi e (by rw [hv]; simp [he])
  have hull : InR ul := fun e he => hui e (by simp [he])
  have eV : val v = val vl + pw vl.length * (v2 + 1048576 * v1) := by rw [hv, val_append]; simp [val]
  have eU : val (ul ++ [u2, t0, t1]) = val ul + pw vl.length * (u2 + 1048576 * (t1 * 1048576 + t0)) := by
    rw [val_append, hul]
    simp only [val]
    have : t0 + 1048576 * (t1 + 1048576 * 0) = t1 * 1048576 + t0 := by omega
    rw [this]
  have hP := pw_pos vl.length
  have hvlP := val_lt hvl
  have hulP := val_lt hull
  rw [hul] at hulP
  have hvl0 := val_nonneg hvl
  have hul0 := val_nonneg hull
  have hlen : v.length = vl.length + 2 := by rw [hv]; simp
  have hlenu : u.length = k + vl.length + 3 + zs.length := by rw [hu]; simp [hlo, hul]; omega
  -- the places that are read
  have i1 : isub .i64 (v.length : Int) 2 = ((vl.length : Nat) : Int) := by rw [a2g (by omega) (by omega)]; omega
  have i2 : isub .i64 (v.length : Int) 1 = ((vl.length + 1 : Nat) : Int) := by rw [a2g (by omega) (by omega)]; omega
  have i3 : isub .i64 (iadd .i64 (k : Int) (v.length : Int)) 2 = ((k + vl.length : Nat) : Int) := by rw [a2q (by omega) (by omega), a2g (by omega) (by omega)]; omega
  have r1 : ix v ((vl.length : Nat) : Int) = some v2 := by rw [hv]; exact a5x vl v2 [v1] rfl
  have r2 : ix v ((vl.length + 1 : Nat) : Int) = some v1 := by
    rw [hv, show vl ++ [v2, v1] = (vl ++ [v2]) ++ [v1] by simp]; exact a5x (vl ++ [v2]) v1 [] (by simp)
  have r3 : ix u ((k + vl.length : Nat) : Int) = some u2 := by
    rw [hu, show lo ++ (ul ++ [u2, t0, t1]) ++ zs = (lo ++ ul) ++ u2 :: ([t0, t1] ++ zs) by simp]
    exact a5x (lo ++ ul) u2 _ (by simp [hlo, hul])
  intro N
  induction N with
  | zero =>
    intro g rest hg h0 hr hT hq
    have hg0 : g = 0 := by omega
    subst hg0
    refine ⟨0, by decide, by decide, hq, ?_, fun kont m hm => ?_⟩
    · have : 0 ≤ val v := val_nonneg hvi
      have := val_nonneg hui
      omega
    · obtain ⟨m, rfl⟩ : ∃ m', m = m' + 1 := ⟨m - 1, by omega⟩
      rw [b0w]
      have e1 : decide ((1048576 : Int) ≤ 0) = false := by decide
      rw [e1]
      simp only [cond_false]
      by_cases hr2 : rest < 1048576
      · have e2 : decide (rest < 1048576) = true := by simpa using hr2
        rw [e2, i1, r1, i3, r3, b7c (by omega) (by omega)]
        simp only [cond_true, Option.bind_some]
        rw [b6r hr (by omega) hu2.1 hu2.2, a6k (by omega) (by omega)]
        have e3 : decide (rest * 1048576 + u2 < 0 * v2) = false := by simp; omega
        rw [e3]; rfl
      · have e2 : decide (rest < 1048576) = false := by simpa using hr2
        rw [e2]; rfl
  | succ N ih =>
    intro g rest hg h0 hr hT hq
    -- what the test says
    by_cases hbig : 1048576 ≤ g ∨ (rest < 1048576 ∧ rest * 1048576 + u2 < g * v2)
    · -- one less
      have hq' : val (ul ++ [u2, t0, t1]) < (g - 1 + 1) * val v := by
        rw [show g - 1 + 1 = g by omega]
        rcases hbig with h | ⟨h1, h2⟩
        · have : 1048576 * val v ≤ g * val v := Int.mul_le_mul_of_nonneg_right h (val_nonneg hvi)
          omega
        · rw [eU, eV]
          exact c3u rfl hT hvl0 hulP h0 h2 hP
      have hT' : (g - 1) * v1 + (rest + v1) = t1 * 1048576 + t0 := by rw [← hT]; grind
      obtain ⟨g', a1, a2, a3, a4, a5⟩ := ih (g - 1) (rest + v1) (by omega) (by omega) (by omega) hT' hq'
      have hgv : 0 ≤ g * v1 := Int.mul_nonneg h0 (by omega)
      have hgle : g * 1 ≤ g * v1 := Int.mul_le_mul_of_nonneg_left hv1 h0
      refine ⟨g', a1, a2, a3, a4, fun kont m hm => ?_⟩
      obtain ⟨m, rfl⟩ : ∃ m', m = m' + 1 := ⟨m - 1, by omega⟩
      rw [b0w]
      have hflag : ((bif decide ((1048576 : Int) ≤ g) then some true else (bif decide (rest < 1048576) then (ix v (isub .i64 (v.length : Int) 2)).bind fun ex8 => (shl .i64 rest 20).bind fun q4 => (ix u (isub .i64 (iadd .i64 (k : Int) (v.length : Int)) 2)).bind fun ex9 => some (decide ((ior .i64 q4 ex9) < (imul .i64 g ex8))) else some false).bind fun v12 => some v12) : Option Bool) = some true := by
        by_cases hgB : 1048576 ≤ g
        · rw [show decide ((1048576 : Int) ≤ g) = true by simpa using hgB]; rfl
        · rcases hbig with h | ⟨h1, h2⟩
          · exact absurd h hgB
          · have hm1 := b4j (g := g) h0 hv2.1 hv2.2
            rw [show decide ((1048576 : Int) ≤ g) = false by simpa using hgB, show decide (rest < 1048576) = true by simpa using h1, i1, r1, i3, r3, b7c (by omega) (by omega)]
            simp only [cond_true, cond_false, Option.bind_some]
            rw [b6r hr (by omega) hu2.1 hu2.2, a6k (by omega) (by omega), show decide (rest * 1048576 + u2 < g * v2) = true by simpa using h2]
      rw [hflag]
      simp only [Option.bind_some, cond_true]
      rw [i2, r2]
      simp only [Option.bind_some]
      rw [a2g (by omega) (by omega), a2q (by omega) (by omega)]
      exact a5 kont m (by omega)
    · -- it stays
      have hgB : g < 1048576 := by omega
      have hsm : g * v2 ≤ rest * 1048576 + u2 := by
        by_cases h1 : rest < 1048576
        · omega
        · have hm1 := b4j (g := g) h0 hv2.1 hv2.2
          omega
      refine ⟨g, h0, by omega, hq, ?_, fun kont m hm => ?_⟩
      · rw [eU, eV]
        exact c4p rfl hT hvl0 (by omega) hul0 (by omega) hsm hP hv1 hv2.1
      · obtain ⟨m, rfl⟩ : ∃ m', m = m' + 1 := ⟨m - 1, by omega⟩
        rw [b0w]
        have hflag : ((bif decide ((1048576 : Int) ≤ g) then some true else (bif decide (rest < 1048576) then (ix v (isub .i64 (v.length : Int) 2)).bind fun ex8 => (shl .i64 rest 20).bind fun q4 => (ix u (isub .i64 (iadd .i64 (k : Int) (v.length : Int)) 2)).bind fun ex9 => some (decide ((ior .i64 q4 ex9) < (imul .i64 g ex8))) else some false).bind fun v12 => some v12) : Option Bool) = some false := by
          rw [show decide ((1048576 : Int) ≤ g) = false by simp; omega]
          by_cases h1 : rest < 1048576
          · have hm1 := b4j (g := g) h0 hv2.1 hv2.2
            rw [show decide (rest < 1048576) = true by simpa using h1, i1, r1, i3, r3, b7c (by omega) (by omega)]
            simp only [cond_true, cond_false, Option.bind_some]
            rw [b6r hr (by omega) hu2.1 hu2.2, a6k (by omega) (by omega), show decide (rest * 1048576 + u2 < g * v2) = false by simp; omega]
          · rw [show decide (rest < 1048576) = false by simpa using h1]; rfl
        rw [hflag]; rfl
theorem d1n {l : List Int} (h : 3 ≤ l.length) : ∃ ul a b c, l = ul ++ [a, b, c] := by
  refine ⟨l.take (l.length - 3), l[l.length - 3], l[l.length - 2], l[l.length - 1], ?_⟩
  have h1 : l.drop (l.length - 3) = [l[l.length - 3], l[l.length - 2], l[l.length - 1]] := by
    rw [List.drop_eq_getElem_cons (by omega), List.drop_eq_getElem_cons (by omega), List.drop_eq_getElem_cons (by omega), List.drop_eq_nil_of_le (by omega)]
    simp only [show l.length - 3 + 1 = l.length - 2 by omega, show l.length - 2 + 1 = l.length - 1 by omega]
  rw [← h1, List.take_append_drop]
theorem d1f {l : List Int} (h : 2 ≤ l.length) : ∃ ul a b, l = ul ++ [a, b] := by
  refine ⟨l.take (l.length - 2), l[l.length - 2], l[l.length - 1], ?_⟩
  have h1 : l.drop (l.length - 2) = [l[l.length - 2], l[l.length - 1]] := by
    rw [List.drop_eq_getElem_cons (by omega), List.drop_eq_getElem_cons (by omega), List.drop_eq_nil_of_le (by omega)]
    simp only [show l.length - 2 + 1 = l.length - 1 by omega]
  rw [← h1, List.take_append_drop]
theorem c6m {l : List Int} (h : 1 ≤ l.length) : ∃ ul a, l = ul ++ [a] :=
  ⟨l.take (l.length - 1), l[l.length - 1], by
    have h1 : l.drop (l.length - 1) = [l[l.length - 1]] := by
      rw [List.drop_eq_getElem_cons (by omega), List.drop_eq_nil_of_le (by omega)]
    rw [← h1, List.take_append_drop]⟩
theorem c2f {P Ul u2 T V1 V2 Vl g : Int} (hP : 0 < P) (hU : Ul < P) (hu : u2 < 1048576) (hV : 0 ≤ Vl) (h2 : 0 ≤ V2) (hg : T < (g + 1) * V1) (hg0 : 0 ≤ g) :
    Ul + P * (u2 + 1048576 * T) < (g + 1) * (Vl + P * (V2 + 1048576 * V1)) := by
  have e1 : P * u2 ≤ P * 1048575 := Int.mul_le_mul_of_nonneg_left (by omega) (by omega)
  have e2 : P * (T + 1) ≤ P * ((g + 1) * V1) := Int.mul_le_mul_of_nonneg_left (by omega) (by omega)
  have e3 : 0 ≤ (g + 1) * Vl := Int.mul_nonneg (by omega) hV
  have e4 : 0 ≤ (g + 1) * (P * V2) := Int.mul_nonneg (by omega) (Int.mul_nonneg (by omega) h2)
  have e5 : (g + 1) * (Vl + P * (V2 + 1048576 * V1)) = (g + 1) * Vl + (g + 1) * (P * V2) + 1048576 * (P * ((g + 1) * V1)) := by grind
  have e6 : Ul + P * (u2 + 1048576 * T) = Ul + P * u2 + 1048576 * (P * (T + 1)) - 1048576 * P := by grind
  omega
/-- the rounds of the long division -/
theorem c7m (n : Nat) (v : List Int) (kont : List Int → List Int → Option (List Int × List Int)) (hv : Canon v) (hl2 : 2 ≤ v.length) (hlv : v.length < 268435456) (hn : 4398046511104 < n) :
    ∀ (k : Nat) (lo w zs qd : List Int) (m : Nat), lo.length = k → w.length = v.length → InR lo → InR w → InR zs → val zs = 0 → val w < val v → k + v.length + zs.length < 1073741824 → k < m →
      ∃ uf, a6x n v kont m ((k : Int) - 1) (List.replicate k 0 ++ qd) (lo ++ (w ++ zs)) = kont ((a5t (val v) lo (val w)).1 ++ qd) uf ∧ InR uf ∧ uf.length = k + v.length + zs.length ∧ val uf = (a5t (val v) lo (val w)).2
  | 0, lo, w, zs, qd, m + 1, hlo, hw, hil, hiw, hiz, hz, hlt, hlen, hm => by
    have : lo = [] := List.eq_nil_of_length_eq_zero hlo
    subst this
    refine ⟨w ++ zs, ?_, hiw.append hiz, by simp [hw], ?_⟩
    · rw [b2j]
      have e1 : decide ((0 : Int) ≤ ((0 : Nat) : Int) - 1) = false := by decide
      rw [e1]; simp [a5t]
    · rw [val_append, hz]; simp [a5t]
  | k + 1, lo, w, zs, qd, m + 1, hlo, hw, hil, hiw, hiz, hz, hlt, hlen, hm => by
    obtain ⟨lo', d, rfl⟩ := c6m (l := lo) (by omega)
    obtain ⟨vl, v2, v1, hvd⟩ := d1f hl2
    obtain ⟨ul, u2, t0, t1, hwin⟩ := d1n (l := d :: w) (by simp; omega)
    have hlo' : lo'.length = k := by simpa using hlo
    have hid : 0 ≤ d ∧ d < 1048576 := hil d (by simp)
    have hiwin : InR (ul ++ [u2, t0, t1]) := by rw [← hwin]; exact InR.cons hid.1 hid.2 hiw
    have hv1 : 1 ≤ v1 ∧ v1 < 1048576 := by
      have h1 := hv.1 v1 (by rw [hvd]; simp)
      have h2 := hv.2
      rw [hvd] at h2
      have : v1 ≠ 0 := by simpa using h2
      omega
    have ht1 : 0 ≤ t1 ∧ t1 < 1048576 := hiwin t1 (by simp)
    have ht0 : 0 ≤ t0 ∧ t0 < 1048576 := hiwin t0 (by simp)
    have hu2 : 0 ≤ u2 ∧ u2 < 1048576 := hiwin u2 (by simp)
    have hv2 : 0 ≤ v2 ∧ v2 < 1048576 := hv.1 v2 (by rw [hvd]; simp)
    have hvll : v.length = vl.length + 2 := by rw [hvd]; simp
    have hull : ul.length = vl.length := by
      have := congrArg List.length hwin
      simp at this; omega
    have hV := val_nonneg hv.1
    have hU0 := val_nonneg hiwin
    have hUw : val (ul ++ [u2, t0, t1]) = d + 1048576 * val w := by rw [← hwin]; rfl
    have hw0 := val_nonneg hiw
    have hult : val (ul ++ [u2, t0, t1]) < 1048576 * val v := by omega
    have eV : val v = val vl + pw vl.length * (v2 + 1048576 * v1) := by rw [hvd, val_append]; simp [val]
    have eU : val (ul ++ [u2, t0, t1]) = val ul + pw vl.length * (u2 + 1048576 * (t1 * 1048576 + t0)) := by
      rw [val_append, hull]
      simp only [val]
      have : t0 + 1048576 * (t1 + 1048576 * 0) = t1 * 1048576 + t0 := by omega
      rw [this]
    obtain ⟨T, hT⟩ : ∃ T, T = t1 * 1048576 + t0 := ⟨_, rfl⟩
    have hT0 : 0 ≤ T := by omega
    have hT1 : T < 1099511627776 := by omega
    have hg0 : 0 ≤ T / v1 := Int.ediv_nonneg hT0 (by omega)
    have hgT : T / v1 ≤ T := Int.ediv_le_self v1 hT0
    have hr0 : 0 ≤ T % v1 := Int.emod_nonneg _ (by omega)
    have hr1 : T % v1 < v1 := Int.emod_lt_of_pos _ (by omega)
    have hsum : T / v1 * v1 + T % v1 = T := by have := Int.mul_ediv_add_emod T v1; rw [Int.mul_comm] at this; exact this
    have hq0 : val (ul ++ [u2, t0, t1]) < (T / v1 + 1) * val v := by
      rw [eU, eV, ← hT]
      have h1 := val_lt (l := ul) (fun e he => hiwin e (by simp [he]))
      rw [hull] at h1
      refine c2f (pw_pos _) h1 hu2.2 (val_nonneg (fun e he => hv.1 e (by rw [hvd]; simp [he]))) hv2.1 ?_ hg0
      rw [Int.add_mul, Int.one_mul]; omega
    obtain ⟨u, hu⟩ : ∃ u, u = lo' ++ (ul ++ [u2, t0, t1]) ++ zs := ⟨_, rfl⟩
    have hu' : lo' ++ [d] ++ (w ++ zs) = u := by rw [hu, ← hwin]; simp
    have hulen : u.length = k + v.length + 1 + zs.length := by rw [← hu']; simp [hlo', hw]; omega
    obtain ⟨g', a1, a2, a3, a4, a5⟩ := c9x n v u k hvd hu hlo' hull (by omega) (by omega) hv.1 hiwin hv1.1 hult (T / v1).toNat (T / v1) (T % v1) rfl hg0 hr0 (by rw [hsum, hT]) hq0
    obtain ⟨r, s1, s2, s3, s4⟩ := c6d (n := n) hiwin hv.1 (by simp; omega) (by simp; omega) a1 a2 (by omega) a3 a4 (by simp; omega)
    -- what is left is smaller than the divisor: its top digit is 0
    have hVpos : 0 < val v := by omega
    have hrlt : val r < val v := by rw [s4]; exact Int.emod_lt_of_pos _ hVpos
    obtain ⟨w'', z, hrw⟩ := c6m (l := r) (by rw [s3]; simp)
    have hw''l : w''.length = v.length := by
      have := congrArg List.length hrw
      rw [s3] at this
      simp at this; omega
    have hz0 : z = 0 := by
      have h1 := val_lt hv.1
      have h2 : 0 ≤ z ∧ z < 1048576 := s2 z (by rw [hrw]; simp)
      have h3 := val_nonneg (l := w'') (fun e he => s2 e (by rw [hrw]; simp [he]))
      rw [hrw, val_append, hw''l] at hrlt
      simp only [val, Int.mul_zero, Int.add_zero] at hrlt
      rcases (show z = 0 ∨ 1 ≤ z by omega) with h4 | h4
      · exact h4
      · have h5 : pw v.length * 1 ≤ pw v.length * z := Int.mul_le_mul_of_nonneg_left h4 (by have := pw_pos v.length; omega)
        omega
    subst hz0
    have hrval : val r = val w'' := by rw [hrw, val_append]; simp [val]
    have hiw'' : InR w'' := fun e he => s2 e (by rw [hrw]; simp [he])
    have hqi : InR [val (ul ++ [u2, t0, t1]) / val v] := InR.cons (Int.ediv_nonneg hU0 (by omega)) (Int.ediv_lt_of_lt_mul hVpos (by omega)) InR.nil
    obtain ⟨uf, b1, b2, b3, b4⟩ := c7m n v kont hv hl2 hlv hn k lo' w'' (0 :: zs) (val (ul ++ [u2, t0, t1]) / val v :: qd) m hlo' hw''l (fun e he => hil e (by simp [he])) hiw'' (InR.cons (by decide) (by decide) hiz) (by simp [val, hz]) (by omega) (by simp; omega) (by omega)
    refine ⟨uf, ?_, b2, by rw [b3]; simp; omega, ?_⟩
    · rw [b2j, hu']
      have e0 : ((k + 1 : Nat) : Int) - 1 = (k : Int) := by omega
      have e1 : decide ((0 : Int) ≤ (k : Int)) = true := by simp
      have i1 : iadd .i64 (k : Int) (v.length : Int) = ((k + v.length : Nat) : Int) := by rw [a2q (by omega) (by omega)]; omega
      have i2 : isub .i64 ((k + v.length : Nat) : Int) 1 = ((k + vl.length + 1 : Nat) : Int) := by rw [a2g (by omega) (by omega)]; omega
      have i3 : isub .i64 (v.length : Int) 1 = ((vl.length + 1 : Nat) : Int) := by rw [a2g (by omega) (by omega)]; omega
      have r1 : ix u ((k + v.length : Nat) : Int) = some t1 := by
        rw [hu, show lo' ++ (ul ++ [u2, t0, t1]) ++ zs = (lo' ++ (ul ++ [u2, t0])) ++ t1 :: zs by simp]
        exact a5x _ t1 _ (by simp [hlo', hull]; omega)
      have r2 : ix u ((k + vl.length + 1 : Nat) : Int) = some t0 := by
        rw [hu, show lo' ++ (ul ++ [u2, t0, t1]) ++ zs = (lo' ++ (ul ++ [u2])) ++ t0 :: (t1 :: zs) by simp]
        exact a5x _ t0 _ (by simp [hlo', hull]; omega)
      have r3 : ix v ((vl.length + 1 : Nat) : Int) = some v1 := by
        rw [hvd, show vl ++ [v2, v1] = (vl ++ [v2]) ++ [v1] by simp]; exact a5x (vl ++ [v2]) v1 [] (by simp)
      rw [e0, e1, i1, r1, cond_true, Option.bind_some, b7c (by omega) (by omega), Option.bind_some, i2, r2, Option.bind_some, i3, r3, Option.bind_some, b6r ht1.1 (by omega) ht0.1 ht0.2, ← hT, b5p hT0 (by omega) (by omega), Option.bind_some, Option.bind_some, b5m hT0 (by omega), Option.bind_some]
      rw [a5 _ n (by omega)]
      have i4 : iadd .i64 ((k + v.length : Nat) : Int) 1 = ((k + v.length + 1 : Nat) : Int) := b2m (by omega)
      have r4 : lsl u (k : Int) ((k + v.length + 1 : Nat) : Int) = some (ul ++ [u2, t0, t1]) := by
        rw [c4b (by omega) (by omega), hu]
        congr 1
        rw [List.take_append_of_le_length (by simp [hlo', hull]; omega), List.take_of_length_le (by simp [hlo', hull]; omega), ← hlo', List.drop_left]
      rw [i4, r4, Option.bind_some, s1, Option.bind_some, List.replicate_succ', List.append_assoc, List.singleton_append, a5x _ 0 _ (by simp), Option.bind_some, a6n _ 0 _ _ (by simp), Option.bind_some, a2g (by omega) (by omega)]
      have r5 : lput u (k : Int) r ((k + v.length + 1 : Nat) : Int) = lo' ++ (w'' ++ 0 :: zs) := by
        have hX : (lo' ++ (ul ++ [u2, t0, t1])).length = k + v.length + 1 := by simp [hlo', hull]; omega
        have d1 : u.drop (k + v.length + 1) = zs := by rw [hu, ← hX]; exact List.drop_left
        have d2 : u.take k = lo' := by rw [hu, List.append_assoc, ← hlo']; exact List.take_left
        unfold lput
        rw [Int.toNat_natCast, Int.toNat_natCast, d1, d2, hrw]
        simp
      rw [r5, b1]
      congr 1
      rw [b2u]
      simp only [a5t]
      have e2 : val w * 1048576 + d = val (ul ++ [u2, t0, t1]) := by omega
      rw [e2, ← s4, hrval]
      simp
    · rw [b4, b2u]
      simp only [a5t]
      have e2 : val w * 1048576 + d = val (ul ++ [u2, t0, t1]) := by omega
      rw [e2, ← s4, hrval]
  | _, _, _, _, _, 0, _, _, _, _, _, _, _, _, h => by omega
/-- the shift -/
theorem d0n (b : List Int) (hl : 1 ≤ b.length) (hlb : b.length < 1073741824) {top : Int} (htop : ix b ((b.length - 1 : Nat) : Int) = some top) (h1 : 1 ≤ top) (h2 : top < 1048576) :
    ∀ (N j : Nat), j + N = 19 → ∃ s' : Int, 1 ≤ s' ∧ s' ≤ 524288 ∧ ∀ (n : Nat) (kont : Int → Option (List Int × List Int)) m, N < m → a8p n b kont m ((2 ^ j : Nat) : Int) = kont s' := by
  have i1 : isub .i64 (b.length : Int) 1 = ((b.length - 1 : Nat) : Int) := by rw [a2g (by omega) (by omega)]; omega
  have htm : ∀ s : Int, 1 ≤ s → s ≤ 524288 → 0 ≤ top * s ∧ top * s ≤ 549755813888 := fun s a1 a2 =>
    ⟨Int.mul_nonneg (by omega) (by omega), by have := Int.mul_le_mul (show top ≤ 1048576 by omega) a2 (by omega) (by omega); omega⟩
  have hpow : ∀ j : Nat, j ≤ 19 → 1 ≤ ((2 ^ j : Nat) : Int) ∧ ((2 ^ j : Nat) : Int) ≤ 524288 := fun j hj => by
    have h1 := Nat.pow_le_pow_right (n := 2) (by decide) hj
    have h2 := Nat.pow_pos (n := j) (show 0 < 2 by decide)
    have h3 : 2 ^ 19 = 524288 := by decide
    omega
  intro N
  induction N with
  | zero =>
    intro j hj
    obtain rfl : j = 19 := by omega
    have hp := hpow 19 (by omega)
    refine ⟨((2 ^ 19 : Nat) : Int), hp.1, hp.2, fun n kont m hm => ?_⟩
    obtain ⟨m, rfl⟩ : ∃ m', m = m' + 1 := ⟨m - 1, by omega⟩
    have := htm _ hp.1 hp.2
    have hs : ((2 ^ 19 : Nat) : Int) = 524288 := by decide
    have e1 : decide (top * ((2 ^ 19 : Nat) : Int) < 524288) = false := by
      rw [hs, decide_eq_false_iff_not]
      omega
    rw [b0x, i1, htop, Option.bind_some, a6k (by omega) (by omega), e1, cond_false]
  | succ N ih =>
    intro j hj
    have hp := hpow j (by omega)
    have hp2 := hpow (j + 1) (by omega)
    have hm0 := htm _ hp.1 hp.2
    have hdbl : ((2 ^ j : Nat) : Int) * 2 = ((2 ^ (j + 1) : Nat) : Int) := by rw [Nat.pow_succ]; omega
    by_cases h : top * ((2 ^ j : Nat) : Int) < 524288
    · obtain ⟨s', a1, a2, a3⟩ := ih (j + 1) (by omega)
      refine ⟨s', a1, a2, fun n kont m hm => ?_⟩
      obtain ⟨m, rfl⟩ : ∃ m', m = m' + 1 := ⟨m - 1, by omega⟩
      rw [b0x, i1, htop, Option.bind_some, a6k (by omega) (by omega), show decide (top * ((2 ^ j : Nat) : Int) < 524288) = true by simpa using h, cond_true, a6k (by omega) (by omega), hdbl]
      exact a3 n kont m (by omega)
    · refine ⟨_, hp.1, hp.2, fun n kont m hm => ?_⟩
      obtain ⟨m, rfl⟩ : ∃ m', m = m' + 1 := ⟨m - 1, by omega⟩
      rw [b0x, i1, htop, Option.bind_some, a6k (by omega) (by omega), show decide (top * ((2 ^ j : Nat) : Int) < 524288) = false by rw [decide_eq_false_iff_not]; exact h, cond_false]
theorem b9z {a b s : Nat} (hs : 0 < s) : a * s / (b * s) = a / b ∧ a * s % (b * s) = a % b * s := ⟨Nat.mul_div_mul_right _ _ hs, Nat.mul_mod_mul_right _ _ _⟩
/-- the division of digits -/
theorem c7z {x y : Nat} (hy : y ≠ 0) (hlx : (dig x).length < 16777216) (hly : (dig y).length < 16777216) : Ev (fun n => b3b n (dig x) (dig y)) (dig (x / y), dig (x % y)) := by
  unfold b3b
  refine Ev.bind (a := sg ((x : Int) - y)) ⟨(dig x).length + 1, fun n hn => ?_⟩ ?_
  · have := c1c (n := n) (a8x x) (a8x y) (by omega) (by omega)
    rw [a2c, a2c] at this; exact this
  by_cases hlt : x < y
  · refine Ev.then (by simp [sg]; omega) ?_
    refine Ev.bind (b4t (by omega)) ?_
    rw [Nat.div_eq_of_lt hlt, Nat.mod_eq_of_lt hlt, dig_zero]
    exact Ev.pure _
  refine Ev.else (by simp [sg]; split <;> (try split) <;> omega) ?_
  have hyl : 1 ≤ (dig y).length := by
    have := b1n hy
    cases h : dig y with
    | nil => exact absurd h this
    | cons => simp
  by_cases h1 : (dig y).length = 1
  · refine Ev.then (by simp [h1]) ?_
    obtain ⟨d, hd⟩ : ∃ d, dig y = [d] := List.length_eq_one_iff.1 h1
    have hdy : d = y := by have := a2c y; rw [hd] at this; simpa [val] using this
    have hd1 : 0 ≤ d ∧ d < 1048576 := a2p y d (by rw [hd]; simp)
    refine Ev.step (a := d) (by rw [hd]; rfl) ?_
    refine Ev.bind (c7c (a2p x) (by omega) (by omega) (by omega)) ?_
    have hm : 0 ≤ (x : Int) % y ∧ (x : Int) % y < 1048576 := ⟨Int.emod_nonneg _ (by omega), by have := Int.emod_lt_of_pos (x : Int) (show (0 : Int) < y by omega); omega⟩
    refine Ev.bind (c2g (InR.cons (by rw [a2c, hdy]; exact hm.1) (by rw [a2c, hdy]; exact hm.2) InR.nil) (by simp)) ?_
    refine (Ev.pure _).eq ?_
    simp only [a2c, hdy, val, Int.mul_zero, Int.add_zero]
    rw [← Int.natCast_ediv, ← Int.natCast_emod, Int.toNat_natCast, Int.toNat_natCast]
  refine Ev.else (by simp; omega) ?_
  -- the long way
  obtain ⟨pl, top, hpt⟩ := c6m (l := dig y) hyl
  have htop : ix (dig y) (((dig y).length - 1 : Nat) : Int) = some top := by
    have : ∀ l : List Int, l = pl ++ [top] → ix l ((l.length - 1 : Nat) : Int) = some top := fun l hl => by subst hl; exact a5x pl top [] (by simp)
    exact this _ hpt
  have ht1 : 0 ≤ top ∧ top < 1048576 := a2p y top (by rw [hpt]; simp)
  have ht2 : top ≠ 0 := by have := b4x y; rw [hpt] at this; simpa using this
  obtain ⟨s, hs1, hs2, hL1⟩ := d0n (dig y) hyl (by omega) htop (by omega) ht1.2 19 0 rfl
  rw [show ((2 ^ 0 : Nat) : Int) = 1 from rfl] at hL1
  refine Ev.from 20 (fun n hn => hL1 n _ n (by omega)) ?_
  obtain ⟨S, rfl⟩ := Int.eq_ofNat_of_zero_le (show 0 ≤ s by omega)
  have hS : 0 < S := by omega
  have hSi : InR [(S : Int)] := InR.cons (by omega) (by omega) InR.nil
  have hmul : ∀ z : Nat, (val (dig z) * val [(S : Int)]).toNat = z * S := fun z => by
    rw [a2c]; simp only [val, Int.mul_zero, Int.add_zero]
    rw [← Int.natCast_mul, Int.toNat_natCast]
  have m1 := c4n (a2p x) hSi (by omega) (by simp)
  have m2 := c4n (a2p y) hSi (by omega) (by simp)
  rw [hmul] at m1 m2
  have hxS : x ≤ x * S := Nat.le_mul_of_pos_right _ hS
  have hyS : y ≤ y * S := Nat.le_mul_of_pos_right _ hS
  have hxy : y * S ≤ x * S := Nat.mul_le_mul_right _ (by omega)
  have l1 := a3e hxS
  have l2 := a3e hyS
  have l3 := a3e hxy
  have l4 : (dig (x * S)).length ≤ (dig x).length + 1 := by
    have h := b6o [(S : Int)] (dig x) [0] rfl
    have h2 := b5t (c1m hSi (dig x) [0] (a2p x) (InR.rep 1))
    rw [c0d [(S : Int)] (dig x) [0] rfl, show val [(0 : Int)] = 0 from rfl, Int.zero_add, hmul, h] at h2
    simpa using h2
  refine Ev.bind m1 ?_
  refine Ev.step (a := dig (x * S) ++ [0]) (b4w (by simp; omega)) ?_
  refine Ev.bind m2 ?_
  refine Ev.step (a := dig (x * S) ++ [0]) (by
    have : (((dig (x * S) ++ [(0 : Int)]).length : Int) == ((dig x).length : Int)) = false := by simp; omega
    rw [this, cond_false]) ?_
  obtain ⟨k, hk⟩ : ∃ k, (dig (x * S)).length + 1 = (dig (y * S)).length + k := ⟨(dig (x * S)).length + 1 - (dig (y * S)).length, by omega⟩
  have hk1 : 1 ≤ k := by omega
  have hkle : k ≤ (dig (x * S)).length := by omega
  refine Ev.step (a := List.replicate k 0) (by
    rw [a2g (by simp; omega) (by simp; omega), show (((dig (x * S) ++ [(0 : Int)]).length : Int) - ((dig (y * S)).length : Int)) = (k : Int) by simp; omega]
    exact b8o (by omega)) ?_
  -- the rounds
  have hyS0 : y * S ≠ 0 := by omega
  obtain ⟨pl', top', hpt'⟩ := c6m (l := dig (y * S)) (by omega)
  have htop' : 1 ≤ top' := by
    have h1 := a2p (y * S) top' (by rw [hpt']; simp)
    have h2 := b4x (y * S)
    rw [hpt'] at h2
    have : top' ≠ 0 := by simpa using h2
    omega
  have hVge : pw ((dig (y * S)).length - 1) ≤ val (dig (y * S)) := by
    have h0 : (dig (y * S)).length - 1 = pl'.length := by rw [hpt']; simp
    rw [h0, hpt', val_append]
    have h1 := val_nonneg (l := pl') (fun e he => a2p (y * S) e (by rw [hpt']; simp [he]))
    have h2 : pw pl'.length * 1 ≤ pw pl'.length * top' := Int.mul_le_mul_of_nonneg_left htop' (by have := pw_pos pl'.length; omega)
    simp only [val, Int.mul_zero, Int.add_zero]
    omega
  have hw : (dig (x * S) ++ [(0 : Int)]).drop k = (dig (x * S)).drop k ++ [0] := List.drop_append_of_le_length hkle
  have hwlt : val ((dig (x * S) ++ [(0 : Int)]).drop k) < val (dig (y * S)) := by
    rw [hw, val_append]
    have h1 := val_lt ((a2p (x * S)).drop k)
    have h2 : ((dig (x * S)).drop k).length = (dig (y * S)).length - 1 := by simp; omega
    rw [h2] at h1
    simp only [val, Int.mul_zero, Int.add_zero]
    omega
  have hui : InR (dig (x * S) ++ [(0 : Int)]) := (a2p _).append (InR.cons (by decide) (by decide) InR.nil)
  refine ⟨4398046511105 + k + (dig (x * S)).length, fun n hn => ?_⟩
  obtain ⟨uf, r1, r2, r3, r4⟩ := c7m n (dig (y * S)) (fun (l6 : List Int) (l7 : List Int) => (a2u n l7).bind fun v7 => (a5s n v7 (S : Int)).bind fun v8 => (a2u n l6).bind fun v9 => some (v9, v8.1)) (a8x _) (by omega) (by omega) (by omega)
    k ((dig (x * S) ++ [(0 : Int)]).take k) ((dig (x * S) ++ [(0 : Int)]).drop k) [] [] n (by simp; omega) (by simp; omega) (hui.take k) (hui.drop k) InR.nil rfl hwlt (by simp; omega) (by omega)
  simp only [List.append_nil, List.take_append_drop] at r1
  have hV : (0 : Int) < val (dig (y * S)) := by rw [a2c]; omega
  have h0 := val_nonneg (hui.drop k)
  have q1 := b7i (V := val (dig (y * S))) ((dig (x * S) ++ [(0 : Int)]).take k) (val ((dig (x * S) ++ [(0 : Int)]).drop k))
  have q2 := b5b hV ((dig (x * S) ++ [(0 : Int)]).take k) _ h0 hwlt
  have q3 := b9k hV ((dig (x * S) ++ [(0 : Int)]).take k) _ (hui.take k) h0 hwlt
  have q4 := b4z (val (dig (y * S))) ((dig (x * S) ++ [(0 : Int)]).take k) (val ((dig (x * S) ++ [(0 : Int)]).drop k))
  rw [b4k, List.take_append_drop] at q1
  have q5 : val (dig (x * S) ++ [(0 : Int)]) = ((x * S : Nat) : Int) := by rw [val_append, a2c]; simp [val]
  rw [q5] at q1
  have hVy : val (dig (y * S)) = ((y * S : Nat) : Int) := a2c _
  rw [hVy] at q1 q2 q3 q4 r1 r4
  obtain ⟨g1, g2⟩ := b9u (U := ((x * S : Nat) : Int)) (V := ((y * S : Nat) : Int)) (q := val (a5t ((y * S : Nat) : Int) ((dig (x * S) ++ [(0 : Int)]).take k) (val ((dig (x * S) ++ [(0 : Int)]).drop k))).1) (by omega) (by omega) (by rw [Int.add_mul, Int.one_mul]; omega)
  obtain ⟨n1, n2⟩ := b9z (a := x) (b := y) hS
  have e1 : val uf = ((x % y * S : Nat) : Int) := by
    rw [r4, ← n2, Int.natCast_emod]; omega
  have e2 : val (a5t ((y * S : Nat) : Int) ((dig (x * S) ++ [(0 : Int)]).take k) (val ((dig (x * S) ++ [(0 : Int)]).drop k))).1 = ((x / y : Nat) : Int) := by
    rw [← g1, ← n1, Int.natCast_ediv]
  have hul : uf.length < n := by rw [r3]; simp; omega
  have hlu : uf.length < 1073741824 := by rw [r3]; simp; omega
  have hdl := b5t r2
  rw [e1, Int.toNat_natCast] at hdl
  dsimp only
  rw [List.length_replicate, a2g (by omega) (by omega), r1, b7w r2 (by omega) hul, e1, Int.toNat_natCast, Option.bind_some,
    c1r (a2p _) (by omega) (by omega) (by omega) (n := n) (by omega), Option.bind_some,
    b7w q3 (by rw [q4]; simp; omega) (by rw [q4]; simp; omega), Option.bind_some, e2, Int.toNat_natCast, a2c]
  have e3 : ((x % y * S : Nat) : Int) / (S : Int) = ((x % y : Nat) : Int) := by
    rw [← Int.natCast_ediv, Nat.mul_div_cancel _ hS]
  rw [e3, Int.toNat_natCast]
end Go.Proofs.YtaanocaobllohaaGreatDoor.D

/-
  THE BIG INTEGERS' FUNCTIONS, as arithmetic: each mirror at right big integers is what the integers say.
-/
namespace Go.Proofs.YtaanocaobllohaaGreatDoor.D
open Go Rt M
/-- the big integer of a number -/
def toB (x : Int) : Big := ⟨sg x, dig x.natAbs⟩
/-- small enough: at most k digits -/
def Sm (k : Nat) (x : Int) : Prop := (x.natAbs : Int) < pw k
theorem a1s (x : Int) : (x < 0 ∧ sg x = -1) ∨ (x = 0 ∧ sg x = 0) ∨ (0 < x ∧ sg x = 1) := by
  unfold sg; split
  · exact .inl ⟨by assumption, rfl⟩
  · split
    · exact .inr (.inr ⟨by assumption, rfl⟩)
    · exact .inr (.inl ⟨by omega, rfl⟩)
theorem a3p {x : Int} (h : 0 < x) : sg x = 1 := by rcases a1s x with h1 | h1 | h1 <;> omega
theorem a3z {x : Int} (h : x < 0) : sg x = -1 := by rcases a1s x with h1 | h1 | h1 <;> omega
theorem b4a (x y : Int) : sg (x * y) = sg x * sg y := by
  rcases a1s x with ⟨h1, h2⟩ | ⟨h1, h2⟩ | ⟨h1, h2⟩ <;> rcases a1s y with ⟨h3, h4⟩ | ⟨h3, h4⟩ | ⟨h3, h4⟩ <;> rw [h2, h4]
  · exact a3p (Int.mul_pos_of_neg_of_neg h1 h3)
  · subst h3; rw [Int.mul_zero]; decide
  · exact a3z (Int.mul_neg_of_neg_of_pos h1 h3)
  · subst h1; rw [Int.zero_mul]; decide
  · subst h1; rw [Int.zero_mul]; decide
  · subst h1; rw [Int.zero_mul]; decide
  · exact a3z (Int.mul_neg_of_pos_of_neg h1 h3)
  · subst h3; rw [Int.mul_zero]; decide
  · exact a3p (Int.mul_pos h1 h3)
theorem b7l (x : Int) : sg x * (x.natAbs : Int) = x := by
  rcases a1s x with ⟨h1, h2⟩ | ⟨h1, h2⟩ | ⟨h1, h2⟩ <;> rw [h2] <;> omega
theorem b6j (x : Int) : -1 ≤ sg x ∧ sg x ≤ 1 := by rcases a1s x with h | h | h <;> omega
theorem c2n (a : Nat) : ∀ b, pw (a + b) = pw a * pw b
  | 0 => by simp [pw]
  | b + 1 => by rw [← Nat.add_assoc]; simp only [pw, c2n a b]; grind
theorem a1u {k : Nat} {x : Int} (h : Sm k x) : (dig x.natAbs).length ≤ k := by
  rcases Nat.lt_or_ge k (dig x.natAbs).length with h1 | h1
  · exfalso
    have h2 : val (List.replicate k (1048575 : Int)) < val (dig x.natAbs) := val_lt_of_len (fun e he => by rw [(List.mem_replicate.1 he).2]; decide) (a8x _) (by simpa using h1)
    have h3 : ∀ k, val (List.replicate k (1048575 : Int)) = pw k - 1 := by
      intro k
      induction k with
      | zero => rfl
      | succ k ih => rw [List.replicate_succ]; simp only [val, pw, ih]; omega
    rw [h3, a2c] at h2
    unfold Sm at h
    omega
  · exact h1
theorem a3g {k : Nat} {x : Int} (h : (dig x.natAbs).length ≤ k) : Sm k x := by
  have h1 := val_lt (a2p x.natAbs)
  rw [a2c] at h1
  exact Int.lt_of_lt_of_le h1 (pw_mono h)
theorem Sm.mono {k l : Nat} {x : Int} (h : Sm k x) (hkl : k ≤ l) : Sm l x := Int.lt_of_lt_of_le h (pw_mono hkl)
theorem Sm.add {k : Nat} {x y : Int} (h : Sm k x) (h2 : Sm k y) : Sm (k + 1) (x + y) := by
  unfold Sm at *; simp only [pw]; omega
theorem Sm.neg {k : Nat} {x : Int} (h : Sm k x) : Sm k (-x) := by unfold Sm at *; omega
theorem Sm.sub {k : Nat} {x y : Int} (h : Sm k x) (h2 : Sm k y) : Sm (k + 1) (x - y) := by rw [Int.sub_eq_add_neg]; exact h.add h2.neg
theorem Sm.mul {k l : Nat} {x y : Int} (h : Sm k x) (h2 : Sm l y) : Sm (k + l) (x * y) := by
  unfold Sm at *
  rw [c2n, Int.natAbs_mul, Int.natCast_mul]
  have h3 : (x.natAbs : Int) * y.natAbs ≤ x.natAbs * pw l := Int.mul_le_mul_of_nonneg_left (by omega) (by omega)
  have h4 : (x.natAbs : Int) * pw l < pw k * pw l := Int.mul_lt_mul_of_pos_right h (pw_pos l)
  omega
theorem Sm.le {k : Nat} {x y : Int} (h : Sm k x) (h2 : y.natAbs ≤ x.natAbs) : Sm k y := by unfold Sm at *; omega
/- Right -/
def okd (d : Int) : Bool := decide (0 ≤ d) && decide (d < 1048576)
def a7i (a : Big) : Bool := a.Digits.all okd && (if a.Digits = [] then a.Sign == 0 else (a.Sign == 1 || a.Sign == -1) && (a.Digits.getLast?.getD 0 != 0))
theorem c4x (n : Nat) (a : Big) (kont : Option Bool) (hl : a.Digits.length < 1099511627776) : ∀ (us : List Int) (i m : Nat), a.Digits.drop i = us → us.length < m → a6t n a kont m (i : Int) = bif us.all okd then kont else some false
  | [], i, m + 1, hd, _ => by
    rw [b1d]
    have := a5j hd
    rw [show decide ((i : Int) < (a.Digits.length : Int)) = false by simp; omega]; rfl
  | x :: xs, i, m + 1, hd, hm => by
    rw [b1d]
    obtain ⟨f1, f2, f3⟩ := a2z hd
    rw [show decide ((i : Int) < (a.Digits.length : Int)) = true by simp; omega, cond_true, f1, Option.bind_some]
    have e1 : ((bif decide (x < 0) then some true else some (decide (1048575 < x))) : Option Bool) = some (!okd x) := by
      unfold okd
      by_cases h : x < 0
      · rw [show decide (x < 0) = true by simpa using h, show decide (0 ≤ x) = false by simp; omega]; rfl
      · rw [show decide (x < 0) = false by simpa using h, show decide (0 ≤ x) = true by simp; omega, cond_false]
        by_cases h2 : x < 1048576
        · rw [show decide (1048575 < x) = false by simp; omega, show decide (x < 1048576) = true by simpa using h2]; rfl
        · rw [show decide (1048575 < x) = true by simp; omega, show decide (x < 1048576) = false by simpa using h2]; rfl
    rw [e1, Option.bind_some, List.all_cons]
    cases h : okd x with
    | false => rfl
    | true =>
      rw [b2m (by omega), c4x n a kont hl xs (i + 1) m f2 (by simpa using hm)]; rfl
  | _, _, 0, _, h => by omega
theorem c9o {a : Big} (hl : a.Digits.length < 1099511627776) {n : Nat} (hn : a.Digits.length < n) : a3a n a = some (a7i a) := by
  unfold a3a
  have h := fun kont => c4x n a kont hl a.Digits 0 n rfl hn
  rw [show ((0 : Nat) : Int) = 0 from rfl] at h
  rw [h]
  unfold a7i
  cases ha : a.Digits.all okd with
  | false => rfl
  | true =>
    rw [cond_true, Bool.true_and]
    rcases List.eq_nil_or_concat a.Digits with h0 | ⟨p, d, h0⟩
    · rw [h0]; rfl
    · rw [List.concat_eq_append] at h0
      have hne : a.Digits ≠ [] := by rw [h0]; simp
      have e1 : ((a.Digits.length : Int) == 0) = false := by rw [h0]; simp; omega
      have e2 : isub .i64 (a.Digits.length : Int) 1 = (p.length : Int) := by rw [a2g (by omega) (by omega), h0]; simp
      have e3 : ix a.Digits (p.length : Int) = some d := by rw [h0]; exact a5x p d [] rfl
      rw [e1, cond_false, if_neg hne, e2, e3]
      have e4 : a.Digits.getLast?.getD 0 = d := by rw [h0]; simp
      rw [e4]
      cases h1 : (a.Sign == 1) <;> cases h2 : (a.Sign == -1) <;> rfl
theorem b4n {a : Big} (hl : a.Digits.length < 1099511627776) : Ev (fun n => a3a n a) (a7i a) := ⟨a.Digits.length + 1, fun _ hn => c9o hl hn⟩
theorem b3o (x : Int) : a7i (toB x) = true := by
  unfold a7i toB
  have h1 : (dig x.natAbs).all okd = true := by
    rw [List.all_eq_true]
    intro d hd
    have := a2p _ d hd
    unfold okd; simp; omega
  simp only [h1, Bool.true_and]
  by_cases h : x = 0
  · subst h; rw [show (0 : Int).natAbs = 0 from rfl, dig_zero]; rfl
  · rw [if_neg (b1n (by omega))]
    have h2 : (dig x.natAbs).getLast?.getD 0 ≠ 0 := by
      have h3 := b4x x.natAbs
      cases h4 : (dig x.natAbs).getLast? with
      | none => rw [List.getLast?_eq_none_iff] at h4; exact absurd h4 (b1n (by omega))
      | some d => rw [h4] at h3; simpa using h3
    rcases a1s x with ⟨_, h5⟩ | ⟨h6, _⟩ | ⟨_, h5⟩
    · rw [h5]; simpa using h2
    · exact absurd h6 h
    · rw [h5]; simpa using h2
theorem a5z {a : Big} (h : a7i a = true) : ∃ x, a = toB x := by
  obtain ⟨s, l⟩ := a
  unfold a7i at h
  simp only [Bool.and_eq_true, List.all_eq_true] at h
  obtain ⟨h1, h2⟩ := h
  have hi : InR l := fun d hd => by have := h1 d hd; unfold okd at this; simpa using this
  by_cases hl : l = []
  · subst hl
    simp only [if_true, beq_iff_eq] at h2
    subst h2
    exact ⟨0, by unfold toB; rw [show (0 : Int).natAbs = 0 from rfl, dig_zero]; rfl⟩
  · simp only [if_neg hl, Bool.and_eq_true, Bool.or_eq_true, beq_iff_eq, bne_iff_ne] at h2
    have hc : Canon l := by
      refine ⟨hi, fun h3 => ?_⟩
      rw [h3] at h2; exact h2.2 rfl
    have hv := val_nonneg hi
    have hv0 : val l ≠ 0 := fun e => by have := dig_val hc; rw [e, Int.toNat_zero, dig_zero] at this; exact hl this.symm
    have hd := dig_val hc
    rcases h2.1 with h3 | h3
    · refine ⟨val l, ?_⟩
      unfold toB
      rw [a3p (by omega), h3, show (val l).natAbs = (val l).toNat by omega, hd]
    · refine ⟨-val l, ?_⟩
      unfold toB
      rw [a3z (by omega), h3, show (-val l).natAbs = (val l).toNat by omega, hd]
theorem c9d {x y : Int} (h : toB x = toB y) : x = y := by
  unfold toB at h
  simp only [Big.mk.injEq] at h
  have := c9b h.2
  have h1 := b7l x
  have h2 := b7l y
  rw [h.1, this] at h1
  omega
theorem toB_zero : toB 0 = ⟨0, []⟩ := by unfold toB; rw [show (0 : Int).natAbs = 0 from rfl, dig_zero]; rfl
theorem a4l {x : Int} {k : Nat} (h : Sm k x) (hk : k < 1099511627776) : Ev (fun n => a3a n (toB x)) true := by
  have := b4n (a := toB x) (by have := a1u h; simp only [toB]; omega)
  rwa [b3o] at this
/- signed -/
theorem a5v (s : Int) {v : Nat} (h : (dig v).length < 1099511627776) : Ev (fun n => a1y n s (dig v)) (if v = 0 then ⟨0, []⟩ else ⟨s, dig v⟩) := by
  unfold a1y
  have h1 := c2g (a2p v) h
  rw [a2c, Int.toNat_natCast] at h1
  refine Ev.bind h1 ?_
  by_cases hv : v = 0
  · rw [if_pos hv]
    refine Ev.then (by rw [hv, dig_zero]; rfl) (Ev.pure _)
  · rw [if_neg hv]
    refine Ev.else ?_ (Ev.pure _)
    have := b1n hv
    cases hd : dig v with
    | nil => exact absurd hd this
    | cons a l => simp; omega
/-- a sign and digits, as a number -/
theorem a4f {s : Int} {v : Nat} (z : Int) (hz : z.natAbs = v) (hs : v ≠ 0 → s = sg z) : (if v = 0 then (⟨0, []⟩ : Big) else ⟨s, dig v⟩) = toB z := by
  by_cases hv : v = 0
  · rw [if_pos hv]
    have : z = 0 := by omega
    rw [this, toB_zero]
  · rw [if_neg hv, hs hv]; unfold toB; rw [hz]
/- Neg -/
theorem b9g {x : Int} {k : Nat} (h : Sm k x) (hk : k < 1073741824) : Ev (fun n => b1f n (toB x)) (toB (-x)) := by
  unfold b1f
  have hl := a1u h
  refine Ev.bind (a4l h (by omega)) ?_
  refine Ev.else rfl ?_
  refine Ev.bind (b4t (a := (toB x).Digits) (by simp only [toB]; omega)) ?_
  have hr := b6j x
  refine Ev.bind (a5v (IntKind.i64.wrap (0 - (toB x).Sign)) (v := x.natAbs) (by omega)) ?_
  refine (Ev.pure _).eq ?_
  rw [a4f (-x) (by omega) (fun hv => by
    show IntKind.i64.wrap (0 - sg x) = _
    rw [a5k (by omega) (by omega)]
    rcases a1s x with ⟨h1, h2⟩ | ⟨h1, h2⟩ | ⟨h1, h2⟩
    · rw [h2, a3p (by omega)]; rfl
    · omega
    · rw [h2, a3z (by omega)]; rfl)]
/- Add -/
theorem Or_n (n : Nat) (x y : Int) (hn : 2 < n) : b1t n [x, y] = some (if x ≠ 0 then x else y) := by
  obtain ⟨n, rfl⟩ : ∃ k, n = k + 3 := ⟨n - 3, by omega⟩
  have h0 : ix [x, y] 0 = some x := rfl
  have h1 : ix [x, y] 1 = some y := rfl
  have a1 : iadd .i64 0 1 = 1 := by decide
  have a2 : iadd .i64 1 1 = 2 := by decide
  unfold b1t
  rw [a8i, show decide ((0 : Int) < (([x, y] : List Int).length : Int)) = true by rfl, cond_true, h0, Option.bind_some]
  by_cases hx : x = 0
  · rw [show (x != 0) = false by simpa using hx, cond_false, a1, a8i, show decide ((1 : Int) < (([x, y] : List Int).length : Int)) = true by rfl, cond_true, h1, Option.bind_some, if_neg (by simpa using hx)]
    by_cases hy : y = 0
    · rw [show (y != 0) = false by simpa using hy, cond_false, a2, a8i, show decide ((2 : Int) < (([x, y] : List Int).length : Int)) = false by rfl, cond_false, hy]
    · rw [show (y != 0) = true by simpa using hy, cond_true]
  · rw [show (x != 0) = true by simpa using hx, cond_true, if_pos hx]
theorem c2d (u v : Nat) (hu : (dig u).length < 1073741824) (hv : (dig v).length < 1073741824) : Ev (fun n => b1j n (dig u) (dig v)) (dig (u + v)) := by
  have := c9w (a2p u) (a2p v) hu hv
  rwa [a2c, a2c, show ((u : Int) + v).toNat = u + v by omega] at this
theorem c2h (u v : Nat) (hu : (dig u).length < 1073741824) (hvu : v ≤ u) : Ev (fun n => b3c n (dig u) (dig v)) (dig (u - v)) := by
  have := c9v (a2p u) (a2p v) hu (a3e hvu) (by rw [a2c, a2c]; omega)
  rwa [a2c, a2c, show ((u : Int) - v).toNat = u - v by omega] at this
theorem c4q (u v : Nat) (hu : (dig u).length < 536870912) (hv : (dig v).length < 536870912) : Ev (fun n => a8o n (dig u) (dig v)) (dig (u * v)) := by
  have := c4n (a2p u) (a2p v) hu hv
  rwa [a2c, a2c, ← Int.natCast_mul, Int.toNat_natCast] at this
theorem b8a (u v : Nat) (hu : (dig u).length < 1073741824) : Ev (fun n => a6p n (dig u) (dig v)) (sg ((u : Int) - v)) := ⟨(dig u).length + 1, fun n hn => by
  have := c1c (n := n) (a8x u) (a8x v) (by omega) (by omega)
  rwa [a2c, a2c] at this⟩
theorem a9b (n : Nat) (c : Big) : a4p n true c = some (c, 0) := rfl
theorem b2q (x y : Int) : imul .i64 (sg x) (sg y) = sg (x * y) := by
  rw [b4a]
  have h1 := b6j x
  have h2 := b6j y
  refine a6k ?_ ?_ <;> rcases a1s x with ⟨_, h⟩ | ⟨_, h⟩ | ⟨_, h⟩ <;> rw [h] <;> omega
theorem d0w {x y : Int} {k : Nat} (hx : Sm k x) (hy : Sm k y) (hk : k < 536870912) : Ev (fun n => b6y n (toB x) (toB y)) (toB (x + y), 0) := by
  have lx := a1u hx
  have ly := a1u hy
  have lxy := a1u (hx.add hy)
  unfold b6y
  refine Ev.bind (a4l hx (by omega)) ?_
  refine Ev.bind (a := false) (Ev.else rfl (Ev.bind (a4l hy (by omega)) (Ev.pure _))) ?_
  refine Ev.else rfl ?_
  show Ev (fun n => bif decide (0 ≤ imul .i64 (sg x) (sg y)) then _ else _) _
  rw [b2q]
  by_cases hs : 0 ≤ sg (x * y)
  · -- the same sign
    refine Ev.then (by simpa using hs) ?_
    refine Ev.bind (a := if sg x ≠ 0 then sg x else sg y) ⟨3, fun n hn => Or_n n _ _ (by omega)⟩ ?_
    refine Ev.bind (c2d x.natAbs y.natAbs (by omega) (by omega)) ?_
    have hab : x.natAbs + y.natAbs = (x + y).natAbs := by
      rw [b4a] at hs
      rcases a1s x with ⟨h1, h2⟩ | ⟨h1, h2⟩ | ⟨h1, h2⟩ <;> rcases a1s y with ⟨h3, h4⟩ | ⟨h3, h4⟩ | ⟨h3, h4⟩ <;> rw [h2, h4] at hs <;> omega
    rw [hab]
    refine Ev.bind (a5v _ (by omega)) ?_
    rw [a4f (x + y) rfl (fun hv => by
      rw [b4a] at hs
      rcases a1s x with ⟨h1, h2⟩ | ⟨h1, h2⟩ | ⟨h1, h2⟩ <;> rcases a1s y with ⟨h3, h4⟩ | ⟨h3, h4⟩ | ⟨h3, h4⟩ <;> rw [h2, h4] at hs ⊢ <;>
        first
          | omega
          | (rw [a3z (by omega)]; decide)
          | (rw [a3p (by omega)]; decide))]
    exact Ev.step (a9b 0 _) (Ev.pure _)
  · refine Ev.else (by simpa using hs) ?_
    have hne : x ≠ 0 ∧ y ≠ 0 := by
      constructor
      · intro h; subst h; rw [Int.zero_mul] at hs; exact hs (by decide)
      · intro h; subst h; rw [Int.mul_zero] at hs; exact hs (by decide)
    have hop : sg x = -sg y := by
      rw [b4a] at hs
      rcases a1s x with ⟨h1, h2⟩ | ⟨h1, h2⟩ | ⟨h1, h2⟩ <;> rcases a1s y with ⟨h3, h4⟩ | ⟨h3, h4⟩ | ⟨h3, h4⟩ <;> rw [h2, h4] at hs ⊢ <;> omega
    refine Ev.bind (b8a x.natAbs y.natAbs (by omega)) ?_
    by_cases hlt : x.natAbs < y.natAbs
    · refine Ev.then (by rw [a3z (by omega)]; rfl) ?_
      refine Ev.bind (c2h y.natAbs x.natAbs (by omega) (by omega)) ?_
      rw [show y.natAbs - x.natAbs = (x + y).natAbs by
        rcases a1s x with ⟨h1, h2⟩ | ⟨h1, h2⟩ | ⟨h1, h2⟩ <;> rcases a1s y with ⟨h3, h4⟩ | ⟨h3, h4⟩ | ⟨h3, h4⟩ <;> omega]
      refine Ev.bind (a5v _ (by omega)) ?_
      rw [a4f (x + y) rfl (fun hv => by
        show sg y = _
        rcases a1s y with ⟨h3, h4⟩ | ⟨h3, h4⟩ | ⟨h3, h4⟩
        · rw [h4, a3z (by omega)]
        · omega
        · rw [h4, a3p (by omega)])]
      exact Ev.step (a9b 0 _) (Ev.pure _)
    · refine Ev.else (by
        rcases a1s ((x.natAbs : Int) - y.natAbs) with h | h | h
        · omega
        · rw [h.2]; rfl
        · rw [h.2]; rfl) ?_
      refine Ev.bind (c2h x.natAbs y.natAbs (by omega) (by omega)) ?_
      rw [show x.natAbs - y.natAbs = (x + y).natAbs by
        rcases a1s x with ⟨h1, h2⟩ | ⟨h1, h2⟩ | ⟨h1, h2⟩ <;> rcases a1s y with ⟨h3, h4⟩ | ⟨h3, h4⟩ | ⟨h3, h4⟩ <;> omega]
      refine Ev.bind (a5v _ (by omega)) ?_
      rw [a4f (x + y) rfl (fun hv => by
        show sg x = _
        rcases a1s x with ⟨h3, h4⟩ | ⟨h3, h4⟩ | ⟨h3, h4⟩
        · rw [h4, a3z (by omega)]
        · omega
        · rw [h4, a3p (by omega)])]
      exact Ev.step (a9b 0 _) (Ev.pure _)
theorem c9y {x y : Int} {k : Nat} (hx : Sm k x) (hy : Sm k y) (hk : k < 268435456) : Ev (fun n => b8m n (toB x) (toB y)) (toB (x * y), 0) := by
  have lx := a1u hx
  have ly := a1u hy
  have lxy := a1u (hx.mul hy)
  unfold b8m
  refine Ev.bind (a4l hx (by omega)) ?_
  refine Ev.bind (a := false) (Ev.else rfl (Ev.bind (a4l hy (by omega)) (Ev.pure _))) ?_
  refine Ev.else rfl ?_
  refine Ev.bind (c4q x.natAbs y.natAbs (by omega) (by omega)) ?_
  rw [← Int.natAbs_mul]
  refine Ev.bind (a5v (imul .i64 (sg x) (sg y)) (by omega)) ?_
  rw [a4f (x * y) rfl (fun _ => b2q x y)]
  exact Ev.step (a9b 0 _) (Ev.pure _)
end Go.Proofs.YtaanocaobllohaaGreatDoor.D

/-
  THE BIG INTEGERS' FUNCTIONS, as arithmetic, second part: division, the greatest common divisor, the order, equality, ints.
-/
namespace Go.Proofs.YtaanocaobllohaaGreatDoor.D
open Go Rt M
/- the quotient and the remainder -/
def odd (x y : Int) : Bool := decide (x * y < 0) && decide (x.natAbs % y.natAbs ≠ 0)
def dq (x y : Int) : Int := if odd x y then -((x.natAbs / y.natAbs : Nat) + 1 : Int) else sg (x * y) * (x.natAbs / y.natAbs : Nat)
def dr (x y : Int) : Int := if odd x y then sg y * ((y.natAbs - x.natAbs % y.natAbs : Nat) : Int) else sg x * ((x.natAbs % y.natAbs : Nat) : Int)
theorem b2e {x y : Int} : x * y < 0 ↔ (x < 0 ∧ 0 < y) ∨ (0 < x ∧ y < 0) := by
  rcases a1s x with ⟨h1, h2⟩ | ⟨h1, h2⟩ | ⟨h1, h2⟩ <;> rcases a1s y with ⟨h3, h4⟩ | ⟨h3, h4⟩ | ⟨h3, h4⟩
  · have := Int.mul_pos_of_neg_of_neg h1 h3; omega
  · subst h3; simp
  · have := Int.mul_neg_of_neg_of_pos h1 h3; omega
  · subst h1; simp
  · subst h1; simp
  · subst h1; simp
  · have := Int.mul_neg_of_pos_of_neg h1 h3; omega
  · subst h3; simp
  · have := Int.mul_pos h1 h3; omega
theorem d1g {x y : Int} (hy : y ≠ 0) : dq x y * y + dr x y = x ∧ (dr x y = 0 ∨ sg (dr x y) = sg y) ∧ (dr x y).natAbs < y.natAbs := by
  have hyn : 0 < y.natAbs := by omega
  have h1 := Nat.div_add_mod x.natAbs y.natAbs
  have h2 := Nat.mod_lt x.natAbs hyn
  have h1' : (y.natAbs : Int) * ((x.natAbs / y.natAbs : Nat) : Int) + ((x.natAbs % y.natAbs : Nat) : Int) = x.natAbs := by rw [← Int.natCast_mul]; omega
  generalize hq : x.natAbs / y.natAbs = q at *
  generalize hr : x.natAbs % y.natAbs = r at *
  unfold dq dr odd
  rw [hq, hr]
  by_cases ho : x * y < 0
  · by_cases hr0 : r = 0
    · rw [show (decide (x * y < 0) && decide (r ≠ 0)) = false by simp [hr0]]
      simp only [if_neg Bool.false_ne_true]
      rw [hr0] at h1' ⊢
      rw [a3z ho]
      simp only [Int.natCast_zero, Int.mul_zero, Int.add_zero] at h1' ⊢
      refine ⟨?_, .inl trivial, by omega⟩
      rcases b2e.1 ho with ⟨a, b⟩ | ⟨a, b⟩
      · have e : (y.natAbs : Int) = y := by omega
        rw [e] at h1'
        have : -1 * (q : Int) * y = -(y * q) := by grind
        omega
      · have e : (y.natAbs : Int) = -y := by omega
        rw [e] at h1'
        have : -1 * (q : Int) * y = -y * q := by grind
        omega
    · rw [show (decide (x * y < 0) && decide (r ≠ 0)) = true by simp [hr0, ho]]
      simp only [if_true]
      rcases b2e.1 ho with ⟨a, b⟩ | ⟨a, b⟩
      · have e : (y.natAbs : Int) = y := by omega
        rw [e] at h1'
        rw [a3p b]
        have : -((q : Int) + 1) * y = -(y * q) - y := by grind
        exact ⟨by omega, .inr (by rw [a3p (by omega)]), by omega⟩
      · have e : (y.natAbs : Int) = -y := by omega
        rw [e] at h1'
        rw [a3z b]
        have : -((q : Int) + 1) * y = -y * q - y := by grind
        exact ⟨by omega, .inr (by rw [a3z (by omega)]), by omega⟩
  · rw [show (decide (x * y < 0) && decide (r ≠ 0)) = false by simp [ho]]
    simp only [if_neg Bool.false_ne_true]
    rcases a1s x with ⟨a, b⟩ | ⟨a, b⟩ | ⟨a, b⟩ <;> rcases a1s y with ⟨c, d⟩ | ⟨c, d⟩ | ⟨c, d⟩
    · rw [b4a, b, d]
      have e : (y.natAbs : Int) = -y := by omega
      rw [e] at h1'
      have : -1 * -1 * (q : Int) * y = -(-y * q) := by grind
      refine ⟨by omega, ?_, by omega⟩
      by_cases hr0 : r = 0
      · left; omega
      · right; rw [a3z (by omega)]
    · exact absurd c hy
    · exact absurd (b2e.2 (.inl ⟨a, c⟩)) ho
    · rw [b4a, b]; subst a
      have : r = 0 := by rw [← hr]; simp
      refine ⟨?_, .inl (by omega), by omega⟩
      simp
    · exact absurd c hy
    · rw [b4a, b]; subst a
      refine ⟨?_, .inl (by omega), by omega⟩
      simp
    · exact absurd (b2e.2 (.inr ⟨a, c⟩)) ho
    · exact absurd c hy
    · rw [b4a, b, d]
      have e : (y.natAbs : Int) = y := by omega
      rw [e] at h1'
      have : 1 * 1 * (q : Int) * y = y * q := by grind
      refine ⟨by omega, ?_, by omega⟩
      by_cases hr0 : r = 0
      · left; omega
      · right; rw [a3p (by omega)]
theorem c2z {x y : Int} (ho : odd x y = true) : (dq x y).natAbs = x.natAbs / y.natAbs + 1 ∧ sg (dq x y) = -1 := by
  unfold dq; rw [if_pos ho]
  generalize x.natAbs / y.natAbs = q
  exact ⟨by omega, a3z (by omega)⟩
theorem c2t {x y : Int} (hy : y ≠ 0) (ho : odd x y = true) : (dr x y).natAbs = y.natAbs - x.natAbs % y.natAbs ∧ sg (dr x y) = sg y := by
  unfold dr; rw [if_pos ho]
  have h := Nat.mod_lt x.natAbs (show y.natAbs > 0 by omega)
  generalize x.natAbs % y.natAbs = r at *
  rcases a1s y with ⟨h1, h2⟩ | ⟨h1, h2⟩ | ⟨h1, h2⟩ <;> rw [h2]
  · exact ⟨by omega, a3z (by omega)⟩
  · exact absurd h1 hy
  · exact ⟨by omega, a3p (by omega)⟩
theorem c0f {x y : Int} (hy : y ≠ 0) (ho : ¬odd x y = true) : (dq x y).natAbs = x.natAbs / y.natAbs ∧ (x.natAbs / y.natAbs ≠ 0 → sg (x * y) = sg (dq x y)) := by
  unfold dq; rw [if_neg ho]
  rcases a1s (x * y) with ⟨h1, h2⟩ | ⟨h1, h2⟩ | ⟨h1, h2⟩ <;> rw [h2]
  · generalize x.natAbs / y.natAbs = q
    exact ⟨by omega, fun _ => by rw [a3z (by omega)]⟩
  · have h3 : x = 0 := by
      rcases Int.mul_eq_zero.1 h1 with h4 | h4
      · exact h4
      · exact absurd h4 hy
    subst h3
    rw [show (0 : Int).natAbs = 0 from rfl, Nat.zero_div]
    exact ⟨rfl, fun h => absurd rfl h⟩
  · generalize x.natAbs / y.natAbs = q
    exact ⟨by omega, fun _ => by rw [a3p (by omega)]⟩
theorem c0h {x y : Int} (ho : ¬odd x y = true) : (dr x y).natAbs = x.natAbs % y.natAbs ∧ (x.natAbs % y.natAbs ≠ 0 → sg x = sg (dr x y)) := by
  unfold dr; rw [if_neg ho]
  rcases a1s x with ⟨h1, h2⟩ | ⟨h1, h2⟩ | ⟨h1, h2⟩ <;> rw [h2]
  · generalize x.natAbs % y.natAbs = r
    exact ⟨by omega, fun _ => by rw [a3z (by omega)]⟩
  · subst h1
    rw [show (0 : Int).natAbs = 0 from rfl, Nat.zero_mod]
    exact ⟨rfl, fun h => absurd rfl h⟩
  · generalize x.natAbs % y.natAbs = r
    exact ⟨by omega, fun _ => by rw [a3p (by omega)]⟩
theorem dig_one : dig 1 = [1] := by rw [b1g (by decide), show 1 / 1048576 = 0 from rfl, dig_zero]; rfl
theorem c4k {x y : Int} {k : Nat} (hx : Sm k x) (hy : Sm k y) (hk : k < 8388608) (hy0 : y ≠ 0) : Ev (fun n => b0g n (toB x) (toB y)) (toB (dq x y), toB (dr x y), 0) := by
  have lx := a1u hx
  have ly := a1u hy
  have hyn : y.natAbs ≠ 0 := by omega
  have hmod := Nat.mod_lt x.natAbs (show y.natAbs > 0 by omega)
  have hdivle : x.natAbs / y.natAbs ≤ x.natAbs := Nat.div_le_self _ _
  have lq := a3e hdivle
  have lr := a3e (Nat.le_of_lt hmod)
  have lq1 : (dig (x.natAbs / y.natAbs + 1)).length ≤ k + 1 := by
    have h : Sm (k + 1) ((x.natAbs / y.natAbs + 1 : Nat) : Int) := by
      generalize x.natAbs / y.natAbs = q at *
      unfold Sm at *
      rw [Int.natAbs_natCast]
      simp only [pw]; have := pw_pos k; omega
    have := a1u h
    rwa [Int.natAbs_natCast] at this
  have ls := a3e (show y.natAbs - x.natAbs % y.natAbs ≤ y.natAbs by omega)
  unfold b0g
  refine Ev.bind (a4l hx (by omega)) ?_
  refine Ev.bind (a := false) (Ev.else rfl (Ev.bind (a4l hy (by omega)) (Ev.pure _))) ?_
  refine Ev.else rfl ?_
  refine Ev.else (by show (sg y == 0) = false; rcases a1s y with h | h | h <;> first | (rw [h.2]; rfl) | omega) ?_
  refine Ev.bind (c7z (x := x.natAbs) (y := y.natAbs) hyn (by omega) (by omega)) ?_
  refine Ev.step (a := odd x y) (by
    show (bif decide (imul .i64 (sg x) (sg y) < 0) then some (decide (0 < ((dig (x.natAbs % y.natAbs)).length : Int))) else some false) = _
    rw [b2q]
    unfold odd
    have e1 : decide (sg (x * y) < 0) = decide (x * y < 0) := by
      rcases a1s (x * y) with ⟨h1, h2⟩ | ⟨h1, h2⟩ | ⟨h1, h2⟩ <;> rw [h2] <;> simp <;> omega
    have e2 : decide (0 < ((dig (x.natAbs % y.natAbs)).length : Int)) = decide (x.natAbs % y.natAbs ≠ 0) := by
      by_cases h : x.natAbs % y.natAbs = 0
      · rw [h, dig_zero]; rfl
      · have := b1n h
        have h3 : 0 < (dig (x.natAbs % y.natAbs)).length := List.length_pos_iff.2 this
        simp [h]; omega
    rw [e1, e2]
    cases decide (x * y < 0) <;> rfl) ?_
  by_cases ho : odd x y = true
  · refine Ev.then ho ?_
    refine Ev.bind (a := dig (x.natAbs / y.natAbs + 1)) (by
      have := c2d (x.natAbs / y.natAbs) 1 (by omega) (by rw [dig_one]; simp)
      rwa [dig_one] at this) ?_
    refine Ev.bind (a5v (-1) (by omega)) ?_
    refine Ev.bind (c2h y.natAbs (x.natAbs % y.natAbs) (by omega) (by omega)) ?_
    refine Ev.bind (a5v (sg y) (by omega)) ?_
    refine (Ev.pure _).eq ?_
    rw [a4f (dq x y) (c2z ho).1 (fun _ => (c2z ho).2.symm), a4f (dr x y) (c2t hy0 ho).1 (fun _ => (c2t hy0 ho).2.symm)]
  · refine Ev.else (by simpa using ho) ?_
    refine Ev.bind (a5v (imul .i64 (sg x) (sg y)) (by omega)) ?_
    refine Ev.bind (a5v (sg x) (by omega)) ?_
    refine (Ev.pure _).eq ?_
    rw [b2q, a4f (dq x y) (c0f hy0 ho).1 (c0f hy0 ho).2, a4f (dr x y) (c0h ho).1 (c0h ho).2]
/- gcd -/
theorem d1m (v : Nat) : ∀ (u : Nat), (dig u).length < 16777216 → (dig v).length < 16777216 → ∃ N, ∀ n, N ≤ n → ∀ (kont : List Int → Option (Big × Int)) m, v < m → a7p n kont m (dig u) (dig v) = kont (dig (Nat.gcd u v)) := by
  induction v using Nat.strongRecOn with
  | ind v ih =>
    intro u hu hv
    by_cases h : v = 0
    · subst h
      refine ⟨0, fun n _ kont m hm => ?_⟩
      obtain ⟨m, rfl⟩ : ∃ m', m = m' + 1 := ⟨m - 1, by omega⟩
      rw [b3f, dig_zero, Nat.gcd_zero_right]; rfl
    · have hlt := Nat.mod_lt u (show v > 0 by omega)
      obtain ⟨N1, h1⟩ := c7z (x := u) (y := v) h hu hv
      obtain ⟨N2, h2⟩ := ih (u % v) hlt v hv (by have := a3e (Nat.le_of_lt hlt); omega)
      refine ⟨max N1 N2, fun n hn kont m hm => ?_⟩
      obtain ⟨m, rfl⟩ : ∃ m', m = m' + 1 := ⟨m - 1, by omega⟩
      have h3 : 0 < (dig v).length := List.length_pos_iff.2 (b1n h)
      rw [b3f, show decide (0 < ((dig v).length : Int)) = true by simp; omega, cond_true, (show b3b n (dig u) (dig v) = _ from h1 n (by omega)), Option.bind_some]
      show a7p n kont m (dig v) (dig (u % v)) = _
      rw [h2 n (by omega) kont m (by omega), Nat.gcd_comm v, ← Nat.gcd_rec, Nat.gcd_comm]
theorem c8a {x y : Int} {k : Nat} (hx : Sm k x) (hy : Sm k y) (hk : k < 8388608) : Ev (fun n => b3h n (toB x) (toB y)) (toB (Nat.gcd x.natAbs y.natAbs : Nat), 0) := by
  have lx := a1u hx
  have ly := a1u hy
  have lg : (dig (Nat.gcd x.natAbs y.natAbs)).length < 16777216 := by
    by_cases h : x.natAbs = 0
    · rw [h, Nat.gcd_zero_left]; omega
    · have := a3e (Nat.gcd_le_left y.natAbs (show 0 < x.natAbs by omega)); omega
  unfold b3h
  refine Ev.bind (a4l hx (by omega)) ?_
  refine Ev.bind (a := false) (Ev.else rfl (Ev.bind (a4l hy (by omega)) (Ev.pure _))) ?_
  refine Ev.else rfl ?_
  refine Ev.bind (b4t (a := (toB x).Digits) (by simp only [toB]; omega)) ?_
  obtain ⟨N, hN⟩ := d1m y.natAbs x.natAbs (by omega) (by omega)
  refine Ev.from (max N (y.natAbs + 1)) (fun n hn => hN n (by omega) _ n (by omega)) ?_
  refine Ev.bind (b4t (by omega)) ?_
  refine Ev.bind (a5v 1 (by omega)) ?_
  rw [a4f ((Nat.gcd x.natAbs y.natAbs : Nat) : Int) (Int.natAbs_natCast _) (fun hv => by rw [a3p (by omega)])]
  exact Ev.step (a9b 0 _) (Ev.pure _)
/- Compare -/
theorem c3s {x y : Int} {k : Nat} (hx : Sm k x) (hy : Sm k y) (hk : k < 536870912) : Ev (fun n => b0a n (toB x) (toB y)) (sg (x - y)) := by
  have lx := a1u hx
  unfold b0a
  refine Ev.bind (a4l hx (by omega)) ?_
  refine Ev.bind (a := false) (Ev.else rfl (Ev.bind (a4l hy (by omega)) (Ev.pure _))) ?_
  refine Ev.else rfl ?_
  by_cases h : sg x = sg y
  · refine Ev.else (by show (sg x != sg y) = false; rw [h]; simp) ?_
    refine Ev.bind (b8a x.natAbs y.natAbs (by omega)) ?_
    refine (Ev.pure _).eq ?_
    show imul .i64 (sg x) _ = _
    rw [b2q]
    rcases a1s x with ⟨a, b⟩ | ⟨a, b⟩ | ⟨a, b⟩ <;> rcases a1s y with ⟨c, d⟩ | ⟨c, d⟩ | ⟨c, d⟩ <;> rw [b, d] at h <;> (try omega)
    · rw [b4a, b]
      rcases a1s (x - y) with ⟨e, f⟩ | ⟨e, f⟩ | ⟨e, f⟩
      · rw [f, a3p (by omega)]; rfl
      · rw [f, show (x.natAbs : Int) - y.natAbs = 0 by omega]; rfl
      · rw [f, a3z (by omega)]; rfl
    · subst a c; rfl
    · rw [b4a, b, Int.one_mul, show (x.natAbs : Int) - y.natAbs = x - y by omega]
  · refine Ev.then (by show (sg x != sg y) = true; simpa using h) ?_
    refine Ev.step (a := sg (sg x - sg y)) (b4c 0 _ _) ?_
    refine (Ev.pure _).eq ?_
    rcases a1s x with ⟨a, b⟩ | ⟨a, b⟩ | ⟨a, b⟩ <;> rcases a1s y with ⟨c, d⟩ | ⟨c, d⟩ | ⟨c, d⟩ <;> rw [b, d] at h ⊢ <;> first
      | (exfalso; omega)
      | (rw [a3z (x := x - y) (by omega)]; decide)
      | (rw [a3p (x := x - y) (by omega)]; decide)
/- Same -/
theorem c3x (x y : Int) (xs ys : List Int) : decide (x :: xs = y :: ys) = (decide (x = y) && decide (xs = ys)) := by
  by_cases h : x = y <;> by_cases h2 : xs = ys <;> simp [h, h2]
theorem c4g (n : Nat) (a b : List Int) (kont : Option Bool) (hl : a.length = b.length) (hla : a.length < 1099511627776) : ∀ (us : List Int) (i m : Nat), a.drop i = us → us.length < m → a2t n a b kont m (i : Int) = bif decide (us = b.drop i) then kont else some false
  | [], i, m + 1, hd, _ => by
    rw [a5o]
    have := a5j hd
    have hb : b.drop i = [] := List.drop_eq_nil_of_le (by omega)
    rw [show decide ((i : Int) < (a.length : Int)) = false by simp; omega, hb]; rfl
  | x :: xs, i, m + 1, hd, hm => by
    rw [a5o]
    obtain ⟨f1, f2, f3⟩ := a2z hd
    have hdb : b.drop i = b[i] :: b.drop (i + 1) := List.drop_eq_getElem_cons (by omega)
    rw [show decide ((i : Int) < (a.length : Int)) = true by simp; omega, cond_true, f1, Option.bind_some, (a2z hdb).1, Option.bind_some, hdb]
    by_cases h : x = b[i]
    · rw [show (x != b[i]) = false by simp [h], cond_false, b2m (by omega), c4g n a b kont hl hla xs (i + 1) m f2 (by simpa using hm), c3x, show decide (x = b[i]) = true by simpa using h, Bool.true_and]
    · rw [show (x != b[i]) = true by simpa using h, cond_true, c3x, show decide (x = b[i]) = false by simpa using h]; rfl
  | _, _, 0, _, h => by omega
theorem c4w {a b : Big} (hl : a.Digits.length < 1099511627776) : Ev (fun n => b3k n a b) (decide (a = b)) := by
  unfold b3k
  refine Ev.bind (a := decide (a = b)) ?_ (Ev.pure _)
  obtain ⟨s, l⟩ := a
  obtain ⟨t, k⟩ := b
  by_cases h : s = t
  · subst h
    refine Ev.then (by simp) ?_
    refine Ev.bind (a := decide (l = k)) ?_ ((Ev.pure _).eq (by simp))
    unfold a5r
    by_cases hlen : l.length = k.length
    · refine Ev.else (by simp [hlen]) ⟨l.length + 1, fun n hn => ?_⟩
      have h1 := c4g n l k (some true) hlen hl l 0 n rfl (by omega)
      rw [show ((0 : Nat) : Int) = 0 from rfl, List.drop_zero] at h1
      dsimp only at h1 ⊢
      rw [h1]
      cases decide (l = k) <;> rfl
    · refine Ev.then (by simp; omega) ((Ev.pure _).eq ?_)
      have : l ≠ k := fun e => hlen (by rw [e])
      simp [this]
  · refine Ev.else (by simpa using h) ((Ev.pure _).eq (by simp [h]))
end Go.Proofs.YtaanocaobllohaaGreatDoor.D

/-
  THE BIG INTEGERS' FUNCTIONS, as arithmetic, third part: ints to and fro.
-/
namespace Go.Proofs.YtaanocaobllohaaGreatDoor.D
open Go Rt M
theorem Of_L (n : Nat) (kont : List Int → Option Big) : ∀ (u m : Nat) (acc : List Int), u < 18446744073709551616 → (dig u).length < m → acc.length + (dig u).length < 1099511627776 → a8h n kont m (u : Int) acc = kont (acc ++ dig u) := by
  intro u
  induction u using Nat.strongRecOn with
  | ind u ih =>
    intro m acc hu hm ha
    obtain ⟨m, rfl⟩ : ∃ m', m = m' + 1 := ⟨m - 1, by omega⟩
    rw [b6s]
    by_cases h : u = 0
    · subst h
      rw [dig_zero, List.append_nil]; rfl
    · have hd := b1g h
      rw [hd] at hm ha
      simp only [List.length_cons] at hm ha
      rw [show decide (0 < (u : Int)) = true by simp; omega, cond_true, c3j (by omega) (by omega), a5k (by omega) (by omega), b4w (by simp; omega), Option.bind_some, c8z, Option.bind_some]
      have e1 : (u : Int) / 1048576 = ((u / 1048576 : Nat) : Int) := by omega
      have e2 : (u : Int) % 1048576 = ((u % 1048576 : Nat) : Int) := by omega
      rw [e1, e2, ih (u / 1048576) (by omega) m _ (by omega) (by omega) (by simp; omega), hd]
      simp
theorem b6c {u : Nat} (h : u < 18446744073709551616) : (dig u).length ≤ 4 := by
  have h1 : Sm 4 (u : Int) := by unfold Sm; rw [Int.natAbs_natCast, show pw 4 = 1208925819614629174706176 by decide]; omega
  have h2 := a1u h1
  rwa [Int.natAbs_natCast] at h2
theorem c7g {x : Int} (h1 : -9223372036854775808 ≤ x) (h2 : x ≤ 9223372036854775807) : Ev (fun n => b0y n x) (toB x) := by
  have hl := b6c (u := x.natAbs) (by omega)
  have hs : ∀ s : Int, Ev (fun n => (a1y n s (dig x.natAbs)).bind fun v1 => some (⟨v1.Sign, v1.Digits⟩ : Big)) (if x.natAbs = 0 then ⟨0, []⟩ else ⟨s, dig x.natAbs⟩) := fun s =>
    Ev.bind (a5v s (by omega)) (Ev.pure _)
  by_cases hx : x < 0
  · refine Ev.from (g := fun n => (a1y n (-1) (dig x.natAbs)).bind fun v1 => some (⟨v1.Sign, v1.Digits⟩ : Big)) 5 (fun n hn => ?_) ((hs (-1)).eq (a4f x rfl (fun _ => (a3z hx).symm)))
    unfold b0y
    rw [show decide (x < 0) = true by simpa using hx, cond_true, Option.bind_some]
    have e : IntKind.u64.wrap (0 - IntKind.u64.wrap x) = (x.natAbs : Int) := by rw [b3g, b3g]; omega
    show a8h n _ n (IntKind.u64.wrap (0 - IntKind.u64.wrap x)) [] = _
    rw [e, Of_L n _ x.natAbs n [] (by omega) (by omega) (by simp; omega), List.nil_append]
  · refine Ev.from (g := fun n => (a1y n 1 (dig x.natAbs)).bind fun v1 => some (⟨v1.Sign, v1.Digits⟩ : Big)) 5 (fun n hn => ?_) ((hs 1).eq (a4f x rfl (fun h => (a3p (by omega)).symm)))
    unfold b0y
    rw [show decide (x < 0) = false by simpa using hx, cond_false, Option.bind_some]
    have e : IntKind.u64.wrap x = (x.natAbs : Int) := by rw [b3g]; omega
    show a8h n _ n (IntKind.u64.wrap x) [] = _
    rw [e, Of_L n _ x.natAbs n [] (by omega) (by omega) (by simp; omega), List.nil_append]
/- Int -/
theorem c9n {x : Int} {i : Nat} (hi : i ≤ 60) (h0 : 0 ≤ x) (h1 : x * 2 ^ i < 18446744073709551616) : shl .u64 x (i : Int) = some (x * 2 ^ i) := by
  unfold shl
  have h3 : 0 ≤ x * 2 ^ i := Int.mul_nonneg h0 (Int.le_of_lt (Int.pow_pos (by decide)))
  rw [if_neg (by omega), show min (i : Int).toNat IntKind.u64.bits = i by simp [IntKind.bits]; omega, b3g]
  congr 1
  omega
theorem c9p {x y : Int} {i : Nat} (h0 : 0 ≤ x) (h1 : x < 2 ^ i) (h2 : 0 ≤ y) (h3 : x + y * 2 ^ i < 18446744073709551616) : ior .u64 x (y * 2 ^ i) = x + y * 2 ^ i := by
  obtain ⟨p, rfl⟩ := Int.eq_ofNat_of_zero_le h0
  obtain ⟨q, rfl⟩ := Int.eq_ofNat_of_zero_le h2
  have h1' : p < 2 ^ i := by have : ((p : Nat) : Int) < ((2 ^ i : Nat) : Int) := by simpa using h1
                             exact Int.ofNat_lt.1 this
  have e : (q : Int) * 2 ^ i = ((2 ^ i * q : Nat) : Int) := by rw [Int.natCast_mul, Int.mul_comm]; simp
  rw [e] at h3 ⊢
  unfold ior
  rw [BitVec.toNat_or, BitVec.toNat_ofInt, BitVec.toNat_ofInt, show IntKind.u64.bits = 64 from rfl]
  have e1 : ((p : Int) % ((2 ^ 64 : Nat) : Int)).toNat = p := by omega
  have e2 : (((2 ^ i * q : Nat) : Int) % ((2 ^ 64 : Nat) : Int)).toNat = 2 ^ i * q := by omega
  rw [e1, e2, Nat.or_comm, ← Nat.two_pow_add_eq_or_of_lt h1', b3g]
  omega
theorem pw_two : ∀ i, pw i = 2 ^ (20 * i)
  | 0 => rfl
  | i + 1 => by rw [pw, pw_two i, Nat.mul_add, Int.pow_add, Int.mul_comm]; rfl
theorem d0e (n : Nat) (a : Big) (kont : Int → Option (Int × Bool)) (hr : InR a.Digits) (h4 : a.Digits.length ≤ 4) : ∀ (us : List Int) (i m : Nat) (u : Int), a.Digits.drop i = us → us.length < m → 0 ≤ u → u < pw i → u < 10376293541461622784 →
    a8m n a kont m u (i : Int) = if u + pw i * val us < 10376293541461622784 then kont (u + pw i * val us) else some (0, false)
  | [], i, m + 1, u, hd, _, h0, h1, h2 => by
    have hi : a.Digits.length ≤ i := by simpa using hd
    rw [b2v, show decide ((i : Int) < (a.Digits.length : Int)) = false by simp; omega, cond_false]
    simp only [val, Int.mul_zero, Int.add_zero]
    rw [if_pos h2]
  | d :: us, i, m + 1, u, hd, hm, h0, h1, h2 => by
    obtain ⟨hix, hdt, hi⟩ := a2z hd
    have hdr := hr d (List.mem_of_mem_drop (by rw [hd]; simp : d ∈ a.Digits.drop i))
    have hir : InR us := fun e he => hr e (by rw [← List.take_append_drop (i + 1) a.Digits, hdt]; exact List.mem_append_right _ he)
    rw [b2v, show decide ((i : Int) < (a.Digits.length : Int)) = true by simp; omega, cond_true, hix, Option.bind_some]
    have hp := pw_pos i
    have hval : u + pw i * val (d :: us) = (u + d * pw i) + pw (i + 1) * val us := by simp only [val, pw]; grind
    have hvus : 0 ≤ pw (i + 1) * val us := Int.mul_nonneg (Int.le_of_lt (pw_pos _)) (val_nonneg hir)
    have hpi : pw i ≤ pw 3 := pw_mono (by omega)
    rw [show pw 3 = 1152921504606846976 by decide] at hpi
    by_cases h8 : i = 3 ∧ 8 < d
    · obtain ⟨rfl, h8⟩ := h8
      rw [show ((((3 : Nat) : Int)) == 3) = true from rfl, cond_true, Option.bind_some, show decide (8 < d) = true by simpa using h8, cond_true, hval, if_neg]
      rw [show pw 3 = 1152921504606846976 by decide]
      omega
    · have e1 : (bif ((i : Int) == 3) then some (decide (8 < d)) else some false) = some false := by
        by_cases h3 : i = 3
        · subst h3
          rw [show ((((3 : Nat) : Int)) == 3) = true from rfl, cond_true, show decide (8 < d) = false by simp; omega]
        · rw [show ((i : Int) == 3) = false by simp; omega, cond_false]
      rw [e1, Option.bind_some, cond_false]
      have hq : u + d * pw i < 10376293541461622784 := by
        rcases Nat.lt_or_ge i 3 with h3 | h3
        · have h5 : pw (i + 1) ≤ pw 3 := pw_mono (by omega)
          rw [show pw 3 = 1152921504606846976 by decide] at h5
          have h6 : (d + 1) * pw i ≤ 1048576 * pw i := Int.mul_le_mul_of_nonneg_right (by omega) (Int.le_of_lt hp)
          simp only [pw] at h5
          rw [Int.add_mul, Int.one_mul] at h6
          omega
        · have : i = 3 := by omega
          subst this
          rw [show pw 3 = 1152921504606846976 by decide] at h1 ⊢
          omega
      have hq1 : u + d * pw i < pw (i + 1) := by
        have h6 : (d + 1) * pw i ≤ 1048576 * pw i := Int.mul_le_mul_of_nonneg_right (by omega) (Int.le_of_lt hp)
        simp only [pw]
        rw [Int.add_mul, Int.one_mul] at h6
        omega
      have hq0 : 0 ≤ d * pw i := Int.mul_nonneg hdr.1 (Int.le_of_lt hp)
      have e2 : imul .i64 20 (i : Int) = ((20 * i : Nat) : Int) := by rw [a6k (by omega) (by omega)]; omega
      have e3 : IntKind.u64.wrap d = d := by rw [b3g]; omega
      rw [e2, e3, c9n (by omega) hdr.1 (by rw [← pw_two]; omega), Option.bind_some, c9p h0 (by rw [← pw_two]; exact h1) hdr.1 (by rw [← pw_two]; omega), ← pw_two]
      have e4 : iadd .i64 (i : Int) 1 = ((i + 1 : Nat) : Int) := by rw [a2q (by omega) (by omega)]; omega
      rw [e4, d0e n a kont hr h4 us (i + 1) m (u + d * pw i) hdt (by simp only [List.length_cons] at hm; omega) (by omega) hq1 hq, hval]
theorem d0t {x : Int} {k : Nat} (h : Sm k x) (hk : k < 1099511627776) : Ev (fun n => b8i n (toB x)) (if -9223372036854775808 ≤ x ∧ x ≤ 9223372036854775807 then (x, true) else (0, false)) := by
  unfold b8i
  refine Ev.bind (a4l h hk) ?_
  by_cases hl : (dig x.natAbs).length ≤ 4
  · refine Ev.bind (a := false) (Ev.else rfl ((Ev.pure _).eq (by show decide (4 < ((dig x.natAbs).length : Int)) = false; simp; omega))) ?_
    refine Ev.else rfl ?_
    refine Ev.from (g := fun _ => some (if -9223372036854775808 ≤ x ∧ x ≤ 9223372036854775807 then (x, true) else (0, false))) 5 (fun n hn => ?_) (Ev.pure _)
    have h1 := d0e n (toB x) (fun (u2 : Int) =>
      (bif decide ((toB x).Sign < 0) then
        some (decide (u2 ≤ 9223372036854775808))
      else
        some false).bind fun v3 =>
      bif v3 then
        some (IntKind.i64.wrap (IntKind.u64.wrap (0 - u2)), true)
      else
        (bif decide (0 ≤ (toB x).Sign) then
          some (decide (u2 < 9223372036854775808))
        else
          some false).bind fun v4 =>
        bif v4 then
          some (IntKind.i64.wrap u2, true)
        else
          some (0, false)) (a2p x.natAbs) hl (dig x.natAbs) 0 n 0 rfl (by omega) (by decide) (by decide) (by decide)
    refine h1.trans ?_
    rw [a2c, show pw 0 = 1 from rfl, Int.one_mul, Int.zero_add]
    by_cases hb : (x.natAbs : Int) < 10376293541461622784
    · rw [if_pos hb]
      have hsx : (toB x).Sign = sg x := rfl
      rw [hsx]
      rcases a1s x with ⟨a, b⟩ | ⟨a, b⟩ | ⟨a, b⟩ <;> rw [b]
      · rw [show decide ((-1 : Int) < 0) = true from rfl, cond_true, Option.bind_some]
        by_cases hc : (x.natAbs : Int) ≤ 9223372036854775808
        · rw [show decide ((x.natAbs : Int) ≤ 9223372036854775808) = true by simpa using hc, cond_true, if_pos (by omega)]
          congr 2
          rw [c7q, b3g]; split <;> omega
        · rw [show decide ((x.natAbs : Int) ≤ 9223372036854775808) = false by simpa using hc, cond_false, if_neg (by omega)]; rfl
      · subst a; rfl
      · rw [show decide ((1 : Int) < 0) = false from rfl, cond_false, Option.bind_some, cond_false, show decide ((0 : Int) ≤ 1) = true from rfl, cond_true, Option.bind_some]
        by_cases hc : (x.natAbs : Int) < 9223372036854775808
        · rw [show decide ((x.natAbs : Int) < 9223372036854775808) = true by simpa using hc, cond_true, if_pos (by omega)]
          congr 2
          rw [a5k (by omega) (by omega)]; omega
        · rw [show decide ((x.natAbs : Int) < 9223372036854775808) = false by simpa using hc, cond_false, if_neg (by omega)]
    · rw [if_neg hb, if_neg (by omega)]
  · refine Ev.bind (a := true) (Ev.else rfl ((Ev.pure _).eq (by show decide (4 < ((dig x.natAbs).length : Int)) = true; simp; omega))) ?_
    refine Ev.then rfl ((Ev.pure _).eq ?_)
    rw [if_neg]
    intro hx
    exact hl (b6c (by omega))
end Go.Proofs.YtaanocaobllohaaGreatDoor.D

/-
  THE BIG INTEGERS' FUNCTIONS, as arithmetic, fourth part: the text.
-/
namespace Go.Proofs.YtaanocaobllohaaGreatDoor.D
open Go Rt M
theorem d1d (n : Nat) (kont : List Bs → Option (List Bs)) : ∀ (k : Nat) (M P S : List Bs) (m : Nat), M.length ≤ k → k < m → P.length + M.length + S.length < 1099511627776 →
    a1m n kont m (P.length : Int) ((P.length : Int) + M.length - 1) (P ++ (M ++ S)) = kont (P ++ (M.reverse ++ S)) := by
  intro k
  induction k with
  | zero =>
    intro M P S m h1 h2 h3
    obtain ⟨m, rfl⟩ : ∃ m', m = m' + 1 := ⟨m - 1, by omega⟩
    obtain rfl : M = [] := List.length_eq_zero_iff.1 (by omega)
    unfold a1m
    rw [show decide ((P.length : Int) < (P.length : Int) + (([] : List Bs).length : Int) - 1) = false by simp; omega, cond_false]; rfl
  | succ k ih =>
    intro M P S m h1 h2 h3
    obtain ⟨m, rfl⟩ : ∃ m', m = m' + 1 := ⟨m - 1, by omega⟩
    unfold a1m
    rcases M with _ | ⟨x, M⟩
    · rw [show decide ((P.length : Int) < (P.length : Int) + (([] : List Bs).length : Int) - 1) = false by simp; omega, cond_false]; rfl
    rcases List.eq_nil_or_concat M with rfl | ⟨M, y, rfl⟩
    · rw [show decide ((P.length : Int) < (P.length : Int) + (([x] : List Bs).length : Int) - 1) = false by simp, cond_false]; rfl
    · simp only [List.concat_eq_append, List.length_cons, List.length_append, List.length_nil] at h1 h3 ⊢
      rw [show decide ((P.length : Int) < (P.length : Int) + ((M.length + (0 + 1) + 1 : Nat) : Int) - 1) = true by simp; omega, cond_true]
      have e1 : P ++ (x :: (M ++ [y]) ++ S) = (P ++ x :: M) ++ y :: S := by simp
      have e2 : P ++ (x :: (M ++ [y]) ++ S) = P ++ x :: (M ++ y :: S) := by simp
      have e3 : P ++ y :: (M ++ y :: S) = (P ++ y :: M) ++ y :: S := by simp
      have hj : ∀ z : Bs, (P.length : Int) + ((M.length + (0 + 1) + 1 : Nat) : Int) - 1 = ((P ++ z :: M).length : Int) := by intro z; simp; omega
      rw [show ix (P ++ (x :: (M ++ [y]) ++ S)) ((P.length : Int) + ((M.length + (0 + 1) + 1 : Nat) : Int) - 1) = some y by rw [e1]; exact a5x _ _ _ (hj x), Option.bind_some,
        show ix (P ++ (x :: (M ++ [y]) ++ S)) (P.length : Int) = some x by rw [e2]; exact a5x _ _ _ rfl, Option.bind_some, Option.bind_some,
        show lset (P ++ (x :: (M ++ [y]) ++ S)) (P.length : Int) y = some (P ++ y :: (M ++ y :: S)) by rw [e2]; exact a6n _ _ _ _ rfl, Option.bind_some,
        show ix (P ++ y :: (M ++ y :: S)) ((P.length : Int) + ((M.length + (0 + 1) + 1 : Nat) : Int) - 1) = some y by rw [e3]; exact a5x _ _ _ (hj y), Option.bind_some,
        show lset (P ++ y :: (M ++ y :: S)) ((P.length : Int) + ((M.length + (0 + 1) + 1 : Nat) : Int) - 1) x = some ((P ++ [y]) ++ (M ++ (x :: S))) by rw [e3, a6n _ _ _ _ (hj y)]; simp, Option.bind_some]
      have e4 : iadd .i64 (P.length : Int) 1 = ((P ++ [y]).length : Int) := by rw [a2q (by omega) (by omega)]; simp
      have e5 : isub .i64 ((P.length : Int) + ((M.length + (0 + 1) + 1 : Nat) : Int) - 1) 1 = ((P ++ [y]).length : Int) + M.length - 1 := by rw [a2g (by omega) (by omega)]; simp; omega
      rw [e4, e5, ih M (P ++ [y]) (x :: S) m (by omega) (by omega) (by simp; omega)]
      simp
theorem d1h {l : List Bs} {n : Nat} (hl : l.length < 1099511627776) (hn : l.length < n) : a2j n l = some l.reverse := by
  unfold a2j
  have h := d1d n (fun l2 => some l2) l.length l [] [] n (by omega) hn (by simp; omega)
  simp only [List.nil_append, List.append_nil, List.length_nil, Int.natCast_zero, Int.zero_add] at h
  rw [a2g (by omega) (by omega)]
  exact h
/- the decimal digits, five at a time -/
def c8 (v : Nat) : UInt8 := UInt8.ofNat (48 + v % 10)
def five (v : Nat) : Bs := [c8 (v / 10000), c8 (v / 1000), c8 (v / 100), c8 (v / 10), c8 v]
theorem a6o {v : Nat} (h : 10 ≤ v) : Lib.decDigits v = Lib.decDigits (v / 10) ++ [c8 v] := by
  rw [Lib.decDigits, dif_neg (by omega)]; rfl
theorem a7h {v : Nat} (h : v < 10) : Lib.decDigits v = [c8 v] := by
  rw [Lib.decDigits, dif_pos h]; unfold c8; rw [Nat.mod_eq_of_lt h]
theorem c6p {v : Nat} (h : 100000 ≤ v) : Lib.decDigits v = Lib.decDigits (v / 100000) ++ five v := by
  rw [a6o (v := v) (by omega), a6o (v := v / 10) (by omega), a6o (v := v / 10 / 10) (by omega), a6o (v := v / 10 / 10 / 10) (by omega), a6o (v := v / 10 / 10 / 10 / 10) (by omega)]
  rw [show v / 10 / 10 = v / 100 by omega, show v / 100 / 10 = v / 1000 by omega, show v / 1000 / 10 = v / 10000 by omega, show v / 10000 / 10 = v / 100000 by omega]
  simp [five]
theorem c0z (v k : Nat) (h : k = 1 ∨ k = 10 ∨ k = 100 ∨ k = 1000 ∨ k = 10000) : c8 (v % 100000 / k) = c8 (v / k) := by
  unfold c8; congr 2
  rcases h with rfl | rfl | rfl | rfl | rfl <;> omega
theorem c2p (v : Nat) : Lib.repeatL [48] (5 - (Lib.decDigits (v % 100000)).length) ++ Lib.decDigits (v % 100000) = five v := by
  have e : five v = [c8 (v % 100000 / 10000), c8 (v % 100000 / 1000), c8 (v % 100000 / 100), c8 (v % 100000 / 10), c8 (v % 100000)] := by
    have := c0z v 1 (by simp)
    rw [c0z v 10000 (by simp), c0z v 1000 (by simp), c0z v 100 (by simp), c0z v 10 (by simp), show c8 (v % 100000) = c8 v by simpa using this]; rfl
  rw [e]
  have hr : v % 100000 < 100000 := Nat.mod_lt _ (by decide)
  generalize v % 100000 = r at *
  have z : c8 0 = 48 := rfl
  by_cases h1 : r < 10
  · rw [a7h h1, show r / 10 = 0 by omega, show r / 100 = 0 by omega, show r / 1000 = 0 by omega, show r / 10000 = 0 by omega, z]; rfl
  by_cases h2 : r < 100
  · rw [a6o (by omega), a7h (v := r / 10) (by omega), show r / 100 = 0 by omega, show r / 1000 = 0 by omega, show r / 10000 = 0 by omega, z]; rfl
  by_cases h3 : r < 1000
  · rw [a6o (by omega), a6o (v := r / 10) (by omega), a7h (v := r / 10 / 10) (by omega), show r / 10 / 10 = r / 100 by omega, show r / 1000 = 0 by omega, show r / 10000 = 0 by omega, z]; rfl
  by_cases h4 : r < 10000
  · rw [a6o (by omega), a6o (v := r / 10) (by omega), a6o (v := r / 10 / 10) (by omega), a7h (v := r / 10 / 10 / 10) (by omega), show r / 10 / 10 = r / 100 by omega, show r / 100 / 10 = r / 1000 by omega, show r / 10000 = 0 by omega, z]; rfl
  · rw [a6o (by omega), a6o (v := r / 10) (by omega), a6o (v := r / 10 / 10) (by omega), a6o (v := r / 10 / 10 / 10) (by omega), a7h (v := r / 10 / 10 / 10 / 10) (by omega), show r / 10 / 10 = r / 100 by omega, show r / 100 / 10 = r / 1000 by omega, show r / 1000 / 10 = r / 10000 by omega]; rfl
def b0r (v : Nat) : List Bs := if v = 0 then [] else (if v / 100000 = 0 then Lib.decDigits v else five v) :: b0r (v / 100000)
  termination_by v
  decreasing_by omega
theorem chunks_zero : b0r 0 = [] := by rw [b0r]; simp
theorem b5o {v : Nat} (h : v ≠ 0) : b0r v = (if v / 100000 = 0 then Lib.decDigits v else five v) :: b0r (v / 100000) := by rw [b0r]; simp [h]
theorem b4i (v : Nat) (h : v ≠ 0) : (b0r v).reverse.flatten = Lib.decDigits v := by
  induction v using Nat.strongRecOn with
  | ind v ih =>
    rw [b5o h]
    by_cases h1 : v / 100000 = 0
    · rw [h1, chunks_zero]; simp
    · rw [if_neg h1, List.reverse_cons, List.flatten_append, ih (v / 100000) (by omega) h1, c6p (v := v) (by omega)]; simp
theorem chunks_len : ∀ (c v : Nat), v < 65536 ^ c → (b0r v).length ≤ c := by
  intro c
  induction c with
  | zero => intro v h; have : v = 0 := by simp at h; omega
            rw [this, chunks_zero]; simp
  | succ c ih =>
    intro v h
    by_cases h0 : v = 0
    · rw [h0, chunks_zero]; simp
    · rw [b5o h0, List.length_cons]
      have := ih (v / 100000) (by rw [Nat.pow_succ] at h; omega)
      omega
theorem dec_len : ∀ (c v : Nat), v < 8 ^ c → (Lib.decDigits v).length ≤ c + 1 := by
  intro c
  induction c with
  | zero => intro v h; rw [a7h (by simp at h; omega)]; simp
  | succ c ih =>
    intro v h
    by_cases h0 : v < 10
    · rw [a7h h0]; simp
    · rw [a6o (by omega), List.length_append, List.length_singleton]
      have := ih (v / 10) (by rw [Nat.pow_succ] at h; omega)
      omega
theorem c3p {r : Nat} (h : r < 100000) (n : Nat) : strconv_Itoa n (r : Int) = some (Lib.decDigits r) := by
  unfold strconv_Itoa
  rw [if_pos ⟨by omega, by omega⟩]
  unfold Lib.itoa
  rw [if_neg (by omega), Int.toNat_natCast]
theorem c6v {r : Nat} (h : r < 100000) : (Lib.decDigits r).length ≤ 5 := by
  have h1 := congrArg List.length (c2p r)
  rw [Nat.mod_eq_of_lt h, List.length_append, Lib.repeatL_length] at h1
  simp only [five, List.length_cons, List.length_nil] at h1
  omega
theorem c5j {v n : Nat} (h : (dig v).length < 1073741824) (hn : (dig v).length < n) : a5s n (dig v) 100000 = some (dig (v / 100000), ((v % 100000 : Nat) : Int)) := by
  have h1 := c1r (d := 100000) (a2p v) h (by decide) (by decide) hn
  rw [a2c] at h1
  rw [h1, show ((v : Int) / 100000).toNat = v / 100000 by omega, show (v : Int) % 100000 = ((v % 100000 : Nat) : Int) by omega]
theorem d0k (n : Nat) (kont : List Bs → Option Bs) (v : Nat) : ∀ (m : Nat) (acc : List Bs), (dig v).length < 1073741824 → (dig v).length < n → (b0r v).length < m → acc.length + (b0r v).length < 1099511627776 →
    a6c n kont m (dig v) acc = kont (acc ++ b0r v) := by
  induction v using Nat.strongRecOn with
  | ind v ih =>
    intro m acc h1 h2 h3 h4
    obtain ⟨m, rfl⟩ : ∃ m', m = m' + 1 := ⟨m - 1, by omega⟩
    rw [b5c]
    by_cases h : v = 0
    · subst h
      rw [dig_zero, chunks_zero, List.append_nil]; rfl
    · have hc := b5o h
      rw [hc] at h3 h4 ⊢
      simp only [List.length_cons] at h3 h4
      have hlv : 0 < (dig v).length := List.length_pos_iff.2 (b1n h)
      rw [show decide (0 < ((dig v).length : Int)) = true by simp; omega, cond_true, c5j h1 h2, Option.bind_some]
      have hr : v % 100000 < 100000 := Nat.mod_lt _ (by decide)
      have h5 := c6v hr
      rw [show strconv_Itoa n ((dig (v / 100000), ((v % 100000 : Nat) : Int)).2) = some (Lib.decDigits (v % 100000)) from c3p hr n, Option.bind_some]
      have e : (bif decide (0 < ((dig (v / 100000), ((v % 100000 : Nat) : Int)).1.length : Int)) then
          (strings_Repeat n [48] (isub .i64 5 ((Lib.decDigits (v % 100000)).length : Int))).bind fun v6 =>
          (scat v6 (Lib.decDigits (v % 100000))).bind fun t2 =>
          some t2
        else
          some (Lib.decDigits (v % 100000))) = some (if v / 100000 = 0 then Lib.decDigits v else five v) := by
        by_cases hq : v / 100000 = 0
        · rw [if_pos hq]
          show (bif decide (0 < ((dig (v / 100000)).length : Int)) then _ else _) = _
          rw [hq, dig_zero, show decide (0 < (([] : List Int).length : Int)) = false from rfl, cond_false, Nat.mod_eq_of_lt (by omega)]
        · rw [if_neg hq]
          have hlq : 0 < (dig (v / 100000)).length := List.length_pos_iff.2 (b1n hq)
          show (bif decide (0 < ((dig (v / 100000)).length : Int)) then _ else _) = _
          rw [show decide (0 < ((dig (v / 100000)).length : Int)) = true by simp; omega, cond_true, a2g (by omega) (by omega)]
          have e1 : strings_Repeat n [48] (5 - ((Lib.decDigits (v % 100000)).length : Int)) = some (Lib.repeatL [48] (5 - (Lib.decDigits (v % 100000)).length)) := by
            unfold strings_Repeat
            rw [if_pos ⟨by omega, by omega, by simp; omega⟩]
            congr 2
            omega
          rw [e1, Option.bind_some]
          unfold scat
          rw [if_pos (by rw [Lib.repeatL_length]; simp; omega), Option.bind_some, c2p]
      rw [e, Option.bind_some, b4w (by simp; omega), Option.bind_some]
      show a6c n kont m (dig (v / 100000)) _ = _
      have hm := a3e (Nat.div_le_self v 100000)
      rw [ih (v / 100000) (by omega) m _ (by omega) (by omega) (by omega) (by simp; omega)]
      simp
def txt (x : Int) : Bs := if x < 0 then 45 :: Lib.decDigits x.natAbs else Lib.decDigits x.natAbs
theorem join_nilsep : ∀ l : List Bs, Lib.join l [] = l.flatten
  | [] => rfl
  | x :: l => by
    rw [Lib.join_cons]
    unfold Lib.joinTail
    rw [List.flatten_cons, show (fun y : Bs => ([] : Bs) ++ y) = id from rfl, List.map_id]
theorem c1a {x : Int} {k : Nat} (h : Sm k x) : x.natAbs < 2 ^ (20 * k) := by
  unfold Sm at h
  rw [pw_two] at h
  have : ((x.natAbs : Nat) : Int) < ((2 ^ (20 * k) : Nat) : Int) := by simpa using h
  exact Int.ofNat_lt.1 this
theorem b5l {x : Int} {k : Nat} (h : Sm k x) : (txt x).length ≤ 7 * k + 2 := by
  have h1 := c1a h
  have h2 := dec_len (7 * k) x.natAbs (Nat.lt_of_lt_of_le h1 (by rw [show (8 : Nat) = 2 ^ 3 from rfl, ← Nat.pow_mul]; exact Nat.pow_le_pow_right (by decide) (by omega)))
  unfold txt; split <;> simp <;> omega
theorem c5n {x : Int} {k : Nat} (h : Sm k x) (hk : k < 1000000) : Ev (fun n => b3u n (toB x)) (txt x) := by
  have hl := a1u h
  have h1 := c1a h
  have hc := chunks_len (2 * k) x.natAbs (Nat.lt_of_lt_of_le h1 (by rw [show (65536 : Nat) = 2 ^ 16 from rfl, ← Nat.pow_mul]; exact Nat.pow_le_pow_right (by decide) (by omega)))
  have ht := b5l h
  unfold b3u
  refine Ev.bind (a4l h (by omega)) ?_
  refine Ev.else rfl ?_
  refine Ev.from (g := fun _ => some (txt x)) (max (k + 1) (2 * k + 1)) (fun n hn => ?_) (Ev.pure _)
  show a6c n _ n (dig x.natAbs) [] = _
  rw [d0k n _ x.natAbs n [] (by omega) (by omega) (by omega) (by simp; omega), List.nil_append]
  show (a2j n (b0r x.natAbs)).bind _ = _
  rw [d1h (by omega) (by omega), Option.bind_some]
  have ej : strings_Join n (b0r x.natAbs).reverse [] = some (b0r x.natAbs).reverse.flatten := by
    unfold strings_Join
    rw [join_nilsep, if_pos]
    refine ⟨by simp; omega, ?_⟩
    by_cases h0 : x.natAbs = 0
    · rw [h0, chunks_zero]; simp
    · rw [b4i _ h0]; unfold txt at ht; split at ht <;> (try simp only [List.length_cons] at ht) <;> omega
  rw [ej, Option.bind_some]
  show (bif sg x == 0 then some [48] else bif sg x == -1 then _ else _) = _
  rcases a1s x with ⟨a, b⟩ | ⟨a, b⟩ | ⟨a, b⟩ <;> rw [b]
  · rw [show ((-1 : Int) == 0) = false from rfl, cond_false, show ((-1 : Int) == -1) = true from rfl, cond_true, b4i _ (by omega)]
    unfold txt at ht ⊢
    rw [if_pos a] at ht ⊢
    unfold scat
    rw [if_pos (by simp at ht ⊢; omega)]; rfl
  · subst a
    rw [show ((0 : Int) == 0) = true from rfl, cond_true]
    unfold txt
    rw [if_neg (by omega), show (0 : Int).natAbs = 0 from rfl, a7h (by decide)]; rfl
  · rw [show ((1 : Int) == 0) = false from rfl, cond_false, show ((1 : Int) == -1) = false from rfl, cond_false, b4i _ (by omega)]
    unfold txt
    rw [if_neg (by omega)]
/- what digits are worth -/
def isd (b : UInt8) : Bool := decide (48 ≤ b.toNat) && decide (b.toNat ≤ 57)
end Go.Proofs.YtaanocaobllohaaGreatDoor.D

/-
  THE BIG INTEGERS' FUNCTIONS, as arithmetic, fifth part: what is read.
-/
namespace Go.Proofs.YtaanocaobllohaaGreatDoor.D
open Go Rt M
def tens : Bs := [48, 49, 50, 51, 52, 53, 54, 55, 56, 57]
theorem c7f (b : UInt8) : tens.contains b = isd b := by
  have h : ∀ n, n < 256 → tens.contains (UInt8.ofNat n) = isd (UInt8.ofNat n) := by decide +kernel
  have := h b.toNat (UInt8.toNat_lt b)
  rwa [UInt8.ofNat_toNat] at this
theorem asc (n : Nat) (b : UInt8) : asciiSet_contains n tens (b.toNat : Int) = some (isd b) := by
  unfold asciiSet_contains
  have := UInt8.toNat_lt b
  rw [if_pos ⟨by omega, by omega⟩, Int.toNat_natCast, UInt8.ofNat_toNat, c7f]
theorem c8j (n : Nat) (kont : Bs → Option Bs) : ∀ (k : Nat) (s : Bs) (m : Nat), s.length ≤ k → k < m → s.length < 1099511627776 →
    ∃ s', MT.strings_trimRightASCII_L1 n tens kont m s = kont s' ∧ s'.all isd = s.all isd ∧ (s.all isd = true → s' = []) ∧ s'.length ≤ s.length := by
  intro k
  induction k with
  | zero =>
    intro s m h1 h2 h3
    obtain ⟨m, rfl⟩ : ∃ m', m = m' + 1 := ⟨m - 1, by omega⟩
    obtain rfl : s = [] := List.length_eq_zero_iff.1 (by omega)
    exact ⟨[], rfl, rfl, fun _ => rfl, by omega⟩
  | succ k ih =>
    intro s m h1 h2 h3
    obtain ⟨m, rfl⟩ : ∃ m', m = m' + 1 := ⟨m - 1, by omega⟩
    rcases List.eq_nil_or_concat s with rfl | ⟨p, b, rfl⟩
    · exact ⟨[], rfl, rfl, fun _ => rfl, by omega⟩
    rw [List.concat_eq_append] at *
    simp only [List.length_append, List.length_singleton] at h1 h3
    unfold MT.strings_trimRightASCII_L1
    rw [show decide (0 < ((p ++ [b]).length : Int)) = true by simp <;> omega, cond_true, a2g (by simp <;> omega) (by simp <;> omega), show ((p ++ [b]).length : Int) - 1 = (p.length : Int) by simp]
    have e1 : sidx (p ++ [b]) (p.length : Int) = some (b.toNat : Int) := by unfold sidx; rw [if_pos (by omega)]; simp
    rw [e1, Option.bind_some, asc, Option.bind_some]
    cases hb : isd b with
    | false => exact ⟨p ++ [b], rfl, rfl, fun h => by simp [hb] at h, by omega⟩
    | true =>
      have e2 : ssl (p ++ [b]) 0 (p.length : Int) = some p := by unfold ssl; rw [if_pos ⟨by omega, by omega, by simp <;> omega⟩]; simp
      rw [show (bif !true then kont (p ++ [b]) else (ssl (p ++ [b]) 0 (p.length : Int)).bind fun t1 => MT.strings_trimRightASCII_L1 n tens kont m t1) = MT.strings_trimRightASCII_L1 n tens kont m p by rw [e2]; rfl]
      obtain ⟨s', h4, h5, h6, h7⟩ := ih p m (by omega) (by omega) (by omega)
      have e3 : (p ++ [b]).all isd = p.all isd := by rw [List.all_append]; simp [hb]
      exact ⟨s', h4, by rw [e3, h5], by rw [e3]; exact h6, by simp; omega⟩
theorem c5b (n : Nat) (kont : Bs → Option Bs) : ∀ (s : Bs) (m : Nat), s.length < m →
    ∃ s', MT.strings_trimLeftASCII_L1 n tens kont m s = kont s' ∧ (s' == []) = s.all isd
  | [], m + 1, _ => ⟨[], rfl, rfl⟩
  | b :: s, m + 1, h => by
    unfold MT.strings_trimLeftASCII_L1
    rw [show decide (0 < ((b :: s).length : Int)) = true by simp <;> omega, cond_true]
    have e1 : sidx (b :: s) 0 = some (b.toNat : Int) := by unfold sidx; rw [if_pos (by omega)]; simp
    rw [e1, Option.bind_some, asc, Option.bind_some]
    cases hb : isd b with
    | false => exact ⟨b :: s, rfl, by simp [hb]⟩
    | true =>
      have e2 : ssl (b :: s) 1 ((b :: s).length : Int) = some s := by unfold ssl; rw [if_pos ⟨by omega, by simp; omega, by omega⟩]; simp
      rw [show (bif !true then kont (b :: s) else (ssl (b :: s) 1 ((b :: s).length : Int)).bind fun t1 => MT.strings_trimLeftASCII_L1 n tens kont m t1) = MT.strings_trimLeftASCII_L1 n tens kont m s by rw [e2]; rfl]
      obtain ⟨s', h4, h5⟩ := c5b n kont s m (by simp at h; omega)
      exact ⟨s', h4, by rw [h5]; simp [hb]⟩
theorem d0y {t : Bs} (ht : t ≠ []) (hl : t.length < 1099511627776) {n : Nat} (hn : t.length < n) : ∃ r, a7v n t tens = some r ∧ (r == []) = t.all isd := by
  obtain ⟨s1, h1, h2, h3, h4⟩ := c8j n (fun s3 => some s3) t.length t n (by omega) hn hl
  obtain ⟨s2, h5, h6⟩ := c5b n (fun s3 => some s3) s1 n (by omega)
  refine ⟨s2, ?_, by rw [h6, h2]⟩
  unfold a7v
  have e0 : (decide (2 ≤ tens.length) && (decide (tens.length < 4294967281) && tens.all fun b => decide (b.toNat < 128))) = true := by decide +kernel
  have e3 : (t == []) = false := by cases t with
    | nil => exact absurd rfl ht
    | cons b t => rfl
  have e1 : MT.strings_trimRightASCII n t tens = some s1 := by unfold MT.strings_trimRightASCII; exact h1
  have e2 : MT.strings_trimLeftASCII n s1 tens = some s2 := by unfold MT.strings_trimLeftASCII; exact h5
  rw [e3, e0, e1]
  show (MT.strings_trimLeftASCII n s1 tens).bind _ = _
  rw [e2]; rfl
/- what digits are worth -/
def ten1 (v : Nat) (b : UInt8) : Nat := 10 * v + (b.toNat - 48)
def dv (v : Nat) (l : Bs) : Nat := l.foldl ten1 v
theorem c2r (v : Nat) : dv v [] = v := rfl
theorem b5i (v : Nat) (b : UInt8) (l : Bs) : dv v (b :: l) = dv (ten1 v b) l := by unfold dv; rw [List.foldl_cons]
theorem d0r (l : Bs) : ∀ (v : Nat), v ≤ dv v l := by
  induction l with
  | nil => intro v; rw [c2r]; exact Nat.le_refl v
  | cons b l ih => intro v; rw [b5i]; have := ih (ten1 v b); unfold ten1 at *; omega
theorem d1i (l : Bs) : ∀ (v : Nat), l.all isd = true → dv v l < (v + 1) * 16 ^ l.length := by
  induction l with
  | nil => intro v _; rw [c2r, List.length_nil, Nat.pow_zero]; omega
  | cons b l ih =>
    intro v h
    simp only [List.all_cons, Bool.and_eq_true] at h
    have h1 := ih (ten1 v b) h.2
    have h2 : b.toNat ≤ 57 := by have := h.1; simp only [isd, Bool.and_eq_true, decide_eq_true_eq] at this; exact this.2
    have h3 : (ten1 v b + 1) * 16 ^ l.length ≤ ((v + 1) * 16) * 16 ^ l.length := Nat.mul_le_mul_right _ (by unfold ten1; omega)
    rw [b5i, List.length_cons, Nat.pow_succ, Nat.mul_comm (16 ^ l.length) 16, ← Nat.mul_assoc]
    exact Nat.lt_of_lt_of_le h1 h3
end Go.Proofs.YtaanocaobllohaaGreatDoor.D

/-
  THE BIG INTEGERS' FUNCTIONS, as arithmetic, sixth part: Read.
-/
namespace Go.Proofs.YtaanocaobllohaaGreatDoor.D
open Go Rt M
theorem dig_ten : dig 10 = [10] := by rw [b1g (by decide), show 10 / 1048576 = 0 from rfl, dig_zero]; rfl
theorem b7s {b : UInt8} (h : isd b = true) : 48 ≤ b.toNat ∧ b.toNat ≤ 57 := by simpa [isd] using h
theorem d0l (t : Bs) (ht : t.all isd = true) (hlt : t.length < 1099511627776) : ∀ (us : Bs) (i v : Nat), t.drop i = us → (dig (dv v us)).length < 536870900 →
    ∃ N, ∀ n, N ≤ n → ∀ (kont : List Int → Option (Big × Int)) (m : Nat), us.length < m → a6g n (t.map fun b => (b.toNat : Int)) kont m (dig v) (i : Int) = kont (dig (dv v us)) := by
  intro us
  induction us with
  | nil =>
    intro i v hd _
    refine ⟨0, fun n _ kont m hm => ?_⟩
    obtain ⟨m, rfl⟩ : ∃ m', m = m' + 1 := ⟨m - 1, by omega⟩
    have hi : t.length ≤ i := by simpa using hd
    rw [b2b, show decide ((i : Int) < ((t.map fun b => (b.toNat : Int)).length : Int)) = false by simp; omega, cond_false, c2r]
  | cons b us ih =>
    intro i v hd hl
    rw [b5i] at hl
    obtain ⟨hix, hdt, hi⟩ := a2z hd
    have hb : isd b = true := List.all_eq_true.1 ht b (List.mem_of_mem_drop (by rw [hd]; simp : b ∈ t.drop i))
    have hbr := b7s hb
    have hle := a3e (d0r us (ten1 v b))
    have hten : ten1 v b = v * 10 + (b.toNat - 48) := by unfold ten1; omega
    have h10 := a3e (show v * 10 ≤ ten1 v b by omega)
    have hv := a3e (show v ≤ ten1 v b by omega)
    have hbl : (dig (b.toNat - 48)).length ≤ 1 := by
      have h1 : Sm 1 ((b.toNat - 48 : Nat) : Int) := by unfold Sm; rw [Int.natAbs_natCast, show pw 1 = 1048576 by decide]; omega
      have h2 := a1u h1
      rwa [Int.natAbs_natCast] at h2
    obtain ⟨N1, h1⟩ := c4q v 10 (by omega) (by rw [dig_ten]; decide)
    have hR : InR [((b.toNat - 48 : Nat) : Int)] := by intro d hd; rw [List.mem_singleton] at hd; subst hd; omega
    obtain ⟨N2, h2⟩ := c2g hR (by simp)
    obtain ⟨N3, h3⟩ := c2d (v * 10) (b.toNat - 48) (by omega) (by omega)
    obtain ⟨N4, h4⟩ := ih (i + 1) (ten1 v b) hdt hl
    refine ⟨max (max N1 N2) (max N3 N4), fun n hn kont m hm => ?_⟩
    obtain ⟨m, rfl⟩ : ∃ m', m = m' + 1 := ⟨m - 1, by omega⟩
    rw [b2b, show decide ((i : Int) < ((t.map fun b => (b.toNat : Int)).length : Int)) = true by simp; omega, cond_true]
    have e1 : ix (t.map fun b => (b.toNat : Int)) (i : Int) = some (b.toNat : Int) := by
      rw [b2z] at hix ⊢
      rw [List.getElem?_map, hix]; rfl
    have e2 : IntKind.i64.wrap (isub .u8 (b.toNat : Int) 48) = ((b.toNat - 48 : Nat) : Int) := by
      rw [show isub .u8 (b.toNat : Int) 48 = ((b.toNat - 48 : Nat) : Int) by unfold isub; rw [c7n]; omega, a5k (by omega) (by omega)]
    have e3 : (val [((b.toNat - 48 : Nat) : Int)]).toNat = b.toNat - 48 := by simp [val]
    have h1' : a8o n (dig v) [10] = some (dig (v * 10)) := by have := h1 n (by omega); rwa [dig_ten] at this
    have h2' : a2u n [((b.toNat - 48 : Nat) : Int)] = some (dig (b.toNat - 48)) := by have := h2 n (by omega); rwa [e3] at this
    have h3' : b1j n (dig (v * 10)) (dig (b.toNat - 48)) = some (dig (ten1 v b)) := by rw [hten]; exact h3 n (by omega)
    rw [e1, Option.bind_some, h1', Option.bind_some, e2, h2', Option.bind_some, h3', Option.bind_some, show iadd .i64 (i : Int) 1 = ((i + 1 : Nat) : Int) by rw [a2q (by omega) (by omega)]; omega, h4 n (by omega) kont m (by simp only [List.length_cons] at hm; omega), b5i]
/-- the sign and the digits of a string -/
def cut (s : Bs) : Bs × Bool := match s with
  | 45 :: t => (t, true)
  | s => (s, false)
theorem c8o (n : Nat) (s : Bs) (hl : s.length < 1099511627776) : strings_CutPrefix n s [45] = some (cut s) := by
  unfold strings_CutPrefix a3h a3i
  rcases s with _ | ⟨b, s⟩
  · rfl
  · rw [show decide ((([45] : Bs).length : Int) ≤ ((b :: s).length : Int)) = true by simp; omega, cond_true]
    have e1 : ssl (b :: s) 0 (([45] : Bs).length : Int) = some [b] := by unfold ssl; rw [if_pos ⟨by omega, by simp, by simp; omega⟩]; simp
    rw [e1, Option.bind_some, Option.bind_some, Option.bind_some]
    by_cases hb : b = 45
    · subst hb
      rw [show (!(([45] : Bs) == [45])) = false from rfl, cond_false]
      have e2 : ssl (45 :: s) (([45] : Bs).length : Int) (((45 : UInt8) :: s).length : Int) = some s := by unfold ssl; rw [if_pos ⟨by simp, by simp; omega, by omega⟩]; simp
      rw [e2]; rfl
    · rw [show (!(([b] : Bs) == [45])) = true by simp [hb], cond_true, Option.bind_some]
      unfold cut
      split
      · rename_i h; exact absurd (List.cons.inj h).1 hb
      · rfl
def good (t : Bs) : Bool := !(t == []) && !(t.head?.getD 0 == 48) && t.all isd
theorem c7w {n : Nat} {t : Bs} {β : Type} {f : Bool → Option β} (hl : t.length < 1099511627776) (hn : t.length < n) :
    ((bif t == [] then
      some true
    else
      (sidx t 0).bind fun c1 =>
      some (c1 == 48)).bind fun v2 =>
    (bif v2 then
      some true
    else
      (a7v n t tens).bind fun v9 =>
      some (!(v9 == []))).bind f) = f (!good t) := by
  rcases t with _ | ⟨b, t⟩
  · rfl
  · rw [show ((b :: t : Bs) == []) = false from rfl, cond_false]
    have e1 : sidx (b :: t) 0 = some (b.toNat : Int) := by unfold sidx; rw [if_pos (by omega)]; simp
    rw [e1, Option.bind_some, Option.bind_some]
    obtain ⟨r, h1, h2⟩ := d0y (t := b :: t) (by simp) hl hn
    have e2 : ((b.toNat : Int) == 48) = (b == 48) := by
      by_cases h : b = 48
      · subst h; rfl
      · have : b.toNat ≠ 48 := fun e => h (UInt8.toNat_inj.1 e)
        rw [show (b == 48) = false by simpa using h]; simp; omega
    rw [e2, h1, Option.bind_some, h2]
    unfold good
    rw [show ((b :: t : Bs) == []) = false from rfl, show (b :: t).head?.getD 0 = b from rfl]
    cases (b == 48) <;> cases List.all (b :: t) isd <;> rfl
theorem c7h (k : Nat) : ((2 ^ k : Nat) : Int) = 2 ^ k := by simp
theorem d0a {t : Bs} (h : t.all isd = true) (K : Nat) (hK : 4 * t.length ≤ K) : ((dv 0 t : Nat) : Int) < 2 ^ K := by
  have h1 := d1i t 0 h
  rw [show (0 + 1) * 16 ^ t.length = 16 ^ t.length by omega] at h1
  have h2 : 16 ^ t.length ≤ 2 ^ K := by
    rw [show (16 : Nat) = 2 ^ 4 from rfl, ← Nat.pow_mul]; exact Nat.pow_le_pow_right (by decide) hK
  have h4 := Int.ofNat_lt.2 (Nat.lt_of_lt_of_le h1 h2)
  rwa [c7h] at h4
theorem c9s {v k : Nat} (h : ∀ K, K = 20 * k → (v : Int) < 2 ^ K) : Sm k (v : Int) := by
  unfold Sm; rw [pw_two, Int.natAbs_natCast]; exact h _ rfl
theorem c8p {t : Bs} (h : t.all isd = true) (hl : t.length ≤ 500) : Sm 100 ((dv 0 t : Nat) : Int) := c9s fun K hK => d0a h K (by omega)
theorem Read_zero : Ev (fun n => a6m n [48]) (⟨0, []⟩, 0) := by
  refine ⟨0, fun n _ => ?_⟩
  show a6m n [48] = _
  unfold a6m
  rw [c8o n [48] (by decide)]; rfl
theorem c0c (s : Bs) : (cut s).1.length ≤ s.length := by unfold cut; split <;> simp
theorem c6q {s : Bs} (hs : (s == [48]) = false) (hl : s.length ≤ 500) (hg : good (cut s).1 = false) : Ev (fun n => a6m n s) (⟨0, []⟩, 2) := by
  have := c0c s
  refine ⟨501, fun n hn => ?_⟩
  show a6m n s = _
  unfold a6m
  rw [c8o n s (by omega), Option.bind_some, hs, cond_false]
  have h := c7w (n := n) (t := (cut s).1) (f := fun v3 => bif v3 then some ((⟨0, []⟩ : Big), (2 : Int)) else
      (b2y (cut s).1).bind fun l1 =>
      a6g n l1 (fun (l3 : (List Int)) =>
        bif (cut s).2 then
          (a1y n (-1) l3).bind fun v4 =>
          some ((⟨v4.Sign, v4.Digits⟩ : Big), 0)
        else
          (a1y n 1 l3).bind fun v5 =>
          some ((⟨v5.Sign, v5.Digits⟩ : Big), 0)) n [] 0) (by omega) (by omega)
  refine Eq.trans h ?_
  rw [hg]; rfl
theorem c4z {s : Bs} (hs : (s == [48]) = false) (hl : s.length ≤ 500) (hg : good (cut s).1 = true) : Ev (fun n => a6m n s) (toB (if (cut s).2 then -((dv 0 (cut s).1 : Nat) : Int) else ((dv 0 (cut s).1 : Nat) : Int)), 0) := by
  have hc := c0c s
  have hg' : List.all (cut s).1 isd = true := by unfold good at hg; simp only [Bool.and_eq_true] at hg; exact hg.2
  have hsm := c8p hg' (by omega)
  have hlen := a1u hsm
  rw [Int.natAbs_natCast] at hlen
  obtain ⟨N, hN⟩ := d0l (cut s).1 hg' (by omega) (cut s).1 0 0 rfl (by omega)
  have hfin : Ev (fun n => (bif (cut s).2 then
          (a1y n (-1) (dig (dv 0 (cut s).1))).bind fun v4 =>
          some ((⟨v4.Sign, v4.Digits⟩ : Big), (0 : Int))
        else
          (a1y n 1 (dig (dv 0 (cut s).1))).bind fun v5 =>
          some ((⟨v5.Sign, v5.Digits⟩ : Big), 0))) (toB (if (cut s).2 then -((dv 0 (cut s).1 : Nat) : Int) else ((dv 0 (cut s).1 : Nat) : Int)), 0) := by
    generalize dv 0 (cut s).1 = V at *
    cases (cut s).2 with
    | true =>
      refine Ev.then rfl (Ev.bind (a5v (-1) (by omega)) ((Ev.pure _).eq ?_))
      have e := a4f (s := -1) (v := V) (-(V : Int)) (by omega) (fun h => (a3z (by omega)).symm)
      rw [e]; rfl
    | false =>
      refine Ev.else rfl (Ev.bind (a5v 1 (by omega)) ((Ev.pure _).eq ?_))
      have e := a4f (s := 1) (v := V) (V : Int) (by omega) (fun h => (a3p (by omega)).symm)
      rw [e]; rfl
  refine Ev.from (max N 501) (fun n hn => ?_) hfin
  show a6m n s = _
  unfold a6m
  rw [c8o n s (by omega), Option.bind_some, hs, cond_false]
  have h := c7w (n := n) (t := (cut s).1) (f := fun v3 => bif v3 then some ((⟨0, []⟩ : Big), (2 : Int)) else
      (b2y (cut s).1).bind fun l1 =>
      a6g n l1 (fun (l3 : (List Int)) =>
        bif (cut s).2 then
          (a1y n (-1) l3).bind fun v4 =>
          some ((⟨v4.Sign, v4.Digits⟩ : Big), 0)
        else
          (a1y n 1 l3).bind fun v5 =>
          some ((⟨v5.Sign, v5.Digits⟩ : Big), 0)) n [] 0) (by omega) (by omega)
  refine Eq.trans h ?_
  rw [hg]
  have e1 : b2y (cut s).1 = some ((cut s).1.map fun b => (b.toNat : Int)) := by unfold b2y; rw [if_pos (by omega)]
  show (b2y (cut s).1).bind _ = _
  rw [e1, Option.bind_some]
  have h2 := hN n (by omega) (fun (l3 : (List Int)) =>
        bif (cut s).2 then
          (a1y n (-1) l3).bind fun v4 =>
          some ((⟨v4.Sign, v4.Digits⟩ : Big), 0)
        else
          (a1y n 1 l3).bind fun v5 =>
          some ((⟨v5.Sign, v5.Digits⟩ : Big), 0)) n (by omega)
  rw [dig_zero] at h2
  exact h2
/- and the texts -/
theorem c9t {b : UInt8} {l : Bs} (h : b ≠ 45) : cut (b :: l) = (b :: l, false) := by
  unfold cut; split
  · rename_i e; exact absurd (List.cons.inj e).1 h
  · rfl
theorem c9g {b : UInt8} {l : Bs} (h : b ≠ 48) (h2 : List.all (b :: l) isd = true) : good (b :: l) = true := by
  unfold good; rw [h2]; simp [h]
/-- what is read -/
def b2i (s : Bs) : Big × Int :=
  if s = [48] then (⟨0, []⟩, 0)
  else if good (cut s).1 = true then (toB (if (cut s).2 then -((dv 0 (cut s).1 : Nat) : Int) else ((dv 0 (cut s).1 : Nat) : Int)), 0)
  else (⟨0, []⟩, 2)
theorem c5d {s : Bs} (hl : s.length ≤ 500) : Ev (fun n => a6m n s) (b2i s) := by
  unfold b2i
  by_cases hs : s = [48]
  · rw [if_pos hs]; subst hs; exact Read_zero
  · rw [if_neg hs]
    have hs' : (s == [48]) = false := beq_false_of_ne hs
    by_cases hg : good (cut s).1 = true
    · rw [if_pos hg]; exact c4z hs' hl hg
    · rw [if_neg hg]; exact c6q hs' hl (by simpa using hg)
end Go.Proofs.YtaanocaobllohaaGreatDoor.D
