/- Several texts in one, for FeeMixes.said: what the theorem leans on. -/
import Derived.Test.YtknpjecpcmajiaaGreatRows
import Derived.Test.YtknpjecpcmajiaaGreatPm5
namespace Go.Proofs.YtknpjecpcmajiaaGreat.D
open Go Rt M
theorem inc64 {i : Nat} (h : i < 4611686018427387904) : iadd .i64 (i : Int) 1 = ((i + 1 : Nat) : Int) := by rw [a3o (by omega) (by omega)]; omega
theorem c9i {i : Nat} (h : i < 4611686018427387904) : isub .i64 ((i + 1 : Nat) : Int) 1 = (i : Int) := by rw [a2i (by omega) (by omega)]; omega
theorem drop_cons {α : Type} {a : List α} {i : Nat} {x : α} {xs : List α} (h : a.drop i = x :: xs) : ix a (i : Int) = some x ∧ a.drop (i + 1) = xs ∧ i < a.length := by
  have h1 : a[i]? = some x := by have := congrArg (fun l => l[0]?) h; simpa using this
  refine ⟨by rw [b2u]; exact h1, ?_, (List.getElem?_eq_some_iff.1 h1).1⟩
  rw [← List.drop_drop, h]; rfl
theorem drop_nil {α : Type} {a : List α} {i : Nat} (h : a.drop i = []) : a.length ≤ i := by simpa using h
theorem InR.drop {l : List Int} (h : InR l) (k : Nat) : InR (l.drop k) := fun e he => h e (List.mem_of_mem_drop he)
theorem InR.take {l : List Int} (h : InR l) (k : Nat) : InR (l.take k) := fun e he => h e (List.mem_of_mem_take he)
theorem c8t (n : Nat) (kont : Int → Option (List Int)) : ∀ (r : Nat) (c : List Int) (m : Nat), Canon c → c.length + r < 1099511627776 → r < m →
    a6b n (c ++ List.replicate r 0) kont m ((c.length + r : Nat) : Int) = kont (c.length : Int)
  | 0, c, m + 1, hc, hl, _ => by
    rw [a8f]
    simp only [Nat.add_zero, List.replicate_zero, List.append_nil]
    rcases List.eq_nil_or_concat c with rfl | ⟨p, d, rfl⟩
    · rfl
    · rw [List.concat_eq_append] at *
      have hd : (d == 0) = false := by
        have := hc.2
        simpa using this
      have e0 : isub .i64 (((p ++ [d]).length : Nat) : Int) 1 = (p.length : Int) := by rw [List.length_append, List.length_singleton]; exact c9i (by simp at hl; omega)
      have e1 : decide ((0 : Int) < ((p ++ [d]).length : Int)) = true := by rw [decide_eq_true_eq, List.length_append, List.length_singleton]; omega
      rw [e1, e0, a7l p d [] rfl]
      simp only [cond_true, Option.bind_some, hd, cond_false]
  | r + 1, c, m + 1, hc, hl, hm => by
    rw [a8f]
    have e1 : decide ((0 : Int) < ((c.length + (r + 1) : Nat) : Int)) = true := by simp; try omega
    have e0 : isub .i64 ((c.length + (r + 1) : Nat) : Int) 1 = ((c.length + r : Nat) : Int) := by rw [a2i (by omega) (by omega)]; omega
    have e2 : ix (c ++ List.replicate (r + 1) 0) ((c.length + r : Nat) : Int) = some 0 := by
      rw [b2u, List.getElem?_append_right (by omega)]
      simp
    rw [e1, e0, e2]
    simp only [cond_true, Option.bind_some, beq_self_eq_true]
    have e3 : ∀ (m : Nat) (k : Nat), k ≤ c.length + r → a6b n (c ++ List.replicate (r + 1) 0) kont m (k : Int) = a6b n (c ++ List.replicate r 0) kont m (k : Int) := by
      intro m
      induction m with
      | zero => intro k _; rfl
      | succ m ih =>
        intro k hk
        rw [a8f, a8f]
        cases k with
        | zero => rfl
        | succ k =>
          rw [c9i (by omega)]
          have e4 : ix (c ++ List.replicate (r + 1) 0) (k : Int) = ix (c ++ List.replicate r 0) (k : Int) := by
            rw [b2u, b2u, List.replicate_succ', ← List.append_assoc, List.getElem?_append_left (by simp; omega)]
          rw [e4, ih k (by omega)]
    rw [e3 m _ (Nat.le_refl _)]
    exact c8t n kont r c m hc (by omega) (by omega)
  | _, _, 0, _, _, h => by omega
theorem b6p {l : List Int} (hl : InR l) (hlen : l.length < 1099511627776) {n : Nat} (hn : l.length < n) : a3l n l = some (dig (val l).toNat) := by
  obtain ⟨r, hr⟩ := split_dig hl
  have h1 : l.length = (dig (val l).toNat).length + r := by conv => lhs; rw [hr]
                                                            simp
  unfold a3l
  have h2 := c8t n (fun (nx2 : Int) => (lsl l 0 nx2).bind fun l2 => some l2) r (dig (val l).toNat) n (a9l _) (by omega) (by omega)
  rw [← hr, ← h1] at h2
  rw [h2]
  have h3 := c3a (l := l) (p := 0) (q := (dig (val l).toNat).length) (by omega) (by omega)
  rw [show ((0 : Nat) : Int) = 0 from rfl] at h3
  rw [h3]
  simp only [Option.bind_some, List.drop_zero]
  have h4 : ∀ c : List Int, l = c ++ List.replicate r 0 → l.take c.length = c := fun c hc => by rw [hc]; exact List.take_left
  rw [h4 _ hr]
theorem c5l {l : List Int} (hl : InR l) (hlen : l.length < 1099511627776) : Ev (fun n => a3l n l) (dig (val l).toNat) := ⟨l.length + 1, fun _ hn => b6p hl hlen hn⟩
theorem d2g (n : Nat) (a b : List Int) (kont : Int → List Int → Option (List Int)) (ha : a.length < 1099511627776) (hb : InR b) : ∀ (us : List Int) (i : Nat) (c : Int) (pre suf : List Int) (m : Nat), a.drop i = us → InR us → 0 ≤ c → c ≤ 1 → pre.length = i → us.length ≤ suf.length → us.length < m →
    a7w n a b kont m c (i : Int) (pre ++ suf) = kont (addD c us (b.drop i)).2 (pre ++ ((addD c us (b.drop i)).1 ++ suf.drop us.length))
  | [], i, c, pre, suf, m + 1, hd, _, _, _, _, _, _ => by
    rw [b2k]
    have := drop_nil hd
    have e1 : decide ((i : Int) < (a.length : Int)) = false := by simp; omega
    rw [e1]; simp [addD]
  | x :: xs, i, c, pre, [], m + 1, _, _, _, _, _, hs, _ => by simp at hs
  | x :: xs, i, c, pre, z :: suf, m + 1, hd, hx, h0, h1, hp, hs, hm => by
    rw [b2k]
    obtain ⟨e1, e2, e3⟩ := drop_cons hd
    have e4 : decide ((i : Int) < (a.length : Int)) = true := by simp; omega
    have hx0 := hx.head
    have hy0 := (InR.drop hb i).headD
    have e5 : (bif decide ((i : Int) < (b.length : Int)) then (ix b (i : Int)).bind fun ex4 => some (iadd .i64 (iadd .i64 c x) ex4) else some (iadd .i64 c x)) = some (c + x + (b.drop i).headD 0) := by
      cases hbd : b.drop i with
      | nil =>
        have := drop_nil hbd
        have e6 : decide ((i : Int) < (b.length : Int)) = false := by simp; omega
        rw [e6, a3o (by omega) (by omega)]; simp
      | cons y ys =>
        obtain ⟨f1, _, f3⟩ := drop_cons hbd
        have e6 : decide ((i : Int) < (b.length : Int)) = true := by simp; omega
        rw [hbd] at hy0
        simp only [List.headD_cons] at hy0
        rw [e6, f1, a3o (x := c) (by omega) (by omega)]
        simp only [cond_true, Option.bind_some, List.headD_cons]
        rw [a3o (by omega) (by omega)]
    rw [e4, e1]
    simp only [cond_true, Option.bind_some]
    rw [e5]
    simp only [Option.bind_some]
    rw [a7l pre z suf (by omega), b2s, a8j pre z _ suf (by omega), b7a, inc64 (by omega)]
    simp only [Option.bind_some]
    have ih := d2g n a b kont ha hb xs (i + 1) ((c + x + (b.drop i).headD 0) / 1048576) (pre ++ [(c + x + (b.drop i).headD 0) % 1048576]) suf m e2 hx.tail (by omega) (by omega) (by simp; omega) (by simpa using hs) (by simpa using hm)
    rw [List.append_assoc, List.singleton_append] at ih
    rw [ih]
    have e7 : b.drop (i + 1) = (b.drop i).tail := by simp
    simp only [addD, e7, List.append_assoc, List.nil_append, List.cons_append, List.drop_succ_cons, List.length_cons]
  | _, _, _, _, _, 0, _, _, _, _, _, _, h => by omega
theorem d1h {a b : List Int} (ha : InR a) (hb : InR b) (hla : a.length < 1073741824) (hlb : b.length < 1073741824) : Ev (fun n => b4e n a b) (dig (val a + val b).toNat) := by
  have key : ∀ {a b : List Int}, InR a → InR b → a.length < 1073741824 → b.length ≤ a.length → Ev (fun n => (mks 8 (0 : Int) (iadd .i64 (a.length : Int) 1)).bind fun l1 =>
      a7w n a b (fun (carry2 : Int) (l3 : List Int) => (ix l3 (a.length : Int)).bind fun _ => (lset l3 (a.length : Int) carry2).bind fun l4 => (a3l n l4).bind fun v1 => some v1) n 0 0 l1) (dig (val a + val b).toNat) := by
    intro a b ha hb hla hle
    refine Ev.step (by rw [inc64 (by omega)]; exact b8m (by omega)) ?_
    refine ⟨a.length + 2, fun n hn => ?_⟩
    have h1 := d2g n a b (fun (carry2 : Int) (l3 : List Int) => (ix l3 (a.length : Int)).bind fun _ => (lset l3 (a.length : Int) carry2).bind fun l4 => (a3l n l4).bind fun v1 => some v1) (by omega) hb a 0 0 [] (List.replicate (a.length + 1) 0) n rfl ha (by decide) (by decide) rfl (by simp) (by omega)
    simp only [List.nil_append, List.drop_zero] at h1
    rw [show ((0 : Nat) : Int) = 0 from rfl] at h1
    dsimp only
    rw [h1]
    have e1 : (List.replicate (a.length + 1) (0 : Int)).drop a.length = [0] := by simp
    have e2 := addD_len a b 0
    have e3 := addD_carry a b 0 ha hb (by decide) (by decide)
    have e4 := addD_val a b 0 hle
    rw [e1, a7l _ 0 [] (by rw [e2]), a8j _ 0 _ [] (by rw [e2])]
    simp only [Option.bind_some]
    have e5 : InR ((addD 0 a b).1 ++ [(addD 0 a b).2]) := (addD_in a b 0).append (InR.cons e3.1 (by omega) InR.nil)
    rw [b6p e5 (by simp [e2]; omega) (by simp [e2]; omega)]
    simp only [Option.bind_some]
    have e6 : val ((addD 0 a b).1 ++ [(addD 0 a b).2]) = val a + val b := by
      rw [← b4d]
      simp only [val, Int.mul_zero, Int.add_zero]
      omega
    rw [e6]
  unfold b4e
  by_cases hlt : a.length < b.length
  · refine Ev.step (a := (b, a)) (by rw [show decide ((a.length : Int) < (b.length : Int)) = true from by simp; omega]; rfl) ?_
    rw [Int.add_comm]
    exact key hb ha hlb (by omega)
  · refine Ev.step (a := (a, b)) (by rw [show decide ((a.length : Int) < (b.length : Int)) = false from by simp; omega]; rfl) ?_
    exact key ha hb hla (by omega)
end Go.Proofs.YtknpjecpcmajiaaGreat.D

namespace Go.Proofs.YtknpjecpcmajiaaGreat.D
open Go Rt M
theorem d0v (n : Nat) {a : List Int} (h : a.length < 1073741824) : a1s n a = some a := by
  have h2 : (([] : List Int).length + a.length) * 8 ≤ 140737488355328 := by simp only [List.length_nil, Nat.zero_add]; omega
  show app 8 [] a = some a
  rw [b4k h2, List.nil_append]
theorem c4v {a : List Int} (h : a.length < 1073741824) : ∀ n, a1s n a = some a := fun n => d0v n h
theorem c5g {a : List Int} (h : ∀ n, a1s n a = some a) : Ev (fun n => a1s n a) a := ⟨0, fun n _ => h n⟩
theorem b1q {a : List Int} (h : a.length < 1073741824) : Ev (fun n => a1s n a) a := c5g (c4v h)
theorem c6z {x c y : Int} (h0 : 0 ≤ c) (h1 : c ≤ 1) (hx0 : 0 ≤ x) (hx1 : x < 1048576) (hy0 : 0 ≤ y) (hy1 : y < 1048576) {t : Int} (ht : t = x - c - y) : t / 1048576 % 2 = -(t / 1048576) ∧ 0 ≤ -(t / 1048576) ∧ -(t / 1048576) ≤ 1 := by
  subst ht; omega
theorem d1v (n : Nat) (b v : List Int) (kont : List Int → Option (List Int)) (hv : v.length < 1099511627776) (hb : InR b) : ∀ (us : List Int) (i : Nat) (c : Int) (pre : List Int) (m : Nat), InR us → 0 ≤ c → c ≤ 1 → pre.length = i → i + us.length = v.length → us.length < m →
    a8t n b v kont m c (i : Int) (pre ++ us) = kont (pre ++ (setD 1 c us (b.drop i)).1)
  | [], i, c, pre, m + 1, _, _, _, _, hl, _ => by
    rw [b3b]
    simp only [List.length_nil] at hl
    have e1 : decide ((i : Int) < (v.length : Int)) = false := by simp; omega
    rw [e1]; simp [setD]
  | x :: xs, i, c, pre, m + 1, hx, h0, h1, hp, hl, hm => by
    rw [b3b]
    simp only [List.length_cons] at hl hm
    have e4 : decide ((i : Int) < (v.length : Int)) = true := by simp; omega
    have hx0 := hx.head
    have hy0 := (InR.drop hb i).headD
    have e7 : b.drop (i + 1) = (b.drop i).tail := by simp
    obtain ⟨t, ht⟩ : ∃ t, t = x - c - (b.drop i).headD 0 := ⟨_, rfl⟩
    have e5 : (bif decide ((i : Int) < (b.length : Int)) then (ix b (i : Int)).bind fun ex3 => some (isub .i64 (isub .i64 x c) ex3) else some (isub .i64 x c)) = some t := by
      rw [ht]
      cases hbd : b.drop i with
      | nil =>
        have := drop_nil hbd
        have e6 : decide ((i : Int) < (b.length : Int)) = false := by simp; omega
        rw [e6, a2i (by omega) (by omega)]; simp
      | cons y ys =>
        obtain ⟨f1, _, f3⟩ := drop_cons hbd
        have e6 : decide ((i : Int) < (b.length : Int)) = true := by simp; omega
        rw [hbd] at hy0
        simp only [List.headD_cons] at hy0
        rw [e6, f1, a2i (x := x) (by omega) (by omega)]
        simp only [cond_true, Option.bind_some, List.headD_cons]
        rw [a2i (by omega) (by omega)]
    obtain ⟨b1, b2, b3⟩ := c6z h0 h1 hx0.1 hx0.2 hy0.1 hy0.2 ht
    have e8 : x - c - 1 * (b.drop i).headD 0 = t := by rw [ht, Int.one_mul]
    have e9 : setD 1 c (x :: xs) (b.drop i) = (t % 1048576 :: (setD 1 (-(t / 1048576)) xs (b.drop (i + 1))).1, (setD 1 (-(t / 1048576)) xs (b.drop (i + 1))).2) := by
      rw [e7]; simp only [setD, e8]
    have ih := d1v n b v kont hv hb xs (i + 1) (-(t / 1048576)) (pre ++ [t % 1048576]) m hx.tail b2 b3 (by simp; omega) (by omega) (by omega)
    rw [e4, a7l pre x xs (by omega)]
    simp only [cond_true, Option.bind_some]
    rw [e5, Option.bind_some, b7a, b2s, a8j pre x _ xs (by omega), inc64 (by omega)]
    simp only [Option.bind_some]
    rw [c7s, b1, e9]
    rw [List.append_assoc, List.singleton_append] at ih
    rw [ih, List.append_assoc, List.singleton_append]
  | _, _, _, _, 0, _, _, _, _, _, h => by omega
theorem b8p {us vs : List Int} {g : Int} (hu : InR us) (hv : InR vs) (hl : vs.length ≤ us.length) (hg : 0 ≤ g) (h : g * val vs ≤ val us) : (setD g 0 us vs).2 = 0 ∧ val (setD g 0 us vs).1 = val us - g * val vs := by
  have e1 := b9a g us vs 0 hl
  have e2 := b3v hg us vs 0 hu hv (by decide) hg
  have e3 := val_lt (b2m g us vs 0)
  rw [valc_eq, b3k] at e1
  rw [b3k] at e3
  have hb : (setD g 0 us vs).2 = 0 := by
    rcases (show 0 < (setD g 0 us vs).2 ∨ (setD g 0 us vs).2 ≤ 0 by omega) with h4 | h4
    · have h5 : pw us.length * (-(setD g 0 us vs).2) ≤ pw us.length * (-1) := Int.mul_le_mul_of_nonneg_left (by omega) (by have := pw_pos us.length; omega)
      omega
    · omega
  refine ⟨hb, ?_⟩
  rw [hb] at e1
  simp only [Int.neg_zero, Int.mul_zero] at e1
  omega
theorem d1g {a b : List Int} (ha : InR a) (hb : InR b) (hla : a.length < 1073741824) (hlb : b.length ≤ a.length) (h : val b ≤ val a) : Ev (fun n => b2q n a b) (dig (val a - val b).toNat) := by
  unfold b2q
  refine Ev.bind (b1q hla) ?_
  refine ⟨a.length + 1, fun n hn => ?_⟩
  have h1 := d1v n b a (fun (l2 : List Int) => (a3l n l2).bind fun v2 => some v2) (by omega) hb a 0 0 [] n ha (by decide) (by decide) rfl (by simp) (by omega)
  simp only [List.nil_append, List.drop_zero] at h1
  rw [show ((0 : Nat) : Int) = 0 from rfl] at h1
  dsimp only
  rw [h1, b6p (b2m _ _ _ _) (by rw [b3k]; omega) (by rw [b3k]; omega)]
  have h2 := b8p (g := 1) ha hb hlb (by decide) (by omega)
  simp only [Option.bind_some]
  rw [h2.2, Int.one_mul]
theorem c0r (n : Nat) (u v : List Int) (g : Int) (kont : Int → List Int → Option (List Int × Int)) (hlu : u.length < 1099511627776) (hv : InR v) (hg0 : 0 ≤ g) (hg1 : g ≤ 1048576) : ∀ (us : List Int) (i : Nat) (c : Int) (pre : List Int) (m : Nat), InR us → 0 ≤ c → c ≤ g → pre.length = i → i + us.length = u.length → us.length < m →
    a6c n u v g kont m c (i : Int) (pre ++ us) = kont (setD g c us (v.drop i)).2 (pre ++ (setD g c us (v.drop i)).1)
  | [], i, c, pre, m + 1, _, _, _, _, hl, _ => by
    rw [b0c]
    simp only [List.length_nil] at hl
    have e1 : decide ((i : Int) < (u.length : Int)) = false := by simp; omega
    rw [e1]; simp [setD]
  | x :: xs, i, c, pre, m + 1, hx, h0, h1, hp, hl, hm => by
    rw [b0c]
    simp only [List.length_cons] at hl hm
    have e4 : decide ((i : Int) < (u.length : Int)) = true := by simp; omega
    have hx0 := hx.head
    have hy0 := (InR.drop hv i).headD
    have hmul := b4c hg0 hy0.1 hy0.2
    have e5 : (bif decide ((i : Int) < (v.length : Int)) then (ix v (i : Int)).bind fun ex6 => some (isub .i64 (isub .i64 x c) (imul .i64 g ex6)) else some (isub .i64 x c)) = some (x - c - g * (v.drop i).headD 0) := by
      cases hbd : v.drop i with
      | nil =>
        have := drop_nil hbd
        have e6 : decide ((i : Int) < (v.length : Int)) = false := by simp; omega
        rw [e6, a2i (by omega) (by omega)]; simp
      | cons y ys =>
        obtain ⟨f1, _, f3⟩ := drop_cons hbd
        have e6 : decide ((i : Int) < (v.length : Int)) = true := by simp; omega
        rw [hbd] at hy0 hmul
        simp only [List.headD_cons] at hy0 hmul
        rw [e6, f1, a2i (x := x) (by omega) (by omega)]
        simp only [cond_true, Option.bind_some, List.headD_cons]
        rw [a7h (by omega) (by omega), a2i (by omega) (by omega)]
    rw [e4, a7l pre x xs (by omega)]
    simp only [cond_true, Option.bind_some]
    rw [e5]
    simp only [Option.bind_some]
    rw [b7a, b2s, a8j pre x _ xs (by omega), inc64 (by omega)]
    simp only [Option.bind_some]
    rw [Int.zero_sub, a5m (by omega) (by omega)]
    have ih := c0r n u v g kont hlu hv hg0 hg1 xs (i + 1) (-((x - c - g * (v.drop i).headD 0) / 1048576)) (pre ++ [(x - c - g * (v.drop i).headD 0) % 1048576]) m hx.tail (by omega) (by omega) (by simp; omega) (by omega) (by omega)
    rw [List.append_assoc, List.singleton_append] at ih
    rw [ih]
    have e7 : v.drop (i + 1) = (v.drop i).tail := by simp
    simp only [setD, e7, List.append_assoc, List.nil_append, List.cons_append]
  | _, _, _, _, 0, _, _, _, _, _, h => by omega
theorem c0m (n : Nat) (v l0 : List Int) (kont : List Int → Option (List Int × Int)) (hl0 : l0.length < 1099511627776) (hv : InR v) : ∀ (us : List Int) (i : Nat) (c : Int) (pre : List Int) (m : Nat), InR us → 0 ≤ c → c ≤ 1 → pre.length = i → i + us.length = l0.length → us.length < m →
    a4x n v l0 kont m c (i : Int) (pre ++ us) = kont (pre ++ (addD c us (v.drop i)).1)
  | [], i, c, pre, m + 1, _, _, _, _, hl, _ => by
    rw [b0d]
    simp only [List.length_nil] at hl
    have e1 : decide ((i : Int) < (l0.length : Int)) = false := by simp; omega
    rw [e1]; simp [addD]
  | x :: xs, i, c, pre, m + 1, hx, h0, h1, hp, hl, hm => by
    rw [b0d]
    simp only [List.length_cons] at hl hm
    have e4 : decide ((i : Int) < (l0.length : Int)) = true := by simp; omega
    have hx0 := hx.head
    have hy0 := (InR.drop hv i).headD
    have e5 : (bif decide ((i : Int) < (v.length : Int)) then (ix v (i : Int)).bind fun ex3 => some (iadd .i64 (iadd .i64 c x) ex3) else some (iadd .i64 c x)) = some (c + x + (v.drop i).headD 0) := by
      cases hbd : v.drop i with
      | nil =>
        have := drop_nil hbd
        have e6 : decide ((i : Int) < (v.length : Int)) = false := by simp; omega
        rw [e6, a3o (by omega) (by omega)]; simp
      | cons y ys =>
        obtain ⟨f1, _, f3⟩ := drop_cons hbd
        have e6 : decide ((i : Int) < (v.length : Int)) = true := by simp; omega
        rw [hbd] at hy0
        simp only [List.headD_cons] at hy0
        rw [e6, f1, a3o (x := c) (by omega) (by omega)]
        simp only [cond_true, Option.bind_some, List.headD_cons]
        rw [a3o (by omega) (by omega)]
    rw [e4, a7l pre x xs (by omega)]
    simp only [cond_true, Option.bind_some]
    rw [e5]
    simp only [Option.bind_some]
    rw [b7a, b2s, a8j pre x _ xs (by omega), inc64 (by omega)]
    simp only [Option.bind_some]
    have ih := c0m n v l0 kont hl0 hv xs (i + 1) ((c + x + (v.drop i).headD 0) / 1048576) (pre ++ [(c + x + (v.drop i).headD 0) % 1048576]) m hx.tail (by omega) (by omega) (by simp; omega) (by omega) (by omega)
    rw [List.append_assoc, List.singleton_append] at ih
    rw [ih]
    have e7 : v.drop (i + 1) = (v.drop i).tail := by simp
    simp only [addD, e7, List.append_assoc, List.nil_append, List.cons_append]
  | _, _, _, _, 0, _, _, _, _, _, h => by omega
theorem c7d {u v : List Int} {g : Int} (hu : InR u) (hv : InR v) (hl : v.length ≤ u.length) (hlu : u.length < 1073741824) (hg0 : 0 ≤ g) (hg1 : g ≤ 1048576) (hV : 0 < val v) (h1 : val u < (g + 1) * val v) (h2 : (g - 1) * val v ≤ val u) {n : Nat} (hn : u.length < n) :
    ∃ r, a8e n u v g = some (r, val u / val v) ∧ InR r ∧ r.length = u.length ∧ val r = val u % val v := by
  have e0 := c0r n u v g (fun (borrow2 : Int) (l2 : List Int) => bif borrow2 == 0 then some (l2, g) else a4x n v l2 (fun (l4 : List Int) => some (l4, isub .i64 g 1)) n 0 0 l2) (by omega) hv hg0 hg1 u 0 0 [] n hu (by decide) hg0 rfl (by simp) hn
  simp only [List.nil_append, List.drop_zero] at e0
  rw [show ((0 : Nat) : Int) = 0 from rfl] at e0
  have e1 := b3k g u v 0
  by_cases h : g * val v ≤ val u
  · obtain ⟨f1, f2⟩ := b8p hu hv hl hg0 h
    obtain ⟨q1, q2⟩ := b9i hV h h1
    refine ⟨(setD g 0 u v).1, ?_, b2m g u v 0, e1, by rw [f2, q2]⟩
    unfold a8e
    rw [e0, f1, q1]; rfl
  · have e2 := b9a g u v 0 hl
    have e3 := b3v hg0 u v 0 hu hv (by decide) hg0
    have e4 := val_lt (b2m g u v 0)
    have e5 := val_nonneg (b2m g u v 0)
    have e6 := val_lt hv
    have e7 := pw_mono hl
    have e8 := pw_pos u.length
    rw [valc_eq, e1] at e2
    rw [e1] at e4
    have e9 : (g - 1) * val v = g * val v - val v := by grind
    have hb : (setD g 0 u v).2 = 1 := by
      rcases (show 1 < (setD g 0 u v).2 ∨ (setD g 0 u v).2 ≤ 1 by omega) with h4 | h4
      · have h5 : pw u.length * (-(setD g 0 u v).2) ≤ pw u.length * (-2) := Int.mul_le_mul_of_nonneg_left (by omega) (by omega)
        omega
      · rcases (show 0 < (setD g 0 u v).2 ∨ (setD g 0 u v).2 ≤ 0 by omega) with h5 | h5
        · omega
        · have : (setD g 0 u v).2 = 0 := by omega
          rw [this] at e2
          simp only [Int.neg_zero, Int.mul_zero] at e2
          omega
    rw [hb] at e2
    have e10 := c0m n v (setD g 0 u v).1 (fun (l4 : List Int) => some (l4, isub .i64 g 1)) (by rw [e1]; omega) hv (setD g 0 u v).1 0 0 [] n (b2m g u v 0) (by decide) (by decide) rfl (by simp) (by rw [e1]; exact hn)
    simp only [List.nil_append, List.drop_zero] at e10
    rw [show ((0 : Nat) : Int) = 0 from rfl] at e10
    have a1 := addD_len (setD g 0 u v).1 v 0
    have a2 := addD_val (setD g 0 u v).1 v 0 (by rw [e1]; exact hl)
    have a3 := addD_carry (setD g 0 u v).1 v 0 (b2m g u v 0) hv (by decide) (by decide)
    have a4 := addD_in (setD g 0 u v).1 v 0
    have a5 := val_lt a4
    have a6 := val_nonneg a4
    rw [valc_eq, a1, e1] at a2
    rw [a1, e1] at a5
    obtain ⟨q1, q2⟩ := b9i (q := g - 1) hV h2 (by rw [show g - 1 + 1 = g by omega]; omega)
    have hc : (addD 0 (setD g 0 u v).1 v).2 = 1 := by
      rcases (show 0 < (addD 0 (setD g 0 u v).1 v).2 ∨ (addD 0 (setD g 0 u v).1 v).2 ≤ 0 by omega) with h5 | h5
      · omega
      · have : (addD 0 (setD g 0 u v).1 v).2 = 0 := by omega
        rw [this] at a2
        omega
    rw [hc] at a2
    refine ⟨(addD 0 (setD g 0 u v).1 v).1, ?_, a4, by rw [a1, e1], by rw [q2]; omega⟩
    unfold a8e
    have hb' : ((setD g 0 u v).2 == 0) = false := by rw [hb]; rfl
    rw [e0, hb']
    simp only [cond_false]
    rw [e10, a2i (by omega) (by omega), q1]
theorem c8u (n : Nat) (b : List Int) (i : Nat) (x : Int) (kont : Int → List Int → Option (List Int)) (hlb : b.length < 1073741824) (hi : i < 1073741824) (hx0 : 0 ≤ x) (hx1 : x < 1048576) : ∀ (ys ws : List Int) (k : Nat) (c : Int) (pre rest : List Int) (m : Nat), b.drop k = ys → InR ys → InR ws → ws.length = ys.length → 0 ≤ c → c < 1048576 → pre.length = i + k → ys.length < m →
    a8a n b (i : Int) x kont m c (k : Int) (pre ++ (ws ++ rest)) = kont (mulD x c ys ws).2 (pre ++ ((mulD x c ys ws).1 ++ rest))
  | [], ws, k, c, pre, rest, m + 1, hd, _, _, hw, _, _, _, _ => by
    rw [b2v]
    have := drop_nil hd
    have e1 : decide ((k : Int) < (b.length : Int)) = false := by simp; omega
    have : ws = [] := List.eq_nil_of_length_eq_zero (by simpa using hw)
    subst this
    rw [e1]; simp [mulD]
  | y :: ys, [], k, c, pre, rest, m + 1, _, _, _, hw, _, _, _, _ => by simp at hw
  | y :: ys, w :: ws, k, c, pre, rest, m + 1, hd, hy, hws, hw, h0, h1, hp, hm => by
    rw [b2v]
    obtain ⟨f1, f2, f3⟩ := drop_cons hd
    simp only [List.length_cons] at hw hm
    have e4 : decide ((k : Int) < (b.length : Int)) = true := by simp; omega
    have hw0 := hws.head
    have hy0 := hy.head
    have hmul := b7e hx0 hx1 hy0.1 hy0.2
    have e5 : iadd .i64 (i : Int) (k : Int) = (pre.length : Int) := by rw [a3o (by omega) (by omega)]; omega
    rw [e4, f1, e5, List.cons_append, a7l pre w _ rfl]
    simp only [cond_true, Option.bind_some]
    rw [a7h (by omega) (by omega), a3o (x := w) (by omega) (by omega), a3o (by omega) (by omega), b2s, a8j pre w _ _ rfl, b7a, inc64 (by omega)]
    simp only [Option.bind_some]
    have ih := c8u n b i x kont hlb hi hx0 hx1 ys ws (k + 1) ((w + x * y + c) / 1048576) (pre ++ [(w + x * y + c) % 1048576]) rest m f2 hy.tail hws.tail (by omega) (by omega) (by omega) (by simp; omega) (by omega)
    rw [List.append_assoc, List.singleton_append] at ih
    rw [ih]
    simp only [mulD, List.headD_cons, List.tail_cons, List.append_assoc, List.nil_append, List.cons_append]
  | _, _, _, _, _, _, 0, _, _, _, _, _, _, _, h => by omega
theorem c8e (n : Nat) (a b : List Int) (kont : List Int → Option (List Int)) (hla : a.length < 1073741824) (hlb : b.length < 1073741824) (hb : InR b) (hn : b.length < n) : ∀ (us : List Int) (w : List Int) (i : Nat) (pre : List Int) (m : Nat), a.drop i = us → InR us → InR w → w.length = b.length → pre.length = i → us.length < m →
    a7i n a b kont m (i : Int) (pre ++ (w ++ List.replicate us.length 0)) = kont (pre ++ mulF b us w)
  | [], w, i, pre, m + 1, hd, _, _, _, _, _ => by
    rw [b3c]
    have := drop_nil hd
    have e1 : decide ((i : Int) < (a.length : Int)) = false := by simp; omega
    rw [e1]; simp [mulF]
  | x :: xs, w, i, pre, m + 1, hd, hx, hw, hwl, hp, hm => by
    rw [b3c]
    obtain ⟨f1, f2, f3⟩ := drop_cons hd
    simp only [List.length_cons] at hm
    have e4 : decide ((i : Int) < (a.length : Int)) = true := by simp; omega
    have hx0 := hx.head
    rw [e4, f1]
    simp only [cond_true, Option.bind_some, List.length_cons, List.replicate_succ]
    have h2 := c8u n b i x (fun (carry2 : Int) (l5 : List Int) =>
        (ix l5 (iadd .i64 (i : Int) (b.length : Int))).bind fun ex2 =>
        (ix l5 (iadd .i64 (i : Int) (b.length : Int))).bind fun _ =>
        (lset l5 (iadd .i64 (i : Int) (b.length : Int)) (iadd .i64 ex2 carry2)).bind fun l6 =>
        a7i n a b kont m (iadd .i64 (i : Int) 1) l6) hlb (by omega) hx0.1 hx0.2 b w 0 0 pre (0 :: List.replicate xs.length 0) n rfl hb hw hwl (by decide) (by decide) (by omega) hn
    rw [show ((0 : Nat) : Int) = 0 from rfl] at h2
    rw [h2]
    have hc := b5e hx0.1 hx0.2 b w 0 hb hw (by decide) (by decide)
    have hlen := b6k x b w 0
    have e5 : iadd .i64 (i : Int) (b.length : Int) = (((pre ++ (mulD x 0 b w).1).length : Nat) : Int) := by
      rw [a3o (by omega) (by omega), List.length_append, hlen]; omega
    rw [e5, ← List.append_assoc, a7l _ 0 _ rfl]
    simp only [Option.bind_some]
    rw [a8j _ 0 _ _ rfl, a3o (by omega) (by omega), inc64 (by omega)]
    simp only [Option.bind_some, Int.zero_add]
    have hne : (mulD x 0 b w).1 ++ [(mulD x 0 b w).2] ≠ [] := by simp
    obtain ⟨h, t, ht⟩ := List.exists_cons_of_ne_nil hne
    have e6 : pre ++ (mulD x 0 b w).1 ++ (mulD x 0 b w).2 :: List.replicate xs.length 0 = (pre ++ [h]) ++ (t ++ List.replicate xs.length 0) := by
      rw [List.append_assoc, List.append_assoc, ← List.singleton_append (x := (mulD x 0 b w).2), ← List.append_assoc (mulD x 0 b w).1, ht]
      simp
    have hin : InR ((mulD x 0 b w).1 ++ [(mulD x 0 b w).2]) := (c2a x b w 0).append (InR.cons hc.1 hc.2 InR.nil)
    rw [ht] at hin
    have htl : t.length = b.length := by
      have := congrArg List.length ht
      simp [hlen] at this
      omega
    have ih := c8e n a b kont hla hlb hb hn xs t (i + 1) (pre ++ [h]) m f2 hx.tail hin.tail htl (by simp; omega) (by omega)
    rw [e6, ih]
    simp only [mulF, ht, List.headD_cons, List.tail_cons, List.append_assoc, List.singleton_append]
  | _, _, _, _, 0, _, _, _, _, _, h => by omega
theorem c4l {a b : List Int} (ha : InR a) (hb : InR b) (hla : a.length < 536870912) (hlb : b.length < 536870912) : Ev (fun n => b0v n a b) (dig (val a * val b).toNat) := by
  unfold b0v
  refine Ev.step (by rw [a3o (by omega) (by omega), show (a.length : Int) + (b.length : Int) = ((a.length + b.length : Nat) : Int) by omega]; exact b8m (by omega)) ?_
  refine ⟨a.length + b.length + 1, fun n hn => ?_⟩
  have h1 := c8e n a b (fun (l3 : List Int) => (a3l n l3).bind fun v1 => some v1) (by omega) (by omega) hb (by omega) a (List.replicate b.length 0) 0 [] n rfl ha (InR.rep _) (by simp) rfl (by omega)
  simp only [List.nil_append, List.replicate_append_replicate] at h1
  rw [show ((0 : Nat) : Int) = 0 from rfl, Nat.add_comm] at h1
  dsimp only
  rw [h1, b6p (c1p hb _ _ ha (InR.rep _)) (by rw [b6o b a _ (by simp)]; omega) (by rw [b6o b a _ (by simp)]; omega)]
  simp only [Option.bind_some]
  rw [b9s b a _ (by simp), val_rep, Int.zero_add]
theorem c4d (n : Nat) (a : List Int) (d : Int) (kont : Int → List Int → Option (List Int × Int)) (ha : InR a) (hla : a.length < 1073741824) (hd : 0 < d) (hd1 : d ≤ 1048576) : ∀ (k : Nat) (m : Nat), k ≤ a.length → k < m →
    a6t n a d kont m (a5t d (a.drop k) 0).2 ((k : Int) - 1) (List.replicate k 0 ++ (a5t d (a.drop k) 0).1) = kont (a5t d a 0).2 (a5t d a 0).1
  | 0, m + 1, _, _ => by
    rw [b0y]
    have e1 : decide ((0 : Int) ≤ ((0 : Nat) : Int) - 1) = false := by decide
    rw [e1]; simp
  | k + 1, m + 1, hk, hm => by
    rw [b0y]
    have hk' : k < a.length := by omega
    have hdrop : a.drop k = a[k] :: a.drop (k + 1) := List.drop_eq_getElem_cons hk'
    have hx := ha a[k] (List.getElem_mem hk')
    have e0 : ((k + 1 : Nat) : Int) - 1 = (k : Int) := by omega
    have e1 : decide ((0 : Int) ≤ (k : Int)) = true := by simp
    have e2 : ix a (k : Int) = some a[k] := (drop_cons hdrop).1
    have hr := b4t hd (a.drop (k + 1)) 0 (by decide) hd
    rw [e0, e1, e2, b7j (by omega) (by omega)]
    simp only [cond_true, Option.bind_some]
    have e3 : 0 ≤ (a5t d (a.drop (k + 1)) 0).2 * 1048576 + a[k] := by omega
    rw [b7u hr.1 (by omega) hx.1 hx.2, b7w e3 (by omega) hd, b6v e3 hd, List.replicate_succ', List.append_assoc, List.singleton_append, a7l _ 0 _ (by simp)]
    simp only [Option.bind_some]
    rw [a8j _ 0 _ _ (by simp)]
    simp only [Option.bind_some]
    have e4 : isub .i64 (k : Int) 1 = (k : Int) - 1 := a2i (by omega) (by omega)
    have ih := c4d n a d kont ha hla hd hd1 k m (by omega) (by omega)
    rw [hdrop] at ih
    simp only [a5t] at ih
    rw [e4, ih]
  | _, 0, _, h => by omega
theorem c5i {a : List Int} {d : Int} (ha : InR a) (hla : a.length < 1073741824) (hd : 0 < d) (hd1 : d ≤ 1048576) {n : Nat} (hn : a.length < n) : a7p n a d = some (dig (val a / d).toNat, val a % d) := by
  unfold a7p
  rw [b8m (by omega), Option.bind_some]
  have h1 := c4d n a d (fun (rx2 : Int) (l3 : List Int) => (a3l n l3).bind fun v1 => some (v1, rx2)) ha hla hd hd1 a.length n (by omega) (by omega)
  simp only [List.drop_length, a5t, List.append_nil] at h1
  rw [a2i (by omega) (by omega), h1, b6p (b9o hd a 0 ha (by decide) hd) (by rw [b4o]; omega) (by rw [b4o]; omega)]
  simp only [Option.bind_some]
  have h2 := b7k (V := d) a 0
  have h3 := b4t hd a 0 (by decide) hd
  rw [valc_eq, Int.mul_zero, Int.add_zero] at h2
  have h4 : ((val (a5t d a 0).1) + 1) * d = val (a5t d a 0).1 * d + d := by grind
  obtain ⟨q1, q2⟩ := b9i (U := val a) (q := val (a5t d a 0).1) hd (by omega) (by omega)
  rw [q1, show (a5t d a 0).2 = val a % d by omega]
theorem c7o {a : List Int} {d : Int} (ha : InR a) (hla : a.length < 1073741824) (hd : 0 < d) (hd1 : d ≤ 1048576) : Ev (fun n => a7p n a d) (dig (val a / d).toNat, val a % d) :=
  ⟨a.length + 1, fun _ hn => c5i ha hla hd hd1 hn⟩
theorem b4i (n : Nat) (x y : Int) : a4i n x y = some (sg (x - y)) := by
  unfold a4i a8n
  simp only [Option.bind_some, bne_self_eq_false, cond_false]
  unfold sg
  by_cases h : x < y
  · simp only [h, decide_true, cond_true]; rw [if_pos (by omega)]
  · by_cases h2 : y < x
    · simp only [h, h2, decide_true, decide_false, cond_true, cond_false]; rw [if_neg (by omega), if_pos (by omega)]
    · simp only [h, h2, decide_false, cond_false]; rw [if_neg (by omega), if_neg (by omega)]
theorem c1b (n : Nat) (a b : List Int) (hl : a.length = b.length) (hla : a.length < 1099511627776) : ∀ (k : Nat) (m : Nat), k ≤ a.length → k < m → cmpD (a.drop k) (b.drop k) = 0 → a5q n a b (some 0) m ((k : Int) - 1) = some (cmpD a b)
  | 0, m + 1, _, _, h => by
    rw [a9u]
    have e1 : decide ((0 : Int) ≤ ((0 : Nat) : Int) - 1) = false := by decide
    rw [e1]
    simp only [List.drop_zero] at h
    rw [h]; rfl
  | k + 1, m + 1, hk, hm, h => by
    rw [a9u]
    have hk' : k < a.length := by omega
    have hkb : k < b.length := by omega
    have hda : a.drop k = a[k] :: a.drop (k + 1) := List.drop_eq_getElem_cons hk'
    have hdb : b.drop k = b[k] :: b.drop (k + 1) := List.drop_eq_getElem_cons hkb
    have e0 : ((k + 1 : Nat) : Int) - 1 = (k : Int) := by omega
    have e1 : decide ((0 : Int) ≤ (k : Int)) = true := by simp
    rw [e0, e1, (drop_cons hda).1, (drop_cons hdb).1]
    simp only [cond_true, Option.bind_some, b4i]
    have e2 : cmpD (a.drop k) (b.drop k) = sg (a[k] - b[k]) := by rw [hda, hdb]; simp only [cmpD, h, if_true]
    by_cases hne : a[k] = b[k]
    · have e3 : (a[k] != b[k]) = false := by simp [hne]
      rw [e3]
      simp only [cond_false]
      rw [a2i (by omega) (by omega)]
      refine c1b n a b hl hla k m (by omega) (by omega) ?_
      rw [e2, hne]; simp [sg]
    · have e3 : (a[k] != b[k]) = true := by simpa using hne
      rw [e3]
      simp only [cond_true]
      have e4 : sg (a[k] - b[k]) ≠ 0 := by unfold sg; split <;> (try split) <;> omega
      rw [cmpD_drop k a b (by rw [e2]; exact e4), e2]
  | _, 0, _, h, _ => by omega
theorem c0n {a b : List Int} (ha : Canon a) (hb : Canon b) (hla : a.length < 1099511627776) {n : Nat} (hn : a.length < n) : a6o n a b = some (sg (val a - val b)) := by
  unfold a6o
  by_cases hl : a.length = b.length
  · have e1 : ((a.length : Int) != (b.length : Int)) = false := by rw [hl]; simp
    rw [e1]
    simp only [cond_false]
    have h := c1b n a b hl hla a.length n (Nat.le_refl _) hn (by rw [List.drop_length]; rfl)
    rw [a2i (by omega) (by omega), h, cmpD_val ha.1 hb.1 hl]
  · have e1 : ((a.length : Int) != (b.length : Int)) = true := by simp; omega
    rw [e1]
    simp only [cond_true, b4i, Option.bind_some]
    congr 1
    unfold sg
    rcases Nat.lt_or_ge a.length b.length with h | h
    · have := val_lt_of_len ha.1 hb h
      rw [if_pos (by omega), if_pos (by omega)]
    · have := val_lt_of_len hb.1 ha (by omega)
      rw [if_neg (by omega), if_pos (by omega), if_neg (by omega), if_pos (by omega)]
end Go.Proofs.YtknpjecpcmajiaaGreat.D

namespace Go.Proofs.YtknpjecpcmajiaaGreat.D
open Go Rt M
theorem d2c (n : Nat) (v u : List Int) (k : Nat) {vl ul lo zs : List Int} {v1 v2 t1 t0 u2 : Int} (hv : v = vl ++ [v2, v1]) (hu : u = lo ++ (ul ++ [u2, t0, t1]) ++ zs) (hlo : lo.length = k) (hul : ul.length = vl.length)
    (hlv : v.length < 1073741824) (hlu : u.length < 1073741824) (hvi : InR v) (hui : InR (ul ++ [u2, t0, t1])) (hv1 : 1 ≤ v1) (hlt : val (ul ++ [u2, t0, t1]) < 1048576 * val v) :
    ∀ (N : Nat) (g rest : Int), g.toNat = N → 0 ≤ g → 0 ≤ rest → g * v1 + rest = t1 * 1048576 + t0 → val (ul ++ [u2, t0, t1]) < (g + 1) * val v →
      ∃ g', 0 ≤ g' ∧ g' ≤ 1048576 ∧ val (ul ++ [u2, t0, t1]) < (g' + 1) * val v ∧ (g' - 1) * val v ≤ val (ul ++ [u2, t0, t1]) ∧ ∀ (kont : Int → Option (List Int × List Int)) m, N < m → a7z n v (k : Int) u kont m g rest = kont g' := by
  have hv2 : 0 ≤ v2 ∧ v2 < 1048576 := hvi v2 (by rw [hv]; simp)
  have hv1' : 0 ≤ v1 ∧ v1 < 1048576 := hvi v1 (by rw [hv]; simp)
  have ht1 : 0 ≤ t1 ∧ t1 < 1048576 := hui t1 (by simp)
  have ht0 : 0 ≤ t0 ∧ t0 < 1048576 := hui t0 (by simp)
  have hu2 : 0 ≤ u2 ∧ u2 < 1048576 := hui u2 (by simp)
  have hvl : InR vl := fun e he => hvi e (by rw [hv]; simp [he])
  have hull : InR ul := fun e he => hui e (by simp [he])
  have eV : val v = val vl + pw vl.length * (v2 + 1048576 * v1) := by rw [hv, val_append]; simp [val]
  have eU : val (ul ++ [u2, t0, t1]) = val ul + pw vl.length * (u2 + 1048576 * (t1 * 1048576 + t0)) := by
    rw [val_append, hul]
    simp only [val]
    have : t0 + 1048576 * (t1 + 1048576 * 0) = t1 * 1048576 + t0 := by omega
    rw [this]
  have hP := pw_pos vl.length
  have hvlP := val_lt hvl
  have hulP := val_lt hull
  rw [hul] at hulP
  have hvl0 := val_nonneg hvl
  have hul0 := val_nonneg hull
  have hlen : v.length = vl.length + 2 := by rw [hv]; simp
  have hlenu : u.length = k + vl.length + 3 + zs.length := by rw [hu]; simp [hlo, hul]; omega
  have i1 : isub .i64 (v.length : Int) 2 = ((vl.length : Nat) : Int) := by rw [a2i (by omega) (by omega)]; omega
  have i2 : isub .i64 (v.length : Int) 1 = ((vl.length + 1 : Nat) : Int) := by rw [a2i (by omega) (by omega)]; omega
  have i3 : isub .i64 (iadd .i64 (k : Int) (v.length : Int)) 2 = ((k + vl.length : Nat) : Int) := by rw [a3o (by omega) (by omega), a2i (by omega) (by omega)]; omega
  have r1 : ix v ((vl.length : Nat) : Int) = some v2 := by rw [hv]; exact a7l vl v2 [v1] rfl
  have r2 : ix v ((vl.length + 1 : Nat) : Int) = some v1 := by
    rw [hv, show vl ++ [v2, v1] = (vl ++ [v2]) ++ [v1] by simp]; exact a7l (vl ++ [v2]) v1 [] (by simp)
  have r3 : ix u ((k + vl.length : Nat) : Int) = some u2 := by
    rw [hu, show lo ++ (ul ++ [u2, t0, t1]) ++ zs = (lo ++ ul) ++ u2 :: ([t0, t1] ++ zs) by simp]
    exact a7l (lo ++ ul) u2 _ (by simp [hlo, hul])
  intro N
  induction N with
  | zero =>
    intro g rest hg h0 hr hT hq
    have hg0 : g = 0 := by omega
    subst hg0
    refine ⟨0, by decide, by decide, hq, ?_, fun kont m hm => ?_⟩
    · have : 0 ≤ val v := val_nonneg hvi
      have := val_nonneg hui
      omega
    · obtain ⟨m, rfl⟩ : ∃ m', m = m' + 1 := ⟨m - 1, by omega⟩
      rw [b0o]
      have e1 : decide ((1048576 : Int) ≤ 0) = false := by decide
      rw [e1]
      simp only [cond_false]
      by_cases hr2 : rest < 1048576
      · have e2 : decide (rest < 1048576) = true := by simpa using hr2
        rw [e2, i1, r1, i3, r3, b7j (by omega) (by omega)]
        simp only [cond_true, Option.bind_some]
        rw [b7u hr (by omega) hu2.1 hu2.2, a7h (by omega) (by omega)]
        have e3 : decide (rest * 1048576 + u2 < 0 * v2) = false := by simp; omega
        rw [e3]; rfl
      · have e2 : decide (rest < 1048576) = false := by simpa using hr2
        rw [e2]; rfl
  | succ N ih =>
    intro g rest hg h0 hr hT hq
    by_cases hbig : 1048576 ≤ g ∨ (rest < 1048576 ∧ rest * 1048576 + u2 < g * v2)
    · -- one less
      have hq' : val (ul ++ [u2, t0, t1]) < (g - 1 + 1) * val v := by
        rw [show g - 1 + 1 = g by omega]
        rcases hbig with h | ⟨h1, h2⟩
        · have : 1048576 * val v ≤ g * val v := Int.mul_le_mul_of_nonneg_right h (val_nonneg hvi)
          omega
        · rw [eU, eV]
          exact c3l rfl hT hvl0 hulP h0 h2 hP
      have hT' : (g - 1) * v1 + (rest + v1) = t1 * 1048576 + t0 := by rw [← hT]; grind
      obtain ⟨g', a1, a2, a3, a4, a5⟩ := ih (g - 1) (rest + v1) (by omega) (by omega) (by omega) hT' hq'
      have hgv : 0 ≤ g * v1 := Int.mul_nonneg h0 (by omega)
      have hgle : g * 1 ≤ g * v1 := Int.mul_le_mul_of_nonneg_left hv1 h0
      refine ⟨g', a1, a2, a3, a4, fun kont m hm => ?_⟩
      obtain ⟨m, rfl⟩ : ∃ m', m = m' + 1 := ⟨m - 1, by omega⟩
      rw [b0o]
      have hflag : ((bif decide ((1048576 : Int) ≤ g) then some true else (bif decide (rest < 1048576) then (ix v (isub .i64 (v.length : Int) 2)).bind fun ex8 => (shl .i64 rest 20).bind fun q4 => (ix u (isub .i64 (iadd .i64 (k : Int) (v.length : Int)) 2)).bind fun ex9 => some (decide ((ior .i64 q4 ex9) < (imul .i64 g ex8))) else some false).bind fun v12 => some v12) : Option Bool) = some true := by
        by_cases hgB : 1048576 ≤ g
        · rw [show decide ((1048576 : Int) ≤ g) = true by simpa using hgB]; rfl
        · rcases hbig with h | ⟨h1, h2⟩
          · exact absurd h hgB
          · have hm1 := b4c (g := g) h0 hv2.1 hv2.2
            rw [show decide ((1048576 : Int) ≤ g) = false by simpa using hgB, show decide (rest < 1048576) = true by simpa using h1, i1, r1, i3, r3, b7j (by omega) (by omega)]
            simp only [cond_true, cond_false, Option.bind_some]
            rw [b7u hr (by omega) hu2.1 hu2.2, a7h (by omega) (by omega), show decide (rest * 1048576 + u2 < g * v2) = true by simpa using h2]
      rw [hflag]
      simp only [Option.bind_some, cond_true]
      rw [i2, r2]
      simp only [Option.bind_some]
      rw [a2i (by omega) (by omega), a3o (by omega) (by omega)]
      exact a5 kont m (by omega)
    · -- it stays
      have hgB : g < 1048576 := by omega
      have hsm : g * v2 ≤ rest * 1048576 + u2 := by
        by_cases h1 : rest < 1048576
        · omega
        · have hm1 := b4c (g := g) h0 hv2.1 hv2.2
          omega
      refine ⟨g, h0, by omega, hq, ?_, fun kont m hm => ?_⟩
      · rw [eU, eV]
        exact c4o rfl hT hvl0 (by omega) hul0 (by omega) hsm hP hv1 hv2.1
      · obtain ⟨m, rfl⟩ : ∃ m', m = m' + 1 := ⟨m - 1, by omega⟩
        rw [b0o]
        have hflag : ((bif decide ((1048576 : Int) ≤ g) then some true else (bif decide (rest < 1048576) then (ix v (isub .i64 (v.length : Int) 2)).bind fun ex8 => (shl .i64 rest 20).bind fun q4 => (ix u (isub .i64 (iadd .i64 (k : Int) (v.length : Int)) 2)).bind fun ex9 => some (decide ((ior .i64 q4 ex9) < (imul .i64 g ex8))) else some false).bind fun v12 => some v12) : Option Bool) = some false := by
          rw [show decide ((1048576 : Int) ≤ g) = false by simp; omega]
          by_cases h1 : rest < 1048576
          · have hm1 := b4c (g := g) h0 hv2.1 hv2.2
            rw [show decide (rest < 1048576) = true by simpa using h1, i1, r1, i3, r3, b7j (by omega) (by omega)]
            simp only [cond_true, cond_false, Option.bind_some]
            rw [b7u hr (by omega) hu2.1 hu2.2, a7h (by omega) (by omega), show decide (rest * 1048576 + u2 < g * v2) = false by simp; omega]
          · rw [show decide (rest < 1048576) = false by simpa using h1]; rfl
        rw [hflag]; rfl
theorem d2t {l : List Int} (h : 3 ≤ l.length) : ∃ ul a b c, l = ul ++ [a, b, c] := by
  refine ⟨l.take (l.length - 3), l[l.length - 3], l[l.length - 2], l[l.length - 1], ?_⟩
  have h1 : l.drop (l.length - 3) = [l[l.length - 3], l[l.length - 2], l[l.length - 1]] := by
    rw [List.drop_eq_getElem_cons (by omega), List.drop_eq_getElem_cons (by omega), List.drop_eq_getElem_cons (by omega), List.drop_eq_nil_of_le (by omega)]
    simp only [show l.length - 3 + 1 = l.length - 2 by omega, show l.length - 2 + 1 = l.length - 1 by omega]
  rw [← h1, List.take_append_drop]
theorem d2l {l : List Int} (h : 2 ≤ l.length) : ∃ ul a b, l = ul ++ [a, b] := by
  refine ⟨l.take (l.length - 2), l[l.length - 2], l[l.length - 1], ?_⟩
  have h1 : l.drop (l.length - 2) = [l[l.length - 2], l[l.length - 1]] := by
    rw [List.drop_eq_getElem_cons (by omega), List.drop_eq_getElem_cons (by omega), List.drop_eq_nil_of_le (by omega)]
    simp only [show l.length - 2 + 1 = l.length - 1 by omega]
  rw [← h1, List.take_append_drop]
theorem c7p {l : List Int} (h : 1 ≤ l.length) : ∃ ul a, l = ul ++ [a] :=
  ⟨l.take (l.length - 1), l[l.length - 1], by
    have h1 : l.drop (l.length - 1) = [l[l.length - 1]] := by
      rw [List.drop_eq_getElem_cons (by omega), List.drop_eq_nil_of_le (by omega)]
    rw [← h1, List.take_append_drop]⟩
theorem c1m {P Ul u2 T V1 V2 Vl g : Int} (hP : 0 < P) (hU : Ul < P) (hu : u2 < 1048576) (hV : 0 ≤ Vl) (h2 : 0 ≤ V2) (hg : T < (g + 1) * V1) (hg0 : 0 ≤ g) :
    Ul + P * (u2 + 1048576 * T) < (g + 1) * (Vl + P * (V2 + 1048576 * V1)) := by
  have e1 : P * u2 ≤ P * 1048575 := Int.mul_le_mul_of_nonneg_left (by omega) (by omega)
  have e2 : P * (T + 1) ≤ P * ((g + 1) * V1) := Int.mul_le_mul_of_nonneg_left (by omega) (by omega)
  have e3 : 0 ≤ (g + 1) * Vl := Int.mul_nonneg (by omega) hV
  have e4 : 0 ≤ (g + 1) * (P * V2) := Int.mul_nonneg (by omega) (Int.mul_nonneg (by omega) h2)
  have e5 : (g + 1) * (Vl + P * (V2 + 1048576 * V1)) = (g + 1) * Vl + (g + 1) * (P * V2) + 1048576 * (P * ((g + 1) * V1)) := by grind
  have e6 : Ul + P * (u2 + 1048576 * T) = Ul + P * u2 + 1048576 * (P * (T + 1)) - 1048576 * P := by grind
  omega
theorem c8i (n : Nat) (v : List Int) (kont : List Int → List Int → Option (List Int × List Int)) (hv : Canon v) (hl2 : 2 ≤ v.length) (hlv : v.length < 268435456) (hn : 4398046511104 < n) :
    ∀ (k : Nat) (lo w zs qd : List Int) (m : Nat), lo.length = k → w.length = v.length → InR lo → InR w → InR zs → val zs = 0 → val w < val v → k + v.length + zs.length < 1073741824 → k < m →
      ∃ uf, a7c n v kont m ((k : Int) - 1) (List.replicate k 0 ++ qd) (lo ++ (w ++ zs)) = kont ((a5t (val v) lo (val w)).1 ++ qd) uf ∧ InR uf ∧ uf.length = k + v.length + zs.length ∧ val uf = (a5t (val v) lo (val w)).2
  | 0, lo, w, zs, qd, m + 1, hlo, hw, hil, hiw, hiz, hz, hlt, hlen, hm => by
    have : lo = [] := List.eq_nil_of_length_eq_zero hlo
    subst this
    refine ⟨w ++ zs, ?_, hiw.append hiz, by simp [hw], ?_⟩
    · rw [b3d]
      have e1 : decide ((0 : Int) ≤ ((0 : Nat) : Int) - 1) = false := by decide
      rw [e1]; simp [a5t]
    · rw [val_append, hz]; simp [a5t]
  | k + 1, lo, w, zs, qd, m + 1, hlo, hw, hil, hiw, hiz, hz, hlt, hlen, hm => by
    obtain ⟨lo', d, rfl⟩ := c7p (l := lo) (by omega)
    obtain ⟨vl, v2, v1, hvd⟩ := d2l hl2
    obtain ⟨ul, u2, t0, t1, hwin⟩ := d2t (l := d :: w) (by simp; omega)
    have hlo' : lo'.length = k := by simpa using hlo
    have hid : 0 ≤ d ∧ d < 1048576 := hil d (by simp)
    have hiwin : InR (ul ++ [u2, t0, t1]) := by rw [← hwin]; exact InR.cons hid.1 hid.2 hiw
    have hv1 : 1 ≤ v1 ∧ v1 < 1048576 := by
      have h1 := hv.1 v1 (by rw [hvd]; simp)
      have h2 := hv.2
      rw [hvd] at h2
      have : v1 ≠ 0 := by simpa using h2
      omega
    have ht1 : 0 ≤ t1 ∧ t1 < 1048576 := hiwin t1 (by simp)
    have ht0 : 0 ≤ t0 ∧ t0 < 1048576 := hiwin t0 (by simp)
    have hu2 : 0 ≤ u2 ∧ u2 < 1048576 := hiwin u2 (by simp)
    have hv2 : 0 ≤ v2 ∧ v2 < 1048576 := hv.1 v2 (by rw [hvd]; simp)
    have hvll : v.length = vl.length + 2 := by rw [hvd]; simp
    have hull : ul.length = vl.length := by
      have := congrArg List.length hwin
      simp at this; omega
    have hV := val_nonneg hv.1
    have hU0 := val_nonneg hiwin
    have hUw : val (ul ++ [u2, t0, t1]) = d + 1048576 * val w := by rw [← hwin]; rfl
    have hw0 := val_nonneg hiw
    have hult : val (ul ++ [u2, t0, t1]) < 1048576 * val v := by omega
    have eV : val v = val vl + pw vl.length * (v2 + 1048576 * v1) := by rw [hvd, val_append]; simp [val]
    have eU : val (ul ++ [u2, t0, t1]) = val ul + pw vl.length * (u2 + 1048576 * (t1 * 1048576 + t0)) := by
      rw [val_append, hull]
      simp only [val]
      have : t0 + 1048576 * (t1 + 1048576 * 0) = t1 * 1048576 + t0 := by omega
      rw [this]
    obtain ⟨T, hT⟩ : ∃ T, T = t1 * 1048576 + t0 := ⟨_, rfl⟩
    have hT0 : 0 ≤ T := by omega
    have hT1 : T < 1099511627776 := by omega
    have hg0 : 0 ≤ T / v1 := Int.ediv_nonneg hT0 (by omega)
    have hgT : T / v1 ≤ T := Int.ediv_le_self v1 hT0
    have hr0 : 0 ≤ T % v1 := Int.emod_nonneg _ (by omega)
    have hr1 : T % v1 < v1 := Int.emod_lt_of_pos _ (by omega)
    have hsum : T / v1 * v1 + T % v1 = T := by have := Int.mul_ediv_add_emod T v1; rw [Int.mul_comm] at this; exact this
    have hq0 : val (ul ++ [u2, t0, t1]) < (T / v1 + 1) * val v := by
      rw [eU, eV, ← hT]
      have h1 := val_lt (l := ul) (fun e he => hiwin e (by simp [he]))
      rw [hull] at h1
      refine c1m (pw_pos _) h1 hu2.2 (val_nonneg (fun e he => hv.1 e (by rw [hvd]; simp [he]))) hv2.1 ?_ hg0
      rw [Int.add_mul, Int.one_mul]; omega
    obtain ⟨u, hu⟩ : ∃ u, u = lo' ++ (ul ++ [u2, t0, t1]) ++ zs := ⟨_, rfl⟩
    have hu' : lo' ++ [d] ++ (w ++ zs) = u := by rw [hu, ← hwin]; simp
    have hulen : u.length = k + v.length + 1 + zs.length := by rw [← hu']; simp [hlo', hw]; omega
    obtain ⟨g', a1, a2, a3, a4, a5⟩ := d2c n v u k hvd hu hlo' hull (by omega) (by omega) hv.1 hiwin hv1.1 hult (T / v1).toNat (T / v1) (T % v1) rfl hg0 hr0 (by rw [hsum, hT]) hq0
    obtain ⟨r, s1, s2, s3, s4⟩ := c7d (n := n) hiwin hv.1 (by simp; omega) (by simp; omega) a1 a2 (by omega) a3 a4 (by simp; omega)
    have hVpos : 0 < val v := by omega
    have hrlt : val r < val v := by rw [s4]; exact Int.emod_lt_of_pos _ hVpos
    obtain ⟨w'', z, hrw⟩ := c7p (l := r) (by rw [s3]; simp)
    have hw''l : w''.length = v.length := by
      have := congrArg List.length hrw
      rw [s3] at this
      simp at this; omega
    have hz0 : z = 0 := by
      have h1 := val_lt hv.1
      have h2 : 0 ≤ z ∧ z < 1048576 := s2 z (by rw [hrw]; simp)
      have h3 := val_nonneg (l := w'') (fun e he => s2 e (by rw [hrw]; simp [he]))
      rw [hrw, val_append, hw''l] at hrlt
      simp only [val, Int.mul_zero, Int.add_zero] at hrlt
      rcases (show z = 0 ∨ 1 ≤ z by omega) with h4 | h4
      · exact h4
      · have h5 : pw v.length * 1 ≤ pw v.length * z := Int.mul_le_mul_of_nonneg_left h4 (by have := pw_pos v.length; omega)
        omega
    subst hz0
    have hrval : val r = val w'' := by rw [hrw, val_append]; simp [val]
    have hiw'' : InR w'' := fun e he => s2 e (by rw [hrw]; simp [he])
    have hqi : InR [val (ul ++ [u2, t0, t1]) / val v] := InR.cons (Int.ediv_nonneg hU0 (by omega)) (Int.ediv_lt_of_lt_mul hVpos (by omega)) InR.nil
    obtain ⟨uf, b1, b2, b3, b4⟩ := c8i n v kont hv hl2 hlv hn k lo' w'' (0 :: zs) (val (ul ++ [u2, t0, t1]) / val v :: qd) m hlo' hw''l (fun e he => hil e (by simp [he])) hiw'' (InR.cons (by decide) (by decide) hiz) (by simp [val, hz]) (by omega) (by simp; omega) (by omega)
    refine ⟨uf, ?_, b2, by rw [b3]; simp; omega, ?_⟩
    · rw [b3d, hu']
      have e0 : ((k + 1 : Nat) : Int) - 1 = (k : Int) := by omega
      have e1 : decide ((0 : Int) ≤ (k : Int)) = true := by simp
      have i1 : iadd .i64 (k : Int) (v.length : Int) = ((k + v.length : Nat) : Int) := by rw [a3o (by omega) (by omega)]; omega
      have i2 : isub .i64 ((k + v.length : Nat) : Int) 1 = ((k + vl.length + 1 : Nat) : Int) := by rw [a2i (by omega) (by omega)]; omega
      have i3 : isub .i64 (v.length : Int) 1 = ((vl.length + 1 : Nat) : Int) := by rw [a2i (by omega) (by omega)]; omega
      have r1 : ix u ((k + v.length : Nat) : Int) = some t1 := by
        rw [hu, show lo' ++ (ul ++ [u2, t0, t1]) ++ zs = (lo' ++ (ul ++ [u2, t0])) ++ t1 :: zs by simp]
        exact a7l _ t1 _ (by simp [hlo', hull]; omega)
      have r2 : ix u ((k + vl.length + 1 : Nat) : Int) = some t0 := by
        rw [hu, show lo' ++ (ul ++ [u2, t0, t1]) ++ zs = (lo' ++ (ul ++ [u2])) ++ t0 :: (t1 :: zs) by simp]
        exact a7l _ t0 _ (by simp [hlo', hull]; omega)
      have r3 : ix v ((vl.length + 1 : Nat) : Int) = some v1 := by
        rw [hvd, show vl ++ [v2, v1] = (vl ++ [v2]) ++ [v1] by simp]; exact a7l (vl ++ [v2]) v1 [] (by simp)
      rw [e0, e1, i1, r1, cond_true, Option.bind_some, b7j (by omega) (by omega), Option.bind_some, i2, r2, Option.bind_some, i3, r3, Option.bind_some, b7u ht1.1 (by omega) ht0.1 ht0.2, ← hT, b7w hT0 (by omega) (by omega), Option.bind_some, Option.bind_some, b6v hT0 (by omega), Option.bind_some]
      rw [a5 _ n (by omega)]
      have i4 : iadd .i64 ((k + v.length : Nat) : Int) 1 = ((k + v.length + 1 : Nat) : Int) := inc64 (by omega)
      have r4 : lsl u (k : Int) ((k + v.length + 1 : Nat) : Int) = some (ul ++ [u2, t0, t1]) := by
        rw [c3a (by omega) (by omega), hu]
        congr 1
        rw [List.take_append_of_le_length (by simp [hlo', hull]; omega), List.take_of_length_le (by simp [hlo', hull]; omega), ← hlo', List.drop_left]
      rw [i4, r4, Option.bind_some, s1, Option.bind_some, List.replicate_succ', List.append_assoc, List.singleton_append, a7l _ 0 _ (by simp), Option.bind_some, a8j _ 0 _ _ (by simp), Option.bind_some, a2i (by omega) (by omega)]
      have r5 : lput u (k : Int) r ((k + v.length + 1 : Nat) : Int) = lo' ++ (w'' ++ 0 :: zs) := by
        have hX : (lo' ++ (ul ++ [u2, t0, t1])).length = k + v.length + 1 := by simp [hlo', hull]; omega
        have d1 : u.drop (k + v.length + 1) = zs := by rw [hu, ← hX]; exact List.drop_left
        have d2 : u.take k = lo' := by rw [hu, List.append_assoc, ← hlo']; exact List.take_left
        unfold lput
        rw [Int.toNat_natCast, Int.toNat_natCast, d1, d2, hrw]
        simp
      rw [r5, b1]
      congr 1
      rw [b3e]
      simp only [a5t]
      have e2 : val w * 1048576 + d = val (ul ++ [u2, t0, t1]) := by omega
      rw [e2, ← s4, hrval]
      simp
    · rw [b4, b3e]
      simp only [a5t]
      have e2 : val w * 1048576 + d = val (ul ++ [u2, t0, t1]) := by omega
      rw [e2, ← s4, hrval]
  | _, _, _, _, _, 0, _, _, _, _, _, _, _, _, h => by omega
theorem d2d (b : List Int) (hl : 1 ≤ b.length) (hlb : b.length < 1073741824) {top : Int} (htop : ix b ((b.length - 1 : Nat) : Int) = some top) (h1 : 1 ≤ top) (h2 : top < 1048576) :
    ∀ (N j : Nat), j + N = 19 → ∃ s' : Int, 1 ≤ s' ∧ s' ≤ 524288 ∧ ∀ (n : Nat) (kont : Int → Option (List Int × List Int)) m, N < m → a9a n b kont m ((2 ^ j : Nat) : Int) = kont s' := by
  have i1 : isub .i64 (b.length : Int) 1 = ((b.length - 1 : Nat) : Int) := by rw [a2i (by omega) (by omega)]; omega
  have htm : ∀ s : Int, 1 ≤ s → s ≤ 524288 → 0 ≤ top * s ∧ top * s ≤ 549755813888 := fun s a1 a2 =>
    ⟨Int.mul_nonneg (by omega) (by omega), by have := Int.mul_le_mul (show top ≤ 1048576 by omega) a2 (by omega) (by omega); omega⟩
  have hpow : ∀ j : Nat, j ≤ 19 → 1 ≤ ((2 ^ j : Nat) : Int) ∧ ((2 ^ j : Nat) : Int) ≤ 524288 := fun j hj => by
    have h1 := Nat.pow_le_pow_right (n := 2) (by decide) hj
    have h2 := Nat.pow_pos (n := j) (show 0 < 2 by decide)
    have h3 : 2 ^ 19 = 524288 := by decide
    omega
  intro N
  induction N with
  | zero =>
    intro j hj
    obtain rfl : j = 19 := by omega
    have hp := hpow 19 (by omega)
    refine ⟨((2 ^ 19 : Nat) : Int), hp.1, hp.2, fun n kont m hm => ?_⟩
    obtain ⟨m, rfl⟩ : ∃ m', m = m' + 1 := ⟨m - 1, by omega⟩
    have := htm _ hp.1 hp.2
    have hs : ((2 ^ 19 : Nat) : Int) = 524288 := by decide
    have e1 : decide (top * ((2 ^ 19 : Nat) : Int) < 524288) = false := by
      rw [hs, decide_eq_false_iff_not]
      omega
    rw [b0q, i1, htop, Option.bind_some, a7h (by omega) (by omega), e1, cond_false]
  | succ N ih =>
    intro j hj
    have hp := hpow j (by omega)
    have hp2 := hpow (j + 1) (by omega)
    have hm0 := htm _ hp.1 hp.2
    have hdbl : ((2 ^ j : Nat) : Int) * 2 = ((2 ^ (j + 1) : Nat) : Int) := by rw [Nat.pow_succ]; omega
    by_cases h : top * ((2 ^ j : Nat) : Int) < 524288
    · obtain ⟨s', a1, a2, a3⟩ := ih (j + 1) (by omega)
      refine ⟨s', a1, a2, fun n kont m hm => ?_⟩
      obtain ⟨m, rfl⟩ : ∃ m', m = m' + 1 := ⟨m - 1, by omega⟩
      rw [b0q, i1, htop, Option.bind_some, a7h (by omega) (by omega), show decide (top * ((2 ^ j : Nat) : Int) < 524288) = true by simpa using h, cond_true, a7h (by omega) (by omega), hdbl]
      exact a3 n kont m (by omega)
    · refine ⟨_, hp.1, hp.2, fun n kont m hm => ?_⟩
      obtain ⟨m, rfl⟩ : ∃ m', m = m' + 1 := ⟨m - 1, by omega⟩
      rw [b0q, i1, htop, Option.bind_some, a7h (by omega) (by omega), show decide (top * ((2 ^ j : Nat) : Int) < 524288) = false by rw [decide_eq_false_iff_not]; exact h, cond_false]
theorem b9z {a b s : Nat} (hs : 0 < s) : a * s / (b * s) = a / b ∧ a * s % (b * s) = a % b * s := ⟨Nat.mul_div_mul_right _ _ hs, Nat.mul_mod_mul_right _ _ _⟩
theorem c8h {x y : Nat} (hy : y ≠ 0) (hlx : (dig x).length < 16777216) (hly : (dig y).length < 16777216) : Ev (fun n => b2f n (dig x) (dig y)) (dig (x / y), dig (x % y)) := by
  unfold b2f
  refine Ev.bind (a := sg ((x : Int) - y)) ⟨(dig x).length + 1, fun n hn => ?_⟩ ?_
  · have := c0n (n := n) (a9l x) (a9l y) (by omega) (by omega)
    rw [a2k, a2k] at this; exact this
  by_cases hlt : x < y
  · refine Ev.then (by simp [sg]; omega) ?_
    refine Ev.bind (b1q (by omega)) ?_
    rw [Nat.div_eq_of_lt hlt, Nat.mod_eq_of_lt hlt, dig_zero]
    exact Ev.pure _
  refine Ev.else (by simp [sg]; split <;> (try split) <;> omega) ?_
  have hyl : 1 ≤ (dig y).length := by
    have := b3u hy
    cases h : dig y with
    | nil => exact absurd h this
    | cons => simp
  by_cases h1 : (dig y).length = 1
  · refine Ev.then (by simp [h1]) ?_
    obtain ⟨d, hd⟩ : ∃ d, dig y = [d] := List.length_eq_one_iff.1 h1
    have hdy : d = y := by have := a2k y; rw [hd] at this; simpa [val] using this
    have hd1 : 0 ≤ d ∧ d < 1048576 := a3a y d (by rw [hd]; simp)
    refine Ev.step (a := d) (by rw [hd]; rfl) ?_
    refine Ev.bind (c7o (a3a x) (by omega) (by omega) (by omega)) ?_
    have hm : 0 ≤ (x : Int) % y ∧ (x : Int) % y < 1048576 := ⟨Int.emod_nonneg _ (by omega), by have := Int.emod_lt_of_pos (x : Int) (show (0 : Int) < y by omega); omega⟩
    refine Ev.bind (c5l (InR.cons (by rw [a2k, hdy]; exact hm.1) (by rw [a2k, hdy]; exact hm.2) InR.nil) (by simp)) ?_
    refine (Ev.pure _).eq ?_
    simp only [a2k, hdy, val, Int.mul_zero, Int.add_zero]
    rw [← Int.natCast_ediv, ← Int.natCast_emod, Int.toNat_natCast, Int.toNat_natCast]
  refine Ev.else (by simp; omega) ?_
  obtain ⟨pl, top, hpt⟩ := c7p (l := dig y) hyl
  have htop : ix (dig y) (((dig y).length - 1 : Nat) : Int) = some top := by
    have : ∀ l : List Int, l = pl ++ [top] → ix l ((l.length - 1 : Nat) : Int) = some top := fun l hl => by subst hl; exact a7l pl top [] (by simp)
    exact this _ hpt
  have ht1 : 0 ≤ top ∧ top < 1048576 := a3a y top (by rw [hpt]; simp)
  have ht2 : top ≠ 0 := by have := b4u y; rw [hpt] at this; simpa using this
  obtain ⟨s, hs1, hs2, hL1⟩ := d2d (dig y) hyl (by omega) htop (by omega) ht1.2 19 0 rfl
  rw [show ((2 ^ 0 : Nat) : Int) = 1 from rfl] at hL1
  refine Ev.from 20 (fun n hn => hL1 n _ n (by omega)) ?_
  obtain ⟨S, rfl⟩ := Int.eq_ofNat_of_zero_le (show 0 ≤ s by omega)
  have hS : 0 < S := by omega
  have hSi : InR [(S : Int)] := InR.cons (by omega) (by omega) InR.nil
  have hmul : ∀ z : Nat, (val (dig z) * val [(S : Int)]).toNat = z * S := fun z => by
    rw [a2k]; simp only [val, Int.mul_zero, Int.add_zero]
    rw [← Int.natCast_mul, Int.toNat_natCast]
  have m1 := c4l (a3a x) hSi (by omega) (by simp)
  have m2 := c4l (a3a y) hSi (by omega) (by simp)
  rw [hmul] at m1 m2
  have hxS : x ≤ x * S := Nat.le_mul_of_pos_right _ hS
  have hyS : y ≤ y * S := Nat.le_mul_of_pos_right _ hS
  have hxy : y * S ≤ x * S := Nat.mul_le_mul_right _ (by omega)
  have l1 := a5n hxS
  have l2 := a5n hyS
  have l3 := a5n hxy
  have l4 : (dig (x * S)).length ≤ (dig x).length + 1 := by
    have h := b6o [(S : Int)] (dig x) [0] rfl
    have h2 := b5c (c1p hSi (dig x) [0] (a3a x) (InR.rep 1))
    rw [b9s [(S : Int)] (dig x) [0] rfl, show val [(0 : Int)] = 0 from rfl, Int.zero_add, hmul, h] at h2
    simpa using h2
  refine Ev.bind m1 ?_
  refine Ev.step (a := dig (x * S) ++ [0]) (b4k (by simp; omega)) ?_
  refine Ev.bind m2 ?_
  refine Ev.step (a := dig (x * S) ++ [0]) (by
    have : (((dig (x * S) ++ [(0 : Int)]).length : Int) == ((dig x).length : Int)) = false := by simp; omega
    rw [this, cond_false]) ?_
  obtain ⟨k, hk⟩ : ∃ k, (dig (x * S)).length + 1 = (dig (y * S)).length + k := ⟨(dig (x * S)).length + 1 - (dig (y * S)).length, by omega⟩
  have hk1 : 1 ≤ k := by omega
  have hkle : k ≤ (dig (x * S)).length := by omega
  refine Ev.step (a := List.replicate k 0) (by
    rw [a2i (by simp; omega) (by simp; omega), show (((dig (x * S) ++ [(0 : Int)]).length : Int) - ((dig (y * S)).length : Int)) = (k : Int) by simp; omega]
    exact b8m (by omega)) ?_
  have hyS0 : y * S ≠ 0 := by omega
  obtain ⟨pl', top', hpt'⟩ := c7p (l := dig (y * S)) (by omega)
  have htop' : 1 ≤ top' := by
    have h1 := a3a (y * S) top' (by rw [hpt']; simp)
    have h2 := b4u (y * S)
    rw [hpt'] at h2
    have : top' ≠ 0 := by simpa using h2
    omega
  have hVge : pw ((dig (y * S)).length - 1) ≤ val (dig (y * S)) := by
    have h0 : (dig (y * S)).length - 1 = pl'.length := by rw [hpt']; simp
    rw [h0, hpt', val_append]
    have h1 := val_nonneg (l := pl') (fun e he => a3a (y * S) e (by rw [hpt']; simp [he]))
    have h2 : pw pl'.length * 1 ≤ pw pl'.length * top' := Int.mul_le_mul_of_nonneg_left htop' (by have := pw_pos pl'.length; omega)
    simp only [val, Int.mul_zero, Int.add_zero]
    omega
  have hw : (dig (x * S) ++ [(0 : Int)]).drop k = (dig (x * S)).drop k ++ [0] := List.drop_append_of_le_length hkle
  have hwlt : val ((dig (x * S) ++ [(0 : Int)]).drop k) < val (dig (y * S)) := by
    rw [hw, val_append]
    have h1 := val_lt ((a3a (x * S)).drop k)
    have h2 : ((dig (x * S)).drop k).length = (dig (y * S)).length - 1 := by simp; omega
    rw [h2] at h1
    simp only [val, Int.mul_zero, Int.add_zero]
    omega
  have hui : InR (dig (x * S) ++ [(0 : Int)]) := (a3a _).append (InR.cons (by decide) (by decide) InR.nil)
  refine ⟨4398046511105 + k + (dig (x * S)).length, fun n hn => ?_⟩
  obtain ⟨uf, r1, r2, r3, r4⟩ := c8i n (dig (y * S)) (fun (l6 : List Int) (l7 : List Int) => (a3l n l7).bind fun v7 => (a7p n v7 (S : Int)).bind fun v8 => (a3l n l6).bind fun v9 => some (v9, v8.1)) (a9l _) (by omega) (by omega) (by omega)
    k ((dig (x * S) ++ [(0 : Int)]).take k) ((dig (x * S) ++ [(0 : Int)]).drop k) [] [] n (by simp; omega) (by simp; omega) (hui.take k) (hui.drop k) InR.nil rfl hwlt (by simp; omega) (by omega)
  simp only [List.append_nil, List.take_append_drop] at r1
  have hV : (0 : Int) < val (dig (y * S)) := by rw [a2k]; omega
  have h0 := val_nonneg (hui.drop k)
  have q1 := b7k (V := val (dig (y * S))) ((dig (x * S) ++ [(0 : Int)]).take k) (val ((dig (x * S) ++ [(0 : Int)]).drop k))
  have q2 := b4t hV ((dig (x * S) ++ [(0 : Int)]).take k) _ h0 hwlt
  have q3 := b9o hV ((dig (x * S) ++ [(0 : Int)]).take k) _ (hui.take k) h0 hwlt
  have q4 := b4o (val (dig (y * S))) ((dig (x * S) ++ [(0 : Int)]).take k) (val ((dig (x * S) ++ [(0 : Int)]).drop k))
  rw [b4d, List.take_append_drop] at q1
  have q5 : val (dig (x * S) ++ [(0 : Int)]) = ((x * S : Nat) : Int) := by rw [val_append, a2k]; simp [val]
  rw [q5] at q1
  have hVy : val (dig (y * S)) = ((y * S : Nat) : Int) := a2k _
  rw [hVy] at q1 q2 q3 q4 r1 r4
  obtain ⟨g1, g2⟩ := b9i (U := ((x * S : Nat) : Int)) (V := ((y * S : Nat) : Int)) (q := val (a5t ((y * S : Nat) : Int) ((dig (x * S) ++ [(0 : Int)]).take k) (val ((dig (x * S) ++ [(0 : Int)]).drop k))).1) (by omega) (by omega) (by rw [Int.add_mul, Int.one_mul]; omega)
  obtain ⟨n1, n2⟩ := b9z (a := x) (b := y) hS
  have e1 : val uf = ((x % y * S : Nat) : Int) := by
    rw [r4, ← n2, Int.natCast_emod]; omega
  have e2 : val (a5t ((y * S : Nat) : Int) ((dig (x * S) ++ [(0 : Int)]).take k) (val ((dig (x * S) ++ [(0 : Int)]).drop k))).1 = ((x / y : Nat) : Int) := by
    rw [← g1, ← n1, Int.natCast_ediv]
  have hul : uf.length < n := by rw [r3]; simp; omega
  have hlu : uf.length < 1073741824 := by rw [r3]; simp; omega
  have hdl := b5c r2
  rw [e1, Int.toNat_natCast] at hdl
  dsimp only
  rw [List.length_replicate, a2i (by omega) (by omega), r1, b6p r2 (by omega) hul, e1, Int.toNat_natCast, Option.bind_some,
    c5i (a3a _) (by omega) (by omega) (by omega) (n := n) (by omega), Option.bind_some,
    b6p q3 (by rw [q4]; simp; omega) (by rw [q4]; simp; omega), Option.bind_some, e2, Int.toNat_natCast, a2k]
  have e3 : ((x % y * S : Nat) : Int) / (S : Int) = ((x % y : Nat) : Int) := by
    rw [← Int.natCast_ediv, Nat.mul_div_cancel _ hS]
  rw [e3, Int.toNat_natCast]
end Go.Proofs.YtknpjecpcmajiaaGreat.D

namespace Go.Proofs.YtknpjecpcmajiaaGreat.D
open Go Rt M
def toB (x : Int) : Big := ⟨sg x, dig x.natAbs⟩
def Sm (k : Nat) (x : Int) : Prop := (x.natAbs : Int) < pw k
theorem a2a (x : Int) : (x < 0 ∧ sg x = -1) ∨ (x = 0 ∧ sg x = 0) ∨ (0 < x ∧ sg x = 1) := by
  unfold sg; split
  · exact .inl ⟨by assumption, rfl⟩
  · split
    · exact .inr (.inr ⟨by assumption, rfl⟩)
    · exact .inr (.inl ⟨by omega, rfl⟩)
theorem a6f {x : Int} (h : 0 < x) : sg x = 1 := by rcases a2a x with h1 | h1 | h1 <;> omega
theorem a6i {x : Int} (h : x < 0) : sg x = -1 := by rcases a2a x with h1 | h1 | h1 <;> omega
theorem b3n (x y : Int) : sg (x * y) = sg x * sg y := by
  rcases a2a x with ⟨h1, h2⟩ | ⟨h1, h2⟩ | ⟨h1, h2⟩ <;> rcases a2a y with ⟨h3, h4⟩ | ⟨h3, h4⟩ | ⟨h3, h4⟩ <;> rw [h2, h4]
  · exact a6f (Int.mul_pos_of_neg_of_neg h1 h3)
  · subst h3; rw [Int.mul_zero]; decide
  · exact a6i (Int.mul_neg_of_neg_of_pos h1 h3)
  · subst h1; rw [Int.zero_mul]; decide
  · subst h1; rw [Int.zero_mul]; decide
  · subst h1; rw [Int.zero_mul]; decide
  · exact a6i (Int.mul_neg_of_pos_of_neg h1 h3)
  · subst h3; rw [Int.mul_zero]; decide
  · exact a6f (Int.mul_pos h1 h3)
theorem b7m (x : Int) : sg x * (x.natAbs : Int) = x := by
  rcases a2a x with ⟨h1, h2⟩ | ⟨h1, h2⟩ | ⟨h1, h2⟩ <;> rw [h2] <;> omega
theorem b6n (x : Int) : -1 ≤ sg x ∧ sg x ≤ 1 := by rcases a2a x with h | h | h <;> omega
theorem c2j (a : Nat) : ∀ b, pw (a + b) = pw a * pw b
  | 0 => by simp [pw]
  | b + 1 => by rw [← Nat.add_assoc]; simp only [pw, c2j a b]; grind
theorem a2w {k : Nat} {x : Int} (h : Sm k x) : (dig x.natAbs).length ≤ k := by
  rcases Nat.lt_or_ge k (dig x.natAbs).length with h1 | h1
  · exfalso
    have h2 : val (List.replicate k (1048575 : Int)) < val (dig x.natAbs) := val_lt_of_len (fun e he => by rw [(List.mem_replicate.1 he).2]; decide) (a9l _) (by simpa using h1)
    have h3 : ∀ k, val (List.replicate k (1048575 : Int)) = pw k - 1 := by
      intro k
      induction k with
      | zero => rfl
      | succ k ih => rw [List.replicate_succ]; simp only [val, pw, ih]; omega
    rw [h3, a2k] at h2
    unfold Sm at h
    omega
  · exact h1
theorem a9s {k : Nat} {x : Int} (h : (dig x.natAbs).length ≤ k) : Sm k x := by
  have h1 := val_lt (a3a x.natAbs)
  rw [a2k] at h1
  exact Int.lt_of_lt_of_le h1 (pw_mono h)
theorem Sm.mono {k l : Nat} {x : Int} (h : Sm k x) (hkl : k ≤ l) : Sm l x := Int.lt_of_lt_of_le h (pw_mono hkl)
theorem Sm.add {k : Nat} {x y : Int} (h : Sm k x) (h2 : Sm k y) : Sm (k + 1) (x + y) := by
  unfold Sm at *; simp only [pw]; omega
theorem Sm.neg {k : Nat} {x : Int} (h : Sm k x) : Sm k (-x) := by unfold Sm at *; omega
theorem Sm.sub {k : Nat} {x y : Int} (h : Sm k x) (h2 : Sm k y) : Sm (k + 1) (x - y) := by rw [Int.sub_eq_add_neg]; exact h.add h2.neg
theorem Sm.mul {k l : Nat} {x y : Int} (h : Sm k x) (h2 : Sm l y) : Sm (k + l) (x * y) := by
  unfold Sm at *
  rw [c2j, Int.natAbs_mul, Int.natCast_mul]
  have h3 : (x.natAbs : Int) * y.natAbs ≤ x.natAbs * pw l := Int.mul_le_mul_of_nonneg_left (by omega) (by omega)
  have h4 : (x.natAbs : Int) * pw l < pw k * pw l := Int.mul_lt_mul_of_pos_right h (pw_pos l)
  omega
theorem Sm.le {k : Nat} {x y : Int} (h : Sm k x) (h2 : y.natAbs ≤ x.natAbs) : Sm k y := by unfold Sm at *; omega
def okd (d : Int) : Bool := decide (0 ≤ d) && decide (d < 1048576)
def b0j (a : Big) : Bool := a.Digits.all okd && (if a.Digits = [] then a.Sign == 0 else (a.Sign == 1 || a.Sign == -1) && (a.Digits.getLast?.getD 0 != 0))
theorem c5x (n : Nat) (a : Big) (kont : Option Bool) (hl : a.Digits.length < 1099511627776) : ∀ (us : List Int) (i m : Nat), a.Digits.drop i = us → us.length < m → a6v n a kont m (i : Int) = bif us.all okd then kont else some false
  | [], i, m + 1, hd, _ => by
    rw [b0u]
    have := drop_nil hd
    rw [show decide ((i : Int) < (a.Digits.length : Int)) = false by simp; omega]; rfl
  | x :: xs, i, m + 1, hd, hm => by
    rw [b0u]
    obtain ⟨f1, f2, f3⟩ := drop_cons hd
    rw [show decide ((i : Int) < (a.Digits.length : Int)) = true by simp; omega, cond_true, f1, Option.bind_some]
    have e1 : ((bif decide (x < 0) then some true else some (decide (1048575 < x))) : Option Bool) = some (!okd x) := by
      unfold okd
      by_cases h : x < 0
      · rw [show decide (x < 0) = true by simpa using h, show decide (0 ≤ x) = false by simp; omega]; rfl
      · rw [show decide (x < 0) = false by simpa using h, show decide (0 ≤ x) = true by simp; omega, cond_false]
        by_cases h2 : x < 1048576
        · rw [show decide (1048575 < x) = false by simp; omega, show decide (x < 1048576) = true by simpa using h2]; rfl
        · rw [show decide (1048575 < x) = true by simp; omega, show decide (x < 1048576) = false by simpa using h2]; rfl
    rw [e1, Option.bind_some, List.all_cons]
    cases h : okd x with
    | false => rfl
    | true =>
      rw [inc64 (by omega), c5x n a kont hl xs (i + 1) m f2 (by simpa using hm)]; rfl
  | _, _, 0, _, h => by omega
theorem d0c {a : Big} (hl : a.Digits.length < 1099511627776) {n : Nat} (hn : a.Digits.length < n) : a3n n a = some (b0j a) := by
  unfold a3n
  have h := fun kont => c5x n a kont hl a.Digits 0 n rfl hn
  rw [show ((0 : Nat) : Int) = 0 from rfl] at h
  rw [h]
  unfold b0j
  cases ha : a.Digits.all okd with
  | false => rfl
  | true =>
    rw [cond_true, Bool.true_and]
    rcases List.eq_nil_or_concat a.Digits with h0 | ⟨p, d, h0⟩
    · rw [h0]; rfl
    · rw [List.concat_eq_append] at h0
      have hne : a.Digits ≠ [] := by rw [h0]; simp
      have e1 : ((a.Digits.length : Int) == 0) = false := by rw [h0]; simp; omega
      have e2 : isub .i64 (a.Digits.length : Int) 1 = (p.length : Int) := by rw [a2i (by omega) (by omega), h0]; simp
      have e3 : ix a.Digits (p.length : Int) = some d := by rw [h0]; exact a7l p d [] rfl
      rw [e1, cond_false, if_neg hne, e2, e3]
      have e4 : a.Digits.getLast?.getD 0 = d := by rw [h0]; simp
      rw [e4]
      cases h1 : (a.Sign == 1) <;> cases h2 : (a.Sign == -1) <;> rfl
theorem b9x {a : Big} (hl : a.Digits.length < 1099511627776) : Ev (fun n => a3n n a) (b0j a) := ⟨a.Digits.length + 1, fun _ hn => d0c hl hn⟩
theorem b3j (x : Int) : b0j (toB x) = true := by
  unfold b0j toB
  have h1 : (dig x.natAbs).all okd = true := by
    rw [List.all_eq_true]
    intro d hd
    have := a3a _ d hd
    unfold okd; simp; omega
  simp only [h1, Bool.true_and]
  by_cases h : x = 0
  · subst h; rw [show (0 : Int).natAbs = 0 from rfl, dig_zero]; rfl
  · rw [if_neg (b3u (by omega))]
    have h2 : (dig x.natAbs).getLast?.getD 0 ≠ 0 := by
      have h3 := b4u x.natAbs
      cases h4 : (dig x.natAbs).getLast? with
      | none => rw [List.getLast?_eq_none_iff] at h4; exact absurd h4 (b3u (by omega))
      | some d => rw [h4] at h3; simpa using h3
    rcases a2a x with ⟨_, h5⟩ | ⟨h6, _⟩ | ⟨_, h5⟩
    · rw [h5]; simpa using h2
    · exact absurd h6 h
    · rw [h5]; simpa using h2
theorem b0p {a : Big} (h : b0j a = true) : ∃ x, a = toB x := by
  obtain ⟨s, l⟩ := a
  unfold b0j at h
  simp only [Bool.and_eq_true, List.all_eq_true] at h
  obtain ⟨h1, h2⟩ := h
  have hi : InR l := fun d hd => by have := h1 d hd; unfold okd at this; simpa using this
  by_cases hl : l = []
  · subst hl
    simp only [if_true, beq_iff_eq] at h2
    subst h2
    exact ⟨0, by unfold toB; rw [show (0 : Int).natAbs = 0 from rfl, dig_zero]; rfl⟩
  · simp only [if_neg hl, Bool.and_eq_true, Bool.or_eq_true, beq_iff_eq, bne_iff_ne] at h2
    have hc : Canon l := by
      refine ⟨hi, fun h3 => ?_⟩
      rw [h3] at h2; exact h2.2 rfl
    have hv := val_nonneg hi
    have hv0 : val l ≠ 0 := fun e => by have := dig_val hc; rw [e, Int.toNat_zero, dig_zero] at this; exact hl this.symm
    have hd := dig_val hc
    rcases h2.1 with h3 | h3
    · refine ⟨val l, ?_⟩
      unfold toB
      rw [a6f (by omega), h3, show (val l).natAbs = (val l).toNat by omega, hd]
    · refine ⟨-val l, ?_⟩
      unfold toB
      rw [a6i (by omega), h3, show (-val l).natAbs = (val l).toNat by omega, hd]
theorem c5t {x y : Int} (h : toB x = toB y) : x = y := by
  unfold toB at h
  simp only [Big.mk.injEq] at h
  have := c9s h.2
  have h1 := b7m x
  have h2 := b7m y
  rw [h.1, this] at h1
  omega
theorem toB_zero : toB 0 = ⟨0, []⟩ := by unfold toB; rw [show (0 : Int).natAbs = 0 from rfl, dig_zero]; rfl
theorem a5o {x : Int} {k : Nat} (h : Sm k x) (hk : k < 1099511627776) : Ev (fun n => a3n n (toB x)) true := by
  have := b9x (a := toB x) (by have := a2w h; simp only [toB]; omega)
  rwa [b3j] at this
theorem a6q (s : Int) {v : Nat} (h : (dig v).length < 1099511627776) : Ev (fun n => a3i n s (dig v)) (if v = 0 then ⟨0, []⟩ else ⟨s, dig v⟩) := by
  unfold a3i
  have h1 := c5l (a3a v) h
  rw [a2k, Int.toNat_natCast] at h1
  refine Ev.bind h1 ?_
  by_cases hv : v = 0
  · rw [if_pos hv]
    refine Ev.then (by rw [hv, dig_zero]; rfl) (Ev.pure _)
  · rw [if_neg hv]
    refine Ev.else ?_ (Ev.pure _)
    have := b3u hv
    cases hd : dig v with
    | nil => exact absurd hd this
    | cons a l => simp; omega
theorem a5c {s : Int} {v : Nat} (z : Int) (hz : z.natAbs = v) (hs : v ≠ 0 → s = sg z) : (if v = 0 then (⟨0, []⟩ : Big) else ⟨s, dig v⟩) = toB z := by
  by_cases hv : v = 0
  · rw [if_pos hv]
    have : z = 0 := by omega
    rw [this, toB_zero]
  · rw [if_neg hv, hs hv]; unfold toB; rw [hz]
theorem b8x {x : Int} {k : Nat} (h : Sm k x) (hk : k < 1073741824) : Ev (fun n => b0w n (toB x)) (toB (-x)) := by
  unfold b0w
  have hl := a2w h
  refine Ev.bind (a5o h (by omega)) ?_
  refine Ev.else rfl ?_
  refine Ev.bind (b1q (a := (toB x).Digits) (by simp only [toB]; omega)) ?_
  have hr := b6n x
  refine Ev.bind (a6q (IntKind.i64.wrap (0 - (toB x).Sign)) (v := x.natAbs) (by omega)) ?_
  refine (Ev.pure _).eq ?_
  rw [a5c (-x) (by omega) (fun hv => by
    show IntKind.i64.wrap (0 - sg x) = _
    rw [a5m (by omega) (by omega)]
    rcases a2a x with ⟨h1, h2⟩ | ⟨h1, h2⟩ | ⟨h1, h2⟩
    · rw [h2, a6f (by omega)]; rfl
    · omega
    · rw [h2, a6i (by omega)]; rfl)]
theorem Or_n (n : Nat) (x y : Int) (hn : 2 < n) : b1b n [x, y] = some (if x ≠ 0 then x else y) := by
  obtain ⟨n, rfl⟩ : ∃ k, n = k + 3 := ⟨n - 3, by omega⟩
  have h0 : ix [x, y] 0 = some x := rfl
  have h1 : ix [x, y] 1 = some y := rfl
  have a1 : iadd .i64 0 1 = 1 := by decide
  have a2 : iadd .i64 1 1 = 2 := by decide
  unfold b1b
  rw [a8q, show decide ((0 : Int) < (([x, y] : List Int).length : Int)) = true by rfl, cond_true, h0, Option.bind_some]
  by_cases hx : x = 0
  · rw [show (x != 0) = false by simpa using hx, cond_false, a1, a8q, show decide ((1 : Int) < (([x, y] : List Int).length : Int)) = true by rfl, cond_true, h1, Option.bind_some, if_neg (by simpa using hx)]
    by_cases hy : y = 0
    · rw [show (y != 0) = false by simpa using hy, cond_false, a2, a8q, show decide ((2 : Int) < (([x, y] : List Int).length : Int)) = false by rfl, cond_false, hy]
    · rw [show (y != 0) = true by simpa using hy, cond_true]
  · rw [show (x != 0) = true by simpa using hx, cond_true, if_pos hx]
theorem c6g (u v : Nat) (hu : (dig u).length < 1073741824) (hv : (dig v).length < 1073741824) : Ev (fun n => b4e n (dig u) (dig v)) (dig (u + v)) := by
  have := d1h (a3a u) (a3a v) hu hv
  rwa [a2k, a2k, show ((u : Int) + v).toNat = u + v by omega] at this
theorem c1z (u v : Nat) (hu : (dig u).length < 1073741824) (hvu : v ≤ u) : Ev (fun n => b2q n (dig u) (dig v)) (dig (u - v)) := by
  have := d1g (a3a u) (a3a v) hu (a5n hvu) (by rw [a2k, a2k]; omega)
  rwa [a2k, a2k, show ((u : Int) - v).toNat = u - v by omega] at this
theorem d0p (u v : Nat) (hu : (dig u).length < 536870912) (hv : (dig v).length < 536870912) : Ev (fun n => b0v n (dig u) (dig v)) (dig (u * v)) := by
  have := c4l (a3a u) (a3a v) hu hv
  rwa [a2k, a2k, ← Int.natCast_mul, Int.toNat_natCast] at this
theorem b6s (u v : Nat) (hu : (dig u).length < 1073741824) : Ev (fun n => a6o n (dig u) (dig v)) (sg ((u : Int) - v)) := ⟨(dig u).length + 1, fun n hn => by
  have := c0n (n := n) (a9l u) (a9l v) (by omega) (by omega)
  rwa [a2k, a2k] at this⟩
theorem a9k (n : Nat) (c : Big) : a4p n true c = some (c, 0) := rfl
theorem b3x (x y : Int) : imul .i64 (sg x) (sg y) = sg (x * y) := by
  rw [b3n]
  have h1 := b6n x
  have h2 := b6n y
  refine a7h ?_ ?_ <;> rcases a2a x with ⟨_, h⟩ | ⟨_, h⟩ | ⟨_, h⟩ <;> rw [h] <;> omega
theorem d1w {x y : Int} {k : Nat} (hx : Sm k x) (hy : Sm k y) (hk : k < 536870912) : Ev (fun n => b7i n (toB x) (toB y)) (toB (x + y), 0) := by
  have lx := a2w hx
  have ly := a2w hy
  have lxy := a2w (hx.add hy)
  unfold b7i
  refine Ev.bind (a5o hx (by omega)) ?_
  refine Ev.bind (a := false) (Ev.else rfl (Ev.bind (a5o hy (by omega)) (Ev.pure _))) ?_
  refine Ev.else rfl ?_
  show Ev (fun n => bif decide (0 ≤ imul .i64 (sg x) (sg y)) then _ else _) _
  rw [b3x]
  by_cases hs : 0 ≤ sg (x * y)
  · -- the same sign
    refine Ev.then (by simpa using hs) ?_
    refine Ev.bind (a := if sg x ≠ 0 then sg x else sg y) ⟨3, fun n hn => Or_n n _ _ (by omega)⟩ ?_
    refine Ev.bind (c6g x.natAbs y.natAbs (by omega) (by omega)) ?_
    have hab : x.natAbs + y.natAbs = (x + y).natAbs := by
      rw [b3n] at hs
      rcases a2a x with ⟨h1, h2⟩ | ⟨h1, h2⟩ | ⟨h1, h2⟩ <;> rcases a2a y with ⟨h3, h4⟩ | ⟨h3, h4⟩ | ⟨h3, h4⟩ <;> rw [h2, h4] at hs <;> omega
    rw [hab]
    refine Ev.bind (a6q _ (by omega)) ?_
    rw [a5c (x + y) rfl (fun hv => by
      rw [b3n] at hs
      rcases a2a x with ⟨h1, h2⟩ | ⟨h1, h2⟩ | ⟨h1, h2⟩ <;> rcases a2a y with ⟨h3, h4⟩ | ⟨h3, h4⟩ | ⟨h3, h4⟩ <;> rw [h2, h4] at hs ⊢ <;>
        first
          | omega
          | (rw [a6i (by omega)]; decide)
          | (rw [a6f (by omega)]; decide))]
    exact Ev.step (a9k 0 _) (Ev.pure _)
  · refine Ev.else (by simpa using hs) ?_
    have hne : x ≠ 0 ∧ y ≠ 0 := by
      constructor
      · intro h; subst h; rw [Int.zero_mul] at hs; exact hs (by decide)
      · intro h; subst h; rw [Int.mul_zero] at hs; exact hs (by decide)
    have hop : sg x = -sg y := by
      rw [b3n] at hs
      rcases a2a x with ⟨h1, h2⟩ | ⟨h1, h2⟩ | ⟨h1, h2⟩ <;> rcases a2a y with ⟨h3, h4⟩ | ⟨h3, h4⟩ | ⟨h3, h4⟩ <;> rw [h2, h4] at hs ⊢ <;> omega
    refine Ev.bind (b6s x.natAbs y.natAbs (by omega)) ?_
    by_cases hlt : x.natAbs < y.natAbs
    · refine Ev.then (by rw [a6i (by omega)]; rfl) ?_
      refine Ev.bind (c1z y.natAbs x.natAbs (by omega) (by omega)) ?_
      rw [show y.natAbs - x.natAbs = (x + y).natAbs by
        rcases a2a x with ⟨h1, h2⟩ | ⟨h1, h2⟩ | ⟨h1, h2⟩ <;> rcases a2a y with ⟨h3, h4⟩ | ⟨h3, h4⟩ | ⟨h3, h4⟩ <;> omega]
      refine Ev.bind (a6q _ (by omega)) ?_
      rw [a5c (x + y) rfl (fun hv => by
        show sg y = _
        rcases a2a y with ⟨h3, h4⟩ | ⟨h3, h4⟩ | ⟨h3, h4⟩
        · rw [h4, a6i (by omega)]
        · omega
        · rw [h4, a6f (by omega)])]
      exact Ev.step (a9k 0 _) (Ev.pure _)
    · refine Ev.else (by
        rcases a2a ((x.natAbs : Int) - y.natAbs) with h | h | h
        · omega
        · rw [h.2]; rfl
        · rw [h.2]; rfl) ?_
      refine Ev.bind (c1z x.natAbs y.natAbs (by omega) (by omega)) ?_
      rw [show x.natAbs - y.natAbs = (x + y).natAbs by
        rcases a2a x with ⟨h1, h2⟩ | ⟨h1, h2⟩ | ⟨h1, h2⟩ <;> rcases a2a y with ⟨h3, h4⟩ | ⟨h3, h4⟩ | ⟨h3, h4⟩ <;> omega]
      refine Ev.bind (a6q _ (by omega)) ?_
      rw [a5c (x + y) rfl (fun hv => by
        show sg x = _
        rcases a2a x with ⟨h3, h4⟩ | ⟨h3, h4⟩ | ⟨h3, h4⟩
        · rw [h4, a6i (by omega)]
        · omega
        · rw [h4, a6f (by omega)])]
      exact Ev.step (a9k 0 _) (Ev.pure _)
theorem d1z {x y : Int} {k : Nat} (hx : Sm k x) (hy : Sm k y) (hk : k < 268435456) : Ev (fun n => b6t n (toB x) (toB y)) (toB (x * y), 0) := by
  have lx := a2w hx
  have ly := a2w hy
  have lxy := a2w (hx.mul hy)
  unfold b6t
  refine Ev.bind (a5o hx (by omega)) ?_
  refine Ev.bind (a := false) (Ev.else rfl (Ev.bind (a5o hy (by omega)) (Ev.pure _))) ?_
  refine Ev.else rfl ?_
  refine Ev.bind (d0p x.natAbs y.natAbs (by omega) (by omega)) ?_
  rw [← Int.natAbs_mul]
  refine Ev.bind (a6q (imul .i64 (sg x) (sg y)) (by omega)) ?_
  rw [a5c (x * y) rfl (fun _ => b3x x y)]
  exact Ev.step (a9k 0 _) (Ev.pure _)
end Go.Proofs.YtknpjecpcmajiaaGreat.D

namespace Go.Proofs.YtknpjecpcmajiaaGreat.D
open Go Rt M
def odd (x y : Int) : Bool := decide (x * y < 0) && decide (x.natAbs % y.natAbs ≠ 0)
def dq (x y : Int) : Int := if odd x y then -((x.natAbs / y.natAbs : Nat) + 1 : Int) else sg (x * y) * (x.natAbs / y.natAbs : Nat)
def dr (x y : Int) : Int := if odd x y then sg y * ((y.natAbs - x.natAbs % y.natAbs : Nat) : Int) else sg x * ((x.natAbs % y.natAbs : Nat) : Int)
theorem b1w {x y : Int} : x * y < 0 ↔ (x < 0 ∧ 0 < y) ∨ (0 < x ∧ y < 0) := by
  rcases a2a x with ⟨h1, h2⟩ | ⟨h1, h2⟩ | ⟨h1, h2⟩ <;> rcases a2a y with ⟨h3, h4⟩ | ⟨h3, h4⟩ | ⟨h3, h4⟩
  · have := Int.mul_pos_of_neg_of_neg h1 h3; omega
  · subst h3; simp
  · have := Int.mul_neg_of_neg_of_pos h1 h3; omega
  · subst h1; simp
  · subst h1; simp
  · subst h1; simp
  · have := Int.mul_neg_of_pos_of_neg h1 h3; omega
  · subst h3; simp
  · have := Int.mul_pos h1 h3; omega
theorem d2v {x y : Int} (hy : y ≠ 0) : dq x y * y + dr x y = x ∧ (dr x y = 0 ∨ sg (dr x y) = sg y) ∧ (dr x y).natAbs < y.natAbs := by
  have hyn : 0 < y.natAbs := by omega
  have h1 := Nat.div_add_mod x.natAbs y.natAbs
  have h2 := Nat.mod_lt x.natAbs hyn
  have h1' : (y.natAbs : Int) * ((x.natAbs / y.natAbs : Nat) : Int) + ((x.natAbs % y.natAbs : Nat) : Int) = x.natAbs := by rw [← Int.natCast_mul]; omega
  generalize hq : x.natAbs / y.natAbs = q at *
  generalize hr : x.natAbs % y.natAbs = r at *
  unfold dq dr odd
  rw [hq, hr]
  by_cases ho : x * y < 0
  · by_cases hr0 : r = 0
    · rw [show (decide (x * y < 0) && decide (r ≠ 0)) = false by simp [hr0]]
      simp only [if_neg Bool.false_ne_true]
      rw [hr0] at h1' ⊢
      rw [a6i ho]
      simp only [Int.natCast_zero, Int.mul_zero, Int.add_zero] at h1' ⊢
      refine ⟨?_, .inl trivial, by omega⟩
      rcases b1w.1 ho with ⟨a, b⟩ | ⟨a, b⟩
      · have e : (y.natAbs : Int) = y := by omega
        rw [e] at h1'
        have : -1 * (q : Int) * y = -(y * q) := by grind
        omega
      · have e : (y.natAbs : Int) = -y := by omega
        rw [e] at h1'
        have : -1 * (q : Int) * y = -y * q := by grind
        omega
    · rw [show (decide (x * y < 0) && decide (r ≠ 0)) = true by simp [hr0, ho]]
      simp only [if_true]
      rcases b1w.1 ho with ⟨a, b⟩ | ⟨a, b⟩
      · have e : (y.natAbs : Int) = y := by omega
        rw [e] at h1'
        rw [a6f b]
        have : -((q : Int) + 1) * y = -(y * q) - y := by grind
        exact ⟨by omega, .inr (by rw [a6f (by omega)]), by omega⟩
      · have e : (y.natAbs : Int) = -y := by omega
        rw [e] at h1'
        rw [a6i b]
        have : -((q : Int) + 1) * y = -y * q - y := by grind
        exact ⟨by omega, .inr (by rw [a6i (by omega)]), by omega⟩
  · rw [show (decide (x * y < 0) && decide (r ≠ 0)) = false by simp [ho]]
    simp only [if_neg Bool.false_ne_true]
    rcases a2a x with ⟨a, b⟩ | ⟨a, b⟩ | ⟨a, b⟩ <;> rcases a2a y with ⟨c, d⟩ | ⟨c, d⟩ | ⟨c, d⟩
    · rw [b3n, b, d]
      have e : (y.natAbs : Int) = -y := by omega
      rw [e] at h1'
      have : -1 * -1 * (q : Int) * y = -(-y * q) := by grind
      refine ⟨by omega, ?_, by omega⟩
      by_cases hr0 : r = 0
      · left; omega
      · right; rw [a6i (by omega)]
    · exact absurd c hy
    · exact absurd (b1w.2 (.inl ⟨a, c⟩)) ho
    · rw [b3n, b]; subst a
      have : r = 0 := by rw [← hr]; simp
      refine ⟨?_, .inl (by omega), by omega⟩
      simp
    · exact absurd c hy
    · rw [b3n, b]; subst a
      refine ⟨?_, .inl (by omega), by omega⟩
      simp
    · exact absurd (b1w.2 (.inr ⟨a, c⟩)) ho
    · exact absurd c hy
    · rw [b3n, b, d]
      have e : (y.natAbs : Int) = y := by omega
      rw [e] at h1'
      have : 1 * 1 * (q : Int) * y = y * q := by grind
      refine ⟨by omega, ?_, by omega⟩
      by_cases hr0 : r = 0
      · left; omega
      · right; rw [a6f (by omega)]
theorem c2n {x y : Int} (ho : odd x y = true) : (dq x y).natAbs = x.natAbs / y.natAbs + 1 ∧ sg (dq x y) = -1 := by
  unfold dq; rw [if_pos ho]
  generalize x.natAbs / y.natAbs = q
  exact ⟨by omega, a6i (by omega)⟩
theorem c2k {x y : Int} (hy : y ≠ 0) (ho : odd x y = true) : (dr x y).natAbs = y.natAbs - x.natAbs % y.natAbs ∧ sg (dr x y) = sg y := by
  unfold dr; rw [if_pos ho]
  have h := Nat.mod_lt x.natAbs (show y.natAbs > 0 by omega)
  generalize x.natAbs % y.natAbs = r at *
  rcases a2a y with ⟨h1, h2⟩ | ⟨h1, h2⟩ | ⟨h1, h2⟩ <;> rw [h2]
  · exact ⟨by omega, a6i (by omega)⟩
  · exact absurd h1 hy
  · exact ⟨by omega, a6f (by omega)⟩
theorem b9e {x y : Int} (hy : y ≠ 0) (ho : ¬odd x y = true) : (dq x y).natAbs = x.natAbs / y.natAbs ∧ (x.natAbs / y.natAbs ≠ 0 → sg (x * y) = sg (dq x y)) := by
  unfold dq; rw [if_neg ho]
  rcases a2a (x * y) with ⟨h1, h2⟩ | ⟨h1, h2⟩ | ⟨h1, h2⟩ <;> rw [h2]
  · generalize x.natAbs / y.natAbs = q
    exact ⟨by omega, fun _ => by rw [a6i (by omega)]⟩
  · have h3 : x = 0 := by
      rcases Int.mul_eq_zero.1 h1 with h4 | h4
      · exact h4
      · exact absurd h4 hy
    subst h3
    rw [show (0 : Int).natAbs = 0 from rfl, Nat.zero_div]
    exact ⟨rfl, fun h => absurd rfl h⟩
  · generalize x.natAbs / y.natAbs = q
    exact ⟨by omega, fun _ => by rw [a6f (by omega)]⟩
theorem b9l {x y : Int} (ho : ¬odd x y = true) : (dr x y).natAbs = x.natAbs % y.natAbs ∧ (x.natAbs % y.natAbs ≠ 0 → sg x = sg (dr x y)) := by
  unfold dr; rw [if_neg ho]
  rcases a2a x with ⟨h1, h2⟩ | ⟨h1, h2⟩ | ⟨h1, h2⟩ <;> rw [h2]
  · generalize x.natAbs % y.natAbs = r
    exact ⟨by omega, fun _ => by rw [a6i (by omega)]⟩
  · subst h1
    rw [show (0 : Int).natAbs = 0 from rfl, Nat.zero_mod]
    exact ⟨rfl, fun h => absurd rfl h⟩
  · generalize x.natAbs % y.natAbs = r
    exact ⟨by omega, fun _ => by rw [a6f (by omega)]⟩
theorem dig_one : dig 1 = [1] := by rw [b1v (by decide), show 1 / 1048576 = 0 from rfl, dig_zero]; rfl
theorem c8g {x y : Int} {k : Nat} (hx : Sm k x) (hy : Sm k y) (hk : k < 8388608) (hy0 : y ≠ 0) : Ev (fun n => b0x n (toB x) (toB y)) (toB (dq x y), toB (dr x y), 0) := by
  have lx := a2w hx
  have ly := a2w hy
  have hyn : y.natAbs ≠ 0 := by omega
  have hmod := Nat.mod_lt x.natAbs (show y.natAbs > 0 by omega)
  have hdivle : x.natAbs / y.natAbs ≤ x.natAbs := Nat.div_le_self _ _
  have lq := a5n hdivle
  have lr := a5n (Nat.le_of_lt hmod)
  have lq1 : (dig (x.natAbs / y.natAbs + 1)).length ≤ k + 1 := by
    have h : Sm (k + 1) ((x.natAbs / y.natAbs + 1 : Nat) : Int) := by
      generalize x.natAbs / y.natAbs = q at *
      unfold Sm at *
      rw [Int.natAbs_natCast]
      simp only [pw]; have := pw_pos k; omega
    have := a2w h
    rwa [Int.natAbs_natCast] at this
  have ls := a5n (show y.natAbs - x.natAbs % y.natAbs ≤ y.natAbs by omega)
  unfold b0x
  refine Ev.bind (a5o hx (by omega)) ?_
  refine Ev.bind (a := false) (Ev.else rfl (Ev.bind (a5o hy (by omega)) (Ev.pure _))) ?_
  refine Ev.else rfl ?_
  refine Ev.else (by show (sg y == 0) = false; rcases a2a y with h | h | h <;> first | (rw [h.2]; rfl) | omega) ?_
  refine Ev.bind (c8h (x := x.natAbs) (y := y.natAbs) hyn (by omega) (by omega)) ?_
  refine Ev.step (a := odd x y) (by
    show (bif decide (imul .i64 (sg x) (sg y) < 0) then some (decide (0 < ((dig (x.natAbs % y.natAbs)).length : Int))) else some false) = _
    rw [b3x]
    unfold odd
    have e1 : decide (sg (x * y) < 0) = decide (x * y < 0) := by
      rcases a2a (x * y) with ⟨h1, h2⟩ | ⟨h1, h2⟩ | ⟨h1, h2⟩ <;> rw [h2] <;> simp <;> omega
    have e2 : decide (0 < ((dig (x.natAbs % y.natAbs)).length : Int)) = decide (x.natAbs % y.natAbs ≠ 0) := by
      by_cases h : x.natAbs % y.natAbs = 0
      · rw [h, dig_zero]; rfl
      · have := b3u h
        have h3 : 0 < (dig (x.natAbs % y.natAbs)).length := List.length_pos_iff.2 this
        simp [h]; omega
    rw [e1, e2]
    cases decide (x * y < 0) <;> rfl) ?_
  by_cases ho : odd x y = true
  · refine Ev.then ho ?_
    refine Ev.bind (a := dig (x.natAbs / y.natAbs + 1)) (by
      have := c6g (x.natAbs / y.natAbs) 1 (by omega) (by rw [dig_one]; simp)
      rwa [dig_one] at this) ?_
    refine Ev.bind (a6q (-1) (by omega)) ?_
    refine Ev.bind (c1z y.natAbs (x.natAbs % y.natAbs) (by omega) (by omega)) ?_
    refine Ev.bind (a6q (sg y) (by omega)) ?_
    refine (Ev.pure _).eq ?_
    rw [a5c (dq x y) (c2n ho).1 (fun _ => (c2n ho).2.symm), a5c (dr x y) (c2k hy0 ho).1 (fun _ => (c2k hy0 ho).2.symm)]
  · refine Ev.else (by simpa using ho) ?_
    refine Ev.bind (a6q (imul .i64 (sg x) (sg y)) (by omega)) ?_
    refine Ev.bind (a6q (sg x) (by omega)) ?_
    refine (Ev.pure _).eq ?_
    rw [b3x, a5c (dq x y) (b9e hy0 ho).1 (b9e hy0 ho).2, a5c (dr x y) (b9l ho).1 (b9l ho).2]
theorem d2w (v : Nat) : ∀ (u : Nat), (dig u).length < 16777216 → (dig v).length < 16777216 → ∃ N, ∀ n, N ≤ n → ∀ (kont : List Int → Option (Big × Int)) m, v < m → a7x n kont m (dig u) (dig v) = kont (dig (Nat.gcd u v)) := by
  induction v using Nat.strongRecOn with
  | ind v ih =>
    intro u hu hv
    by_cases h : v = 0
    · subst h
      refine ⟨0, fun n _ kont m hm => ?_⟩
      obtain ⟨m, rfl⟩ : ∃ m', m = m' + 1 := ⟨m - 1, by omega⟩
      rw [b2l, dig_zero, Nat.gcd_zero_right]; rfl
    · have hlt := Nat.mod_lt u (show v > 0 by omega)
      obtain ⟨N1, h1⟩ := c8h (x := u) (y := v) h hu hv
      obtain ⟨N2, h2⟩ := ih (u % v) hlt v hv (by have := a5n (Nat.le_of_lt hlt); omega)
      refine ⟨max N1 N2, fun n hn kont m hm => ?_⟩
      obtain ⟨m, rfl⟩ : ∃ m', m = m' + 1 := ⟨m - 1, by omega⟩
      have h3 : 0 < (dig v).length := List.length_pos_iff.2 (b3u h)
      rw [b2l, show decide (0 < ((dig v).length : Int)) = true by simp; omega, cond_true, (show b2f n (dig u) (dig v) = _ from h1 n (by omega)), Option.bind_some]
      show a7x n kont m (dig v) (dig (u % v)) = _
      rw [h2 n (by omega) kont m (by omega), Nat.gcd_comm v, ← Nat.gcd_rec, Nat.gcd_comm]
theorem c8v {x y : Int} {k : Nat} (hx : Sm k x) (hy : Sm k y) (hk : k < 8388608) : Ev (fun n => b2z n (toB x) (toB y)) (toB (Nat.gcd x.natAbs y.natAbs : Nat), 0) := by
  have lx := a2w hx
  have ly := a2w hy
  have lg : (dig (Nat.gcd x.natAbs y.natAbs)).length < 16777216 := by
    by_cases h : x.natAbs = 0
    · rw [h, Nat.gcd_zero_left]; omega
    · have := a5n (Nat.gcd_le_left y.natAbs (show 0 < x.natAbs by omega)); omega
  unfold b2z
  refine Ev.bind (a5o hx (by omega)) ?_
  refine Ev.bind (a := false) (Ev.else rfl (Ev.bind (a5o hy (by omega)) (Ev.pure _))) ?_
  refine Ev.else rfl ?_
  refine Ev.bind (b1q (a := (toB x).Digits) (by simp only [toB]; omega)) ?_
  obtain ⟨N, hN⟩ := d2w y.natAbs x.natAbs (by omega) (by omega)
  refine Ev.from (max N (y.natAbs + 1)) (fun n hn => hN n (by omega) _ n (by omega)) ?_
  refine Ev.bind (b1q (by omega)) ?_
  refine Ev.bind (a6q 1 (by omega)) ?_
  rw [a5c ((Nat.gcd x.natAbs y.natAbs : Nat) : Int) (Int.natAbs_natCast _) (fun hv => by rw [a6f (by omega)])]
  exact Ev.step (a9k 0 _) (Ev.pure _)
theorem c3y {x y : Int} {k : Nat} (hx : Sm k x) (hy : Sm k y) (hk : k < 536870912) : Ev (fun n => b0g n (toB x) (toB y)) (sg (x - y)) := by
  have lx := a2w hx
  unfold b0g
  refine Ev.bind (a5o hx (by omega)) ?_
  refine Ev.bind (a := false) (Ev.else rfl (Ev.bind (a5o hy (by omega)) (Ev.pure _))) ?_
  refine Ev.else rfl ?_
  by_cases h : sg x = sg y
  · refine Ev.else (by show (sg x != sg y) = false; rw [h]; simp) ?_
    refine Ev.bind (b6s x.natAbs y.natAbs (by omega)) ?_
    refine (Ev.pure _).eq ?_
    show imul .i64 (sg x) _ = _
    rw [b3x]
    rcases a2a x with ⟨a, b⟩ | ⟨a, b⟩ | ⟨a, b⟩ <;> rcases a2a y with ⟨c, d⟩ | ⟨c, d⟩ | ⟨c, d⟩ <;> rw [b, d] at h <;> (try omega)
    · rw [b3n, b]
      rcases a2a (x - y) with ⟨e, f⟩ | ⟨e, f⟩ | ⟨e, f⟩
      · rw [f, a6f (by omega)]; rfl
      · rw [f, show (x.natAbs : Int) - y.natAbs = 0 by omega]; rfl
      · rw [f, a6i (by omega)]; rfl
    · subst a c; rfl
    · rw [b3n, b, Int.one_mul, show (x.natAbs : Int) - y.natAbs = x - y by omega]
  · refine Ev.then (by show (sg x != sg y) = true; simpa using h) ?_
    refine Ev.step (a := sg (sg x - sg y)) (b4i 0 _ _) ?_
    refine (Ev.pure _).eq ?_
    rcases a2a x with ⟨a, b⟩ | ⟨a, b⟩ | ⟨a, b⟩ <;> rcases a2a y with ⟨c, d⟩ | ⟨c, d⟩ | ⟨c, d⟩ <;> rw [b, d] at h ⊢ <;> first
      | (exfalso; omega)
      | (rw [a6i (x := x - y) (by omega)]; decide)
      | (rw [a6f (x := x - y) (by omega)]; decide)
theorem d1p (x y : Int) (xs ys : List Int) : decide (x :: xs = y :: ys) = (decide (x = y) && decide (xs = ys)) := by
  by_cases h : x = y <;> by_cases h2 : xs = ys <;> simp [h, h2]
end Go.Proofs.YtknpjecpcmajiaaGreat.D

namespace Go.Proofs.YtknpjecpcmajiaaGreat.D
open Go Rt M
theorem Of_L (n : Nat) (kont : List Int → Option Big) : ∀ (u m : Nat) (acc : List Int), u < 18446744073709551616 → (dig u).length < m → acc.length + (dig u).length < 1099511627776 → a8h n kont m (u : Int) acc = kont (acc ++ dig u) := by
  intro u
  induction u using Nat.strongRecOn with
  | ind u ih =>
    intro m acc hu hm ha
    obtain ⟨m, rfl⟩ : ∃ m', m = m' + 1 := ⟨m - 1, by omega⟩
    rw [b7t]
    by_cases h : u = 0
    · subst h
      rw [dig_zero, List.append_nil]; rfl
    · have hd := b1v h
      rw [hd] at hm ha
      simp only [List.length_cons] at hm ha
      rw [show decide (0 < (u : Int)) = true by simp; omega, cond_true, c3r (by omega) (by omega), a5m (by omega) (by omega), b4k (by simp; omega), Option.bind_some, d0w, Option.bind_some]
      have e1 : (u : Int) / 1048576 = ((u / 1048576 : Nat) : Int) := by omega
      have e2 : (u : Int) % 1048576 = ((u % 1048576 : Nat) : Int) := by omega
      rw [e1, e2, ih (u / 1048576) (by omega) m _ (by omega) (by omega) (by simp; omega), hd]
      simp
theorem c3u {u : Nat} (h : u < 18446744073709551616) : (dig u).length ≤ 4 := by
  have h1 : Sm 4 (u : Int) := by unfold Sm; rw [Int.natAbs_natCast, show pw 4 = 1208925819614629174706176 by decide]; omega
  have h2 := a2w h1
  rwa [Int.natAbs_natCast] at h2
theorem d2k {x : Int} (h1 : -9223372036854775808 ≤ x) (h2 : x ≤ 9223372036854775807) : Ev (fun n => b4x n x) (toB x) := by
  have hl := c3u (u := x.natAbs) (by omega)
  have hs : ∀ s : Int, Ev (fun n => (a3i n s (dig x.natAbs)).bind fun v1 => some (⟨v1.Sign, v1.Digits⟩ : Big)) (if x.natAbs = 0 then ⟨0, []⟩ else ⟨s, dig x.natAbs⟩) := fun s =>
    Ev.bind (a6q s (by omega)) (Ev.pure _)
  by_cases hx : x < 0
  · refine Ev.from (g := fun n => (a3i n (-1) (dig x.natAbs)).bind fun v1 => some (⟨v1.Sign, v1.Digits⟩ : Big)) 5 (fun n hn => ?_) ((hs (-1)).eq (a5c x rfl (fun _ => (a6i hx).symm)))
    unfold b4x
    rw [show decide (x < 0) = true by simpa using hx, cond_true, Option.bind_some]
    have e : IntKind.u64.wrap (0 - IntKind.u64.wrap x) = (x.natAbs : Int) := by rw [b2j, b2j]; omega
    show a8h n _ n (IntKind.u64.wrap (0 - IntKind.u64.wrap x)) [] = _
    rw [e, Of_L n _ x.natAbs n [] (by omega) (by omega) (by simp; omega), List.nil_append]
  · refine Ev.from (g := fun n => (a3i n 1 (dig x.natAbs)).bind fun v1 => some (⟨v1.Sign, v1.Digits⟩ : Big)) 5 (fun n hn => ?_) ((hs 1).eq (a5c x rfl (fun h => (a6f (by omega)).symm)))
    unfold b4x
    rw [show decide (x < 0) = false by simpa using hx, cond_false, Option.bind_some]
    have e : IntKind.u64.wrap x = (x.natAbs : Int) := by rw [b2j]; omega
    show a8h n _ n (IntKind.u64.wrap x) [] = _
    rw [e, Of_L n _ x.natAbs n [] (by omega) (by omega) (by simp; omega), List.nil_append]
theorem c8y {x : Int} {i : Nat} (hi : i ≤ 60) (h0 : 0 ≤ x) (h1 : x * 2 ^ i < 18446744073709551616) : shl .u64 x (i : Int) = some (x * 2 ^ i) := by
  unfold shl
  have h3 : 0 ≤ x * 2 ^ i := Int.mul_nonneg h0 (Int.le_of_lt (Int.pow_pos (by decide)))
  rw [if_neg (by omega), show min (i : Int).toNat IntKind.u64.bits = i by simp [IntKind.bits]; omega, b2j]
  congr 1
  omega
theorem c9o {x y : Int} {i : Nat} (h0 : 0 ≤ x) (h1 : x < 2 ^ i) (h2 : 0 ≤ y) (h3 : x + y * 2 ^ i < 18446744073709551616) : ior .u64 x (y * 2 ^ i) = x + y * 2 ^ i := by
  obtain ⟨p, rfl⟩ := Int.eq_ofNat_of_zero_le h0
  obtain ⟨q, rfl⟩ := Int.eq_ofNat_of_zero_le h2
  have h1' : p < 2 ^ i := by have : ((p : Nat) : Int) < ((2 ^ i : Nat) : Int) := by simpa using h1
                             exact Int.ofNat_lt.1 this
  have e : (q : Int) * 2 ^ i = ((2 ^ i * q : Nat) : Int) := by rw [Int.natCast_mul, Int.mul_comm]; simp
  rw [e] at h3 ⊢
  unfold ior
  rw [BitVec.toNat_or, BitVec.toNat_ofInt, BitVec.toNat_ofInt, show IntKind.u64.bits = 64 from rfl]
  have e1 : ((p : Int) % ((2 ^ 64 : Nat) : Int)).toNat = p := by omega
  have e2 : (((2 ^ i * q : Nat) : Int) % ((2 ^ 64 : Nat) : Int)).toNat = 2 ^ i * q := by omega
  rw [e1, e2, Nat.or_comm, ← Nat.two_pow_add_eq_or_of_lt h1', b2j]
  omega
theorem pw_two : ∀ i, pw i = 2 ^ (20 * i)
  | 0 => rfl
  | i + 1 => by rw [pw, pw_two i, Nat.mul_add, Int.pow_add, Int.mul_comm]; rfl
theorem d1a (n : Nat) (a : Big) (kont : Int → Option (Int × Bool)) (hr : InR a.Digits) (h4 : a.Digits.length ≤ 4) : ∀ (us : List Int) (i m : Nat) (u : Int), a.Digits.drop i = us → us.length < m → 0 ≤ u → u < pw i → u < 10376293541461622784 →
    a8u n a kont m u (i : Int) = if u + pw i * val us < 10376293541461622784 then kont (u + pw i * val us) else some (0, false)
  | [], i, m + 1, u, hd, _, h0, h1, h2 => by
    have hi : a.Digits.length ≤ i := by simpa using hd
    rw [b2r, show decide ((i : Int) < (a.Digits.length : Int)) = false by simp; omega, cond_false]
    simp only [val, Int.mul_zero, Int.add_zero]
    rw [if_pos h2]
  | d :: us, i, m + 1, u, hd, hm, h0, h1, h2 => by
    obtain ⟨hix, hdt, hi⟩ := drop_cons hd
    have hdr := hr d (List.mem_of_mem_drop (by rw [hd]; simp : d ∈ a.Digits.drop i))
    have hir : InR us := fun e he => hr e (by rw [← List.take_append_drop (i + 1) a.Digits, hdt]; exact List.mem_append_right _ he)
    rw [b2r, show decide ((i : Int) < (a.Digits.length : Int)) = true by simp; omega, cond_true, hix, Option.bind_some]
    have hp := pw_pos i
    have hval : u + pw i * val (d :: us) = (u + d * pw i) + pw (i + 1) * val us := by simp only [val, pw]; grind
    have hvus : 0 ≤ pw (i + 1) * val us := Int.mul_nonneg (Int.le_of_lt (pw_pos _)) (val_nonneg hir)
    have hpi : pw i ≤ pw 3 := pw_mono (by omega)
    rw [show pw 3 = 1152921504606846976 by decide] at hpi
    by_cases h8 : i = 3 ∧ 8 < d
    · obtain ⟨rfl, h8⟩ := h8
      rw [show ((((3 : Nat) : Int)) == 3) = true from rfl, cond_true, Option.bind_some, show decide (8 < d) = true by simpa using h8, cond_true, hval, if_neg]
      rw [show pw 3 = 1152921504606846976 by decide]
      omega
    · have e1 : (bif ((i : Int) == 3) then some (decide (8 < d)) else some false) = some false := by
        by_cases h3 : i = 3
        · subst h3
          rw [show ((((3 : Nat) : Int)) == 3) = true from rfl, cond_true, show decide (8 < d) = false by simp; omega]
        · rw [show ((i : Int) == 3) = false by simp; omega, cond_false]
      rw [e1, Option.bind_some, cond_false]
      have hq : u + d * pw i < 10376293541461622784 := by
        rcases Nat.lt_or_ge i 3 with h3 | h3
        · have h5 : pw (i + 1) ≤ pw 3 := pw_mono (by omega)
          rw [show pw 3 = 1152921504606846976 by decide] at h5
          have h6 : (d + 1) * pw i ≤ 1048576 * pw i := Int.mul_le_mul_of_nonneg_right (by omega) (Int.le_of_lt hp)
          simp only [pw] at h5
          rw [Int.add_mul, Int.one_mul] at h6
          omega
        · have : i = 3 := by omega
          subst this
          rw [show pw 3 = 1152921504606846976 by decide] at h1 ⊢
          omega
      have hq1 : u + d * pw i < pw (i + 1) := by
        have h6 : (d + 1) * pw i ≤ 1048576 * pw i := Int.mul_le_mul_of_nonneg_right (by omega) (Int.le_of_lt hp)
        simp only [pw]
        rw [Int.add_mul, Int.one_mul] at h6
        omega
      have hq0 : 0 ≤ d * pw i := Int.mul_nonneg hdr.1 (Int.le_of_lt hp)
      have e2 : imul .i64 20 (i : Int) = ((20 * i : Nat) : Int) := by rw [a7h (by omega) (by omega)]; omega
      have e3 : IntKind.u64.wrap d = d := by rw [b2j]; omega
      rw [e2, e3, c8y (by omega) hdr.1 (by rw [← pw_two]; omega), Option.bind_some, c9o h0 (by rw [← pw_two]; exact h1) hdr.1 (by rw [← pw_two]; omega), ← pw_two]
      have e4 : iadd .i64 (i : Int) 1 = ((i + 1 : Nat) : Int) := by rw [a3o (by omega) (by omega)]; omega
      rw [e4, d1a n a kont hr h4 us (i + 1) m (u + d * pw i) hdt (by simp only [List.length_cons] at hm; omega) (by omega) hq1 hq, hval]
theorem d1j {x : Int} {k : Nat} (h : Sm k x) (hk : k < 1099511627776) : Ev (fun n => b7x n (toB x)) (if -9223372036854775808 ≤ x ∧ x ≤ 9223372036854775807 then (x, true) else (0, false)) := by
  unfold b7x
  refine Ev.bind (a5o h hk) ?_
  by_cases hl : (dig x.natAbs).length ≤ 4
  · refine Ev.bind (a := false) (Ev.else rfl ((Ev.pure _).eq (by show decide (4 < ((dig x.natAbs).length : Int)) = false; simp; omega))) ?_
    refine Ev.else rfl ?_
    refine Ev.from (g := fun _ => some (if -9223372036854775808 ≤ x ∧ x ≤ 9223372036854775807 then (x, true) else (0, false))) 5 (fun n hn => ?_) (Ev.pure _)
    have h1 := d1a n (toB x) (fun (u2 : Int) =>
      (bif decide ((toB x).Sign < 0) then
        some (decide (u2 ≤ 9223372036854775808))
      else
        some false).bind fun v3 =>
      bif v3 then
        some (IntKind.i64.wrap (IntKind.u64.wrap (0 - u2)), true)
      else
        (bif decide (0 ≤ (toB x).Sign) then
          some (decide (u2 < 9223372036854775808))
        else
          some false).bind fun v4 =>
        bif v4 then
          some (IntKind.i64.wrap u2, true)
        else
          some (0, false)) (a3a x.natAbs) hl (dig x.natAbs) 0 n 0 rfl (by omega) (by decide) (by decide) (by decide)
    refine h1.trans ?_
    rw [a2k, show pw 0 = 1 from rfl, Int.one_mul, Int.zero_add]
    by_cases hb : (x.natAbs : Int) < 10376293541461622784
    · rw [if_pos hb]
      have hsx : (toB x).Sign = sg x := rfl
      rw [hsx]
      rcases a2a x with ⟨a, b⟩ | ⟨a, b⟩ | ⟨a, b⟩ <;> rw [b]
      · rw [show decide ((-1 : Int) < 0) = true from rfl, cond_true, Option.bind_some]
        by_cases hc : (x.natAbs : Int) ≤ 9223372036854775808
        · rw [show decide ((x.natAbs : Int) ≤ 9223372036854775808) = true by simpa using hc, cond_true, if_pos (by omega)]
          congr 2
          rw [c8p, b2j]; split <;> omega
        · rw [show decide ((x.natAbs : Int) ≤ 9223372036854775808) = false by simpa using hc, cond_false, if_neg (by omega)]; rfl
      · subst a; rfl
      · rw [show decide ((1 : Int) < 0) = false from rfl, cond_false, Option.bind_some, cond_false, show decide ((0 : Int) ≤ 1) = true from rfl, cond_true, Option.bind_some]
        by_cases hc : (x.natAbs : Int) < 9223372036854775808
        · rw [show decide ((x.natAbs : Int) < 9223372036854775808) = true by simpa using hc, cond_true, if_pos (by omega)]
          congr 2
          rw [a5m (by omega) (by omega)]; omega
        · rw [show decide ((x.natAbs : Int) < 9223372036854775808) = false by simpa using hc, cond_false, if_neg (by omega)]
    · rw [if_neg hb, if_neg (by omega)]
  · refine Ev.bind (a := true) (Ev.else rfl ((Ev.pure _).eq (by show decide (4 < ((dig x.natAbs).length : Int)) = true; simp; omega))) ?_
    refine Ev.then rfl ((Ev.pure _).eq ?_)
    rw [if_neg]
    intro hx
    exact hl (c3u (by omega))
end Go.Proofs.YtknpjecpcmajiaaGreat.D

namespace Go.Proofs.YtknpjecpcmajiaaGreat.D
open Go Rt M
section
variable {β : Type} {r : β} {c d : Bool} {y : Nat → Option Bool} {f : Nat → Bool → Option β}
theorem guard {V : Bool} {rest : Nat → Option Bool} (h : V = false → Ev rest true) : Ev (fun n => bif V then some true else rest n) true := by
  cases V with
  | true => exact Ev.then rfl (Ev.pure _)
  | false => exact Ev.else rfl (h rfl)
end
theorem toB_one : toB 1 = ⟨1, [1]⟩ := by unfold toB; rw [show (1 : Int).natAbs = 1 from rfl, dig_one]; rfl
theorem Of1_ev : Ev (fun n => b4x n 1) (toB 1) := ⟨200, fun n hn => by
  obtain ⟨m, rfl⟩ := Nat.le.dest hn
  rw [Nat.add_comm, toB_one]
  exact (show b4x (m + 200) 1 = some ⟨1, [1]⟩ by kernel_rfl)⟩
theorem b4j (x : Int) : (sg x == 0) = decide (x = 0) := by rcases a2a x with h | h | h <;> rw [h.2] <;> simp <;> omega
end Go.Proofs.YtknpjecpcmajiaaGreat.D

namespace Go.Proofs.YtknpjecpcmajiaaGreat.D
open Go Rt M
theorem c5m (n : Nat) (a b : Big) (kont : Option Bool) (hl : a.Digits.length = b.Digits.length) (hla : a.Digits.length < 1099511627776) : ∀ (us : List Int) (i m : Nat), a.Digits.drop i = us → us.length < m → a4o n a b kont m (i : Int) = bif decide (us = b.Digits.drop i) then kont else some false
  | [], i, m + 1, hd, _ => by
    rw [a8i]
    have := drop_nil hd
    have hb : b.Digits.drop i = [] := List.drop_eq_nil_of_le (by omega)
    rw [show decide ((i : Int) < (a.Digits.length : Int)) = false by simp; omega, hb]; rfl
  | x :: xs, i, m + 1, hd, hm => by
    rw [a8i]
    obtain ⟨f1, f2, f3⟩ := drop_cons hd
    have hdb : b.Digits.drop i = b.Digits[i] :: b.Digits.drop (i + 1) := List.drop_eq_getElem_cons (by omega)
    rw [show decide ((i : Int) < (a.Digits.length : Int)) = true by simp; omega, cond_true, f1, Option.bind_some, (drop_cons hdb).1, Option.bind_some, hdb]
    by_cases h : x = b.Digits[i]
    · rw [show (x != b.Digits[i]) = false by simp [h], cond_false, inc64 (by omega), c5m n a b kont hl hla xs (i + 1) m f2 (by simpa using hm), d1p, show decide (x = b.Digits[i]) = true by simpa using h, Bool.true_and]
    · rw [show (x != b.Digits[i]) = true by simpa using h, cond_true, d1p, show decide (x = b.Digits[i]) = false by simpa using h]; rfl
  | _, _, 0, _, h => by omega
theorem c3d {a b : Big} (hl : a.Digits.length < 1099511627776) : Ev (fun n => a7j n a b) (decide (a = b)) := by
  unfold a7j
  obtain ⟨s, l⟩ := a
  obtain ⟨t, k⟩ := b
  by_cases h : s = t
  · subst h
    by_cases hlen : l.length = k.length
    · refine Ev.step (a := false) (by simp [hlen]) ?_
      refine Ev.else rfl ⟨l.length + 1, fun n hn => ?_⟩
      have h1 := c5m n ⟨s, l⟩ ⟨s, k⟩ (some true) hlen hl l 0 n rfl (by omega)
      rw [show ((0 : Nat) : Int) = 0 from rfl, List.drop_zero] at h1
      dsimp only at h1 ⊢
      rw [h1]
      by_cases h2 : l = k
      · simp [h2]
      · simp [h2]
    · refine Ev.step (a := true) (by simp; omega) ?_
      have : l ≠ k := fun e => hlen (by rw [e])
      exact Ev.then rfl ((Ev.pure _).eq (by simp [this]))
  · refine Ev.step (a := true) (by rw [show (s != t) = true by simpa using h, cond_true]) ?_
    exact Ev.then rfl ((Ev.pure _).eq (by simp [h]))
end Go.Proofs.YtknpjecpcmajiaaGreat.D

namespace Go.Proofs.YtknpjecpcmajiaaGreat.D
open Go Rt M
def toF (r : Rat) : Frac := ⟨toB r.num, toB (r.den : Int)⟩
def SmF (k : Nat) (r : Rat) : Prop := Sm k r.num ∧ Sm k (r.den : Int)
def zeroF : Frac := ⟨⟨0, []⟩, ⟨0, []⟩⟩
theorem c0c (r : Rat) : 0 < (r.den : Int) := by have := r.den_nz; omega
theorem SmF.mono {j k : Nat} {r : Rat} (h : SmF j r) (hk : j ≤ k) : SmF k r := ⟨h.1.mono hk, h.2.mono hk⟩
theorem b1a {p q : Int} (hq : 0 < q) : (Rat.divInt p q).num = p / ((Nat.gcd p.natAbs q.natAbs : Nat) : Int) ∧ ((Rat.divInt p q).den : Int) = q / ((Nat.gcd p.natAbs q.natAbs : Nat) : Int) := by
  obtain ⟨d, rfl⟩ := Int.eq_ofNat_of_zero_le (Int.le_of_lt hq)
  have hd : d ≠ 0 := by omega
  rw [Rat.divInt_ofNat, Rat.mkRat_def, dif_neg hd, Rat.normalize_eq, Int.natAbs_natCast]
  exact ⟨rfl, Int.natCast_ediv _ _⟩
theorem c4u (a b : Rat) : a + b = Rat.divInt (a.num * b.den + b.num * a.den) (a.den * b.den) := by
  conv => lhs; rw [← Rat.num_divInt_den a, ← Rat.num_divInt_den b]
  rw [Rat.divInt_add_divInt _ _ (by have := c0c a; omega) (by have := c0c b; omega)]
theorem c4s (a b : Rat) : a * b = Rat.divInt (a.num * b.num) (a.den * b.den) := by
  conv => lhs; rw [← Rat.num_divInt_den a, ← Rat.num_divInt_den b]
  rw [Rat.divInt_mul_divInt]
theorem c6a (a b : Rat) : a / b = Rat.divInt (a.num * b.den) (a.den * b.num) := by
  rw [Rat.div_def]
  conv => lhs; rw [← Rat.num_divInt_den a, ← Rat.num_divInt_den b]
  rw [Rat.inv_divInt, Rat.divInt_mul_divInt]
theorem c2u {x y : Int} (hy : 0 < y) : dq x y = x / y := by
  obtain ⟨h1, h2, h3⟩ := d2v (x := x) (y := y) (by omega)
  have h4 : 0 ≤ dr x y ∧ dr x y < y := by
    rcases h2 with h | h
    · omega
    · rw [a6f hy] at h
      have := a2a (dr x y)
      omega
  generalize dq x y = q at *
  generalize dr x y = r at *
  rw [← h1, Int.add_comm, Int.add_mul_ediv_right _ _ (by omega), Int.ediv_eq_zero_of_lt h4.1 h4.2]; omega
theorem b9y {x y : Int} {k : Nat} (h : Sm k x) : Sm k (x / y) := h.le (Int.natAbs_ediv_le_natAbs x y)
theorem b4g (p q : Int) : Rat.divInt p q = Rat.divInt (-p) (-q) := (Rat.neg_divInt_neg p q).symm
theorem b5d {p q : Int} {k : Nat} (hp : Sm k p) (hq : Sm k q) (h0 : q ≠ 0) : SmF k (Rat.divInt p q) := by
  by_cases hn : q < 0
  · rw [b4g]
    obtain ⟨e1, e2⟩ := b1a (p := -p) (q := -q) (by omega)
    exact ⟨by rw [e1]; exact b9y hp.neg, by rw [e2]; exact b9y hq.neg⟩
  · obtain ⟨e1, e2⟩ := b1a (p := p) (q := q) (by omega)
    exact ⟨by rw [e1]; exact b9y hp, by rw [e2]; exact b9y hq⟩
theorem b8t {x y : Int} (hx : x ≠ 0) (hy : y ≠ 0) : x * y ≠ 0 := Int.mul_ne_zero hx hy
theorem b3o (r : Rat) : (r.den : Int) ≠ 0 := by have := c0c r; omega
theorem SmF.add {j k : Nat} {a b : Rat} (ha : SmF j a) (hb : SmF k b) : SmF (j + k + 1) (a + b) := by
  rw [c4u]
  exact b5d ((ha.1.mul hb.2).add ((hb.1.mul ha.2).mono (by omega))) ((ha.2.mul hb.2).mono (by omega)) (b8t (b3o a) (b3o b))
theorem SmF.mul {j k : Nat} {a b : Rat} (ha : SmF j a) (hb : SmF k b) : SmF (j + k) (a * b) := by
  rw [c4s]
  exact b5d (ha.1.mul hb.1) (ha.2.mul hb.2) (b8t (b3o a) (b3o b))
theorem SmF.neg {k : Nat} {a : Rat} (ha : SmF k a) : SmF k (-a) := ⟨by rw [Rat.neg_num]; exact ha.1.neg, by rw [Rat.neg_den]; exact ha.2⟩
theorem SmF.sub {j k : Nat} {a b : Rat} (ha : SmF j a) (hb : SmF k b) : SmF (j + k + 1) (a - b) := by rw [Rat.sub_eq_add_neg]; exact ha.add hb.neg
def ofB (a : Big) : Int := a.Sign * val a.Digits
theorem b5f (x : Int) : ofB (toB x) = x := by unfold ofB toB; rw [a2k, b7m]
def b0k (f : Frac) : Bool := b0j f.P && b0j f.Q && (f.Q.Sign == 1) && (Nat.gcd (ofB f.P).natAbs (ofB f.Q).natAbs == 1)
theorem b8s (r : Rat) : b0k (toF r) = true := by
  unfold b0k toF
  simp only
  rw [b3j, b3j, b5f, b5f]
  have h1 : (toB (r.den : Int)).Sign = 1 := a6f (c0c r)
  rw [h1, Int.natAbs_natCast]
  have h2 : Nat.gcd r.num.natAbs r.den = 1 := r.reduced
  rw [h2]; rfl
theorem b9g {f : Frac} (h : b0k f = true) : ∃ r, f = toF r := by
  obtain ⟨P, Q⟩ := f
  unfold b0k at h
  simp only [Bool.and_eq_true, beq_iff_eq] at h
  obtain ⟨⟨⟨h1, h2⟩, h3⟩, h4⟩ := h
  obtain ⟨p, rfl⟩ := b0p h1
  obtain ⟨q, rfl⟩ := b0p h2
  rw [b5f, b5f] at h4
  have h5 : 0 < q := by have h6 : sg q = 1 := h3; have := a2a q; omega
  obtain ⟨d, rfl⟩ := Int.eq_ofNat_of_zero_le (Int.le_of_lt h5)
  refine ⟨⟨p, d, by omega, ?_⟩, rfl⟩
  rwa [Int.natAbs_natCast] at h4
theorem d1e {x : Int} {k : Nat} (h : Sm k x) (hk : k < 1099511627776) : Ev (fun n => b4w n (toB x)) (decide (x = 1)) := by
  unfold b4w
  refine Ev.bind (d1j h hk) ?_
  by_cases hr : -9223372036854775808 ≤ x ∧ x ≤ 9223372036854775807
  · rw [if_pos hr]
    exact Ev.bind (a := decide (x = 1)) (Ev.then rfl ((Ev.pure _).eq (by by_cases hx : x = 1 <;> simp [hx]))) (Ev.pure _)
  · rw [if_neg hr]
    refine Ev.bind (a := decide (x = 1)) (Ev.else rfl ((Ev.pure _).eq ?_)) (Ev.pure _)
    rw [decide_eq_false (by omega)]
theorem c1k {p q : Int} {k : Nat} (hp : Sm k p) (hq : Sm k q) : Sm k ((Nat.gcd p.natAbs q.natAbs : Nat) : Int) := by
  by_cases h0 : p.natAbs = 0
  · rw [h0, Nat.gcd_zero_left]; exact hq.le (by omega)
  · exact hp.le (by have := Nat.gcd_le_left q.natAbs (Nat.pos_of_ne_zero h0); omega)
theorem b6w {f : Frac} {k : Nat} (hp : f.P.Digits.length ≤ k) (hq : f.Q.Digits.length ≤ k) (hk : k < 8388608) : Ev (fun n => a3e n f) (b0k f) := by
  unfold a3e
  refine Ev.bind (b9x (a := f.P) (by omega)) ?_
  cases hP : b0j f.P with
  | false => exact Ev.bind (a := true) (Ev.then rfl (Ev.pure _)) (Ev.bind (a := true) (Ev.then rfl (Ev.pure _)) (Ev.then rfl ((Ev.pure _).eq (by unfold b0k; rw [hP]; rfl))))
  | true =>
    refine Ev.bind (a := !b0j f.Q) (Ev.else rfl (Ev.bind (b9x (a := f.Q) (by omega)) (Ev.pure _))) ?_
    cases hQ : b0j f.Q with
    | false => exact Ev.bind (a := true) (Ev.then rfl (Ev.pure _)) (Ev.then rfl ((Ev.pure _).eq (by unfold b0k; rw [hP, hQ]; rfl)))
    | true =>
      refine Ev.bind (a := f.Q.Sign != 1) (Ev.else rfl (Ev.pure _)) ?_
      by_cases hs : f.Q.Sign = 1
      · refine Ev.else (by simp [hs]) ?_
        obtain ⟨P, Q⟩ := f
        obtain ⟨p, rfl⟩ := b0p hP
        obtain ⟨q, rfl⟩ := b0p hQ
        have hp' : Sm k p := a9s hp
        have hq' : Sm k q := a9s hq
        refine Ev.bind (c8v hp' hq' hk) ?_
        refine Ev.bind (a := decide (Nat.gcd p.natAbs q.natAbs = 1)) (Ev.then rfl (Ev.bind ((d1e (c1k hp' hq') (by omega)).eq (s := decide (Nat.gcd p.natAbs q.natAbs = 1)) ?_) (Ev.pure _))) ((Ev.pure _).eq ?_)
        · by_cases hg : Nat.gcd p.natAbs q.natAbs = 1
          · rw [decide_eq_true hg, decide_eq_true (by omega)]
          · rw [decide_eq_false hg, decide_eq_false (by omega)]
        · unfold b0k
          rw [hP, hQ, b5f, b5f, hs]
          by_cases hg : Nat.gcd p.natAbs q.natAbs = 1 <;> simp [hg]
      · refine Ev.then (by simpa using hs) ((Ev.pure _).eq ?_)
        unfold b0k
        rw [hP, hQ]
        simp [hs]
theorem b5h {r : Rat} {k : Nat} (h : SmF k r) : (toF r).P.Digits.length ≤ k ∧ (toF r).Q.Digits.length ≤ k := ⟨a2w h.1, a2w h.2⟩
theorem a4n {r : Rat} {k : Nat} (h : SmF k r) (hk : k < 8388608) : Ev (fun n => a3e n (toF r)) true := (b6w (b5h h).1 (b5h h).2 hk).eq (b8s r)
section
variable {p q : Int} {k : Nat} (hp : Sm k p) (hq : Sm k q) (hk : k < 8388608)
include hp hq hk
theorem c2t (h0 : 0 < q) : Ev (fun n =>
   (b2z n (toB p) (toB q)).bind fun v8 =>
   (b0x n (toB p) (⟨v8.1.Sign, v8.1.Digits⟩ : Big)).bind fun v9 =>
   (b0x n (toB q) (⟨v8.1.Sign, v8.1.Digits⟩ : Big)).bind fun v10 =>
   some ((⟨(⟨v9.1.Sign, v9.1.Digits⟩ : Big), (⟨v10.1.Sign, v10.1.Digits⟩ : Big)⟩ : Frac), (0 : Int))) (toF (Rat.divInt p q), 0) := by
  have hg : 0 < Nat.gcd p.natAbs q.natAbs := Nat.gcd_pos_of_pos_right _ (by omega)
  have hgs := c1k hp hq
  obtain ⟨e1, e2⟩ := b1a (p := p) h0
  refine Ev.bind (c8v hp hq hk) ?_
  refine Ev.bind (c8g hp hgs hk (by omega)) ?_
  refine Ev.bind (c8g hq hgs hk (by omega)) ((Ev.pure _).eq ?_)
  unfold toF
  rw [e1, e2, ← c2u (by omega), ← c2u (by omega)]
theorem c1t (h0 : q ≠ 0) : Ev (fun n => b1m n (toB p) (toB q)) (toF (Rat.divInt p q), 0) := by
  unfold b1m
  refine Ev.bind (a5o hp (by omega)) ?_
  refine Ev.bind (a := false) (Ev.else rfl (Ev.bind (a5o hq (by omega)) (Ev.pure _))) ?_
  refine Ev.else rfl ?_
  refine Ev.else (by show (sg q == 0) = false; rw [b4j]; simpa using h0) ?_
  by_cases hn : q < 0
  · refine Ev.then (by show decide (sg q < 0) = true; rw [a6i hn]; rfl) ?_
    refine Ev.bind (b8x hp (by omega)) (Ev.bind (b8x hq (by omega)) ?_)
    rw [b4g]
    exact c2t hp.neg hq.neg hk (by omega)
  · refine Ev.else (by show decide (sg q < 0) = false; rw [a6f (by omega)]; rfl) ?_
    exact c2t hp hq hk (by omega)
omit hk in
theorem b6j (hk : k < 268435456) : Ev (fun n => a3s n (toB p) (toB q)) (toB (p * q)) := by
  unfold a3s
  exact Ev.bind (d1z hp hq hk) (Ev.pure _)
end
theorem b7n {x : Int} {k : Nat} (h : Sm k x) (hk : k < 1073741824) : Ev (fun n => b0i n (toB x)) (toB x) := by
  unfold b0i
  exact Ev.bind (b8x h hk) (Ev.bind (b8x h.neg hk) ((Ev.pure _).eq (by rw [Int.neg_neg])))
section
variable {a b : Rat} {j k : Nat} (ha : SmF j a) (hb : SmF k b) (hk : j + k < 4000000)
include ha hb hk
theorem times_PQ : Ev (fun n => a3s n (⟨(toF a).P.Sign, (toF a).P.Digits⟩ : Big) (⟨(toF b).Q.Sign, (toF b).Q.Digits⟩ : Big)) (toB (a.num * b.den)) :=
  b6j (ha.1.mono (by omega : j ≤ j + k)) (hb.2.mono (by omega : k ≤ j + k)) (by omega)
theorem times_QP : Ev (fun n => a3s n (⟨(toF a).Q.Sign, (toF a).Q.Digits⟩ : Big) (⟨(toF b).P.Sign, (toF b).P.Digits⟩ : Big)) (toB (a.den * b.num)) :=
  b6j (ha.2.mono (by omega : j ≤ j + k)) (hb.1.mono (by omega : k ≤ j + k)) (by omega)
theorem times_PP : Ev (fun n => a3s n (⟨(toF a).P.Sign, (toF a).P.Digits⟩ : Big) (⟨(toF b).P.Sign, (toF b).P.Digits⟩ : Big)) (toB (a.num * b.num)) :=
  b6j (ha.1.mono (by omega : j ≤ j + k)) (hb.1.mono (by omega : k ≤ j + k)) (by omega)
theorem times_QQ : Ev (fun n => a3s n (⟨(toF a).Q.Sign, (toF a).Q.Digits⟩ : Big) (⟨(toF b).Q.Sign, (toF b).Q.Digits⟩ : Big)) (toB ((a.den : Int) * b.den)) :=
  b6j (ha.2.mono (by omega : j ≤ j + k)) (hb.2.mono (by omega : k ≤ j + k)) (by omega)
end
theorem d0h (b : Rat) : toF (-b) = ⟨toB (-b.num), toB (b.den : Int)⟩ := rfl
section
variable {a b : Rat} {j k : Nat} (ha : SmF j a) (hb : SmF k b) (hk : j + k < 4000000)
include ha hb hk
theorem FAdd_ev : Ev (fun n => a7q n (toF a) (toF b)) (toF (a + b), 0) := by
  have m1 : Sm (j + k + 1) (a.num * b.den) := (ha.1.mul hb.2).mono (by omega)
  have m2 : Sm (j + k + 1) (b.num * a.den) := (hb.1.mul ha.2).mono (by omega)
  have m3 : Sm (j + k + 1) ((a.den : Int) * b.den) := (ha.2.mul hb.2).mono (by omega)
  have m4 : Sm (j + k + 1) (a.num * b.den + b.num * a.den) := (ha.1.mul hb.2).add ((hb.1.mul ha.2).mono (by omega))
  unfold a7q
  refine Ev.bind (a4n ha (by omega)) ?_
  refine Ev.bind (a := false) (Ev.else rfl (Ev.bind (a4n hb (by omega)) (Ev.pure _))) ?_
  refine Ev.else rfl ?_
  refine Ev.bind (a := (sg (a.num * b.den + b.num * a.den), dig (a.num * b.den + b.num * a.den).natAbs)) ?_ ?_
  · refine Ev.bind (times_PQ ha hb hk) ?_
    refine Ev.bind (times_PQ hb ha (by omega)) ?_
    exact Ev.bind (d1w m1 m2 (by omega)) (Ev.pure _)
  · refine Ev.bind (times_QQ ha hb hk) ?_
    refine Ev.bind (c1t m4 m3 (by omega) (b8t (b3o a) (b3o b))) ((Ev.pure _).eq ?_)
    rw [c4u]
theorem FMul_ev : Ev (fun n => a8o n (toF a) (toF b)) (toF (a * b), 0) := by
  unfold a8o
  refine Ev.bind (a4n ha (by omega)) ?_
  refine Ev.bind (a := false) (Ev.else rfl (Ev.bind (a4n hb (by omega)) (Ev.pure _))) ?_
  refine Ev.else rfl ?_
  refine Ev.bind (times_PP ha hb hk) ?_
  refine Ev.bind (times_QQ ha hb hk) ?_
  refine Ev.bind (c1t (ha.1.mul hb.1) (ha.2.mul hb.2) (by omega) (b8t (b3o a) (b3o b))) ((Ev.pure _).eq ?_)
  rw [c4s]
theorem FSub_ev : Ev (fun n => a9e n (toF a) (toF b)) (toF (a - b), 0) := by
  unfold a9e
  refine Ev.bind (a4n ha (by omega)) ?_
  refine Ev.bind (a := false) (Ev.else rfl (Ev.bind (a4n hb (by omega)) (Ev.pure _))) ?_
  refine Ev.else rfl ?_
  refine Ev.bind (b8x hb.1 (by omega)) ?_
  have h := FAdd_ev ha hb.neg hk
  rw [d0h, ← Rat.sub_eq_add_neg] at h
  exact Ev.bind h (Ev.pure _)
theorem d0k (h0 : b.num ≠ 0) : Ev (fun n => b4n n (toF a) (toF b)) (toF (a / b), 0) := by
  unfold b4n
  refine Ev.bind (a4n ha (by omega)) ?_
  refine Ev.bind (a := false) (Ev.else rfl (Ev.bind (a4n hb (by omega)) (Ev.pure _))) ?_
  refine Ev.else rfl ?_
  refine Ev.else (by show (sg b.num == 0) = false; rw [b4j]; simpa using h0) ?_
  refine Ev.bind (times_PQ ha hb hk) ?_
  refine Ev.bind (times_QP ha hb hk) ?_
  refine Ev.bind (c1t (ha.1.mul hb.2) (ha.2.mul hb.1) (by omega) (b8t (b3o a) h0)) ((Ev.pure _).eq ?_)
  rw [c6a]
end
def cmpQ (a b : Rat) : Int := sg (a.num * b.den - b.num * a.den)
theorem c9y {a b : Rat} (h : a < b) : cmpQ a b = -1 := by
  have := Rat.lt_iff a b
  exact a6i (by have := this.1 h; omega)
theorem c9m {a b : Rat} (h : b < a) : cmpQ a b = 1 := by
  have := Rat.lt_iff b a
  exact a6f (by have := this.1 h; omega)
theorem c5e (a : Rat) : cmpQ a a = 0 := by unfold cmpQ; rw [Int.sub_self]; rfl
theorem b1g (a b : Rat) : (a < b ∧ cmpQ a b = -1) ∨ (a = b ∧ cmpQ a b = 0) ∨ (b < a ∧ cmpQ a b = 1) := by
  by_cases h : a < b
  · exact .inl ⟨h, c9y h⟩
  · by_cases h2 : b < a
    · exact .inr (.inr ⟨h2, c9m h2⟩)
    · have e : a = b := Rat.le_antisymm (Rat.not_lt.1 h2) (Rat.not_lt.1 h)
      exact .inr (.inl ⟨e, by rw [e]; exact c5e b⟩)
section
variable {a b : Rat} {j k : Nat} (ha : SmF j a) (hb : SmF k b) (hk : j + k < 4000000)
include ha hb hk
theorem FCompare_ev : Ev (fun n => a5h n (toF a) (toF b)) (cmpQ a b) := by
  unfold a5h
  refine Ev.bind (a4n ha (by omega)) ?_
  refine Ev.bind (a := false) (Ev.else rfl (Ev.bind (a4n hb (by omega)) (Ev.pure _))) ?_
  refine Ev.else rfl ?_
  refine Ev.bind (times_PQ ha hb hk) ?_
  refine Ev.bind (times_PQ hb ha (by omega)) ?_
  exact Ev.bind (c3y (ha.1.mul hb.2) ((hb.1.mul ha.2).mono (by omega)) (by omega)) (Ev.pure _)
theorem b8n (s : Int) (hs : s = 1 ∨ s = -1) : Ev (fun n => a8s n (toF a) (toF b) s) (toF (if cmpQ a b * s < 0 then b else a), 0) := by
  unfold a8s
  refine Ev.bind (a4n ha (by omega)) ?_
  refine Ev.bind (a := false) (Ev.else rfl (Ev.bind (a4n hb (by omega)) (Ev.pure _))) ?_
  refine Ev.else rfl ?_
  refine Ev.bind (FCompare_ev ha hb hk) ?_
  have hr := b6n (a.num * b.den - b.num * a.den)
  have e : imul .i64 (cmpQ a b) s = cmpQ a b * s := by
    have h1 : -1 ≤ cmpQ a b := hr.1
    have h2 : cmpQ a b ≤ 1 := hr.2
    exact a7h (by rcases hs with rfl | rfl <;> omega) (by rcases hs with rfl | rfl <;> omega)
  rw [e]
  by_cases h : cmpQ a b * s < 0
  · rw [if_pos h]
    refine Ev.bind (Ev.then (decide_eq_true h) (Ev.pure _)) ?_
    exact Ev.bind (b7n hb.1 (by omega)) (Ev.bind (b7n hb.2 (by omega)) (Ev.pure _))
  · rw [if_neg h]
    refine Ev.bind (Ev.else (decide_eq_false h) (Ev.pure _)) ?_
    exact Ev.bind (b7n ha.1 (by omega)) (Ev.bind (b7n ha.2 (by omega)) (Ev.pure _))
theorem FMin_ev : Ev (fun n => b4l n (toF a) (toF b)) (toF (if b < a then b else a), 0) := by
  unfold b4l
  refine Ev.bind (b8n ha hb hk (-1) (.inr rfl)) ((Ev.pure _).eq ?_)
  rcases b1g a b with ⟨h, e⟩ | ⟨h, e⟩ | ⟨h, e⟩
  · rw [e, if_neg (by decide), if_neg (by grind)]
  · rw [e, if_neg (by decide), if_neg (by grind)]
  · rw [e, if_pos (by decide), if_pos h]
theorem FMax_ev : Ev (fun n => b4s n (toF a) (toF b)) (toF (if a < b then b else a), 0) := by
  unfold b4s
  refine Ev.bind (b8n ha hb hk 1 (.inl rfl)) ((Ev.pure _).eq ?_)
  rcases b1g a b with ⟨h, e⟩ | ⟨h, e⟩ | ⟨h, e⟩
  · rw [e, if_pos (by decide), if_pos h]
  · rw [e, if_neg (by decide), if_neg (by grind)]
  · rw [e, if_neg (by decide), if_neg (by grind)]
end
section
variable {a : Rat} {k : Nat} (ha : SmF k a) (hk : k < 4000000)
include ha hk
theorem FNeg_ev : Ev (fun n => c2q n (toF a)) (toF (-a)) := by
  unfold c2q
  refine Ev.bind (a4n ha (by omega)) (Ev.else rfl ?_)
  exact Ev.bind (b8x ha.1 (by omega)) (Ev.bind (b7n ha.2 (by omega)) (Ev.pure _))
theorem FSign_ev : Ev (fun n => b0l n (toF a)) (sg a.num) := by
  unfold b0l
  exact Ev.bind (a4n ha (by omega)) (Ev.else rfl (Ev.pure _))
end
theorem b6z {x : Int} (h1 : -9223372036854775808 ≤ x) (h2 : x ≤ 9223372036854775807) : Ev (fun n => a5y n x) (toF (x : Rat)) := by
  unfold a5y
  refine Ev.bind (d2k h1 h2) (Ev.bind Of1_ev ((Ev.pure _).eq ?_))
  unfold toF
  rw [Rat.num_intCast, Rat.den_intCast]; rfl
theorem c5o {f g : Frac} (hp : f.P.Digits.length < 1099511627776) (hq : f.Q.Digits.length < 1099511627776) : Ev (fun n => a5b n f g) (decide (f = g)) := by
  unfold a5b
  refine Ev.bind (c3d (a := f.P) (b := g.P) hp) ?_
  obtain ⟨P, Q⟩ := f
  obtain ⟨P', Q'⟩ := g
  refine Ev.bind (a := decide ((⟨P, Q⟩ : Frac) = ⟨P', Q'⟩)) ?_ (Ev.pure _)
  by_cases h : P = P'
  · subst h
    refine Ev.then (by simp) (Ev.bind (c3d (a := Q) (b := Q') hq) ((Ev.pure _).eq (by simp)))
  · exact Ev.else (by simpa using h) ((Ev.pure _).eq (by simp [h]))
theorem c9c {a b : Rat} (h : toF a = toF b) : a = b := by
  unfold toF at h
  injection h with h1 h2
  exact Rat.ext (c5t h1) (by have := c5t h2; omega)
theorem c3i {a b : Rat} {k : Nat} (h : SmF k a) (hk : k < 4000000) : Ev (fun n => a5b n (toF a) (toF b)) (decide (a = b)) := by
  have := b5h h
  refine (c5o (f := toF a) (g := toF b) (by omega) (by omega)).eq ?_
  by_cases e : a = b
  · simp [e]
  · have : toF a ≠ toF b := fun h => e (c9c h)
    simp [e, this]
theorem b8y {a b : Rat} {k : Nat} (h : SmF k a) (hk : k < 4000000) (e : a = b) : Ev (fun n => a5b n (toF a) (toF b)) true := (c3i h hk).eq (by simp [e])
end Go.Proofs.YtknpjecpcmajiaaGreat.D

namespace Go.Proofs.YtknpjecpcmajiaaGreat.D
open Go Rt M
theorem d1l (f : Frac) (k : Int) : Ev (fun n => a8m n f k) (decide ((f.P.Digits.length : Int) ≤ k) && decide ((f.Q.Digits.length : Int) ≤ k)) := by
  refine Ev.all fun n => ?_
  unfold a8m
  cases decide ((f.P.Digits.length : Int) ≤ k) <;> rfl
theorem c0h {f : Frac} {k : Nat} (h : (decide ((f.P.Digits.length : Int) ≤ k) && decide ((f.Q.Digits.length : Int) ≤ k)) = true) : f.P.Digits.length ≤ k ∧ f.Q.Digits.length ≤ k := by
  simpa using h
theorem c5s {f : Frac} {k : Nat} (h : f.P.Digits.length ≤ k ∧ f.Q.Digits.length ≤ k) (hr : b0k f = true) : ∃ r, f = toF r ∧ SmF k r := by
  obtain ⟨r, rfl⟩ := b9g hr
  exact ⟨r, rfl, a9s h.1, a9s h.2⟩
end Go.Proofs.YtknpjecpcmajiaaGreat.D

namespace Go.Proofs.YtknpjecpcmajiaaGreat.D
open Go Rt M
theorem sm01 {k : Nat} {x : Int} (h : -1048576 < x) (h2 : x < 1048576) (hk : 1 ≤ k) : Sm k x := Sm.mono (k := 1) (by unfold Sm; rw [show pw 1 = 1048576 by decide]; omega) hk
theorem c9w {k : Nat} {x : Int} (h : Sm k x) (hk : 1 ≤ k) : SmF k (x : Rat) := ⟨by rw [Rat.num_intCast]; exact h, by rw [Rat.den_intCast]; exact sm01 (by decide) (by decide) hk⟩
end Go.Proofs.YtknpjecpcmajiaaGreat.D

namespace Go.Proofs.YtknpjecpcmajiaaGreat.D
open Go Rt M
theorem c9t (a b : Rat) : cmpQ a b ≤ 0 ↔ a ≤ b := by
  rcases b1g a b with ⟨h, e⟩ | ⟨h, e⟩ | ⟨h, e⟩ <;> rw [e]
  · exact ⟨fun _ => Rat.le_of_lt h, fun _ => by decide⟩
  · exact ⟨fun _ => by rw [h]; exact Rat.le_refl, fun _ => by decide⟩
  · exact ⟨fun h2 => absurd h2 (by decide), fun h2 => absurd h (Rat.not_lt.2 h2)⟩
theorem d1r (r : Rat) : sg r.num = cmpQ r 0 := by
  unfold cmpQ
  congr 1
  show r.num = r.num * 1 - 0 * r.den
  omega
theorem c3t (z : Int) : Rat.divInt z 1 = (z : Rat) := by
  obtain ⟨e1, e2⟩ := b1a (p := z) (q := 1) (by decide)
  rw [show (1 : Int).natAbs = 1 from rfl, Nat.gcd_one_right] at e1 e2
  refine Rat.ext ?_ ?_
  · rw [e1, Rat.num_intCast]; exact Int.ediv_one z
  · rw [Rat.den_intCast]
    have : ((Rat.divInt z 1).den : Int) = 1 := by rw [e2]; rfl
    omega
end Go.Proofs.YtknpjecpcmajiaaGreat.D

namespace Go.Proofs.YtknpjecpcmajiaaGreat.Fe
open Go Rt M Ta Tp D
structure Env where
  lf : Rt.Bs → Int
  wf : Rt.Bs → Rat
  pers : Int
  flats : Int
def two (o : Int) (a b : Rat) : Rat :=
  if o = 5 then a + b else if o = 6 then a - b else if o = 7 then a * b else if o = 8 then a / b else if o = 9 then (if b < a then b else a) else if o = 10 then (if a < b then b else a) else 0
def rel (o : Int) (a b : Rat × Bool) : Bool :=
  if o = 12 then decide (a.1 < b.1) else if o = 13 then decide (a.1 = b.1) else if o = 15 then a.2 && b.2 else a.2 || b.2
def c1h (E : Env) (o n : Int) (s : Rt.Bs) : List (Rat × Bool) → Rat × Bool
  | [] => (if o = 0 then (n : Rat) else if o = 1 then (E.lf s : Rat) else if o = 2 then (E.pers : Rat) else if o = 3 then (E.flats : Rat) else E.wf s, false)
  | [c] => (0, !c.2)
  | [a, b] => (two o a.1 b.1, rel o a b)
  | c :: a :: b :: _ => (if c.2 = true then a.1 else b.1, false)
mutual
def vl (E : Env) : M.Expr → Rat × Bool
  | ⟨o, n, s, l⟩ => c1h E o n s (vls E l)
def vls (E : Env) : List M.Expr → List (Rat × Bool)
  | [] => []
  | x :: l => vl E x :: vls E l
 end
def num (E : Env) (x : M.Expr) : Rat := (vl E x).1
def tru (E : Env) (x : M.Expr) : Bool := (vl E x).2
section
variable (E : Env) (n : Int) (s : Rt.Bs) (o : Int) (a b c : M.Expr)
theorem num_num : num E ⟨0, n, s, []⟩ = (n : Rat) := rfl
theorem num_lifts : num E ⟨1, n, s, []⟩ = (E.lf s : Rat) := rfl
theorem num_pers : num E ⟨2, n, s, []⟩ = (E.pers : Rat) := rfl
theorem num_flats : num E ⟨3, n, s, []⟩ = (E.flats : Rat) := rfl
theorem num_wgt : num E ⟨4, n, s, []⟩ = E.wf s := rfl
theorem num_two : num E ⟨o, n, s, [a, b]⟩ = two o (num E a) (num E b) := rfl
theorem tru_not : tru E ⟨o, n, s, [a]⟩ = !tru E a := rfl
theorem tru_two : tru E ⟨o, n, s, [a, b]⟩ = rel o (vl E a) (vl E b) := rfl
theorem num_ite : num E ⟨o, n, s, [c, a, b]⟩ = if tru E c = true then num E a else num E b := rfl
end
theorem c2e (a b : Rat) : two 5 a b = a + b := rfl
theorem c2d (a b : Rat) : two 6 a b = a - b := rfl
theorem c1o (a b : Rat) : two 7 a b = a * b := rfl
theorem c2g (a b : Rat) : two 8 a b = a / b := rfl
theorem c9z (a b : Rat) : two 9 a b = if b < a then b else a := rfl
theorem d0d (a b : Rat) : two 10 a b = if a < b then b else a := rfl
theorem b9b (a b : Rat × Bool) : rel 12 a b = decide (a.1 < b.1) := rfl
theorem c5a (a b : Rat × Bool) : rel 13 a b = decide (a.1 = b.1) := rfl
def look {α : Type} (names : List Rt.Bs) (l : List α) (d : α) (s : Rt.Bs) : α := (l[names.idxOf s]?).getD d
theorem c6n {α : Type} {names : List Rt.Bs} {l : List α} (d : α) {s : Rt.Bs} (hs : s ∈ names) (hl : names.length = l.length) : ix l ((names.idxOf s : Nat) : Int) = some (look names l d s) := by
  have h : names.idxOf s < l.length := by rw [← hl]; exact List.idxOf_lt_length_of_mem hs
  unfold look
  rw [b2u, List.getElem?_eq_getElem h]; rfl
theorem c3c {α : Type} {names : List Rt.Bs} {l : List α} (d : α) {s : Rt.Bs} (hs : s ∈ names) (hl : names.length = l.length) : look names l d s ∈ l := by
  have h : names.idxOf s < l.length := by rw [← hl]; exact List.idxOf_lt_length_of_mem hs
  unfold look
  rw [List.getElem?_eq_getElem h]; exact List.getElem_mem h
theorem c6y {α β : Type} {names : List Rt.Bs} {l : List α} (f : α → β) (d : α) (e : β) {s : Rt.Bs} (hs : s ∈ names) (hl : names.length = l.length) : look names (l.map f) e s = f (look names l d s) := by
  have h : names.idxOf s < l.length := by rw [← hl]; exact List.idxOf_lt_length_of_mem hs
  unfold look
  rw [List.getElem?_map, List.getElem?_eq_getElem h]; rfl
def mkE (names : List Rt.Bs) (f : Facts) (ws : List Rat) : Env := ⟨look names f.Lifts 0, look names ws 0, f.Persons, f.Flats⟩
theorem c7c {l : List Rt.Bs} (s : Rt.Bs) (hl : l.length < 4611686018427387904) : Ev (fun n => a1z n l s) (if s ∈ l then ((l.idxOf s : Nat) : Int) else -1) := by
  refine ⟨l.length + 1, fun n hn => ?_⟩
  unfold a1z
  dsimp only
  have h : a1t n l s (some (-1)) n 0 = _ := c1w n l s hl l 0 n rfl (by omega)
  rw [h]; simp only [Nat.zero_add]
theorem d2m {j k : Nat} {a b : Rat} (ha : SmF j a) (hb : SmF k b) (h0 : b.num ≠ 0) : SmF (j + k) (a / b) := by
  rw [c6a]
  refine b5d ?_ ?_ (b8t (b3o a) h0)
  · exact ha.1.mul hb.2
  · exact ha.2.mul hb.1
theorem d2p {j k : Nat} {a b : Rat} (ha : SmF j a) (hb : SmF k b) {o : Int} (ho : o = 8 → b.num ≠ 0) (h0 : o = 5 ∨ o = 6 ∨ o = 7 ∨ o = 8 ∨ o = 9 ∨ o = 10) : SmF (j + k + 1) (two o a b) := by
  rcases h0 with rfl | rfl | rfl | rfl | rfl | rfl
  · exact ha.add hb
  · exact ha.sub hb
  · exact (ha.mul hb).mono (by omega)
  · exact (d2m ha hb (ho rfl)).mono (by omega)
  · rw [c9z]; split
    · exact hb.mono (by omega)
    · exact ha.mono (by omega)
  · rw [d0d]; split
    · exact hb.mono (by omega)
    · exact ha.mono (by omega)
theorem d0o {j k : Nat} {a b : Rat} (ha : SmF j a) (hb : SmF k b) (hk : j + k < 4000000) {o : Int} (ho : o = 8 → b.num ≠ 0) (h0 : o = 5 ∨ o = 6 ∨ o = 7 ∨ o = 8 ∨ o = 9 ∨ o = 10) : Ev (fun n => a6y n o (toF a) (toF b)) (toF (two o a b)) := by
  unfold a6y
  rcases h0 with rfl | rfl | rfl | rfl | rfl | rfl
  · exact Ev.then rfl (Ev.bind (FAdd_ev ha hb hk) (Ev.pure _))
  · exact Ev.else rfl (Ev.then rfl (Ev.bind (FSub_ev ha hb hk) (Ev.pure _)))
  · exact Ev.else rfl (Ev.else rfl (Ev.then rfl (Ev.bind (FMul_ev ha hb hk) (Ev.pure _))))
  · exact Ev.else rfl (Ev.else rfl (Ev.else rfl (Ev.then rfl (Ev.bind (d0k ha hb hk (ho rfl)) (Ev.pure _)))))
  · exact Ev.else rfl (Ev.else rfl (Ev.else rfl (Ev.else rfl (Ev.then rfl (Ev.bind (FMin_ev ha hb hk) (Ev.pure _))))))
  · exact Ev.else rfl (Ev.else rfl (Ev.else rfl (Ev.else rfl (Ev.else rfl (Ev.then rfl (Ev.bind (FMax_ev ha hb hk) (Ev.pure _)))))))
theorem smI {x : Int} (h1 : -9223372036854775808 ≤ x) (h2 : x ≤ 9223372036854775807) {k : Nat} (hk : 4 ≤ k) : SmF k (x : Rat) := by
  refine c9w (Sm.mono (k := 4) ?_ hk) (by omega)
  exact a9s (c3u (by omega))
structure RF (names : List Rt.Bs) (f : Facts) (ws : List Rat) : Prop where
  hl : f.Lifts.length = names.length
  hw : ws.length = names.length
  p1 : 0 ≤ f.Persons
  p2 : f.Persons ≤ 1000
  f1 : 0 ≤ f.Flats
  f2 : f.Flats ≤ 1000
  l1 : ∀ n, n ∈ f.Lifts → 0 ≤ n ∧ n ≤ 200
  w1 : ∀ w, w ∈ ws → 0 ≤ w
def K (names : List Rt.Bs) (f : Facts) (ws : List Rat) : known := ⟨names, f, ws.map toF⟩
theorem wadd (W a b : Nat) : W * (a + b + 1) = W * a + W * b + W := by rw [Nat.mul_add, Nat.mul_add, Nat.mul_one]
theorem wle {W a : Nat} (hW : W ≤ 30) (ha : a ≤ 1000) : W * a ≤ 30000 := by
  have := Nat.mul_le_mul hW ha
  omega
section
variable {names : List Rt.Bs} {f : Facts} {ws : List Rat} {W : Nat}
variable (hf : RF names f ws) (hW : 4 ≤ W) (hW2 : W ≤ 30) (hw : ∀ w, w ∈ ws → SmF W w) (hn : names.length < 4611686018427387904)
include hf hW hW2 hw hn
theorem c6e {x : M.Expr} {k : Int} (ht : Typ names x k) : cnt x ≤ 1000 →
    (k ≠ 0 → SmF (W * cnt x) (num (mkE names f ws) x) ∧ Ev (fun n => fee_known_number n (K names f ws) x) (toF (num (mkE names f ws) x))) ∧
    (k = 0 → Ev (fun n => fee_known_truth n (K names f ws) x) (tru (mkE names f ws) x)) := by
  have hix : ∀ s, Ev (fun n => a1z n (K names f ws).names s) (if s ∈ names then ((names.idxOf s : Nat) : Int) else -1) := fun s => c7c s hn
  have leafW : ∀ (o n : Int) (s : Rt.Bs), W * cnt ⟨o, n, s, []⟩ = W := fun o n s => by show W * 1 = W; omega
  have c2 : ∀ (o n : Int) (s : Rt.Bs) (a b : M.Expr), cnt ⟨o, n, s, [a, b]⟩ = cnt a + cnt b + 1 := fun o n s a b => by show cnt a + (cnt b + 0) + 1 = _; omega
  have ari : ∀ {o p q r : Int} {a b : M.Expr}, (o = 5 ∨ o = 6 ∨ o = 7 ∨ o = 8 ∨ o = 9 ∨ o = 10) → p ≠ 0 → q ≠ 0 → r ≠ 0 → (o = 8 → (num (mkE names f ws) b).num ≠ 0) →
      (cnt a ≤ 1000 → (p ≠ 0 → SmF (W * cnt a) (num (mkE names f ws) a) ∧ Ev (fun n => fee_known_number n (K names f ws) a) (toF (num (mkE names f ws) a))) ∧ (p = 0 → Ev (fun n => fee_known_truth n (K names f ws) a) (tru (mkE names f ws) a))) →
      (cnt b ≤ 1000 → (q ≠ 0 → SmF (W * cnt b) (num (mkE names f ws) b) ∧ Ev (fun n => fee_known_number n (K names f ws) b) (toF (num (mkE names f ws) b))) ∧ (q = 0 → Ev (fun n => fee_known_truth n (K names f ws) b) (tru (mkE names f ws) b))) →
      cnt ⟨o, 0, [], [a, b]⟩ ≤ 1000 →
      (r ≠ 0 → SmF (W * cnt ⟨o, 0, [], [a, b]⟩) (num (mkE names f ws) ⟨o, 0, [], [a, b]⟩) ∧ Ev (fun n => fee_known_number n (K names f ws) ⟨o, 0, [], [a, b]⟩) (toF (num (mkE names f ws) ⟨o, 0, [], [a, b]⟩))) ∧
      (r = 0 → Ev (fun n => fee_known_truth n (K names f ws) ⟨o, 0, [], [a, b]⟩) (tru (mkE names f ws) ⟨o, 0, [], [a, b]⟩)) := by
    intro o p q r a b ho hp hq hr h8 iha ihb hc
    rw [c2] at hc
    obtain ⟨sa, ea⟩ := (iha (by omega)).1 hp
    obtain ⟨sb, eb⟩ := (ihb (by omega)).1 hq
    have wa := wle hW2 (show cnt a ≤ 1000 by omega)
    have wb := wle hW2 (show cnt b ≤ 1000 by omega)
    refine ⟨fun _ => ⟨?_, ?_⟩, fun h => absurd h hr⟩
    · rw [c2, wadd, num_two]
      exact (d2p sa sb h8 ho).mono (by omega)
    · rw [num_two]
      refine Ev.suc (fun n => a3h n _ _) ?_
      refine Ev.bind (hix _) ?_
      have e : ∀ k : Int, (k = 0 ∨ k = 1 ∨ k = 2 ∨ k = 3 ∨ k = 4 ∨ k = 11) → (o == k) = false := fun k hk => by rw [beq_eq_false_iff_ne]; omega
      refine Ev.else (e 0 (by decide)) (Ev.else (e 1 (by decide)) (Ev.else (e 2 (by decide)) (Ev.else (e 3 (by decide)) (Ev.else (e 4 (by decide)) (Ev.else (e 11 (by decide)) ?_)))))
      refine Ev.step (a := a) rfl (Ev.step (a := b) rfl ?_)
      exact Ev.bind ea (Ev.bind eb (Ev.bind (d0o sa sb (by omega) h8 ho) (Ev.pure _)))
  induction ht with
  | @num m h0 h1 =>
    intro _
    refine ⟨fun _ => ⟨?_, ?_⟩, fun h => by cases h⟩
    · rw [leafW, num_num]; exact smI (by omega) (by omega) hW
    · refine Ev.suc (fun n => a3h n _ _) (Ev.bind (hix _) (Ev.then rfl ?_))
      exact Ev.bind (b6z (x := m) (by omega) (by omega)) (Ev.pure _)
  | @lifts s _ hs =>
    intro _
    have h5 := hf.l1 _ (c3c (0 : Int) hs hf.hl.symm)
    refine ⟨fun _ => ⟨?_, ?_⟩, fun h => by cases h⟩
    · rw [leafW, num_lifts]
      exact smI (show _ ≤ look names f.Lifts 0 s by omega) (show look names f.Lifts 0 s ≤ _ by omega) hW
    · refine Ev.suc (fun n => a3h n _ _) (Ev.bind (hix _) (Ev.else rfl (Ev.then rfl ?_)))
      refine Ev.step (a := look names f.Lifts 0 s) (by rw [if_pos hs]; exact c6n 0 hs hf.hl.symm) ?_
      exact Ev.bind (b6z (x := look names f.Lifts 0 s) (by omega) (by omega)) (Ev.pure _)
  | pers =>
    intro _
    have h1 := hf.p1
    have h2 := hf.p2
    refine ⟨fun _ => ⟨?_, ?_⟩, fun h => by cases h⟩
    · rw [leafW, num_pers]
      exact smI (show _ ≤ f.Persons by omega) (show f.Persons ≤ _ by omega) hW
    · refine Ev.suc (fun n => a3h n _ _) (Ev.bind (hix _) (Ev.else rfl (Ev.else rfl (Ev.then rfl ?_))))
      exact Ev.bind (b6z (x := f.Persons) (by omega) (by omega)) (Ev.pure _)
  | flats =>
    intro _
    have h1 := hf.f1
    have h2 := hf.f2
    refine ⟨fun _ => ⟨?_, ?_⟩, fun h => by cases h⟩
    · rw [leafW, num_flats]
      exact smI (show _ ≤ f.Flats by omega) (show f.Flats ≤ _ by omega) hW
    · refine Ev.suc (fun n => a3h n _ _) (Ev.bind (hix _) (Ev.else rfl (Ev.else rfl (Ev.else rfl (Ev.then rfl ?_)))))
      exact Ev.bind (b6z (x := f.Flats) (by omega) (by omega)) (Ev.pure _)
  | @wgt s _ hs =>
    intro _
    refine ⟨fun _ => ⟨?_, ?_⟩, fun h => by cases h⟩
    · rw [leafW, num_wgt]
      exact hw _ (c3c 0 hs hf.hw.symm)
    · refine Ev.suc (fun n => a3h n _ _) (Ev.bind (hix _) (Ev.else rfl (Ev.else rfl (Ev.else rfl (Ev.else rfl (Ev.then rfl ?_))))))
      refine Ev.step (a := toF (look names ws 0 s)) ?_ (Ev.pure _)
      rw [if_pos hs, ← c6y toF 0 (toF 0) hs hf.hw.symm]
      exact c6n (toF 0) hs (by show _ = (ws.map toF).length; rw [List.length_map]; exact hf.hw.symm)
  | @ari o a b p q ho _ _ hp hq iha ihb =>
    exact ari (by omega) hp hq (c9b p q) (fun h => by omega) iha ihb
  | @mul a b p q _ _ hp hq _ iha ihb =>
    exact ari (by omega) hp hq (c9b p q) (fun h => by omega) iha ihb
  | @div a m p _ hp h1 h2 iha =>
    refine ari (q := 1) (by omega) hp (by decide) hp (fun _ => ?_) iha ?_
    · rw [num_num, Rat.num_intCast]; omega
    · intro _
      refine ⟨fun _ => ⟨?_, ?_⟩, fun h => by cases h⟩
      · rw [leafW, num_num]; exact smI (by omega) (by omega) hW
      · refine Ev.suc (fun n => a3h n _ _) (Ev.bind (hix _) (Ev.then rfl ?_))
        exact Ev.bind (b6z (x := m) (by omega) (by omega)) (Ev.pure _)
  | @ite c a b p q _ _ _ hp hq ihc iha ihb =>
    intro hc
    have hc3 : cnt ⟨11, 0, [], [c, a, b]⟩ = cnt c + cnt a + cnt b + 1 := by show cnt c + (cnt a + (cnt b + 0)) + 1 = _; omega
    rw [hc3] at hc
    have ec := (ihc (by omega)).2 rfl
    obtain ⟨sa, ea⟩ := (iha (by omega)).1 hp
    obtain ⟨sb, eb⟩ := (ihb (by omega)).1 hq
    refine ⟨fun _ => ⟨?_, ?_⟩, fun h => absurd h (c9b p q)⟩
    · rw [num_ite, hc3]
      have h5 : W * cnt a ≤ W * (cnt c + cnt a + cnt b + 1) := Nat.mul_le_mul_left _ (by omega)
      have h6 : W * cnt b ≤ W * (cnt c + cnt a + cnt b + 1) := Nat.mul_le_mul_left _ (by omega)
      split
      · exact sa.mono h5
      · exact sb.mono h6
    · rw [num_ite]
      refine Ev.suc (fun n => a3h n _ _) (Ev.bind (hix _) (Ev.else rfl (Ev.else rfl (Ev.else rfl (Ev.else rfl (Ev.else rfl (Ev.then rfl ?_)))))))
      refine Ev.step (a := c) rfl (Ev.bind ec ?_)
      cases tru (mkE names f ws) c with
      | true => exact Ev.then rfl (Ev.step (a := a) rfl (Ev.bind ea (Ev.pure _)))
      | false => exact Ev.else rfl (Ev.step (a := b) rfl (Ev.bind eb (Ev.pure _)))
  | @rel o a b ho _ _ iha ihb =>
    intro hc
    rw [c2] at hc
    obtain ⟨sa, ea⟩ := (iha (by omega)).1 (by decide)
    obtain ⟨sb, eb⟩ := (ihb (by omega)).1 (by decide)
    have wa := wle hW2 (show cnt a ≤ 1000 by omega)
    have wb := wle hW2 (show cnt b ≤ 1000 by omega)
    refine ⟨fun h => absurd rfl h, fun _ => ?_⟩
    rw [tru_two]
    have e : ∀ k : Int, (k = 14 ∨ k = 15 ∨ k = 16) → (o == k) = false := fun k hk => by rw [beq_eq_false_iff_ne]; omega
    refine Ev.suc (fun n => a5u n _ _) (Ev.else (e 14 (by decide)) (Ev.else (e 15 (by decide)) (Ev.else (e 16 (by decide)) ?_)))
    refine Ev.step (a := a) rfl (Ev.step (a := b) rfl (Ev.bind ea (Ev.bind eb (Ev.bind (FCompare_ev sa sb (by omega)) ?_))))
    rcases b1g (num (mkE names f ws) a) (num (mkE names f ws) b) with ⟨h1, h2⟩ | ⟨h1, h2⟩ | ⟨h1, h2⟩
    · rw [h2]
      rcases ho with rfl | rfl
      · exact Ev.then rfl ((Ev.pure _).eq (by rw [b9b]; exact (decide_eq_true h1).symm))
      · exact Ev.else rfl ((Ev.pure _).eq (by rw [c5a]; exact (decide_eq_false (Rat.ne_of_lt h1)).symm))
    · rw [h2]
      rcases ho with rfl | rfl
      · exact Ev.then rfl ((Ev.pure _).eq (by rw [b9b]; exact (decide_eq_false (by show ¬(num (mkE names f ws) a < _); rw [h1]; exact Rat.lt_irrefl)).symm))
      · exact Ev.else rfl ((Ev.pure _).eq (by rw [c5a]; exact (decide_eq_true h1).symm))
    · rw [h2]
      rcases ho with rfl | rfl
      · exact Ev.then rfl ((Ev.pure _).eq (by rw [b9b]; exact (decide_eq_false (Rat.not_lt.2 (Rat.le_of_lt h1))).symm))
      · exact Ev.else rfl ((Ev.pure _).eq (by rw [c5a]; exact (decide_eq_false (fun h => Rat.ne_of_lt h1 h.symm)).symm))
  | @not a _ iha =>
    intro hc
    have h1 : cnt ⟨14, 0, [], [a]⟩ = cnt a + 0 + 1 := rfl
    refine ⟨fun h => absurd rfl h, fun _ => ?_⟩
    rw [tru_not]
    refine Ev.suc (fun n => a5u n _ _) (Ev.then rfl ?_)
    exact Ev.step (a := a) rfl (Ev.bind ((iha (by omega)).2 rfl) (Ev.pure _))
  | @bin o a b ho _ _ iha ihb =>
    intro hc
    rw [c2] at hc
    have ea := (iha (by omega)).2 rfl
    have eb := (ihb (by omega)).2 rfl
    refine ⟨fun h => absurd rfl h, fun _ => ?_⟩
    rw [tru_two]
    rcases ho with rfl | rfl
    · refine Ev.suc (fun n => a5u n _ _) (Ev.else rfl (Ev.then rfl ?_))
      refine Ev.step (a := a) rfl (Ev.bind ea ?_)
      show Ev _ (tru (mkE names f ws) a && tru (mkE names f ws) b)
      cases tru (mkE names f ws) a with
      | true => exact Ev.bind (Ev.then rfl (Ev.step (a := b) rfl (Ev.bind eb (Ev.pure _)))) (Ev.pure _)
      | false => exact Ev.bind (Ev.else rfl (Ev.pure _)) (Ev.pure _)
    · refine Ev.suc (fun n => a5u n _ _) (Ev.else rfl (Ev.else rfl (Ev.then rfl ?_)))
      refine Ev.step (a := a) rfl (Ev.bind ea ?_)
      show Ev _ (tru (mkE names f ws) a || tru (mkE names f ws) b)
      cases tru (mkE names f ws) a with
      | true => exact Ev.bind (Ev.then rfl (Ev.pure _)) (Ev.pure _)
      | false => exact Ev.bind (Ev.else rfl (Ev.step (a := b) rfl (Ev.bind eb (Ev.pure _)))) (Ev.pure _)
theorem c1a {x : M.Expr} {k : Int} (ht : Typ names x k) (hk : k ≠ 0) (hc : cnt x ≤ 1000) : Ev (fun n => fee_known_number n (K names f ws) x) (toF (num (mkE names f ws) x)) := ((c6e hf hW hW2 hw hn ht hc).1 hk).2
theorem c0e {x : M.Expr} {k : Int} (ht : Typ names x k) (hk : k ≠ 0) (hc : cnt x ≤ 1000) : SmF (W * cnt x) (num (mkE names f ws) x) := ((c6e hf hW hW2 hw hn ht hc).1 hk).1
end
end Go.Proofs.YtknpjecpcmajiaaGreat.Fe

namespace Go.Proofs.YtknpjecpcmajiaaGreat.Ta
open Go Rt M
def T2 {α β : Type} (Q : α → β → Prop) (f : Nat → Option α) (g : Nat → Option β) : Prop := ∃ a b, Ev f a ∧ Ev g b ∧ Q a b
section
variable {α β γ δ : Type} {P : α → β → Prop} {Q : γ → δ → Prop}
theorem T2.pure {a : γ} {b : δ} (h : Q a b) : T2 Q (fun _ => some a) (fun _ => some b) := ⟨a, b, Ev.pure a, Ev.pure b, h⟩
theorem T2.bind {x : Nat → Option α} {y : Nat → Option β} {f : Nat → α → Option γ} {g : Nat → β → Option δ} (h : T2 P x y) (k : ∀ a b, P a b → T2 Q (fun n => f n a) (fun n => g n b)) : T2 Q (fun n => (x n).bind (f n)) (fun n => (y n).bind (g n)) := by
  obtain ⟨a, b, h1, h2, h3⟩ := h
  obtain ⟨c, d, h4, h5, h6⟩ := k a b h3
  exact ⟨c, d, Ev.bind h1 h4, Ev.bind h2 h5, h6⟩
theorem T2.l {x : Nat → Option α} {a : α} {f : Nat → α → Option γ} {g : Nat → Option δ} (h : Ev x a) (k : T2 Q (fun n => f n a) g) : T2 Q (fun n => (x n).bind (f n)) g := by
  obtain ⟨c, d, h4, h5, h6⟩ := k
  exact ⟨c, d, Ev.bind h h4, h5, h6⟩
theorem T2.r {y : Nat → Option β} {b : β} {f : Nat → Option γ} {g : Nat → β → Option δ} (h : Ev y b) (k : T2 Q f (fun n => g n b)) : T2 Q f (fun n => (y n).bind (g n)) := by
  obtain ⟨c, d, h4, h5, h6⟩ := k
  exact ⟨c, d, h4, Ev.bind h h5, h6⟩
theorem T2.bif {c : Bool} {x x' : Nat → Option γ} {y y' : Nat → Option δ} (h1 : c = true → T2 Q x y) (h2 : c = false → T2 Q x' y') : T2 Q (fun n => bif c then x n else x' n) (fun n => bif c then y n else y' n) := by
  cases c
  · exact h2 rfl
  · exact h1 rfl
theorem T2.lt {c : Bool} {x x' : Nat → Option γ} {g : Nat → Option δ} (hc : c = true) (h : T2 Q x g) : T2 Q (fun n => bif c then x n else x' n) g := by subst hc; exact h
theorem T2.lf {c : Bool} {x x' : Nat → Option γ} {g : Nat → Option δ} (hc : c = false) (h : T2 Q x' g) : T2 Q (fun n => bif c then x n else x' n) g := by subst hc; exact h
theorem T2.suc {f f' : Nat → Option γ} {g g' : Nat → Option δ} (e : ∀ n, f (n + 1) = f' n) (e' : ∀ n, g (n + 1) = g' n) (h : T2 Q f' g') : T2 Q f g := by
  obtain ⟨c, d, h4, h5, h6⟩ := h
  exact ⟨c, d, Ev.suc e h4, Ev.suc e' h5, h6⟩
theorem T2.weak {Q' : γ → δ → Prop} {f : Nat → Option γ} {g : Nat → Option δ} (h : T2 Q f g) (k : ∀ a b, Q a b → Q' a b) : T2 Q' f g := by
  obtain ⟨c, d, h4, h5, h6⟩ := h
  exact ⟨c, d, h4, h5, k c d h6⟩
end
end Go.Proofs.YtknpjecpcmajiaaGreat.Ta

namespace Go.Proofs.YtknpjecpcmajiaaGreat.Ta
open Go Rt M
theorem c8b {P : M.Expr → Prop} (h : ∀ (o k : Int) (s : Rt.Bs) (l : List M.Expr), (∀ y, y ∈ l → P y) → P ⟨o, k, s, l⟩) : ∀ x, P x := by
  intro x
  refine M.Expr.rec (motive_1 := P) (motive_2 := fun l => ∀ y, y ∈ l → P y) ?_ ?_ ?_ x
  · exact fun o k s l hl => h o k s l hl
  · exact fun y hy => by cases hy
  · intro y ys h1 h2 z hz
    rcases List.mem_cons.1 hz with rfl | hz
    · exact h1
    · exact h2 z hz
theorem c8j (x : M.Expr) (lv lf : Int) (hlf : lf ≤ 1000000) (hlv : 1 ≤ lv) (hlv2 : lv ≤ 1000) : ∀ (us : List M.Expr) (i : Nat) (nx : Int), x.Args.drop i = us → i ≤ x.Args.length → -1 ≤ nx → nx ≤ lf - 1 - i →
    (∀ y, y ∈ us → ∀ lv lf : Int, 0 ≤ lf → lf ≤ 1000000 → -1 ≤ lv → lv ≤ 1000 → Tt (fun s => -1 ≤ s ∧ s ≤ lf - 1 ∧ (0 ≤ s → Fit y)) (fun n => ref35_size n y lf lv)) →
    ∃ N r, (-1 ≤ r ∧ r ≤ lf - 1 ∧ (0 ≤ r → x.Args.length ≤ 1000000 ∧ ∀ y, y ∈ us → Fit y)) ∧ ∀ n m, N ≤ n → us.length < m → a4s n (ref35_size n) x lv (fun nx3 => some nx3) m nx (i : Int) = some r
  | [], i, nx, hd, hi, h1, h2, _ => by
    have hlen : x.Args.length ≤ i := Rt.drop_nil hd
    refine ⟨0, nx, ⟨h1, by omega, fun h => ⟨by omega, by simp⟩⟩, fun n m _ hm => ?_⟩
    obtain ⟨m, rfl⟩ := left hm
    rw [a6s, a9t hd]; rfl
  | y :: us, i, nx, hd, hi, h1, h2, H => by
    obtain ⟨g1, g2, g3⟩ := drop_cons hd
    by_cases h0 : 0 ≤ nx
    · obtain ⟨s, ⟨N1, e1⟩, s1, s2, s3⟩ := H y (by simp) (lv - 1) nx h0 (by omega) (by omega) (by omega)
      obtain ⟨N, r, ⟨r1, r2, r3⟩, ih⟩ := c8j x lv lf hlf hlv hlv2 us (i + 1) s g2 (by omega) s1 (by omega) (fun z hz => H z (by simp [hz]))
      refine ⟨max N N1, r, ⟨r1, r2, fun hr => ⟨(r3 hr).1, fun z hz => ?_⟩⟩, fun n m hn hm => ?_⟩
      · rcases List.mem_cons.1 hz with rfl | hz
        · refine s3 ?_
          rcases Int.lt_or_le s 0 with hs | hs
          · exfalso
            have e : s = -1 := by omega
            have := ih (max N N1 + us.length + 2) (us.length + 1) (by omega) (by omega)
            rw [e] at this
            have hstop : a4s (max N N1 + us.length + 2) (ref35_size (max N N1 + us.length + 2)) x lv (fun nx3 => some nx3) (us.length + 1) (-1) ((i + 1 : Nat) : Int) = some (-1) := by
              rw [a6s]
              cases decide (((i + 1 : Nat) : Int) < (x.Args.length : Int)) <;> rfl
            rw [hstop] at this
            cases this
            omega
          · exact hs
        · exact (r3 hr).2 z hz
      · obtain ⟨m, rfl, hm2⟩ := pred (by simpa using hm)
        have e1 : ref35_size n y nx (lv - 1) = some s := e1 n (by omega)
        rw [a6s, a4w hd, cond_true, Option.bind_some, decide_eq_true h0, cond_true, g1, Option.bind_some, a2i (by omega) (by omega), e1, Option.bind_some, inc64 (by omega)]
        exact ih n m (by omega) hm2
    · refine ⟨0, nx, ⟨h1, by omega, fun h => absurd h h0⟩, fun n m _ hm => ?_⟩
      obtain ⟨m, rfl⟩ := left hm
      rw [a6s, a4w hd, cond_true, Option.bind_some, decide_eq_false h0]; rfl
theorem size_t : ∀ (x : M.Expr) (lv lf : Int), 0 ≤ lf → lf ≤ 1000000 → -1 ≤ lv → lv ≤ 1000 → Tt (fun s => -1 ≤ s ∧ s ≤ lf - 1 ∧ (0 ≤ s → Fit x)) (fun n => ref35_size n x lf lv) := by
  refine c8b ?_
  intro o k s l ih lv lf h1 h2 h3 h4
  refine Tt.suc (fun n => b5q n _ _ _) ?_
  refine Tt.bif (fun _ => Tt.pure ⟨by omega, by omega, fun h => by omega⟩) (fun h => ?_)
  have h5 := of_decide_eq_false h
  rw [a2i (by omega) (by omega)]
  obtain ⟨N, r, ⟨r1, r2, r3⟩, hN⟩ := c8j ⟨o, k, s, l⟩ lv lf h2 (by omega) h4 l 0 (lf - 1) rfl (by simp) (by omega) (by omega) ih
  exact ⟨r, ⟨N + l.length + 1, fun n hn => hN n n (by omega) (by omega)⟩, r1, r2, fun h => Fit.mk (r3 h).1 (r3 h).2⟩
theorem d2i (x : M.Expr) (a b : Int) (ha : 0 ≤ a) (ha2 : a ≤ 1000000) (hb : 0 ≤ b) (hb2 : b ≤ 1000) : Tt (fun c => c = true → Fit x) (fun n => a8l n x a b) := by
  unfold a8l
  refine Tt.bind (size_t x b a ha ha2 (by omega) hb2) fun s hs => ?_
  exact Tt.pure fun h => hs.2.2 (of_decide_eq_true h)
end Go.Proofs.YtknpjecpcmajiaaGreat.Ta

namespace Go.Proofs.YtknpjecpcmajiaaGreat.Fe
open Go Rt M Ta Tp D
theorem b5l (n : Nat) (l : List Int) (hl : l.length ≤ 1000000) (f : Int → Option Bool) (p : Int → Bool) (hf : ∀ x, f x = some (p x)) : ∀ (us : List Int) (i m : Nat), l.drop i = us → us.length < m →
    ∃ r, a2d n l f (some (-1)) m (i : Int) = some r ∧ decide (0 ≤ r) = us.any p
  | [], i, m, hd, hm => by
    obtain ⟨m, rfl⟩ := left hm
    exact ⟨-1, by rw [a4q, a9t hd]; rfl, rfl⟩
  | y :: us, i, m, hd, hm => by
    obtain ⟨h1, h2, h3⟩ := Rt.drop_cons hd
    obtain ⟨m, rfl, hm2⟩ := pred (by simpa using hm)
    obtain ⟨r, ih, hr⟩ := b5l n l hl f p hf us (i + 1) m h2 hm2
    rw [a4q, a4w hd, cond_true, h1, Option.bind_some, hf, Option.bind_some, List.any_cons]
    cases p y with
    | true => exact ⟨(i : Int), rfl, decide_eq_true (by omega)⟩
    | false => rw [cond_false, Rt.inc64 (by omega)]; exact ⟨r, ih, by rw [hr]; rfl⟩
theorem c0u {l : List Int} (hl : l.length ≤ 1000000) (f : Nat → Int → Option Bool) (p : Int → Bool) (hf : ∀ n x, f n x = some (p x)) : Ev (fun n => a2t n l (f n)) (l.any p) := by
  refine ⟨l.length + 1, fun n hn => ?_⟩
  unfold a2t a4l
  dsimp only
  obtain ⟨r, h, hr⟩ := b5l n l hl (f n) p (hf n) l 0 n rfl (by omega)
  have e : a2d n l (f n) (some (-1)) n 0 = some r := h
  rw [e, Option.bind_some, hr]
theorem b5p (l : List Frac) (hl : l.length ≤ 1000000) (f : Nat → Frac → Option Bool) (p : Frac → Bool) : ∀ (us : List Frac) (i : Nat), l.drop i = us → (∀ y, y ∈ us → Ev (fun n => f n y) (p y)) →
    ∃ N r, decide (0 ≤ r) = us.any p ∧ ∀ n m, N ≤ n → us.length < m → a1o n l (f n) (some (-1)) m (i : Int) = some r
  | [], i, hd, _ => by
    refine ⟨0, -1, rfl, fun n m _ hm => ?_⟩
    obtain ⟨m, rfl⟩ := left hm
    rw [a2p, a9t hd]; rfl
  | y :: us, i, hd, H => by
    obtain ⟨h1, h2, h3⟩ := Rt.drop_cons hd
    obtain ⟨N1, e1⟩ := H y (by simp)
    obtain ⟨N, r, hr, ih⟩ := b5p l hl f p us (i + 1) h2 (fun z hz => H z (by simp [hz]))
    rw [List.any_cons]
    cases hp : p y with
    | true =>
      refine ⟨N1, (i : Int), decide_eq_true (by omega), fun n m hn hm => ?_⟩
      obtain ⟨m, rfl⟩ := left hm
      have e1 : f n y = some (p y) := e1 n (by omega)
      rw [a2p, a4w hd, cond_true, h1, Option.bind_some, e1, hp]; rfl
    | false =>
      refine ⟨max N N1, r, by rw [hr]; rfl, fun n m hn hm => ?_⟩
      obtain ⟨m, rfl, hm2⟩ := pred (by simpa using hm)
      have e1 : f n y = some (p y) := e1 n (by omega)
      rw [a2p, a4w hd, cond_true, h1, Option.bind_some, e1, hp, Option.bind_some, cond_false, Rt.inc64 (by omega)]
      exact ih n m (by omega) hm2
theorem c0o {l : List Frac} (hl : l.length ≤ 1000000) (f : Nat → Frac → Option Bool) (p : Frac → Bool) (hf : ∀ y, y ∈ l → Ev (fun n => f n y) (p y)) : Ev (fun n => a2f n l (f n)) (l.any p) := by
  obtain ⟨N, r, hr, h⟩ := b5p l hl f p l 0 rfl hf
  refine ⟨N + l.length + 1, fun n hn => ?_⟩
  unfold a2f a3d
  dsimp only
  have e : a1o n l (f n) (some (-1)) n 0 = some r := h n n (by omega) (by omega)
  rw [e, Option.bind_some, hr]
def badF (w : Frac) : Bool := !b0k w || decide (w.P.Sign < 0)
def Lim (k : Nat) (l : List Frac) : Prop := ∀ w, w ∈ l → w.P.Digits.length ≤ k ∧ w.Q.Digits.length ≤ k
theorem d1s {w : Frac} {k : Nat} (h : w.P.Digits.length ≤ k ∧ w.Q.Digits.length ≤ k) (hk : k ≤ 30) : Ev (fun n => a7v n w) (badF w) := by
  unfold a7v badF
  refine Ev.bind (b6w h.1 h.2 (by omega)) ?_
  cases hr : b0k w with
  | false => exact Ev.bind (Ev.then rfl (Ev.pure _)) (Ev.pure _)
  | true =>
    obtain ⟨r, rfl, hs⟩ := c5s h hr
    exact Ev.bind (Ev.else rfl (Ev.bind (FSign_ev hs (by omega)) (Ev.pure _))) (Ev.pure _)
theorem b8j (r : Rat) : decide (sg r.num < 0) = decide (r < 0) := by
  rw [d1r]
  rcases b1g r 0 with ⟨h1, h2⟩ | ⟨h1, h2⟩ | ⟨h1, h2⟩
  · rw [h2, decide_eq_true h1]; rfl
  · rw [h2, h1]; rfl
  · rw [h2, decide_eq_false (Rat.not_lt.2 (Rat.le_of_lt h1))]; rfl
theorem c2o (r : Rat) : badF (toF r) = decide (r < 0) := by
  unfold badF
  rw [b8s]
  show decide (sg r.num < 0) = _
  exact b8j r
theorem b8u {k : Nat} : ∀ {l : List Frac}, Lim k l → l.any badF = false → ∃ ws : List Rat, l = ws.map toF ∧ (∀ w, w ∈ ws → 0 ≤ w) ∧ ∀ w, w ∈ ws → SmF k w
  | [], _, _ => ⟨[], rfl, by simp, by simp⟩
  | x :: l, hl, h => by
    rw [List.any_cons, Bool.or_eq_false_iff] at h
    obtain ⟨ws, rfl, h1, h2⟩ := b8u (fun w hw => hl w (by simp [hw])) h.2
    have hr : b0k x = true := by
      cases hx : b0k x
      · have := h.1; unfold badF at this; rw [hx] at this; cases this
      · rfl
    obtain ⟨r, rfl, hs⟩ := c5s (hl x (by simp)) hr
    have h0 := h.1
    rw [c2o] at h0
    refine ⟨r :: ws, rfl, ?_, ?_⟩
    · intro w hw
      rcases List.mem_cons.1 hw with rfl | hw
      · exact Rat.not_lt.1 (of_decide_eq_false h0)
      · exact h1 w hw
    · intro w hw
      rcases List.mem_cons.1 hw with rfl | hw
      · exact hs
      · exact h2 w hw
theorem c7a {ws : List Rat} (h : ∀ w, w ∈ ws → 0 ≤ w) : (ws.map toF).any badF = false := by
  rw [List.any_eq_false]
  intro x hx
  obtain ⟨w, hw, rfl⟩ := List.mem_map.1 hx
  rw [c2o, decide_eq_false (Rat.not_lt.2 (h w hw))]; simp
theorem d1f (a b : Int) : Ev (fun n => b5s n a b) (decide (0 ≤ a) && decide (a ≤ b)) := by
  unfold b5s
  refine Ev.all fun n => ?_
  cases decide (0 ≤ a) <;> rfl
theorem d1y (n : Nat) (x : Int) : a7s n x = some (!(decide (0 ≤ x) && decide (x ≤ 200))) := by
  unfold a7s b5s
  cases decide (0 ≤ x) <;> rfl
def b7q (names : List Rt.Bs) (f : Facts) (weights : List Frac) : Bool :=
  (((((f.Lifts.length : Int) == (names.length : Int)) && ((weights.length : Int) == (names.length : Int))) && (decide (0 ≤ f.Persons) && decide (f.Persons ≤ 1000))) && (decide (0 ≤ f.Flats) && decide (f.Flats ≤ 1000))) &&
    !(f.Lifts.any fun x => !(decide (0 ≤ x) && decide (x ≤ 200))) && !(weights.any badF)
theorem andE {c d : Bool} {x : Nat → Option Bool} (h : c = true → Ev x d) : Ev (fun n => bif c then x n else some false) (c && d) := by
  cases c
  · exact Ev.else rfl (Ev.pure _)
  · exact Ev.then rfl (h rfl)
theorem c2m {names : List Rt.Bs} {f : Facts} {weights : List Frac} {k : Nat} (hw : Lim k weights) (hk : k ≤ 30) (hl : f.Lifts.length ≤ 1000000) (hwl : weights.length ≤ 1000000) : Ev (fun n => b2y n f weights (names.length : Int)) (b7q names f weights) := by
  unfold b2y b7q
  refine Ev.bind (andE fun _ => Ev.pure _) ?_
  refine Ev.bind (andE fun _ => Ev.bind (d1f _ _) (Ev.pure _)) ?_
  refine Ev.bind (andE fun _ => Ev.bind (d1f _ _) (Ev.pure _)) ?_
  refine Ev.bind (andE fun _ => Ev.bind (c0u hl a7s _ d1y) (Ev.pure _)) ?_
  exact Ev.bind (andE fun _ => Ev.bind (c0o hwl a7v badF (fun y hy => d1s (hw y hy) hk)) (Ev.pure _)) (Ev.pure _)
theorem c3q {names : List Rt.Bs} {f : Facts} {weights : List Frac} {k : Nat} (hw : Lim k weights) (h : b7q names f weights = true) : ∃ ws : List Rat, weights = ws.map toF ∧ RF names f ws ∧ ∀ w, w ∈ ws → SmF k w := by
  unfold b7q at h
  simp only [Bool.and_eq_true, Bool.not_eq_true', decide_eq_true_eq, beq_iff_eq] at h
  obtain ⟨⟨⟨⟨⟨h1, h2⟩, h3⟩, h4⟩, h5⟩, h6⟩ := h
  obtain ⟨ws, rfl, g1, g2⟩ := b8u hw h6
  rw [List.length_map] at h2
  refine ⟨ws, rfl, ⟨by omega, by omega, h3.1, h3.2, h4.1, h4.2, fun n hn => ?_, g1⟩, g2⟩
  rw [List.any_eq_false] at h5
  have := h5 n hn
  simpa using this
theorem c5w {names : List Rt.Bs} {f : Facts} {ws : List Rat} (h : RF names f ws) : b7q names f (ws.map toF) = true := by
  unfold b7q
  have h1 := h.hl
  have h2 := h.hw
  rw [c7a h.w1, List.length_map]
  have h5 : (f.Lifts.any fun x => !(decide (0 ≤ x) && decide (x ≤ 200))) = false := by
    rw [List.any_eq_false]
    intro n hn
    have := h.l1 n hn
    simp [this]
  rw [h5]
  simp [h.p1, h.p2, h.f1, h.f2, h1, h2]
theorem c2p {r : Rat} {k : Nat} (h : SmF k r) (hk : k < 1000000) : Ev (fun n => b2h n (toF r)) (toF r) := by
  unfold b2h
  have h1 := (b5h h).1
  have h2 := (b5h h).2
  exact Ev.bind (Ev.bind (b1q (by omega)) (Ev.bind (b1q (by omega)) (Ev.pure _))) (Ev.pure _)
def fv (names : List Rt.Bs) (f : Facts) (ws : List Rat) (t : Tariff) : Rat := num (mkE names f ws) t.Fee
theorem d0m {ws : List Rat} {k : Nat} (h : ∀ w, w ∈ ws → SmF k w) : Lim k (ws.map toF) := by
  intro x hx
  obtain ⟨w, hw, rfl⟩ := List.mem_map.1 hx
  exact b5h (h w hw)
section
variable {names : List Rt.Bs} {f : Facts} {t : Tariff} (hx : Fit t.Fee) (hn : names.length < 4611686018427387904)
include hx hn
theorem c6b {weights : List Frac} {k : Nat} (hw : Lim k weights) (hk : k ≤ 30) (hk4 : 4 ≤ k) (hl : f.Lifts.length ≤ 1000000) (hwl : weights.length ≤ 1000000) :
    Tt (fun r => (r.2 = 0 ∧ Chk names t ∧ ∃ ws : List Rat, weights = ws.map toF ∧ RF names f ws ∧ (∀ w, w ∈ ws → SmF k w) ∧ SmF 3000 (fv names f ws t) ∧ r.1 = toF (fv names f ws t)) ∨ (r.2 ≠ 0 ∧ r.1 = zeroF)) (fun n => a6e n t names f weights) := by
  unfold a6e
  refine Tt.bind (c6p hx names hn) fun e he => ?_
  refine Tt.bif (fun h => Tt.pure (.inr ⟨by simpa using h, rfl⟩)) (fun h => ?_)
  have hc : Chk names t := he.1 (by simpa using h)
  refine Tt.evb (c2m hw hk hl hwl) (Tt.bif (fun h => Tt.pure (.inr ⟨by decide, rfl⟩)) (fun h => ?_))
  obtain ⟨ws, rfl, hrf, hsm⟩ := c3q hw (show b7q names f weights = true by simpa using h)
  obtain ⟨j, hj, ht⟩ := hc.2.2
  have hcn : cnt t.Fee ≤ 100 := hc.2.1.2.1.1.2
  have h5 := c1a hrf hk4 hk hsm hn ht hj (by omega)
  have h6 := c0e hrf hk4 hk hsm hn ht hj (by omega)
  have h7 : k * cnt t.Fee ≤ 3000 := by have := Nat.mul_le_mul hk hcn; omega
  have h8 := h6.mono h7
  refine Tt.evb h5 (Tt.evb (c2p h8 (by decide)) (Tt.pure (.inl ⟨rfl, hc, ws, rfl, hrf, hsm, h8, rfl⟩)))
theorem c7i {ws : List Rat} {k : Nat} (hsm : ∀ w, w ∈ ws → SmF k w) (hk : k ≤ 30) (hk4 : 4 ≤ k) (hl : names.length ≤ 1000000) (hc : Chk names t) (hrf : RF names f ws) :
    Ev (fun n => a6e n t names f (ws.map toF)) (toF (fv names f ws t), 0) ∧ SmF 3000 (fv names f ws t) := by
  have h1 := hrf.hl
  have h2 := hrf.hw
  obtain ⟨j, hj, ht⟩ := hc.2.2
  have hcn : cnt t.Fee ≤ 100 := hc.2.1.2.1.1.2
  have h5 := c1a hrf hk4 hk hsm hn ht hj (by omega)
  have h6 := c0e hrf hk4 hk hsm hn ht hj (by omega)
  have h7 : k * cnt t.Fee ≤ 3000 := by have := Nat.mul_le_mul hk hcn; omega
  have h8 := h6.mono h7
  refine ⟨?_, h8⟩
  unfold a6e
  obtain ⟨e, he, hq⟩ := c6p hx names hn
  obtain rfl := hq.2 hc
  refine Ev.bind he (Ev.else rfl ?_)
  refine Ev.bind (c2m (d0m hsm) hk (by omega) (by rw [List.length_map]; omega)) ?_
  rw [c5w hrf]
  exact Ev.else rfl (Ev.bind h5 (Ev.bind (c2p h8 (by decide)) (Ev.pure _)))
end
structure FewS (t : Tariff) (names : List Rt.Bs) (f : Facts) (weights : List Frac) : Prop where
  fit : Fit t.Fee
  nl : names.length ≤ 8
  ll : f.Lifts.length ≤ 8
  wl : weights.length ≤ 8
  lim : Lim 4 weights
theorem c8f (weights : List Frac) (kont : Nat → Option Bool) (P : Prop) (hk : Tt (fun b => b = true → P ∧ weights.length ≤ 8) kont) : ∀ (us : List Frac) (i : Nat), weights.drop i = us → i ≤ 10 →
    ∃ N r, (r = true → (P ∧ weights.length ≤ 8) ∧ Lim 4 us) ∧ ∀ n m, N ≤ n → 12 - i < m → a5i n weights (kont n) m (i : Int) = some r
  | [], i, hd, hi => by
    obtain ⟨r, ⟨N, h⟩, hr⟩ := hk
    refine ⟨N, r, fun h => ⟨hr h, fun w hw => by cases hw⟩, fun n m hn hm => ?_⟩
    obtain ⟨m, rfl⟩ := left hm
    rw [a9c, a9t hd]; exact h n hn
  | x :: us, i, hd, hi => by
    obtain ⟨h1, h2, h3⟩ := Rt.drop_cons hd
    by_cases h10 : i < 10
    · obtain ⟨b, ⟨N1, e1⟩⟩ : ∃ b, Ev (fun n => a8m n x 4) b ∧ (b = true → x.P.Digits.length ≤ 4 ∧ x.Q.Digits.length ≤ 4) := ⟨_, d1l x 4, c0h⟩
      obtain ⟨⟨N1, e1⟩, hb⟩ := And.intro N1 e1
      obtain ⟨N, r, hr, ih⟩ := c8f weights kont P hk us (i + 1) h2 (by omega)
      refine ⟨max N N1, bif b then r else false, ?_, fun n m hn hm => ?_⟩
      · cases b with
        | false => intro h; cases h
        | true =>
          intro h
          obtain ⟨g1, g2⟩ := hr h
          refine ⟨g1, fun w hw => ?_⟩
          rcases List.mem_cons.1 hw with rfl | hw
          · exact hb rfl
          · exact g2 w hw
      · obtain ⟨m, rfl⟩ : ∃ j, m = j + 1 := ⟨m - 1, by omega⟩
        have e1 : a8m n x 4 = some b := e1 n (by omega)
        rw [a9c, a4w hd, cond_true, Option.bind_some, decide_eq_true (show (i : Int) < 10 by omega), cond_true, h1, Option.bind_some, e1, Option.bind_some]
        cases b with
        | false => rfl
        | true => rw [Bool.not_true, cond_false, Rt.inc64 (by omega), ih n m (by omega) (by omega)]; rfl
    · obtain ⟨r, ⟨N, h⟩, hr⟩ := hk
      refine ⟨N, r, fun h => ⟨hr h, ?_⟩, fun n m hn hm => ?_⟩
      · have := (hr h).2; omega
      · obtain ⟨m, rfl⟩ := left hm
        rw [a9c, a4w hd, cond_true, Option.bind_some, decide_eq_false (show ¬(i : Int) < 10 by omega)]; exact h n hn
theorem c8q (names : List Rt.Bs) (kont : Nat → Option Bool) (P : Prop) (hk : Tt (fun b => b = true → P) kont) : ∀ (us : List Rt.Bs) (i : Nat), names.drop i = us → i ≤ 10 →
    ∃ N r, (r = true → P) ∧ ∀ n m, N ≤ n → 12 - i < m → a6n n names (kont n) m (i : Int) = some r
  | [], i, hd, hi => by
    obtain ⟨r, ⟨N, h⟩, hr⟩ := hk
    refine ⟨N, r, hr, fun n m hn hm => ?_⟩
    obtain ⟨m, rfl⟩ := left hm
    rw [a9d, a9t hd]; exact h n hn
  | x :: us, i, hd, hi => by
    obtain ⟨h1, h2, h3⟩ := Rt.drop_cons hd
    by_cases h10 : i < 10
    · obtain ⟨N, r, hr, ih⟩ := c8q names kont P hk us (i + 1) h2 (by omega)
      refine ⟨N, bif decide (30 < (x.length : Int)) then false else r, ?_, fun n m hn hm => ?_⟩
      · cases decide (30 < (x.length : Int)) with
        | true => intro h; cases h
        | false => exact hr
      · obtain ⟨m, rfl⟩ : ∃ j, m = j + 1 := ⟨m - 1, by omega⟩
        rw [a9d, a4w hd, cond_true, Option.bind_some, decide_eq_true (show (i : Int) < 10 by omega), cond_true, h1, Option.bind_some]
        cases decide (30 < (x.length : Int)) with
        | true => rfl
        | false => rw [cond_false, Rt.inc64 (by omega), ih n m (by omega) (by omega)]; rfl
    · obtain ⟨r, ⟨N, h⟩, hr⟩ := hk
      refine ⟨N, r, hr, fun n m hn hm => ?_⟩
      obtain ⟨m, rfl⟩ := left hm
      rw [a9d, a4w hd, cond_true, Option.bind_some, decide_eq_false (show ¬(i : Int) < 10 by omega)]; exact h n hn
theorem c7h {P : Prop} {c d : Bool} (h : c = true → d = true → P) : Tt (fun b => b = true → P) (fun _ : Nat => bif c then some d else some false) := by
  cases c
  · exact Tt.pure fun h => (by cases h)
  · exact Tt.pure fun h2 => h rfl h2
theorem d2f (t : Tariff) (names : List Rt.Bs) (f : Facts) (weights : List Frac) : Tt (fun b => b = true → FewS t names f weights) (fun n => b1h n t names f weights) := by
  unfold b1h
  have hk : Tt (fun b => b = true → (Fit t.Fee ∧ names.length ≤ 8 ∧ f.Lifts.length ≤ 8) ∧ weights.length ≤ 8) (fun n =>
      (a8l n t.Fee 60 12).bind fun v1 =>
      (bif v1 then some (decide ((t.Name.length : Int) ≤ 30)) else some false).bind fun v2 =>
      (bif v2 then some (decide ((names.length : Int) ≤ 8)) else some false).bind fun v3 =>
      (bif v3 then some (decide ((f.Lifts.length : Int) ≤ 8)) else some false).bind fun v4 =>
      (bif v4 then some (decide ((weights.length : Int) ≤ 8)) else some false).bind fun v5 => some v5) := by
    refine Tt.bind (d2i t.Fee 60 12 (by decide) (by decide) (by decide) (by decide)) fun v1 h1 => ?_
    refine Tt.bind (P := fun b => b = true → Fit t.Fee) (c7h fun h _ => h1 h) fun v2 h2 => ?_
    refine Tt.bind (P := fun b => b = true → Fit t.Fee ∧ names.length ≤ 8) (c7h fun h h5 => ⟨h2 h, by have := of_decide_eq_true h5; omega⟩) fun v3 h3 => ?_
    refine Tt.bind (P := fun b => b = true → Fit t.Fee ∧ names.length ≤ 8 ∧ f.Lifts.length ≤ 8) (c7h fun h h5 => ⟨(h3 h).1, (h3 h).2, by have := of_decide_eq_true h5; omega⟩) fun v4 h4 => ?_
    refine Tt.bind (P := fun b => b = true → (Fit t.Fee ∧ names.length ≤ 8 ∧ f.Lifts.length ≤ 8) ∧ weights.length ≤ 8) (c7h fun h h5 => ⟨h4 h, by have := of_decide_eq_true h5; omega⟩) fun v5 h5 => ?_
    exact Tt.pure h5
  obtain ⟨N2, r2, hr2, e2⟩ := c8f weights _ _ hk weights 0 rfl (by omega)
  obtain ⟨N, r, hr, e⟩ := c8q names (fun n => a5i n weights ((fun n =>
      (a8l n t.Fee 60 12).bind fun v1 =>
      (bif v1 then some (decide ((t.Name.length : Int) ≤ 30)) else some false).bind fun v2 =>
      (bif v2 then some (decide ((names.length : Int) ≤ 8)) else some false).bind fun v3 =>
      (bif v3 then some (decide ((f.Lifts.length : Int) ≤ 8)) else some false).bind fun v4 =>
      (bif v4 then some (decide ((weights.length : Int) ≤ 8)) else some false).bind fun v5 => some v5) n) n 0) _ ⟨r2, ⟨max N2 13, fun n hn => e2 n n (by omega) (by omega)⟩, hr2⟩ names 0 rfl (by omega)
  exact ⟨r, ⟨max N 13, fun n hn => e n n (by omega) (by omega)⟩, fun h => ⟨(hr h).1.1.1, (hr h).1.1.2.1, (hr h).1.1.2.2, (hr h).1.2, (hr h).2⟩⟩
theorem small36 : Ev b0b true := ⟨400, fun n hn => by
  obtain ⟨m, rfl⟩ := Nat.le.dest hn
  rw [Nat.add_comm]
  exact (show b0b (m + 400) = some true by kernel_rfl)⟩
end Go.Proofs.YtknpjecpcmajiaaGreat.Fe

namespace Go.Proofs.YtknpjecpcmajiaaGreat.D
open Go Rt M
theorem c9e (n : Nat) (l : List Int) (kont : Int → Option (List Int)) (hl : l.length < 1099511627776) : ∀ (r : Nat) (c : List Int) (m : Nat), c.getLast? ≠ some 0 → l = c ++ List.replicate r 0 → ∀ k, k ≤ r → k < m →
    a4v n l kont m ((c.length + k : Nat) : Int) = kont (c.length : Int) := by
  intro r c m hc hlc k
  induction k generalizing m with
  | zero =>
    intro _ hm
    obtain ⟨m, rfl⟩ : ∃ m', m = m' + 1 := ⟨m - 1, by omega⟩
    unfold a4v
    rcases List.eq_nil_or_concat c with rfl | ⟨p, d, rfl⟩
    · rfl
    · rw [List.concat_eq_append] at *
      have hd : (d == 0) = false := by simpa using hc
      have e0 : isub .i64 (((p ++ [d]).length + 0 : Nat) : Int) 1 = (p.length : Int) := by rw [a2i (by simp <;> omega) (by rw [hlc] at hl; simp at hl ⊢; try omega)]; simp
      have e1 : decide ((0 : Int) < (((p ++ [d]).length + 0 : Nat) : Int)) = true := by simp <;> omega
      have e2 : ix l (p.length : Int) = some d := by rw [hlc, List.append_assoc]; exact a7l p d _ rfl
      rw [e1, e0, e2, cond_true, Option.bind_some, Option.bind_some, hd, cond_false]; rfl
  | succ k ih =>
    intro hk hm
    obtain ⟨m, rfl⟩ : ∃ m', m = m' + 1 := ⟨m - 1, by omega⟩
    have hlen : l.length = c.length + r := by rw [hlc]; simp
    unfold a4v
    have e0 : isub .i64 ((c.length + (k + 1) : Nat) : Int) 1 = ((c.length + k : Nat) : Int) := by rw [a2i (by omega) (by omega)]; omega
    have e1 : decide ((0 : Int) < ((c.length + (k + 1) : Nat) : Int)) = true := by simp; omega
    have e2 : ix l ((c.length + k : Nat) : Int) = some 0 := by
      rw [b2u, hlc, List.getElem?_append_right (by omega), show c.length + k - c.length = k by omega, List.getElem?_replicate, if_pos (by omega)]
    rw [e1, e0, e2, cond_true, Option.bind_some, Option.bind_some, show ((0 : Int) == 0) = true from rfl, cond_true]
    exact ih m (by omega) (by omega)
theorem b3a {l : List Int} (hl : InR l) (hlen : l.length < 1099511627776) {n : Nat} (hn : l.length < n) : a2b n l = some (dig (val l).toNat) := by
  obtain ⟨r, hr⟩ := split_dig hl
  have h1 : l.length = (dig (val l).toNat).length + r := by conv => lhs; rw [hr]
                                                            simp
  unfold a2b
  have h2 := c9e n l (fun (nx2 : Int) => (lsl l 0 nx2).bind fun l2 => (app 8 [] l2).bind fun l3 => some l3) hlen r (dig (val l).toNat) n (b4u _) hr r (Nat.le_refl _) (by omega)
  rw [← h1] at h2
  rw [h2]
  have h3 := c3a (l := l) (p := 0) (q := (dig (val l).toNat).length) (by omega) (by omega)
  rw [show ((0 : Nat) : Int) = 0 from rfl] at h3
  rw [h3, Option.bind_some, List.drop_zero]
  have h4 : ∀ c : List Int, l = c ++ List.replicate r 0 → l.take c.length = c := fun c hc => by rw [hc]; exact List.take_left
  rw [h4 _ hr, b4k (by simp; omega)]; rfl
theorem d2b {l : List Int} (s : Int) (hl : InR l) (hlen : l.length < 1099511627776) {n : Nat} (hn : l.length < n) : a3j n s l = some (if (val l).toNat = 0 then ⟨0, []⟩ else ⟨s, dig (val l).toNat⟩) := by
  unfold a3j
  rw [b3a hl hlen hn, Option.bind_some]
  by_cases h : (val l).toNat = 0
  · rw [h, dig_zero, if_pos rfl]; rfl
  · have := List.length_pos_iff.2 (b3u h)
    rw [if_neg h, show (((dig (val l).toNat).length : Int) == 0) = false from beq_false_of_ne (by omega), cond_false]
theorem b5a (n : Nat) (l : List Int) (i : Nat) : a2v n l (i : Int) = some ((l.drop i).headD 0) := by
  unfold a2v
  by_cases h : i < l.length
  · rw [show decide ((i : Int) < (l.length : Int)) = true by simpa using h, cond_true, b2u, List.getElem?_eq_getElem h, Option.bind_some, List.drop_eq_getElem_cons h]; rfl
  · rw [show decide ((i : Int) < (l.length : Int)) = false by simpa using h, cond_false, List.drop_of_length_le (by omega)]; rfl
theorem c2w (n : Nat) (a : Big) (kont : Option Bool) (hl : a.Digits.length < 1099511627776) : ∀ (us : List Int) (i m : Nat), a.Digits.drop i = us → us.length < m → a4h n a kont m (i : Int) = bif us.all okd then kont else some false
  | [], i, m + 1, hd, _ => by
    unfold a4h
    have := drop_nil hd
    rw [show decide ((i : Int) < (a.Digits.length : Int)) = false by simp; omega]; rfl
  | x :: xs, i, m + 1, hd, hm => by
    unfold a4h
    obtain ⟨f1, f2, f3⟩ := drop_cons hd
    rw [show decide ((i : Int) < (a.Digits.length : Int)) = true by simp; omega, cond_true, f1, Option.bind_some]
    have e1 : ((bif decide (x < 0) then some true else (some x).bind fun ex3 => some (decide (1048576 ≤ ex3))) : Option Bool) = some (!okd x) := by
      unfold okd
      by_cases h : x < 0
      · rw [show decide (x < 0) = true by simpa using h, show decide (0 ≤ x) = false by simp; omega]; rfl
      · rw [show decide (x < 0) = false by simpa using h, show decide (0 ≤ x) = true by simp; omega, cond_false, Option.bind_some]
        by_cases h2 : x < 1048576
        · rw [show decide (1048576 ≤ x) = false by simp; omega, show decide (x < 1048576) = true by simpa using h2]; rfl
        · rw [show decide (1048576 ≤ x) = true by simp; omega, show decide (x < 1048576) = false by simpa using h2]; rfl
    rw [e1, Option.bind_some, List.all_cons]
    cases h : okd x with
    | false => rfl
    | true =>
      rw [inc64 (by omega)]
      have := c2w n a kont hl xs (i + 1) m f2 (by simpa using hm)
      simpa using this
  | _, _, 0, _, h => by omega
theorem c8a {a : Big} (hl : a.Digits.length < 1099511627776) {n : Nat} (hn : a.Digits.length < n) : a4f n a = some (b0j a) := by
  unfold a4f
  have h := fun kont => c2w n a kont hl a.Digits 0 n rfl hn
  rw [show ((0 : Nat) : Int) = 0 from rfl] at h
  rw [h]
  unfold b0j
  cases ha : a.Digits.all okd with
  | false => rfl
  | true =>
    rw [cond_true, Bool.true_and]
    rcases List.eq_nil_or_concat a.Digits with h0 | ⟨p, d, h0⟩
    · rw [h0]
      by_cases hs : a.Sign = 0
      · rw [hs]; rfl
      · have : (a.Sign == 0) = false := by simpa using hs
        rw [if_pos rfl, this]
        cases decide (a.Sign < -1) <;> cases decide (1 < a.Sign) <;> rfl
    · rw [List.concat_eq_append] at h0
      have hne : a.Digits ≠ [] := by rw [h0]; simp
      have e1 : ((a.Digits.length : Int) == 0) = false := by rw [h0]; simp; omega
      have e2 : isub .i64 (a.Digits.length : Int) 1 = (p.length : Int) := by rw [a2i (by omega) (by omega), h0]; simp
      have e3 : ix a.Digits (p.length : Int) = some d := by rw [h0]; exact a7l p d [] rfl
      rw [e1, cond_false, if_neg hne, e2, e3]
      have e4 : a.Digits.getLast?.getD 0 = d := by rw [h0]; simp
      rw [e4]
      by_cases h1 : a.Sign < -1
      · rw [show decide (a.Sign < -1) = true by simpa using h1, show (a.Sign == 1) = false by simp; omega, show (a.Sign == -1) = false by simp; omega]; rfl
      · rw [show decide (a.Sign < -1) = false by simpa using h1]
        by_cases h2 : 1 < a.Sign
        · rw [show decide (1 < a.Sign) = true by simpa using h2, show (a.Sign == 1) = false by simp; omega, show (a.Sign == -1) = false by simp; omega]; rfl
        · rw [show decide (1 < a.Sign) = false by simpa using h2]
          have : a.Sign = -1 ∨ a.Sign = 0 ∨ a.Sign = 1 := by omega
          rcases this with h | h | h <;> rw [h] <;> rfl
end Go.Proofs.YtknpjecpcmajiaaGreat.D

namespace Go.Proofs.YtknpjecpcmajiaaGreat.D
open Go Rt M
theorem a9w (l : List Int) (i : Nat) : val (l.drop i) = (l.drop i).headD 0 + 1048576 * val (l.drop (i + 1)) := by
  rw [← List.drop_drop]
  cases l.drop i with
  | nil => rfl
  | cons d l => rfl
theorem b0s {l : List Int} {i : Nat} (h : l.length ≤ i) : val (l.drop i) = 0 := by rw [List.drop_of_length_le h]; rfl
theorem c5u {a b : List Int} (ha : InR a) (hb : InR b) (i : Nat) (h : val (a.drop i) < val (b.drop i)) : val a < val b := by
  induction i with
  | zero => simpa using h
  | succ i ih =>
    apply ih
    rw [a9w a i, a9w b i]
    have h1 := (InR.drop ha i).headD
    have h2 := (InR.drop hb i).headD
    omega
theorem c8d (n : Nat) (a b : List Int) (ha : InR a) (hb : InR b) (hla : a.length < 1099511627776) (hlb : b.length < 1099511627776) : ∀ (i m : Nat), i < 1099511627776 → i < m → val (a.drop i) = val (b.drop i) →
    a4u n a b (some false) m ((i : Int) - 1) = some (decide (val a < val b))
  | 0, m + 1, _, _, h => by
    unfold a4u
    rw [show decide ((0 : Int) ≤ ((0 : Nat) : Int) - 1) = false by decide, cond_false]
    simp only [List.drop_zero] at h
    rw [h]; simp
  | i + 1, m + 1, hi, hm, h => by
    unfold a4u
    rw [show ((i + 1 : Nat) : Int) - 1 = (i : Int) by omega, show decide (0 ≤ (i : Int)) = true by simp, cond_true, b5a, b5a, Option.bind_some, Option.bind_some]
    have e1 := a9w a i
    have e2 := a9w b i
    by_cases hd : (a.drop i).headD 0 = (b.drop i).headD 0
    · rw [show ((a.drop i).headD 0 != (b.drop i).headD 0) = false by simpa using hd, cond_false, a2i (by omega) (by omega)]
      exact c8d n a b ha hb hla hlb i m (by omega) (by omega) (by rw [e1, e2, hd, h])
    · rw [show ((a.drop i).headD 0 != (b.drop i).headD 0) = true by simpa using hd, cond_true, Option.bind_some, Option.bind_some]
      congr 1
      by_cases hlt : (a.drop i).headD 0 < (b.drop i).headD 0
      · have := c5u ha hb i (by omega)
        rw [decide_eq_true hlt, decide_eq_true this]
      · have := c5u hb ha i (by omega)
        have h3 : ¬ val a < val b := by omega
        rw [decide_eq_false hlt, decide_eq_false h3]
  | _, 0, _, hm, _ => by omega
theorem d1u {a b : List Int} (ha : InR a) (hb : InR b) (hla : a.length < 1099511627776) (hlb : b.length < 1099511627776) {n : Nat} (hn : max a.length b.length < n) : b0a n a b = some (decide (val a < val b)) := by
  unfold b0a
  have e : isub .i64 (imax (a.length : Int) (b.length : Int)) 1 = ((max a.length b.length : Nat) : Int) - 1 := by
    have : imax (a.length : Int) (b.length : Int) = ((max a.length b.length : Nat) : Int) := by unfold imax; split <;> omega
    rw [this, a2i (by omega) (by omega)]
  rw [e]
  exact c8d n a b ha hb hla hlb _ n (by omega) hn (by rw [b0s (by omega), b0s (by omega)])
theorem c8o (n : Nat) (a b : List Int) (kont : List Int → Option (List Int)) (ha : InR a) (hb : InR b) (hla : a.length < 1073741824) (hlb : b.length < 1073741824) (V : Int) : ∀ (m i : Nat) (c : Int) (pre : List Int),
    pre.length = i → InR pre → 0 ≤ c → c ≤ 1 → val pre + pw i * (c + val (a.drop i) + val (b.drop i)) = V → (i ≤ max a.length b.length ∨ (i = max a.length b.length + 1 ∧ c = 0)) → max a.length b.length + 2 ≤ i + m →
    ∃ out, a5j n a b kont m c (i : Int) pre = kont out ∧ InR out ∧ val out = V ∧ out.length ≤ max a.length b.length + 1
  | 0, i, _, _, _, _, _, _, _, h, h2 => by omega
  | m + 1, i, c, pre, hp, hpr, h0, h1, hv, hi, hm => by
    unfold a5j
    have xr := (InR.drop ha i).headD
    have yr := (InR.drop hb i).headD
    have ea := a9w a i
    have eb := a9w b i
    by_cases hgo : i < a.length ∨ i < b.length ∨ 0 < c
    · have e1 : (((bif decide ((i : Int) < (a.length : Int)) then some true else some (decide ((i : Int) < (b.length : Int)))) : Option Bool).bind fun v2 => (bif v2 then some true else some (decide (0 < c)) : Option Bool)) = some true := by
        by_cases g1 : i < a.length
        · rw [show decide ((i : Int) < (a.length : Int)) = true by simpa using g1]; rfl
        · rw [show decide ((i : Int) < (a.length : Int)) = false by simpa using g1]
          by_cases g2 : i < b.length
          · rw [show decide ((i : Int) < (b.length : Int)) = true by simpa using g2]; rfl
          · rw [show decide ((i : Int) < (b.length : Int)) = false by simpa using g2, show decide (0 < c) = true by simp; omega]; rfl
      have es : iadd .i64 (iadd .i64 ((a.drop i).headD 0) ((b.drop i).headD 0)) c = (a.drop i).headD 0 + (b.drop i).headD 0 + c := by rw [a3o (x := (a.drop i).headD 0) (y := (b.drop i).headD 0) (by omega) (by omega), a3o (by omega) (by omega)]
      generalize hx : (a.drop i).headD 0 = x at *
      generalize hy : (b.drop i).headD 0 = y at *
      have hnext := c8o n a b kont ha hb hla hlb V m (i + 1) ((x + y + c) / 1048576) (pre ++ [(x + y + c) % 1048576]) (by simp [hp]) (hpr.append (InR.cons (by omega) (by omega) InR.nil)) (by omega) (by omega)
        (by
          rw [val_append, hp]
          have e3 : val [(x + y + c) % 1048576] = (x + y + c) % 1048576 := by simp [val]
          rw [e3, show pw (i + 1) = 1048576 * pw i from rfl, ← hv, ea, eb]
          have hdm : x + y + c = (x + y + c) % 1048576 + 1048576 * ((x + y + c) / 1048576) := by omega
          generalize (x + y + c) % 1048576 = r at *
          generalize (x + y + c) / 1048576 = q at *
          generalize val (a.drop (i + 1)) = A at *
          generalize val (b.drop (i + 1)) = B at *
          generalize pw i = p at *
          have hc : c = r + 1048576 * q - x - y := by omega
          subst hc
          grind) (by
          by_cases g : i < max a.length b.length
          · left; omega
          · right
            rw [List.drop_of_length_le (by omega)] at hx hy
            simp at hx hy
            omega) (by omega)
      obtain ⟨out, h3, h4, h5, h6⟩ := hnext
      refine ⟨out, ?_, h4, h5, h6⟩
      rw [← h3]
      rw [← Option.bind_assoc, e1, Option.bind_some, cond_true, b5a, b5a, Option.bind_some, Option.bind_some, hx, hy, es, b6v (by omega) (by decide), Option.bind_some, b4k (by simp; omega), Option.bind_some, b7w (by omega) (by omega) (by decide), Option.bind_some, inc64 (by omega)]
    · refine ⟨pre, ?_, hpr, ?_, by omega⟩
      · rw [show decide ((i : Int) < (a.length : Int)) = false by simp; omega, show decide ((i : Int) < (b.length : Int)) = false by simp; omega, show decide (0 < c) = false by simp; omega]; rfl
      · rw [b0s (by omega), b0s (by omega)] at hv
        rw [← hv, show c = 0 by omega]; simp
theorem d0t {a b : List Int} (ha : InR a) (hb : InR b) (hla : a.length < 1073741824) (hlb : b.length < 1073741824) : Ev (fun n => a8r n a b) (dig (val a + val b).toNat) := by
  refine ⟨max a.length b.length + 3, fun n hn => ?_⟩
  show a8r n a b = _
  unfold a8r
  obtain ⟨out, h1, h2, h3, h4⟩ := c8o n a b (fun (l2 : List Int) => (a2b n l2).bind fun v1 => some v1) ha hb hla hlb (val a + val b) n 0 0 [] rfl InR.nil (by decide) (by decide) (by simp [val, pw]) (.inl (by omega)) (by omega)
  refine Eq.trans h1 ?_
  show (a2b n out).bind _ = _
  rw [b3a h2 (by omega) (by omega), h3]; rfl
end Go.Proofs.YtknpjecpcmajiaaGreat.D

namespace Go.Proofs.YtknpjecpcmajiaaGreat.D
open Go Rt M
theorem c1x (n : Nat) (a b : List Int) (kont : List Int → Option (List Int)) (ha : InR a) (hb : InR b) (hla : a.length < 1073741824) (hlb : b.length ≤ a.length) (V : Int) (hV : 0 ≤ V) : ∀ (us : List Int) (m i : Nat) (c : Int) (pre : List Int),
    a.drop i = us → us.length < m → pre.length = i → InR pre → 0 ≤ c → c ≤ 1 → val pre + pw i * (val us - val (b.drop i) - c) = V →
    ∃ out, a3x n a b kont m c (i : Int) pre = kont out ∧ InR out ∧ val out = V ∧ out.length ≤ max a.length i
  | [], m + 1, i, c, pre, hd, _, hp, hpr, h0, h1, hv => by
    have hi := drop_nil hd
    refine ⟨pre, ?_, hpr, ?_, by omega⟩
    · unfold a3x
      rw [show decide ((i : Int) < (a.length : Int)) = false by simp; omega]; rfl
    · rw [b0s (by omega)] at hv
      have h2 := val_lt hpr
      rw [hp] at h2
      have hc : c = 0 := by
        rcases (show c = 0 ∨ c = 1 by omega) with h | h
        · exact h
        · subst h; simp only [val] at hv; exfalso
          have : pw i * (0 - 0 - 1) = -pw i := by grind
          omega
      rw [← hv, hc]; simp [val]
  | x :: us, m + 1, i, c, pre, hd, hm, hp, hpr, h0, h1, hv => by
    obtain ⟨f1, f2, f3⟩ := drop_cons hd
    have xr := (show InR (x :: us) by rw [← hd]; exact InR.drop ha i).head
    have yr := (InR.drop hb i).headD
    have eb := a9w b i
    unfold a3x
    rw [show decide ((i : Int) < (a.length : Int)) = true by simpa using f3, cond_true, f1, Option.bind_some, b5a, Option.bind_some]
    generalize hy : (b.drop i).headD 0 = y at *
    have es : isub .i64 (isub .i64 x y) c = x - y - c := by rw [a2i (x := x) (y := y) (by omega) (by omega), a2i (by omega) (by omega)]
    rw [es]
    have key : ∀ (q r : Int), x - y - c = r - 1048576 * q → 0 ≤ q → q ≤ 1 → 0 ≤ r → r < 1048576 → ∃ out, ((app 8 pre [r]).bind fun l3 => a3x n a b kont m q (iadd .i64 (i : Int) 1) l3) = kont out ∧ InR out ∧ val out = V ∧ out.length ≤ max a.length i := by
      intro q r hqr hq0 hq1 hr0 hr1
      obtain ⟨out, h3, h4, h5, h6⟩ := c1x n a b kont ha hb hla hlb V hV us m (i + 1) q (pre ++ [r]) f2 (by simpa using hm) (by simp [hp]) (hpr.append (InR.cons hr0 hr1 InR.nil)) hq0 hq1 (by
        rw [val_append, hp]
        have e3 : val [r] = r := by simp [val]
        rw [e3, show pw (i + 1) = 1048576 * pw i from rfl, ← hv, eb]
        simp only [val]
        generalize val us = A at *
        generalize val (b.drop (i + 1)) = B at *
        generalize pw i = p at *
        have hc : c = x - y - r + 1048576 * q := by omega
        subst hc
        grind)
      exact ⟨out, by rw [b4k (by simp; omega), Option.bind_some, inc64 (by omega), h3], h4, h5, by omega⟩
    by_cases hn : x - y - c < 0
    · rw [show decide (x - y - c < 0) = true by simpa using hn, cond_true, Option.bind_some, a3o (by omega) (by omega)]
      exact key 1 (x - y - c + 1048576) (by omega) (by omega) (by omega) (by omega) (by omega)
    · rw [show decide (x - y - c < 0) = false by simpa using hn, cond_false, Option.bind_some]
      exact key 0 (x - y - c) (by omega) (by omega) (by omega) (by omega) (by omega)
  | _, 0, _, _, _, _, h, _, _, _, _, _ => by omega
theorem c7x {a b : List Int} (ha : InR a) (hb : InR b) (hla : a.length < 1073741824) (hlb : b.length ≤ a.length) (h : val b ≤ val a) : Ev (fun n => a4b n a b) (dig (val a - val b).toNat) := by
  refine ⟨a.length + 2, fun n hn => ?_⟩
  show a4b n a b = _
  unfold a4b
  obtain ⟨out, h1, h2, h3, h4⟩ := c1x n a b (fun (l2 : List Int) => (a2b n l2).bind fun v1 => some v1) ha hb hla hlb (val a - val b) (by omega) a n 0 0 [] rfl (by omega) rfl InR.nil (by decide) (by decide) (by simp [val, pw])
  refine Eq.trans h1 ?_
  show (a2b n out).bind _ = _
  rw [b3a h2 (by omega) (by omega), h3]; rfl
theorem c6o (P : List Int) (z : Int) (S : List Int) : val (P ++ z :: S) = val P + pw P.length * (z + 1048576 * val S) := by rw [val_append]; rfl
theorem c2s (n : Nat) (a b : List Int) (i : Nat) (x : Int) (kont : List Int → Option (List Int)) (hx : ix a (i : Int) = some x) (hxr : 0 ≤ x ∧ x < 1048576) (hb : InR b) (hla : a.length < 1073741824) (hlb : b.length < 1073741824) (W : Int) (hi : i < a.length)
    (hW : W < pw (i + b.length + 1)) : ∀ (m k : Nat) (c : Int) (l : List Int), InR l → l.length = a.length + b.length → 0 ≤ c → c < 1048576 → val l + pw (i + k) * (c + x * val (b.drop k)) = W → (k ≤ b.length ∨ (k = b.length + 1 ∧ c = 0)) → b.length + 2 ≤ k + m →
    ∃ l', a4g n a b (i : Int) kont m c (k : Int) l = kont l' ∧ InR l' ∧ l'.length = a.length + b.length ∧ val l' = W
  | 0, k, _, _, _, _, _, _, _, h, h2 => by omega
  | m + 1, k, c, l, hl, hlen, h0, h1, hv, hk, hm => by
    unfold a4g
    have yr := (InR.drop hb k).headD
    have eb := a9w b k
    by_cases hgo : k < b.length ∨ 0 < c
    · have e1 : ((bif decide ((k : Int) < (b.length : Int)) then some true else some (decide (0 < c))) : Option Bool) = some true := by
        by_cases g1 : k < b.length
        · rw [show decide ((k : Int) < (b.length : Int)) = true by simpa using g1]; rfl
        · rw [show decide ((k : Int) < (b.length : Int)) = false by simpa using g1, show decide (0 < c) = true by simp; omega]; rfl
      have hj : i + k < l.length := by omega
      have ej : iadd .i64 (i : Int) (k : Int) = ((i + k : Nat) : Int) := by rw [a3o (by omega) (by omega)]; omega
      have hsp : l = l.take (i + k) ++ l[i + k] :: l.drop (i + k + 1) := by rw [← List.drop_eq_getElem_cons hj, List.take_append_drop]
      have hPl : (l.take (i + k)).length = i + k := by simp; omega
      have hzr := hl l[i + k] (List.getElem_mem hj)
      have hPr := InR.take hl (i + k)
      have hSr := InR.drop hl (i + k + 1)
      have hlen2 := congrArg List.length hsp
      simp only [List.length_append, List.length_cons] at hlen2
      generalize l[i + k] = z at *
      generalize l.take (i + k) = P at *
      generalize l.drop (i + k + 1) = S at *
      generalize hy : (b.drop k).headD 0 = y at *
      have hmul := b4c (g := x) hxr.1 yr.1 yr.2
      have em : imul .i64 x y = x * y := a7h (by omega) (by omega)
      have es : iadd .i64 (iadd .i64 z (imul .i64 x y)) c = z + x * y + c := by rw [em, a3o (x := z) (y := x * y) (by omega) (by omega), a3o (by omega) (by omega)]
      have hc' : (z + x * y + c) / 1048576 < 1048576 := by omega
      have hnv : val (P ++ (z + x * y + c) % 1048576 :: S) + pw (i + (k + 1)) * ((z + x * y + c) / 1048576 + x * val (b.drop (k + 1))) = W := by
        rw [hsp, c6o, hPl] at hv
        rw [c6o, hPl, show i + (k + 1) = (i + k) + 1 by omega, show pw (i + k + 1) = 1048576 * pw (i + k) from rfl, ← hv, eb]
        have hdm : z + x * y + c = (z + x * y + c) % 1048576 + 1048576 * ((z + x * y + c) / 1048576) := by omega
        generalize (z + x * y + c) % 1048576 = r at *
        generalize (z + x * y + c) / 1048576 = q at *
        generalize val (b.drop (k + 1)) = B at *
        generalize pw (i + k) = p at *
        generalize val P = vP at *
        generalize val S = vS at *
        have hc : c = r + 1048576 * q - z - x * y := by omega
        subst hc
        grind
      have hir : InR (P ++ (z + x * y + c) % 1048576 :: S) := hPr.append (InR.cons (by omega) (by omega) hSr)
      obtain ⟨l', h3, h4, h5, h6⟩ := c2s n a b i x kont hx hxr hb hla hlb W hi hW m (k + 1) ((z + x * y + c) / 1048576) (P ++ (z + x * y + c) % 1048576 :: S) hir (by simp only [List.length_append, List.length_cons]; omega) (by omega) hc' hnv (by
        by_cases g : k < b.length
        · left; omega
        · right
          refine ⟨by omega, ?_⟩
          have hk2 : k = b.length := by omega
          rw [b0s (l := b) (by omega), Int.mul_zero, Int.add_zero] at hnv
          have hnn := val_nonneg hir
          have hp2 := pw_pos (i + (k + 1))
          rw [show i + b.length + 1 = i + (k + 1) by omega] at hW
          generalize val (P ++ (z + x * y + c) % 1048576 :: S) = vv at *
          have hq0 : 0 ≤ (z + x * y + c) / 1048576 := by omega
          generalize (z + x * y + c) / 1048576 = q at *
          rcases (show q = 0 ∨ 1 ≤ q by omega) with h | h
          · exact h
          · exfalso
            have := Int.mul_le_mul_of_nonneg_left h (Int.le_of_lt hp2)
            rw [Int.mul_one] at this
            omega) (by omega)
      refine ⟨l', ?_, h4, h5, h6⟩
      rw [e1, Option.bind_some, cond_true, ej]
      have g1 : ix l ((i + k : Nat) : Int) = some z := by rw [hsp]; exact a7l _ _ _ (by omega)
      have g2 : lset l ((i + k : Nat) : Int) ((z + x * y + c) % 1048576) = some (P ++ (z + x * y + c) % 1048576 :: S) := by rw [hsp]; exact a8j _ _ _ _ (by omega)
      rw [g1, Option.bind_some, hx, Option.bind_some, b5a, Option.bind_some, hy, es, b6v (by omega) (by decide), Option.bind_some, Option.bind_some, g2, Option.bind_some, b7w (by omega) (by omega) (by decide), Option.bind_some, inc64 (by omega)]
      exact h3
    · refine ⟨l, ?_, hl, hlen, ?_⟩
      · rw [show decide ((k : Int) < (b.length : Int)) = false by simp; omega, show decide (0 < c) = false by simp; omega]; rfl
      · rw [b0s (by omega)] at hv
        rw [← hv, show c = 0 by omega]; simp
end Go.Proofs.YtknpjecpcmajiaaGreat.D

namespace Go.Proofs.YtknpjecpcmajiaaGreat.D
open Go Rt M
theorem c3e (n : Nat) (a b : List Int) (kont : List Int → Option (List Int)) (ha : InR a) (hb : InR b) (hla : a.length < 1073741824) (hlb : b.length < 1073741824) (hn : b.length + 2 ≤ n) (T : Int) : ∀ (us : List Int) (i m : Nat) (l : List Int),
    a.drop i = us → us.length < m → InR l → l.length = a.length + b.length → val l < pw (i + b.length) → val l + pw i * (val us * val b) = T →
    ∃ l', a3m n a b kont m (i : Int) l = kont l' ∧ InR l' ∧ l'.length = a.length + b.length ∧ val l' = T
  | [], i, m + 1, l, hd, _, hl, hlen, _, hv => by
    refine ⟨l, ?_, hl, hlen, ?_⟩
    · unfold a3m
      have := drop_nil hd
      rw [show decide ((i : Int) < (a.length : Int)) = false by simp; omega]; rfl
    · rw [← hv]; simp [val]
  | x :: us, i, m + 1, l, hd, hm, hl, hlen, hlt, hv => by
    obtain ⟨f1, f2, f3⟩ := drop_cons hd
    have xr := (show InR (x :: us) by rw [← hd]; exact InR.drop ha i).head
    unfold a3m
    rw [show decide ((i : Int) < (a.length : Int)) = true by simpa using f3, cond_true]
    have hbv := val_lt hb
    have hb0 := val_nonneg hb
    have hpi := pw_pos i
    have hW : val l + pw i * (x * val b) < pw (i + b.length + 1) := by
      have h1 : x * val b ≤ 1048575 * pw b.length := Int.le_trans (Int.mul_le_mul_of_nonneg_right (show x ≤ 1048575 by omega) hb0) (Int.mul_le_mul_of_nonneg_left (Int.le_of_lt hbv) (by decide))
      have h2 := Int.mul_le_mul_of_nonneg_left h1 (Int.le_of_lt hpi)
      rw [c2j] at hlt
      rw [show pw (i + b.length + 1) = 1048576 * pw (i + b.length) from rfl, c2j]
      have h3 : pw i * (1048575 * pw b.length) = 1048575 * (pw i * pw b.length) := by grind
      omega
    obtain ⟨l', h1, h2, h3, h4⟩ := c2s n a b i x (fun (l5 : List Int) => a3m n a b kont m (iadd .i64 (i : Int) 1) l5) f1 xr hb hla hlb (val l + pw i * (x * val b)) f3 hW n 0 0 l hl hlen (by decide) (by decide) (by simp) (.inl (by omega)) (by omega)
    obtain ⟨l2, h5, h6, h7, h8⟩ := c3e n a b kont ha hb hla hlb hn T us (i + 1) m l' f2 (by simpa using hm) h2 h3 (by rw [h4, show i + 1 + b.length = i + b.length + 1 by omega]; exact hW) (by
      rw [h4, ← hv, show pw (i + 1) = 1048576 * pw i from rfl]
      simp only [val]
      grind)
    refine ⟨l2, ?_, h6, h7, h8⟩
    refine Eq.trans h1 ?_
    show a3m n a b kont m (iadd .i64 (i : Int) 1) l' = _
    rw [inc64 (by omega)]; exact h5
  | _, _, 0, _, _, h, _, _, _, _ => by omega
theorem val_zeros : ∀ k, val (List.replicate k (0 : Int)) = 0
  | 0 => rfl
  | k + 1 => by rw [List.replicate_succ]; simp only [val, val_zeros k]; rfl
theorem c6i (k : Nat) : InR (List.replicate k (0 : Int)) := fun e he => by rw [(List.mem_replicate.1 he).2]; decide
theorem c4g {a b : List Int} (ha : InR a) (hb : InR b) (hla : a.length < 536870912) (hlb : b.length < 536870912) {n : Nat} (hn : a.length + b.length + 2 < n) : a4d n a b = some (dig (val a * val b).toNat) := by
  unfold a4d
  obtain ⟨l', h1, h2, h3, h4⟩ := c3e n a b (fun (l3 : List Int) => (a2b n l3).bind fun v1 => some v1) ha hb (by omega) (by omega) (by omega) (val a * val b) a 0 n (List.replicate (a.length + b.length) 0) rfl (by omega) (c6i _) (by simp) (by rw [val_zeros]; exact pw_pos _) (by rw [val_zeros]; simp [pw])
  rw [show iadd .i64 (a.length : Int) (b.length : Int) = ((a.length + b.length : Nat) : Int) by rw [a3o (by omega) (by omega)]; omega, b8m (by omega), Option.bind_some]
  refine Eq.trans h1 ?_
  show (a2b n l').bind _ = _
  rw [b3a h2 (by omega) (by omega), h4]; rfl
theorem c6f {u v n : Nat} (hu : (dig u).length < 536870912) (hv : (dig v).length < 536870912) (hn : (dig u).length + (dig v).length + 2 < n) : a4d n (dig u) (dig v) = some (dig (u * v)) := by
  rw [c4g (a3a u) (a3a v) hu hv hn, a2k, a2k, ← Int.natCast_mul, Int.toNat_natCast]
theorem c1i (n : Nat) (b r : Nat) (kont : Int → Option (List Int × List Int)) (hb : 0 < b) (hlb : (dig b).length < 536870900) (hlr : (dig r).length < 536870900) (hn : (dig b).length + (dig r).length + 8 < n) : ∀ (m : Nat) (lo hi : Nat),
    hi - lo < m → lo < hi → hi ≤ 1048576 → lo * b ≤ r → r < hi * b → a3z n (dig b) (dig r) kont m (lo : Int) (hi : Int) = kont ((r / b : Nat) : Int)
  | 0, _, _, h, _, _, _, _ => by omega
  | m + 1, lo, hi, hm, hlt, hh, h1, h2 => by
    unfold a3z
    rw [a2i (by omega) (by omega)]
    by_cases hg : 1 < hi - lo
    · rw [show decide (1 < (hi : Int) - (lo : Int)) = true by simp; omega, cond_true, a3o (by omega) (by omega), b7w (by omega) (by omega) (by decide), Option.bind_some]
      have e1 : ((lo : Int) + (hi : Int)) / 2 = (((lo + hi) / 2 : Nat) : Int) := by omega
      rw [e1]
      generalize hmid : (lo + hi) / 2 = mid at *
      have e2 : a4d n (dig b) [(mid : Int)] = some (dig (b * mid)) := by
        rw [c4g (a3a b) (InR.cons (by omega) (by omega) InR.nil) (by omega) (by simp) (by simp; omega), a2k]
        have : val [(mid : Int)] = mid := by simp [val]
        rw [this, ← Int.natCast_mul, Int.toNat_natCast]
      have hbm : (dig (b * mid)).length ≤ (dig b).length + 1 := by
        have hs1 : Sm (dig b).length (b : Int) := a9s (by rw [Int.natAbs_natCast]; exact Nat.le_refl _)
        have hs2 : Sm 1 (mid : Int) := by unfold Sm; rw [Int.natAbs_natCast, show pw 1 = 1048576 by decide]; omega
        have := a2w (hs1.mul hs2)
        rwa [← Int.natCast_mul, Int.natAbs_natCast] at this
      rw [e2, Option.bind_some, d1u (a3a r) (a3a (b * mid)) (by omega) (by omega) (by omega), Option.bind_some, a2k, a2k]
      by_cases hl : r < b * mid
      · rw [show decide ((r : Int) < ((b * mid : Nat) : Int)) = true by rw [decide_eq_true_eq]; omega, cond_true]
        exact c1i n b r kont hb hlb hlr hn m lo mid (by omega) (by omega) (by omega) h1 (by rw [Nat.mul_comm]; exact hl)
      · rw [show decide ((r : Int) < ((b * mid : Nat) : Int)) = false by rw [decide_eq_false_iff_not]; omega, cond_false]
        exact c1i n b r kont hb hlb hlr hn m mid hi (by omega) (by omega) hh (by rw [Nat.mul_comm]; omega) h2
    · rw [show decide (1 < (hi : Int) - (lo : Int)) = false by simp; omega, cond_false]
      have : hi = lo + 1 := by omega
      subst this
      have : r / b = lo := by
        apply Nat.div_eq_of_lt_le
        · exact h1
        · exact h2
      rw [this]
end Go.Proofs.YtknpjecpcmajiaaGreat.D

namespace Go.Proofs.YtknpjecpcmajiaaGreat.D
open Go Rt M
theorem d0g {a b : List Int} (ha : InR a) (hb : InR b) (hla : a.length < 1073741824) (hlb : b.length ≤ a.length) (h : val b ≤ val a) {n : Nat} (hn : a.length + 2 ≤ n) : a4b n a b = some (dig (val a - val b).toNat) := by
  unfold a4b
  obtain ⟨out, h1, h2, h3, h4⟩ := c1x n a b (fun (l2 : List Int) => (a2b n l2).bind fun v1 => some v1) ha hb hla hlb (val a - val b) (by omega) a n 0 0 [] rfl (by omega) rfl InR.nil (by decide) (by decide) (by simp [val, pw])
  refine Eq.trans h1 ?_
  show (a2b n out).bind _ = _
  rw [b3a h2 (by omega) (by omega), h3]; rfl
theorem c6m {x H b : Nat} (hb : 0 < b) : (x + 1048576 * H) / b = 1048576 * (H / b) + (x + 1048576 * (H % b)) / b ∧ (x + 1048576 * H) % b = (x + 1048576 * (H % b)) % b := by
  have h1 := Nat.div_add_mod H b
  have e : x + 1048576 * H = (x + 1048576 * (H % b)) + b * (1048576 * (H / b)) := by
    generalize H / b = q at *
    generalize H % b = r at *
    rw [← h1]
    grind
  rw [e, Nat.add_mul_div_left _ _ hb, Nat.add_mul_mod_self_left]
  omega
theorem c4b {v : Nat} (h : v < 1048576) : (dig v).length ≤ 1 := by
  have h1 : Sm 1 (v : Int) := by unfold Sm; rw [Int.natAbs_natCast, show pw 1 = 1048576 by decide]; omega
  have := a2w h1
  rwa [Int.natAbs_natCast] at this
theorem c4z (n : Nat) (a : List Int) (b : Nat) (kont : List Int → List Int → Option (List Int × List Int)) (ha : InR a) (hb : 0 < b) (hla : a.length < 536870800) (hlb : (dig b).length < 536870800) (hn : a.length + 2 * (dig b).length + 1048600 < n) : ∀ (i m : Nat) (H : Nat) (qs : List Int),
    i ≤ a.length → i < m → val (a.drop i) = H → InR qs → qs.length = a.length - i → val qs = ((H / b : Nat) : Int) →
    ∃ out, a4a n a (dig b) kont m (dig (H % b)) ((i : Int) - 1) (List.replicate i 0 ++ qs) = kont (dig ((val a).toNat % b)) out ∧ InR out ∧ out.length = a.length ∧ val out = (((val a).toNat / b : Nat) : Int)
  | 0, m + 1, H, qs, _, _, hH, hq, hql, hqv => by
    refine ⟨qs, ?_, hq, by omega, ?_⟩
    · unfold a4a
      rw [show decide ((0 : Int) ≤ ((0 : Nat) : Int) - 1) = false by decide, cond_false]
      rw [List.drop_zero] at hH
      rw [hH]; rfl
    · rw [List.drop_zero] at hH
      rw [hqv, hH]; rfl
  | i + 1, m + 1, H, qs, hi, hm, hH, hq, hql, hqv => by
    unfold a4a
    have hia : i < a.length := by omega
    have hxr := ha a[i] (List.getElem_mem hia)
    have hvd := a9w a i
    rw [List.drop_eq_getElem_cons hia] at hvd
    simp only [List.headD_cons] at hvd
    rw [← List.drop_eq_getElem_cons hia] at hvd
    rw [show ((i + 1 : Nat) : Int) - 1 = (i : Int) by omega, show decide (0 ≤ (i : Int)) = true by simp, cond_true, b2u, List.getElem?_eq_getElem hia, Option.bind_some]
    generalize a[i] = x at *
    obtain ⟨X, rfl⟩ := Int.eq_ofNat_of_zero_le hxr.1
    have hmod := Nat.mod_lt H hb
    have hlr := a5n (Nat.le_of_lt hmod)
    obtain ⟨s1, s2⟩ := c6m (x := X) (H := H) hb
    have hr' : X + 1048576 * (H % b) < 1048576 * b := by omega
    have hvl : val ((X : Int) :: dig (H % b)) = ((X + 1048576 * (H % b) : Nat) : Int) := by simp only [val, a2k]; omega
    rw [b4k (by simp; omega), Option.bind_some, List.singleton_append, b3a (InR.cons hxr.1 hxr.2 (a3a _)) (by simp; omega) (by simp; omega), Option.bind_some, hvl, Int.toNat_natCast]
    have hlr' : (dig (X + 1048576 * (H % b))).length ≤ (dig b).length + 1 := by
      have h1 := b5c (l := (X : Int) :: dig (H % b)) (InR.cons hxr.1 hxr.2 (a3a _))
      rw [hvl, Int.toNat_natCast] at h1
      simp only [List.length_cons] at h1
      omega
    generalize hR : X + 1048576 * (H % b) = R at *
    have hlo : R / b < 1048576 := by rw [Nat.div_lt_iff_lt_mul hb]; omega
    have hlob : b * (R / b) ≤ R := Nat.mul_div_le R b
    have h2 := c1i n b R (fun (lo2 : Int) =>
        (ix (List.replicate (i + 1) 0 ++ qs) (i : Int)).bind fun _ =>
        (lset (List.replicate (i + 1) 0 ++ qs) (i : Int) lo2).bind fun l5 =>
        (a2b n [lo2]).bind fun v3 =>
        (a4d n (dig b) v3).bind fun v4 =>
        (a4b n (dig R) v4).bind fun v5 =>
        a4a n a (dig b) kont m v5 (isub .i64 (i : Int) 1) l5) hb (by omega) (by omega) (by omega) n 0 1048576 (by omega) (by omega) (by omega) (by omega) (by omega)
    generalize hL : R / b = L at *
    have e1 : List.replicate (i + 1) (0 : Int) ++ qs = List.replicate i 0 ++ 0 :: qs := by rw [List.replicate_succ', List.append_assoc]; rfl
    have e2 : ix (List.replicate (i + 1) (0 : Int) ++ qs) (i : Int) = some 0 := by rw [e1]; exact a7l _ _ _ (by simp)
    have e3 : lset (List.replicate (i + 1) (0 : Int) ++ qs) (i : Int) ((L : Nat) : Int) = some (List.replicate i 0 ++ ((L : Nat) : Int) :: qs) := by rw [e1]; exact a8j _ _ _ _ (by simp)
    have e4 : a2b n [((L : Nat) : Int)] = some (dig (L)) := by
      rw [b3a (InR.cons (by omega) (by omega) InR.nil) (by simp) (by simp; omega)]
      simp [val]
    have hl1 := c4b hlo
    have e5 : a4d n (dig b) (dig (L)) = some (dig (b * (L))) := c6f (by omega) (by omega) (by omega)
    have e6 : a4b n (dig R) (dig (b * (L))) = some (dig (R % b)) := by
      have h3 := a5n hlob
      rw [d0g (a3a _) (a3a _) (by omega) h3 (by rw [a2k, a2k]; omega) (by omega), a2k, a2k]
      congr 2
      have := Nat.div_add_mod R b
      rw [hL] at this
      omega
    have hnext := c4z n a b kont ha hb hla hlb hn i m (X + 1048576 * H) (((L : Nat) : Int) :: qs) (by omega) (by omega) (by rw [hvd, hH]; omega) (InR.cons (by omega) (by omega) hq) (by simp; omega) (by
      rw [s1]; simp only [val]; rw [hqv]; omega)
    obtain ⟨out, h4, h5, h6, h7⟩ := hnext
    refine ⟨out, ?_, h5, h6, h7⟩
    refine Eq.trans h2 ?_
    show (ix (List.replicate (i + 1) 0 ++ qs) (i : Int)).bind _ = _
    rw [e2, Option.bind_some, e3, Option.bind_some, e4, Option.bind_some, e5, Option.bind_some, e6, Option.bind_some, a2i (by omega) (by omega), ← h4, s2]
  | _, 0, _, _, _, h, _, _, _, _ => by omega
theorem d1k {A b : Nat} (hb : 0 < b) (hla : (dig A).length < 536870800) (hlb : (dig b).length < 536870800) {n : Nat} (hn : (dig A).length + 2 * (dig b).length + 1048600 < n) : a7k n (dig A) (dig b) = some (dig (A / b), dig (A % b)) := by
  unfold a7k
  obtain ⟨out, h1, h2, h3, h4⟩ := c4z n (dig A) b (fun (rx2 : List Int) (l3 : List Int) => (a2b n l3).bind fun v1 => some (v1, rx2)) (a3a A) hb hla hlb hn (dig A).length n 0 [] (Nat.le_refl _) (by omega) (by rw [b0s (Nat.le_refl _)]; rfl) InR.nil (by simp) (by rw [Nat.zero_div]; rfl)
  rw [Nat.zero_mod, dig_zero, List.append_nil] at h1
  rw [b8m (by omega), Option.bind_some, a2i (by omega) (by omega)]
  refine Eq.trans h1 ?_
  show (a2b n out).bind _ = _
  rw [b3a h2 (by omega) (by omega), h4, a2k, Int.toNat_natCast, Int.toNat_natCast]; rfl
end Go.Proofs.YtknpjecpcmajiaaGreat.D

namespace Go.Proofs.YtknpjecpcmajiaaGreat.D
open Go Rt M
theorem c4x {a : Big} (hl : a.Digits.length < 1099511627776) : Ev (fun n => a4f n a) (b0j a) := ⟨a.Digits.length + 1, fun _ hn => c8a hl hn⟩
theorem a8z {x : Int} {k : Nat} (h : Sm k x) (hk : k < 1099511627776) : Ev (fun n => a4f n (toB x)) true := by
  have := a2w h
  exact (c4x (a := toB x) (by simp only [toB]; omega)).eq (b3j x)
theorem d0e (s : Int) {v : Nat} (h : (dig v).length < 1099511627776) : Ev (fun n => a3j n s (dig v)) (if v = 0 then ⟨0, []⟩ else ⟨s, dig v⟩) := by
  refine ⟨(dig v).length + 1, fun n hn => ?_⟩
  have h1 := d2b s (a3a v) h (n := n) (by omega)
  rw [a2k, Int.toNat_natCast] at h1
  exact h1
theorem b1l {s : Int} {v : Nat} (h : (dig v).length < 1099511627776) (z : Int) (hz : z.natAbs = v) (hs : v ≠ 0 → s = sg z) : Ev (fun n => a3j n s (dig v)) (toB z) := (d0e s h).eq (a5c z hz hs)
theorem c7y (u v : Nat) (hu : (dig u).length < 1073741824) (hv : (dig v).length < 1073741824) : Ev (fun n => a8r n (dig u) (dig v)) (dig (u + v)) :=
  (d0t (a3a u) (a3a v) hu hv).eq (by rw [a2k, a2k, ← Int.natCast_add, Int.toNat_natCast])
theorem c6s (u v : Nat) (hu : (dig u).length < 1073741824) (h : v ≤ u) : Ev (fun n => a4b n (dig u) (dig v)) (dig (u - v)) :=
  (c7x (a3a u) (a3a v) hu (a5n h) (by rw [a2k, a2k]; omega)).eq (by rw [a2k, a2k]; congr 1; omega)
theorem c3b (u v : Nat) (h : v ≠ 0) (hu : (dig u).length < 536870800) (hv : (dig v).length < 536870800) : Ev (fun n => a7k n (dig u) (dig v)) (dig (u / v), dig (u % v)) :=
  ⟨(dig u).length + 2 * (dig v).length + 1048601, fun n hn => d1k (by omega) hu hv (by omega)⟩
theorem c5n {x : Int} {k : Nat} (h : Sm k x) (hk : k < 1073741824) : Ev (fun n => b1e n (toB x)) (toB (-x)) := by
  have hl := a2w h
  unfold b1e
  refine Ev.bind (a8z h (by omega)) ?_
  refine Ev.else rfl ?_
  refine Ev.bind (b1l (v := x.natAbs) (by omega) (-x) (by omega) (fun hne => ?_)) (Ev.pure _)
  show IntKind.i64.wrap (0 - sg x) = sg (-x)
  rcases a2a x with ⟨a, b⟩ | ⟨a, b⟩ | ⟨a, b⟩ <;> rw [b]
  · rw [a6f (by omega)]; decide
  · omega
  · rw [a6i (by omega)]; decide
theorem c4m {x y : Int} {k : Nat} (hx : Sm k x) (hy : Sm k y) (hk : k < 8388608) (hy0 : y ≠ 0) : Ev (fun n => a9h n (toB x) (toB y)) (toB (dq x y), toB (dr x y), 0) := by
  have lx := a2w hx
  have ly := a2w hy
  have hyn : y.natAbs ≠ 0 := by omega
  have hmod := Nat.mod_lt x.natAbs (show y.natAbs > 0 by omega)
  have hdivle : x.natAbs / y.natAbs ≤ x.natAbs := Nat.div_le_self _ _
  have lq := a5n hdivle
  have lr := a5n (Nat.le_of_lt hmod)
  have lq1 : (dig (x.natAbs / y.natAbs + 1)).length ≤ k + 1 := by
    have h : Sm (k + 1) ((x.natAbs / y.natAbs + 1 : Nat) : Int) := by
      generalize x.natAbs / y.natAbs = q at *
      unfold Sm at *
      rw [Int.natAbs_natCast]
      simp only [pw]; have := pw_pos k; omega
    have := a2w h
    rwa [Int.natAbs_natCast] at this
  have ls := a5n (show y.natAbs - x.natAbs % y.natAbs ≤ y.natAbs by omega)
  unfold a9h
  refine Ev.bind (a8z hx (by omega)) ?_
  refine Ev.bind (a := false) (Ev.else rfl (Ev.bind (a8z hy (by omega)) (Ev.pure _))) ?_
  refine Ev.else rfl ?_
  refine Ev.else (by show (sg y == 0) = false; rcases a2a y with h | h | h <;> first | (rw [h.2]; rfl) | omega) ?_
  refine Ev.bind (c3b x.natAbs y.natAbs hyn (by omega) (by omega)) ?_
  refine Ev.step (a := !odd x y) (by
    show (bif decide (0 ≤ imul .i64 (sg x) (sg y)) then some true else some (((dig (x.natAbs % y.natAbs)).length : Int) == 0)) = _
    rw [b3x]
    unfold odd
    have e1 : decide (0 ≤ sg (x * y)) = !decide (x * y < 0) := by
      rcases a2a (x * y) with ⟨h1, h2⟩ | ⟨h1, h2⟩ | ⟨h1, h2⟩ <;> rw [h2] <;> simp <;> omega
    have e2 : (((dig (x.natAbs % y.natAbs)).length : Int) == 0) = !decide (x.natAbs % y.natAbs ≠ 0) := by
      by_cases h : x.natAbs % y.natAbs = 0
      · rw [h, dig_zero]; rfl
      · have := b3u h
        have h3 : 0 < (dig (x.natAbs % y.natAbs)).length := List.length_pos_iff.2 this
        rw [beq_false_of_ne (by omega), decide_eq_true h]; rfl
    rw [e1, e2]
    cases decide (x * y < 0) <;> rfl) ?_
  by_cases ho : odd x y = true
  · refine Ev.else (by rw [ho]; rfl) ?_
    refine Ev.bind (a := dig (x.natAbs / y.natAbs + 1)) (by
      have := c7y (x.natAbs / y.natAbs) 1 (by omega) (by rw [dig_one]; simp)
      rwa [dig_one] at this) ?_
    refine Ev.bind (b1l (by omega) (dq x y) (c2n ho).1 (fun _ => (c2n ho).2.symm)) ?_
    refine Ev.bind (c6s y.natAbs (x.natAbs % y.natAbs) (by omega) (by omega)) ?_
    exact Ev.bind (b1l (by omega) (dr x y) (c2k hy0 ho).1 (fun _ => (c2k hy0 ho).2.symm)) (Ev.pure _)
  · refine Ev.then (by simpa using ho) ?_
    refine Ev.bind (b1l (by omega) (dq x y) (b9e hy0 ho).1 (fun h => by show imul .i64 (sg x) (sg y) = _; rw [b3x]; exact (b9e hy0 ho).2 h)) ?_
    exact Ev.bind (b1l (by omega) (dr x y) (b9l ho).1 (b9l ho).2) (Ev.pure _)
end Go.Proofs.YtknpjecpcmajiaaGreat.D

namespace Go.Proofs.YtknpjecpcmajiaaGreat.D
open Go Rt M
theorem d1q (v : Nat) : ∀ (u : Nat), (dig u).length < 16777216 → (dig v).length < 16777216 → ∃ N, ∀ n, N ≤ n → ∀ (kont : List Int → Option (Big × Int)) m, v < m → a5l n kont m (dig u) (dig v) = kont (dig (Nat.gcd u v)) := by
  induction v using Nat.strongRecOn with
  | ind v ih =>
    intro u hu hv
    by_cases h : v = 0
    · subst h
      refine ⟨0, fun n _ kont m hm => ?_⟩
      obtain ⟨m, rfl⟩ : ∃ m', m = m' + 1 := ⟨m - 1, by omega⟩
      rw [dig_zero, Nat.gcd_zero_right]; rfl
    · have hlt := Nat.mod_lt u (show v > 0 by omega)
      obtain ⟨N1, h1⟩ := c3b u v h (by omega) (by omega)
      obtain ⟨N2, h2⟩ := ih (u % v) hlt v hv (by have := a5n (Nat.le_of_lt hlt); omega)
      refine ⟨max N1 N2, fun n hn kont m hm => ?_⟩
      obtain ⟨m, rfl⟩ : ∃ m', m = m' + 1 := ⟨m - 1, by omega⟩
      have h3 : 0 < (dig v).length := List.length_pos_iff.2 (b3u h)
      unfold a5l
      rw [show decide (0 < ((dig v).length : Int)) = true by simp; omega, cond_true, (show a7k n (dig u) (dig v) = _ from h1 n (by omega)), Option.bind_some]
      show a5l n kont m (dig v) (dig (u % v)) = _
      rw [h2 n (by omega) kont m (by omega), Nat.gcd_comm v, ← Nat.gcd_rec, Nat.gcd_comm]
theorem d0n {x y : Int} {k : Nat} (hx : Sm k x) (hy : Sm k y) (hk : k < 8388608) : Ev (fun n => b1f n (toB x) (toB y)) (toB (Nat.gcd x.natAbs y.natAbs : Nat), 0) := by
  have lx := a2w hx
  have ly := a2w hy
  unfold b1f
  refine Ev.bind (a8z hx (by omega)) ?_
  refine Ev.bind (a := false) (Ev.else rfl (Ev.bind (a8z hy (by omega)) (Ev.pure _))) ?_
  refine Ev.else rfl ?_
  obtain ⟨N, hN⟩ := d1q y.natAbs x.natAbs (by omega) (by omega)
  have lg : (dig (Nat.gcd x.natAbs y.natAbs)).length ≤ k := by
    rcases Nat.eq_zero_or_pos x.natAbs with h | h
    · rw [h, Nat.gcd_zero_left]; exact ly
    · exact Nat.le_trans (a5n (Nat.gcd_le_left _ h)) lx
  refine Ev.from (g := fun n => (a3j n 1 (dig (Nat.gcd x.natAbs y.natAbs))).bind fun v3 => some ((⟨v3.Sign, v3.Digits⟩ : Big), (0 : Int))) (max N (y.natAbs + 1)) (fun n hn => hN n (by omega) _ n (by omega)) ?_
  exact Ev.bind (b1l (by omega) ((Nat.gcd x.natAbs y.natAbs : Nat) : Int) (Int.natAbs_natCast _) (fun h => (a6f (by omega)).symm)) (Ev.pure _)
end Go.Proofs.YtknpjecpcmajiaaGreat.D

namespace Go.Proofs.YtknpjecpcmajiaaGreat.D
open Go Rt M
theorem d2u {s : Int} (hs : s = 1 ∨ s = -1) (u : Nat) : rem (s * u) 1048576 = some (s * ((u % 1048576 : Nat) : Int)) := by
  have h := b6v (x := (u : Int)) (y := 1048576) (by omega) (by decide)
  rcases hs with rfl | rfl
  · rw [Int.one_mul, Int.one_mul, h]; congr 1
  · unfold rem at h ⊢
    rw [if_neg (by decide)] at h ⊢
    have h2 := Option.some.inj h
    rw [show (-1 : Int) * (u : Int) = -(u : Int) by omega, Int.neg_tmod, h2]
    congr 1; omega
theorem d2r {s : Int} (hs : s = 1 ∨ s = -1) {u : Nat} (hu : u ≤ 9223372036854775808) : quo .i64 (s * u) 1048576 = some (s * ((u / 1048576 : Nat) : Int)) := by
  have h : (u : Int).tdiv 1048576 = ((u / 1048576 : Nat) : Int) := by rw [Int.tdiv_eq_ediv_of_nonneg (by omega)]; omega
  unfold quo
  rw [if_neg (by decide)]
  rcases hs with rfl | rfl
  · rw [Int.one_mul, Int.one_mul, h, a5m (by omega) (by omega)]
  · rw [show (-1 : Int) * (u : Int) = -(u : Int) by omega, Int.neg_tdiv, h, a5m (by omega) (by omega)]
    congr 1; omega
theorem d2h (n : Nat) (kont : List Int → Option Big) {s : Int} (hs : s = 1 ∨ s = -1) : ∀ (u m : Nat) (acc : List Int), u ≤ 9223372036854775808 → (dig u).length < m → acc.length + (dig u).length < 1099511627776 → a6m n kont m (s * (u : Int)) acc = kont (acc ++ dig u) := by
  intro u
  induction u using Nat.strongRecOn with
  | ind u ih =>
    intro m acc hu hm ha
    obtain ⟨m, rfl⟩ : ∃ m', m = m' + 1 := ⟨m - 1, by omega⟩
    unfold a6m
    by_cases h : u = 0
    · subst h
      rw [dig_zero, List.append_nil, show (s * ((0 : Nat) : Int) != 0) = false by simp]; rfl
    · have hd := b1v h
      rw [hd] at hm ha
      simp only [List.length_cons] at hm ha
      have hne : (s * (u : Int) != 0) = true := by
        rw [bne_iff_ne]; rcases hs with rfl | rfl <;> omega
      rw [hne, cond_true, d2u hs, Option.bind_some]
      have e1 : (bif decide (s * ((u % 1048576 : Nat) : Int) < 0) then some (IntKind.i64.wrap (0 - s * ((u % 1048576 : Nat) : Int))) else some (s * ((u % 1048576 : Nat) : Int))) = some ((u % 1048576 : Nat) : Int) := by
        have hlt := Nat.mod_lt u (show 1048576 > 0 by decide)
        generalize u % 1048576 = r at *
        by_cases hn : s * (r : Int) < 0
        · rw [decide_eq_true hn, cond_true]
          congr 1
          rcases hs with rfl | rfl
          · omega
          · rw [a5m (by omega) (by omega)]; omega
        · rw [decide_eq_false hn, cond_false]
          congr 1
          rcases hs with rfl | rfl <;> omega
      rw [e1, Option.bind_some, b4k (by simp; omega), Option.bind_some, d2r hs hu, Option.bind_some, ih (u / 1048576) (by omega) m _ (by omega) (by omega) (by simp; omega), hd]
      simp
theorem c8l {x : Int} (h1 : -9223372036854775808 ≤ x) (h2 : x ≤ 9223372036854775807) : Ev (fun n => b1u n x) (toB x) := by
  have hl := c3u (u := x.natAbs) (by omega)
  by_cases h0 : x = 0
  · subst h0
    exact (Ev.pure _).eq toB_zero.symm
  have hm : ∀ s : Int, s = sg x → Ev (fun n => (a3j n s (dig x.natAbs)).bind fun v1 => some (⟨v1.Sign, v1.Digits⟩ : Big)) (toB x) := fun s hs => Ev.bind (b1l (by omega) x rfl (fun _ => hs)) (Ev.pure _)
  refine Ev.from (g := fun n => (a3j n (sg x) (dig x.natAbs)).bind fun v1 => some (⟨v1.Sign, v1.Digits⟩ : Big)) 5 (fun n hn => ?_) (hm _ rfl)
  show b1u n x = _
  unfold b1u
  rw [show (x == 0) = false from beq_false_of_ne h0, cond_false]
  by_cases hx : x < 0
  · rw [decide_eq_true hx, cond_true, Option.bind_some, a6i hx]
    have h3 := d2h n (fun (l2 : List Int) => (a3j n (-1) l2).bind fun v1 => some (⟨v1.Sign, v1.Digits⟩ : Big)) (s := -1) (.inr rfl) x.natAbs n [] (by omega) (by omega) (by simp; omega)
    rw [show (-1 : Int) * (x.natAbs : Int) = x by omega, List.nil_append] at h3
    exact h3
  · rw [decide_eq_false hx, cond_false, Option.bind_some, a6f (by omega)]
    have h3 := d2h n (fun (l2 : List Int) => (a3j n 1 l2).bind fun v1 => some (⟨v1.Sign, v1.Digits⟩ : Big)) (s := 1) (.inl rfl) x.natAbs n [] (by omega) (by omega) (by simp; omega)
    rw [show (1 : Int) * (x.natAbs : Int) = x by omega, List.nil_append] at h3
    exact h3
end Go.Proofs.YtknpjecpcmajiaaGreat.D

namespace Go.Proofs.YtknpjecpcmajiaaGreat.D
open Go Rt M
section
variable {p q : Int} {k : Nat} (hp : Sm k p) (hq : Sm k q) (hk : k < 8388608)
include hp hq hk
theorem c0f (h0 : 0 < q) : Ev (fun n =>
   (b1f n (⟨(toB p).Sign, (toB p).Digits⟩ : Big) (⟨(toB q).Sign, (toB q).Digits⟩ : Big)).bind fun v3 =>
   (a9h n (⟨(toB p).Sign, (toB p).Digits⟩ : Big) (⟨v3.1.Sign, v3.1.Digits⟩ : Big)).bind fun v4 =>
   (a9h n (⟨(toB q).Sign, (toB q).Digits⟩ : Big) (⟨v3.1.Sign, v3.1.Digits⟩ : Big)).bind fun v5 =>
   some ((⟨(⟨v4.1.Sign, v4.1.Digits⟩ : Big), (⟨v5.1.Sign, v5.1.Digits⟩ : Big)⟩ : Frac), (0 : Int))) (toF (Rat.divInt p q), 0) := by
  have hg : 0 < Nat.gcd p.natAbs q.natAbs := Nat.gcd_pos_of_pos_right _ (by omega)
  have hgs := c1k hp hq
  obtain ⟨e1, e2⟩ := b1a (p := p) h0
  refine Ev.bind (d0n hp hq hk) ?_
  refine Ev.bind (c4m hp hgs hk (by omega)) ?_
  refine Ev.bind (c4m hq hgs hk (by omega)) ((Ev.pure _).eq ?_)
  unfold toF
  rw [e1, e2, ← c2u (by omega), ← c2u (by omega)]
theorem d0u (h0 : q ≠ 0) : Ev (fun n => b2i n (toB p) (toB q)) (toF (Rat.divInt p q), 0) := by
  unfold b2i
  refine Ev.bind (a8z hp (by omega)) ?_
  refine Ev.bind (a := false) (Ev.else rfl (Ev.bind (a8z hq (by omega)) (Ev.pure _))) ?_
  refine Ev.else rfl ?_
  refine Ev.else (by show (sg q == 0) = false; rw [b4j]; simpa using h0) ?_
  by_cases hn : q < 0
  · refine Ev.bind (Ev.then (by show decide (sg q < 0) = true; rw [a6i hn]; rfl) (Ev.bind (c5n hp (by omega)) (Ev.bind (c5n hq (by omega)) (Ev.pure _)))) ?_
    rw [b4g]
    exact c0f hp.neg hq.neg hk (by omega)
  · refine Ev.bind (Ev.else (by show decide (sg q < 0) = false; rw [a6f (by omega)]; rfl) (Ev.pure _)) ?_
    exact c0f hp hq hk (by omega)
end
section
variable {a b : Rat} {j k : Nat} (ha : SmF j a) (hb : SmF k b) (hk : j + k < 4000000)
include ha hb hk
end
section
variable {a : Rat} {k : Nat} (ha : SmF k a) (hk : k < 1000000)
include ha hk
end
theorem d2j {x y : Int} (h1 : -9223372036854775808 ≤ x) (h2 : x ≤ 9223372036854775807) (h3 : -9223372036854775808 ≤ y) (h4 : y ≤ 9223372036854775807) (h0 : y ≠ 0) : Ev (fun n => b1t n x y) (toF (Rat.divInt x y), 0) := by
  have s1 : Sm 4 x := a9s (c3u (by omega))
  have s2 : Sm 4 y := a9s (c3u (by omega))
  unfold b1t
  exact Ev.bind (c8l h1 h2) (Ev.bind (c8l h3 h4) (Ev.bind (d0u s1 s2 (by decide) h0) (Ev.pure _)))
theorem d0a {x : Int} (h1 : -9223372036854775808 ≤ x) (h2 : x ≤ 9223372036854775807) : Ev (fun n => a8k n x) (toF (x : Rat)) := by
  unfold a8k
  refine Ev.bind (d2j h1 h2 (y := 1) (by decide) (by decide) (by decide)) ((Ev.pure _).eq ?_)
  rw [c3t]
end Go.Proofs.YtknpjecpcmajiaaGreat.D

namespace Go.Proofs.YtknpjecpcmajiaaGreat.Fe
open Go Rt M Ta Tp D
theorem c9x {x : M.Expr} : ∀ {y : M.Expr}, y ∈ x.Args → cnt y < cnt x ∧ dep y < dep x := by
  obtain ⟨o, n, s, l⟩ := x
  have h1 : cnt ⟨o, n, s, l⟩ = cnts l + 1 := rfl
  have h2 : dep ⟨o, n, s, l⟩ = deps l + 1 := rfl
  have h3 : ∀ (l : List M.Expr) (y : M.Expr), y ∈ l → cnt y ≤ cnts l ∧ dep y ≤ deps l := by
    intro l
    induction l with
    | nil => intro y hy; cases hy
    | cons z l ih =>
      intro y hy
      have e1 : cnts (z :: l) = cnt z + cnts l := rfl
      have e2 : deps (z :: l) = max (dep z) (deps l) := rfl
      rcases List.mem_cons.1 hy with rfl | hy
      · omega
      · have := ih y hy; omega
  intro y hy
  have := h3 l y hy
  omega
theorem c4y {x y : M.Expr} (h : Frm x) (hy : y ∈ x.Args) : Frm y := by
  have h1 := c9x hy
  refine ⟨⟨by have := h.1.1; omega, by have := h.1.2; omega⟩, ?_⟩
  obtain ⟨o, n, s, l⟩ := x
  exact h.2.inv.2.2.2.2 y hy
theorem b9n {x y : M.Expr} (h : Fit x) (hy : y ∈ x.Args) : Fit y := by
  cases h with
  | mk _ h2 => exact h2 y hy
theorem c5z {names : List Rt.Bs} (hn : names.length < 4611686018427387904) (hnm : c4h names = true) {x : M.Expr} (hx : Fit x) (hf : Frm x) {k : Int} (ht : Typ names x k) : Ev (fun n => a5z n x names) (k, 0) := by
  unfold a5z
  refine Ev.bind (c2y hn) (Ev.else (by rw [hnm]; rfl) ?_)
  obtain ⟨b, eb, hb⟩ := c8m hx
  obtain rfl := hb.2 hf
  refine Ev.bind eb (Ev.else rfl ?_)
  obtain ⟨r, er, hr⟩ := c1n hx names hn hf.2
  obtain rfl := hr.2 k ht
  exact Ev.bind er (Ev.pure _)
theorem b8k {p q : Int} (h : wd p q ≠ 2) : p ≠ 2 ∧ q ≠ 2 := by
  unfold wd at h
  constructor
  · intro e; subst e; exact h rfl
  · intro e; subst e; apply h; cases p == 2 <;> rfl
theorem c3f {names : List Rt.Bs} {E E' : Env} (hl : E.lf = E'.lf) (hp : E.pers = E'.pers) (hf : E.flats = E'.flats) {x : M.Expr} {k : Int} (ht : Typ names x k) : k ≠ 2 → vl E x = vl E' x := by
  have v2 : ∀ {o : Int} {a b : M.Expr}, vl E a = vl E' a → vl E b = vl E' b → vl E ⟨o, 0, [], [a, b]⟩ = vl E' ⟨o, 0, [], [a, b]⟩ := by
    intro o a b ha hb
    show c1h E o 0 [] [vl E a, vl E b] = c1h E' o 0 [] [vl E' a, vl E' b]
    rw [ha, hb]; rfl
  induction ht with
  | num => intro _; rfl
  | lifts _ hs => intro _; show ((E.lf _ : Rat), false) = _; rw [hl]; rfl
  | pers => intro _; show ((E.pers : Rat), false) = _; rw [hp]; rfl
  | flats => intro _; show ((E.flats : Rat), false) = _; rw [hf]; rfl
  | wgt _ hs => intro h; exact absurd rfl h
  | ari _ _ _ _ _ ha hb => intro h; exact v2 (ha (b8k h).1) (hb (b8k h).2)
  | mul _ _ _ _ _ ha hb => intro h; exact v2 (ha (b8k h).1) (hb (b8k h).2)
  | div _ _ _ _ ha => intro h; exact v2 (ha h) rfl
  | @ite c a b _ _ _ _ _ _ _ hc ha hb =>
    intro h
    show c1h E 11 0 [] [vl E c, vl E a, vl E b] = c1h E' 11 0 [] [vl E' c, vl E' a, vl E' b]
    rw [hc (by decide), ha (b8k h).1, hb (b8k h).2]; rfl
  | rel _ _ _ ha hb => intro _; exact v2 (ha (by decide)) (hb (by decide))
  | @not a _ ha =>
    intro _
    show c1h E 14 0 [] [vl E a] = c1h E' 14 0 [] [vl E' a]
    rw [ha (by decide)]; rfl
  | bin _ _ _ ha hb => intro _; exact v2 (ha (by decide)) (hb (by decide))
theorem a5f {names : List Rt.Bs} {E E' : Env} (hl : E.lf = E'.lf) (hp : E.pers = E'.pers) (hf : E.flats = E'.flats) {x : M.Expr} {k : Int} (ht : Typ names x k) (hk : k ≠ 2) : num E x = num E' x := by
  unfold num; rw [c3f hl hp hf ht hk]
theorem c0q {names : List Rt.Bs} {E E' : Env} (hl : E.lf = E'.lf) (hp : E.pers = E'.pers) (hf : E.flats = E'.flats) {x : M.Expr} (ht : Typ names x 0) : tru E x = tru E' x := by
  unfold tru; rw [c3f hl hp hf ht (by decide)]
end Go.Proofs.YtknpjecpcmajiaaGreat.Fe

namespace Go.Proofs.YtknpjecpcmajiaaGreat.Fe
open Go Rt M Ta Tp D
structure AffE (names : List Rt.Bs) (E1 E2 Em : Env) (k : Rat) : Prop where
  l2 : E2.lf = E1.lf
  lm : Em.lf = E1.lf
  p2 : E2.pers = E1.pers
  pm : Em.pers = E1.pers
  f2 : E2.flats = E1.flats
  fm : Em.flats = E1.flats
  w : ∀ s, s ∈ names → Em.wf s = E1.wf s + (E2.wf s - E1.wf s) * k
def b0m (names : List Rt.Bs) (x : M.Expr) : Prop := ∀ E1 E2 Em k, AffE names E1 E2 Em k → num Em x = num E1 x + (num E2 x - num E1 x) * k
theorem b9p (c k : Rat) : c = c + (c - c) * k := by grind
theorem a9p {names : List Rt.Bs} {x : M.Expr} {p : Int} (ht : Typ names x p) (hp : p ≠ 2) : b0m names x := fun E1 E2 Em k h => by
  rw [a5f h.lm h.pm h.fm ht hp, a5f h.l2 h.p2 h.f2 ht hp]; exact b9p _ _
theorem d0s {names : List Rt.Bs} {o : Int} {a b : M.Expr} {p q : Int} (ho : o = 5 ∨ o = 6 ∨ o = 9 ∨ o = 10) (ta : Typ names a p) (tb : Typ names b q) (ha : b0m names a) (hb : b0m names b) (h2 : o = 9 ∨ o = 10 → p ≠ 2 ∧ q ≠ 2) : b0m names ⟨o, 0, [], [a, b]⟩ := by
  intro E1 E2 Em k h
  have e1 := ha E1 E2 Em k h
  have e2 := hb E1 E2 Em k h
  rw [num_two, num_two, num_two]
  rcases ho with rfl | rfl | rfl | rfl
  · rw [c2e, c2e, c2e, e1, e2]; grind
  · rw [c2d, c2d, c2d, e1, e2]; grind
  · obtain ⟨hp, hq⟩ := h2 (.inl rfl)
    rw [a5f h.lm h.pm h.fm ta hp, a5f h.l2 h.p2 h.f2 ta hp, a5f h.lm h.pm h.fm tb hq, a5f h.l2 h.p2 h.f2 tb hq]; exact b9p _ _
  · obtain ⟨hp, hq⟩ := h2 (.inr rfl)
    rw [a5f h.lm h.pm h.fm ta hp, a5f h.l2 h.p2 h.f2 ta hp, a5f h.lm h.pm h.fm tb hq, a5f h.l2 h.p2 h.f2 tb hq]; exact b9p _ _
theorem c9f {names : List Rt.Bs} {a b : M.Expr} {p q : Int} (ta : Typ names a p) (tb : Typ names b q) (h5 : ¬(p = 2 ∧ q = 2)) (ha : b0m names a) (hb : b0m names b) : b0m names ⟨7, 0, [], [a, b]⟩ := by
  intro E1 E2 Em k h
  have e1 := ha E1 E2 Em k h
  have e2 := hb E1 E2 Em k h
  rw [num_two, num_two, num_two, c1o, c1o, c1o]
  by_cases hp : p = 2
  · have hq : q ≠ 2 := fun hq => h5 ⟨hp, hq⟩
    rw [a5f h.lm h.pm h.fm tb hq, a5f h.l2 h.p2 h.f2 tb hq, e1]; grind
  · rw [a5f h.lm h.pm h.fm ta hp, a5f h.l2 h.p2 h.f2 ta hp, e2]; grind
theorem c9a {names : List Rt.Bs} {a : M.Expr} {m : Int} (ha : b0m names a) : b0m names ⟨8, 0, [], [a, ⟨0, m, [], []⟩]⟩ := by
  intro E1 E2 Em k h
  have e1 := ha E1 E2 Em k h
  rw [num_two, num_two, num_two, c2g, c2g, c2g, num_num, num_num, num_num, e1, Rat.div_def, Rat.div_def, Rat.div_def]; grind
theorem c9h {names : List Rt.Bs} {c a b : M.Expr} (tc : Typ names c 0) (ha : b0m names a) (hb : b0m names b) : b0m names ⟨11, 0, [], [c, a, b]⟩ := by
  intro E1 E2 Em k h
  have e1 := ha E1 E2 Em k h
  have e2 := hb E1 E2 Em k h
  rw [num_ite, num_ite, num_ite, c0q h.lm h.pm h.fm tc, c0q h.l2 h.p2 h.f2 tc]
  cases tru E1 c with
  | true => exact e1
  | false => exact e2
theorem b8r (x : M.Expr) (names : List Rt.Bs) (hx : x.Args.length ≤ 3) (Q : M.Expr → Prop) : ∀ (us : List M.Expr) (i : Nat), x.Args.drop i = us →
    (∀ y, y ∈ us → ∃ p, Typ names y p ∧ Ev (fun n => a5z n y names) (p, 0) ∧ Tt (fun b => b = true → Q y) (fun n => law36_straight n y names)) →
    ∃ N r, (r = true → ∀ y, y ∈ us → ∃ p, Typ names y p ∧ ((x.Op = 9 ∨ x.Op = 10) → p ≠ 2) ∧ Q y) ∧ ∀ n m, N ≤ n → us.length < m → a3u n (law36_straight n) x names (some true) m (i : Int) = some r
  | [], i, hd, _ => by
    refine ⟨0, true, fun _ y hy => (by cases hy), fun n m _ hm => ?_⟩
    obtain ⟨m, rfl⟩ := left hm
    rw [a7u, a9t hd]; rfl
  | y :: us, i, hd, H => by
    obtain ⟨h1, h2, h3⟩ := Rt.drop_cons hd
    obtain ⟨p, tp, ⟨N1, e1⟩, b, ⟨N2, e2⟩, hb⟩ := H y (by simp)
    obtain ⟨N, r, hr, ih⟩ := b8r x names hx Q us (i + 1) h2 (fun z hz => H z (by simp [hz]))
    have e0 : ∀ n, max N (max N1 N2) ≤ n → (bif (x.Op == 9 || x.Op == 10) && p == 2 then some true else (ix x.Args (i : Int)).bind fun ex2 => (law36_straight n ex2 names).bind fun v5 => some (!v5)) = some (((x.Op == 9 || x.Op == 10) && p == 2) || !b) := by
      intro n hn
      have e2 : law36_straight n y names = some b := e2 n (by omega)
      rw [h1, Option.bind_some, e2, Option.bind_some]
      cases (x.Op == 9 || x.Op == 10) && p == 2 <;> rfl
    refine ⟨max N (max N1 N2), bif ((x.Op == 9 || x.Op == 10) && p == 2) || !b then false else r, ?_, fun n m hn hm => ?_⟩
    · cases hc : ((x.Op == 9 || x.Op == 10) && p == 2) || !b with
      | true => intro h; cases h
      | false =>
        intro h z hz
        rw [Bool.or_eq_false_iff] at hc
        rcases List.mem_cons.1 hz with rfl | hz
        · refine ⟨p, tp, fun ho hp => ?_, hb (by simpa using hc.2)⟩
          have hc1 := hc.1
          rw [hp] at hc1
          rcases ho with ho | ho <;> rw [ho] at hc1 <;> cases hc1
        · exact hr h z hz
    · obtain ⟨m, rfl, hm2⟩ := pred (by simpa using hm)
      have e1 : a5z n y names = some (p, 0) := e1 n (by omega)
      rw [a7u, a4w hd, cond_true, h1, Option.bind_some, e1, Option.bind_some]
      have o1 : (bif x.Op == 9 then some true else some (x.Op == 10)) = some (x.Op == 9 || x.Op == 10) := by cases x.Op == 9 <;> rfl
      have o2 : ∀ c : Bool, (bif c then some (p == 2) else some false) = some (c && p == 2) := fun c => by cases c <;> rfl
      rw [o1, Option.bind_some, o2, Option.bind_some]
      have e0 := e0 n hn
      rw [h1] at e0
      rw [e0, Option.bind_some]
      cases ((x.Op == 9 || x.Op == 10) && p == 2) || !b with
      | true => rfl
      | false => rw [cond_false, Rt.inc64 (by omega), ih n m (by omega) hm2]; rfl
theorem c3s {names : List Rt.Bs} (hn : names.length < 4611686018427387904) (hnm : c4h names = true) {x : M.Expr} {k : Int} (ht : Typ names x k) : Fit x → Frm x → Tt (fun b => b = true → b0m names x) (fun n => law36_straight n x names) := by
  have node : ∀ {x : M.Expr}, x.Args.length ≤ 3 → Fit x → Frm x → (∀ y, y ∈ x.Args → ∃ p, Typ names y p ∧ (Fit y → Frm y → Tt (fun b => b = true → b0m names y) (fun n => law36_straight n y names))) →
      Tt (fun r => r = true → ∀ y, y ∈ x.Args → ∃ p, Typ names y p ∧ ((x.Op = 9 ∨ x.Op = 10) → p ≠ 2) ∧ b0m names y) (fun n => law36_straight n x names) := by
    intro x h3 hx hf H
    obtain ⟨N, r, hr, h⟩ := b8r x names h3 (b0m names) x.Args 0 rfl (fun y hy => by
      obtain ⟨p, tp, hs⟩ := H y hy
      exact ⟨p, tp, c5z hn hnm (b9n hx hy) (c4y hf hy) tp, hs (b9n hx hy) (c4y hf hy)⟩)
    exact ⟨r, Ev.suc (fun n => b2a n _ _) ⟨N + x.Args.length + 1, fun n hn => h n n (by omega) (by omega)⟩, hr⟩
  have leaf : ∀ {x : M.Expr} {p : Int}, x.Args = [] → Typ names x p → b0m names x → Fit x → Frm x → Tt (fun b => b = true → b0m names x) (fun n => law36_straight n x names) := fun {x p} h0 _ hm hx hf =>
    Tt.weak (node (by rw [h0]; decide) hx hf (by rw [h0]; intro y hy; cases hy)) fun _ _ _ => hm
  have two' : ∀ {o p q : Int} {a b : M.Expr}, Typ names a p → Typ names b q → (Fit a → Frm a → Tt (fun b => b = true → b0m names a) (fun n => law36_straight n a names)) → (Fit b → Frm b → Tt (fun c => c = true → b0m names b) (fun n => law36_straight n b names)) →
      Fit ⟨o, 0, [], [a, b]⟩ → Frm ⟨o, 0, [], [a, b]⟩ → Tt (fun r => r = true → (b0m names a ∧ b0m names b) ∧ ((o = 9 ∨ o = 10) → p ≠ 2 ∧ q ≠ 2)) (fun n => law36_straight n ⟨o, 0, [], [a, b]⟩ names) := by
    intro o p q a b ta tb sa sb hx hf
    refine Tt.weak (node (x := ⟨o, 0, [], [a, b]⟩) (show 2 ≤ 3 by decide) hx hf (fun y hy => ?_)) fun r hr h => ?_
    · rcases List.mem_cons.1 hy with rfl | hy
      · exact ⟨p, ta, sa⟩
      · obtain rfl := List.mem_singleton.1 hy
        exact ⟨q, tb, sb⟩
    · obtain ⟨p', tp, hp, ma⟩ := hr h a (by simp)
      obtain ⟨q', tq, hq, mb⟩ := hr h b (by simp)
      obtain rfl := Typ.uniq hn (b9n hx (y := a) (by simp)) tp ta
      obtain rfl := Typ.uniq hn (b9n hx (y := b) (by simp)) tq tb
      exact ⟨⟨ma, mb⟩, fun ho => ⟨hp ho, hq ho⟩⟩
  induction ht with
  | num h1 h2 => exact leaf rfl (.num h1 h2) (a9p (.num h1 h2) (by decide))
  | lifts h1 h2 => exact leaf rfl (.lifts h1 h2) (a9p (.lifts h1 h2) (by decide))
  | pers => exact leaf rfl .pers (a9p .pers (by decide))
  | flats => exact leaf rfl .flats (a9p .flats (by decide))
  | wgt h1 h2 => exact leaf rfl (.wgt h1 h2) fun E1 E2 Em k h => h.w _ h2
  | ari ho ta tb hp hq ha hb => intro hx hf; exact Tt.weak (two' ta tb ha hb hx hf) fun r hr h => d0s ho ta tb (hr h).1.1 (hr h).1.2 (hr h).2
  | mul ta tb hp hq h5 ha hb => intro hx hf; exact Tt.weak (two' ta tb ha hb hx hf) fun r hr h => c9f ta tb h5 (hr h).1.1 (hr h).1.2
  | div ta hp h1 h2 ha =>
    intro hx hf
    have tb := Typ.num (names := names) (by omega) h2
    exact Tt.weak (two' ta tb ha (leaf rfl tb (a9p tb (by decide))) hx hf) fun r hr h => c9a (hr h).1.1
  | @ite c a b p q tc ta tb hp hq hc ha hb =>
    intro hx hf
    refine Tt.weak (node (x := ⟨11, 0, [], [c, a, b]⟩) (show 3 ≤ 3 by decide) hx hf (fun y hy => ?_)) fun r hr h => ?_
    · simp only [List.mem_cons, List.not_mem_nil, or_false] at hy
      rcases hy with rfl | rfl | rfl
      · exact ⟨0, tc, hc⟩
      · exact ⟨p, ta, ha⟩
      · exact ⟨q, tb, hb⟩
    · obtain ⟨_, _, _, ma⟩ := hr h a (by simp)
      obtain ⟨_, _, _, mb⟩ := hr h b (by simp)
      exact c9h tc ma mb
  | rel ho ta tb ha hb => intro hx hf; exact Tt.weak (two' ta tb ha hb hx hf) fun r hr h => a9p (.rel ho ta tb) (by decide)
  | @not a ta ha =>
    intro hx hf
    refine Tt.weak (node (x := ⟨14, 0, [], [a]⟩) (show 1 ≤ 3 by decide) hx hf (fun y hy => ?_)) fun r hr h => a9p (.not ta) (by decide)
    obtain rfl := List.mem_singleton.1 hy
    exact ⟨0, ta, ha⟩
  | bin ho ta tb ha hb => intro hx hf; exact Tt.weak (two' ta tb ha hb hx hf) fun r hr h => a9p (.bin ho ta tb) (by decide)
def mix (k : Rat) (ws vs : List Rat) : List Rat := List.zipWith (fun w v => w + (v - w) * k) ws vs
theorem c8s {ws us : List Rat} {i : Nat} {w : Rat} (h : ws.drop i = w :: us) : ix (ws.map toF) (i : Int) = some (toF w) := by
  have := (Rt.drop_cons h).1
  rw [b2u] at this ⊢
  rw [List.getElem?_map, this]; rfl
theorem d0z {ws vs : List Rat} {κ : Rat} (hw : ∀ w, w ∈ ws → SmF 4 w) (hv : ∀ w, w ∈ vs → SmF 4 w) (hκ : SmF 2 κ) (hl : ws.length ≤ 1000) : ∀ (us ys : List Rat) (i : Nat) (acc : List Rat), ws.drop i = us → vs.drop i = ys → us.length = ys.length → acc.length = i →
    ∃ N, ∀ n m kont, N ≤ n → us.length < m → a3v n (ws.map toF) (vs.map toF) (toF κ) kont m (i : Int) (acc.map toF) = kont ((acc ++ mix κ us ys).map toF)
  | [], ys, i, acc, hd, _, _, _ => by
    refine ⟨0, fun n m kont _ hm => ?_⟩
    obtain ⟨m, rfl⟩ := left hm
    have hd2 : (ws.map toF).drop i = [] := by rw [← List.map_drop, hd]; rfl
    rw [a7t, a9t hd2]
    show kont (acc.map toF) = _
    rw [show mix κ [] ys = [] from rfl, List.append_nil]
  | w :: us, [], i, acc, _, _, hl2, _ => by simp at hl2
  | w :: us, v :: ys, i, acc, hd, hd', hl2, ha => by
    obtain ⟨h1, h2, h3⟩ := Rt.drop_cons hd
    obtain ⟨h1', h2', h3'⟩ := Rt.drop_cons hd'
    have iw := c8s hd
    have iv := c8s hd'
    have sw := hw w (List.mem_of_mem_drop (by rw [hd]; simp))
    have sv := hv v (List.mem_of_mem_drop (by rw [hd']; simp))
    obtain ⟨N1, e1⟩ := FSub_ev sv sw (by decide)
    have s2 := sv.sub sw
    obtain ⟨N2, e2⟩ := FMul_ev s2 hκ (by decide)
    have s3 := s2.mul hκ
    obtain ⟨N3, e3⟩ := FAdd_ev sw s3 (by decide)
    obtain ⟨N, ih⟩ := d0z hw hv hκ hl us ys (i + 1) (acc ++ [w + (v - w) * κ]) h2 h2' (by simpa using hl2) (by simp [ha])
    refine ⟨max N (max N1 (max N2 N3)), fun n m kont hn hm => ?_⟩
    obtain ⟨m, rfl, hm2⟩ := pred (by simpa using hm)
    have e1 : a9e n (toF v) (toF w) = some (toF (v - w), 0) := e1 n (by omega)
    have e2 : a8o n (toF (v - w)) (toF κ) = some (toF ((v - w) * κ), 0) := e2 n (by omega)
    have e3 : a7q n (toF w) (toF ((v - w) * κ)) = some (toF (w + (v - w) * κ), 0) := e3 n (by omega)
    have hd2 : (ws.map toF).drop i = toF w :: us.map toF := by rw [← List.map_drop, hd]; rfl
    rw [a7t, a4w hd2, cond_true, iv, Option.bind_some, iw, Option.bind_some, e1, Option.bind_some, Option.bind_some]
    show ((a8o n (toF (v - w)) (toF κ)).bind fun v22 => _) = _
    rw [e2, Option.bind_some, Option.bind_some]
    show ((a7q n (toF w) (toF ((v - w) * κ))).bind fun v23 => _) = _
    rw [e3, Option.bind_some, c8r (by simp only [List.length_map, List.length_cons, List.length_nil]; omega), Option.bind_some, Rt.inc64 (by omega)]
    have ih := ih n m kont (by omega) hm2
    rw [List.map_append] at ih
    show a3v n (ws.map toF) (vs.map toF) (toF κ) kont m ((i + 1 : Nat) : Int) (acc.map toF ++ [toF (w + (v - w) * κ)]) = _
    rw [show [toF (w + (v - w) * κ)] = [w + (v - w) * κ].map toF from rfl, ih, List.append_assoc]; rfl
theorem c9r (k : Rat) (ws vs : List Rat) (h : ws.length = vs.length) : (mix k ws vs).length = ws.length := by unfold mix; rw [List.length_zipWith]; omega
theorem c1u {k : Rat} {P : Rat → Prop} : ∀ {ws vs : List Rat}, (∀ w v, w ∈ ws → v ∈ vs → P (w + (v - w) * k)) → ∀ x, x ∈ mix k ws vs → P x
  | [], _, _, x, hx => by cases hx
  | _ :: _, [], _, x, hx => by cases hx
  | w :: ws, v :: vs, h, x, hx => by
    rcases List.mem_cons.1 (show x ∈ (w + (v - w) * k) :: mix k ws vs from hx) with rfl | hx
    · exact h w v (by simp) (by simp)
    · exact c1u (fun a b ha hb => h a b (by simp [ha]) (by simp [hb])) x hx
theorem c7m {names : List Rt.Bs} {ws vs : List Rat} {k : Rat} {s : Rt.Bs} (hs : s ∈ names) (hw : ws.length = names.length) (hv : vs.length = names.length) : look names (mix k ws vs) 0 s = look names ws 0 s + (look names vs 0 s - look names ws 0 s) * k := by
  unfold look mix
  have h := List.idxOf_lt_length_of_mem hs
  rw [List.getElem?_zipWith, List.getElem?_eq_getElem (by omega), List.getElem?_eq_getElem (by omega)]; rfl
theorem c3o {w v k : Rat} (hw : 0 ≤ w) (hv : 0 ≤ v) (h0 : 0 ≤ k) (h1 : k ≤ 1) : 0 ≤ w + (v - w) * k := by
  have a1 := Rat.mul_nonneg hv h0
  have a2 := Rat.mul_nonneg hw (show (0 : Rat) ≤ 1 - k by grind)
  grind
theorem mixes_ev (t : Tariff) (names : List Rt.Bs) (f : Facts) (weights others : List Frac) (k : Frac) : Ev (fun n => a9f n t names f weights others k) true := by
  unfold a9f
  refine Ev.bind small36 ?_
  have T : ∀ {x : Nat → Option Bool}, Ev (fun n => bif true then some true else x n) true := fun {x} => Ev.then rfl (Ev.pure _)
  obtain ⟨b, hb, hq⟩ := d2f t names f weights
  refine Ev.bind hb ?_
  cases b with
  | false => exact Ev.bind T (Ev.bind T (Ev.bind T (Ev.bind T (Ev.bind T T))))
  | true =>
  obtain ⟨b, hb2, hq2⟩ := d2f t names f others
  refine Ev.bind (a := !b) (Ev.else rfl (Ev.bind hb2 (Ev.pure _))) ?_
  cases b with
  | false => exact Ev.bind T (Ev.bind T (Ev.bind T (Ev.bind T T)))
  | true =>
  refine Ev.bind (Ev.else rfl (Ev.bind (d1l k 2) (Ev.pure _))) ?_
  cases hfk : (decide ((k.P.Digits.length : Int) ≤ 2) && decide ((k.Q.Digits.length : Int) ≤ 2)) with
  | false => exact Ev.bind T (Ev.bind T (Ev.bind T T))
  | true =>
  have hkl := c0h (k := 2) hfk
  refine Ev.bind (Ev.else rfl (Ev.bind (b6w hkl.1 hkl.2 (by decide)) (Ev.pure _))) ?_
  cases hrk : b0k k with
  | false => exact Ev.bind T (Ev.bind T T)
  | true =>
  obtain ⟨κ, rfl, hκ⟩ := c5s hkl hrk
  refine Ev.bind (Ev.else rfl (Ev.bind (FSign_ev hκ (by decide)) (Ev.pure _))) ?_
  rw [b8j]
  by_cases hκ0 : κ < 0
  · rw [decide_eq_true hκ0]; exact Ev.bind T T
  rw [decide_eq_false hκ0]
  have h1s : SmF 4 ((1 : Int) : Rat) := smI (by decide) (by decide) (by decide)
  refine Ev.bind (Ev.else rfl (Ev.bind (d0a (x := 1) (by decide) (by decide)) (Ev.bind (FCompare_ev hκ h1s (by decide)) (Ev.pure _)))) ?_
  by_cases hκ1 : 0 < cmpQ κ ((1 : Int) : Rat)
  · rw [decide_eq_true hκ1]; exact T
  rw [decide_eq_false hκ1]
  have hκ2 : κ ≤ ((1 : Int) : Rat) := (c9t _ _).1 (by omega)
  have hκ1 : κ ≤ 1 := hκ2
  have hκ0 : 0 ≤ κ := Rat.not_lt.1 hκ0
  refine Ev.else rfl ?_
  have s1 := hq rfl
  have s2 := hq2 rfl
  have n8 := s1.nl
  have l8 := s1.ll
  obtain ⟨r, er, hr⟩ := c6b s1.fit (show names.length < _ by omega) s1.lim (by decide) (by decide) (by omega) (by have := s1.wl; omega) (f := f)
  refine Ev.bind er ?_
  obtain ⟨r2, er2, hr2⟩ := c6b s2.fit (show names.length < _ by omega) s2.lim (by decide) (by decide) (by omega) (by have := s2.wl; omega) (f := f)
  refine Ev.bind er2 ?_
  rcases hr with ⟨h0, hc, ws, rfl, hrf, hsm, hs, hv⟩ | ⟨hne, hz⟩
  rotate_left
  · exact Ev.bind (Ev.then (by simpa using hne) (Ev.pure _)) T
  refine Ev.bind (a := r2.2 != 0) (Ev.else (by rw [h0]; rfl) (Ev.pure _)) ?_
  rcases hr2 with ⟨h02, _, vs, rfl, hrf2, hsm2, hs2, hv2⟩ | ⟨hne2, _⟩
  rotate_left
  · exact Ev.then (by simpa using hne2) (Ev.pure _)
  refine Ev.else (by rw [h02]; rfl) ?_
  obtain ⟨r1, r0⟩ := r
  obtain ⟨q1, q0⟩ := r2
  dsimp only at h0 hv h02 hv2
  subst h0 h02 hv hv2
  obtain ⟨j, hj, ht⟩ := hc.2.2
  have hfrm := hc.2.1.2.1
  refine Ev.bind (c5z (by omega) hc.1 s1.fit hfrm ht) ?_
  have hlw := hrf.hw
  have hlv := hrf2.hw
  refine Ev.bind (a := false) ?_ (Ev.else rfl ?_)
  · by_cases hj1 : j = 1
    · refine Ev.then (by simpa using hj1) (Ev.bind (b8y hs (by decide) ?_) (Ev.pure _))
      exact a5f (E := mkE names f ws) (E' := mkE names f vs) rfl rfl rfl ht (by omega)
    · exact Ev.else (by simpa using hj1) (Ev.pure _)
  have hsmm : ∀ w, w ∈ mix κ ws vs → SmF 16 w := c1u fun w v h1 h2 => by have := (hsm w h1).add (((hsm2 v h2).sub (hsm w h1)).mul hκ); exact this.mono (by omega)
  have hrfm : RF names f (mix κ ws vs) := ⟨hrf.hl, by rw [c9r _ _ _ (by omega)]; exact hlw, hrf.p1, hrf.p2, hrf.f1, hrf.f2, hrf.l1, c1u fun w v h1 h2 => c3o (hrf.w1 w h1) (hrf2.w1 v h2) hκ0 hκ1⟩
  obtain ⟨N, hL⟩ := d0z hsm hsm2 hκ (by omega) ws vs 0 [] rfl rfl (by omega) rfl
  refine Ev.from (N + ws.length + 1) (fun n hn => hL n n _ (by omega) (by omega)) ?_
  rw [List.nil_append]
  obtain ⟨ev, hs3⟩ := c7i s1.fit (show names.length < _ by omega) hsmm (by decide) (by decide) (by omega) hc hrfm
  have d1 := hs2.sub hs
  have d2 := d1.mul hκ
  refine Ev.bind ev (Ev.bind (FSub_ev hs2 hs (by decide)) (Ev.bind (FMul_ev d1 hκ (by decide)) (Ev.bind (FAdd_ev hs d2 (by decide)) ?_)))
  refine Ev.bind (a := true) (Ev.then rfl (Ev.pure _)) ?_
  obtain ⟨b, eb, hb⟩ := c3s (show names.length < _ by omega) hc.1 ht s1.fit hfrm
  refine Ev.bind (a := true) (Ev.then rfl (Ev.bind eb ?_)) (Ev.pure _)
  cases b with
  | false => exact Ev.bind T (Ev.pure _)
  | true =>
    refine Ev.bind (a := true) (Ev.else rfl (Ev.bind (b8y hs3 (by decide) ?_) (Ev.pure _))) (Ev.pure _)
    exact hb rfl (mkE names f ws) (mkE names f vs) (mkE names f (mix κ ws vs)) κ ⟨rfl, rfl, rfl, rfl, rfl, rfl, fun s hs => c7m hs hlw hlv⟩
end Go.Proofs.YtknpjecpcmajiaaGreat.Fe

namespace Go.Proofs.YtknpjecpcmajiaaGreat.FeeMixes
open Go Go.ChangeShapes Go.WideShapes Go.ChangeAt Go.RowKit Rt Wrap
set_option maxRecDepth 100000 in
theorem c7j (H : Type) (enc : TypeId × Value → H) (W : World) (base : Nat) (args : Array Value) (ds gs : List (DataW H)) (before : List MemPlace)
    (hval : ∀ (j : Nat) t v, Tryz.f4.params[j]? = some t → args[j]? = some v → Value.okWide Tryz.prog W .any base t v)
    (hW : DataW.Whole enc Tryz.prog Tryz.f4.params.toList Rows.feeMixesSpec.vars false W args.toList ds gs before) (_hL : laidMetH Tryz.prog tabs W) :
    Calls Tryz.prog 4 args W fun e W' => ∃ v, e = .returned v ∧ Rows.feeMixesSpec.post enc Tryz.prog Tryz.f4 false true false false W args v W' := by
  have hW' := hW
  obtain ⟨p, q, hA0, hV, rfl, hfz, hnd⟩ := hW
  have hA : DataW.TrodAll enc Tryz.prog W 0 (fun _ => true) true Tryz.f4.params.toList args.toList ds p := hA0
  rw [Tryz.params4] at hA hval
  obtain ⟨v0, vs0, d0, ds0, p0, q0, hargs, rfl, rfl, h0, r0⟩ := trodAll_cons hA
  obtain ⟨v1, vs1, d1, ds1, p1, q1, rfl, rfl, rfl, h1, r1⟩ := trodAll_cons r0
  obtain ⟨v2, vs2, d2, ds2, p2, q2, rfl, rfl, rfl, h2, r2⟩ := trodAll_cons r1
  obtain ⟨v3, vs3, d3, ds3, p3, q3, rfl, rfl, rfl, h3, r3⟩ := trodAll_cons r2
  obtain ⟨v4, vs4, d4, ds4, p4, q4, rfl, rfl, rfl, h4, r4⟩ := trodAll_cons r3
  obtain ⟨v5, vs5, d5, ds5, p5, q5, rfl, rfl, rfl, h5, r5⟩ := trodAll_cons r4
  obtain ⟨rfl, rfl, rfl⟩ := trodAll_nil r5
  obtain rfl : args = #[v0, v1, v2, v3, v4, v5] := by cases args; simp_all
  obtain ⟨rfl, rfl⟩ := trodVars_none hV
  obtain ⟨cs0, rfl, hsz0⟩ := okWide_struct Tryz.underlying26 (hval 0 26 v0 rfl rfl)
  obtain ⟨y0, hr0, ho0⟩ := b6m (d0q W) h0
  obtain ⟨ax0_4, nx0_4, cx0_4, he0, sx0_4⟩ := hr0
  have he0' : cs0.toList = [vs y0.Name, .int .i64 y0.Fee.Op, .int .i64 y0.Fee.N, vs y0.Fee.Name, .slice ax0_4 nx0_4 cx0_4, .int .i64 y0.Cap] := he0
  obtain rfl : cs0 = #[vs y0.Name, .int .i64 y0.Fee.Op, .int .i64 y0.Fee.N, vs y0.Fee.Name, .slice ax0_4 nx0_4 cx0_4, .int .i64 y0.Cap] := by rw [← Array.toArray_toList (xs := cs0), he0']
  obtain ⟨a1, n1, c1, l1, rfl, hl1, ho1⟩ := c1j Tryz.underlying27 (c9j W) (hval 1 27 v1 rfl rfl) h1
  obtain ⟨cs2, rfl, hsz2⟩ := okWide_struct Tryz.underlying30 (hval 2 30 v2 rfl rfl)
  obtain ⟨y2, hr2, ho2⟩ := b6m (c9n W) h2
  obtain ⟨ax2_0, nx2_0, cx2_0, he2, sx2_0⟩ := hr2
  have he2' : cs2.toList = [.slice ax2_0 nx2_0 cx2_0, .int .i64 y2.Persons, .int .i64 y2.Flats] := he2
  obtain rfl : cs2 = #[.slice ax2_0 nx2_0 cx2_0, .int .i64 y2.Persons, .int .i64 y2.Flats] := by rw [← Array.toArray_toList (xs := cs2), he2']
  obtain ⟨a3, n3, c3, l3, rfl, hl3, ho3⟩ := c1j Tryz.underlying31 (c6q W) (hval 3 31 v3 rfl rfl) h3
  obtain ⟨a4, n4, c4, l4, rfl, hl4, ho4⟩ := c1j Tryz.underlying31 (c6q W) (hval 4 31 v4 rfl rfl) h4
  obtain ⟨cs5, rfl, hsz5⟩ := okWide_struct Tryz.underlying37 (hval 5 37 v5 rfl rfl)
  obtain ⟨y5, hr5, ho5⟩ := b6m (c6k W) h5
  obtain ⟨ax5_1, nx5_1, cx5_1, ax5_3, nx5_3, cx5_3, he5, sx5_1, sx5_3⟩ := hr5
  have he5' : cs5.toList = [.int .i64 y5.P.Sign, .slice ax5_1 nx5_1 cx5_1, .int .i64 y5.Q.Sign, .slice ax5_3 nx5_3 cx5_3] := he5
  obtain rfl : cs5 = #[.int .i64 y5.P.Sign, .slice ax5_1 nx5_1 cx5_1, .int .i64 y5.Q.Sign, .slice ax5_3 nx5_3 cx5_3] := by rw [← Array.toArray_toList (xs := cs5), he5']
  obtain ⟨N, hN⟩ := Fe.mixes_ev y0 l1 y2 l3 l4 y5
  refine (M.law36_FeeMixes_ok N y0 l1 y2 l3 l4 y5 true (hN N (Nat.le_refl N)) (c9u W) sx0_4 hl1 sx2_0 hl3 hl4 sx5_1 sx5_3).mono ?_
  rintro e W' ⟨v, F', O', rfl, hh, rfl, rfl⟩
  refine ⟨_, rfl, c5j laidOut ?_ rfl (by kernel_rfl) Tryz.underlying4 rfl hW' hh.below⟩
  rw [Tryz.params4]
  intro t ht
  have ht : t ∈ [26, 27, 30, 31, 31, 37] := ht
  rcases List.mem_cons.1 ht with rfl | ht
  · exact ⟨by kernel_rfl, of_decide_eq_true (by kernel_rfl)⟩
  rcases List.mem_cons.1 ht with rfl | ht
  · exact ⟨by kernel_rfl, of_decide_eq_true (by kernel_rfl)⟩
  rcases List.mem_cons.1 ht with rfl | ht
  · exact ⟨by kernel_rfl, of_decide_eq_true (by kernel_rfl)⟩
  rcases List.mem_cons.1 ht with rfl | ht
  · exact ⟨by kernel_rfl, of_decide_eq_true (by kernel_rfl)⟩
  rcases List.mem_cons.1 ht with rfl | ht
  · exact ⟨by kernel_rfl, of_decide_eq_true (by kernel_rfl)⟩
  rcases List.mem_cons.1 ht with rfl | ht
  · exact ⟨by kernel_rfl, of_decide_eq_true (by kernel_rfl)⟩
  exact absurd ht (List.not_mem_nil)
theorem reads (os : Os) {H : Type} (enc : TypeId × Value → H) : ∃ places, DataW.whole enc Tryz.prog ((b7y os).forCall (fun _ _ => 0) ⟨#[], #[.agg #[.string ⟨#[]⟩, .int .i64 0, .int .i64 0, .string ⟨#[]⟩, .slice none 0 0, .int .i64 0], .slice none 0 0, .agg #[.slice none 0 0, .int .i64 0, .int .i64 0], .slice none 0 0, .slice none 0 0, .agg #[.int .i64 0, .slice none 0 0, .int .i64 0, .slice none 0 0]], []⟩).memory Tryz.f4.params.toList Rows.feeMixesSpec.vars false (#[.agg #[.string ⟨#[]⟩, .int .i64 0, .int .i64 0, .string ⟨#[]⟩, .slice none 0 0, .int .i64 0], .slice none 0 0, .agg #[.slice none 0 0, .int .i64 0, .int .i64 0], .slice none 0 0, .slice none 0 0, .agg #[.int .i64 0, .slice none 0 0, .int .i64 0, .slice none 0 0]] : Array Value).toList 8 = some ([.agg [.lit (.string []), .agg [.lit (.int .i64 0), .lit (.int .i64 0), .lit (.string []), .nil], .lit (.int .i64 0)], .nil, .agg [.nil, .lit (.int .i64 0), .lit (.int .i64 0)], .nil, .nil, .agg [.agg [.lit (.int .i64 0), .nil], .agg [.lit (.int .i64 0), .nil]]], [], places) :=
  ⟨[], by kernel_rfl⟩
set_option maxRecDepth 100000 in
theorem d0y (os : Os) (started : os.Started) (H : Type) (enc : TypeId × Value → H) (F : Stop.Interp) :
    ReturnsInHanded {} Tryz.checked os 4 .any ((OpenSpec.ofChange Rows.feeMixesSpec).preRow enc Tryz.prog Tryz.f4 Rows.feeMixesRow.domain false Rows.feeMixesRow.laid) (((OpenSpec.ofChange Rows.feeMixesSpec).at F).post enc Tryz.prog Tryz.f4 false true false false) := by
  obtain ⟨places, hx⟩ := reads os enc
  refine returnsInHanded_of_row (C := Tryz.checked) (s := OpenSpec.ofChange Rows.feeMixesSpec) own started (by kernel_rfl) Tryz.func4
    (witness_row_at (enc := enc) (C := Tryz.checked) false (b7y os) #[.agg #[.string ⟨#[]⟩, .int .i64 0, .int .i64 0, .string ⟨#[]⟩, .slice none 0 0, .int .i64 0], .slice none 0 0, .agg #[.slice none 0 0, .int .i64 0, .int .i64 0], .slice none 0 0, .slice none 0 0, .agg #[.int .i64 0, .slice none 0 0, .int .i64 0, .slice none 0 0]] rfl (by kernel_rfl) (by kernel_rfl) (by kernel_rfl)
      (OpenSpec.preRow_of_cond 8 hx (by kernel_rfl) (fun k hk => by cases hk) (by kernel_rfl) (c8c os _))) ?_
  intro W base args ds gs before hval hW _ _ _ hL _ _
  exact c7j H enc W base args ds gs before hval hW hL
theorem said : Rows.FeeMixesSaid :=
  OpenClaim.holds_of_cond 4 Tryz.f4 rfl rfl rfl rfl rfl rfl rfl ⟨rfl, rfl, rfl, rfl, rfl⟩ rfl rfl rfl rfl rfl (by kernel_rfl) Tryz.func4 (by kernel_rfl)
    (of_decide_eq_true (by kernel_rfl)) (by unfold Func.isWrapper; first | (rw [if_pos (by decide +kernel)]; kernel_rfl) | (rw [if_neg (by decide +kernel)]; exact ⟨rfl, rfl⟩))
    (fun os started H enc _ F => by rw [OpenClaim.pre_eq_preRow]; exact d0y os started H enc F)
end Go.Proofs.YtknpjecpcmajiaaGreat.FeeMixes

