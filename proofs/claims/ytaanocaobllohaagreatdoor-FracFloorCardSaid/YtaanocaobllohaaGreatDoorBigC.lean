/-
  THE LOOPS OF THE BIG INTEGERS' DIGITS: each mirror is what the plain functions over digits say, with fuel enough.
-/
import Derived.Test.YtaanocaobllohaaGreatDoorMirB
import Derived.Test.YtaanocaobllohaaGreatDoorDig
namespace Go.Proofs.YtaanocaobllohaaGreatDoor.D
open Go Rt M

theorem inc64 {i : Nat} (h : i < 4611686018427387904) : iadd .i64 (i : Int) 1 = ((i + 1 : Nat) : Int) := by rw [iadd_i64 (by omega) (by omega)]; omega
theorem dec64 {i : Nat} (h : i < 4611686018427387904) : isub .i64 ((i + 1 : Nat) : Int) 1 = (i : Int) := by rw [isub_i64 (by omega) (by omega)]; omega
theorem drop_cons {α : Type} {a : List α} {i : Nat} {x : α} {xs : List α} (h : a.drop i = x :: xs) : ix a (i : Int) = some x ∧ a.drop (i + 1) = xs ∧ i < a.length := by
  have h1 : a[i]? = some x := by have := congrArg (fun l => l[0]?) h; simpa using this
  refine ⟨by rw [ix_nat]; exact h1, ?_, (List.getElem?_eq_some_iff.1 h1).1⟩
  rw [← List.drop_drop, h]; rfl
theorem drop_nil {α : Type} {a : List α} {i : Nat} (h : a.drop i = []) : a.length ≤ i := by simpa using h
theorem InR.drop {l : List Int} (h : InR l) (k : Nat) : InR (l.drop k) := fun e he => h e (List.mem_of_mem_drop he)
theorem InR.take {l : List Int} (h : InR l) (k : Nat) : InR (l.take k) := fun e he => h e (List.mem_of_mem_take he)

/- trim -/
theorem trim_L (n : Nat) (kont : Int → Option (List Int)) : ∀ (r : Nat) (c : List Int) (m : Nat), Canon c → c.length + r < 1099511627776 → r < m →
    big_trim_L1 n (c ++ List.replicate r 0) kont m ((c.length + r : Nat) : Int) = kont (c.length : Int)
  | 0, c, m + 1, hc, hl, _ => by
    rw [big_trim_L1_s]
    simp only [Nat.add_zero, List.replicate_zero, List.append_nil]
    rcases List.eq_nil_or_concat c with rfl | ⟨p, d, rfl⟩
    · rfl
    · rw [List.concat_eq_append] at *
      have hd : (d == 0) = false := by
        have := hc.2
        simpa using this
      have e0 : isub .i64 (((p ++ [d]).length : Nat) : Int) 1 = (p.length : Int) := by rw [List.length_append, List.length_singleton]; exact dec64 (by simp at hl; omega)
      have e1 : decide ((0 : Int) < ((p ++ [d]).length : Int)) = true := by rw [decide_eq_true_eq, List.length_append, List.length_singleton]; omega
      rw [e1, e0, ix_mid p d [] rfl]
      simp only [cond_true, Option.bind_some, hd, cond_false]
  | r + 1, c, m + 1, hc, hl, hm => by
    rw [big_trim_L1_s]
    have e1 : decide ((0 : Int) < ((c.length + (r + 1) : Nat) : Int)) = true := by simp; try omega
    have e0 : isub .i64 ((c.length + (r + 1) : Nat) : Int) 1 = ((c.length + r : Nat) : Int) := by rw [isub_i64 (by omega) (by omega)]; omega
    have e2 : ix (c ++ List.replicate (r + 1) 0) ((c.length + r : Nat) : Int) = some 0 := by
      rw [ix_nat, List.getElem?_append_right (by omega)]
      simp
    rw [e1, e0, e2]
    simp only [cond_true, Option.bind_some, beq_self_eq_true]
    -- the last zero is not looked at any more
    have e3 : ∀ (m : Nat) (k : Nat), k ≤ c.length + r → big_trim_L1 n (c ++ List.replicate (r + 1) 0) kont m (k : Int) = big_trim_L1 n (c ++ List.replicate r 0) kont m (k : Int) := by
      intro m
      induction m with
      | zero => intro k _; rfl
      | succ m ih =>
        intro k hk
        rw [big_trim_L1_s, big_trim_L1_s]
        cases k with
        | zero => rfl
        | succ k =>
          rw [dec64 (by omega)]
          have e4 : ix (c ++ List.replicate (r + 1) 0) (k : Int) = ix (c ++ List.replicate r 0) (k : Int) := by
            rw [ix_nat, ix_nat, List.replicate_succ', ← List.append_assoc, List.getElem?_append_left (by simp; omega)]
          rw [e4, ih k (by omega)]
    rw [e3 m _ (Nat.le_refl _)]
    exact trim_L n kont r c m hc (by omega) (by omega)
  | _, _, 0, _, _, h => by omega

theorem trim_n {l : List Int} (hl : InR l) (hlen : l.length < 1099511627776) {n : Nat} (hn : l.length < n) : big_trim n l = some (dig (val l).toNat) := by
  obtain ⟨r, hr⟩ := split_dig hl
  have h1 : l.length = (dig (val l).toNat).length + r := by conv => lhs; rw [hr]
                                                            simp
  unfold big_trim
  have h2 := trim_L n (fun (nx2 : Int) => (lsl l 0 nx2).bind fun l2 => some l2) r (dig (val l).toNat) n (Canon_dig _) (by omega) (by omega)
  rw [← hr, ← h1] at h2
  rw [h2]
  have h3 := lsl_eq (l := l) (p := 0) (q := (dig (val l).toNat).length) (by omega) (by omega)
  rw [show ((0 : Nat) : Int) = 0 from rfl] at h3
  rw [h3]
  simp only [Option.bind_some, List.drop_zero]
  have h4 : ∀ c : List Int, l = c ++ List.replicate r 0 → l.take c.length = c := fun c hc => by rw [hc]; exact List.take_left
  rw [h4 _ hr]
theorem trim_ev {l : List Int} (hl : InR l) (hlen : l.length < 1099511627776) : Ev (fun n => big_trim n l) (dig (val l).toNat) := ⟨l.length + 1, fun _ hn => trim_n hl hlen hn⟩

/- add -/
theorem add_L (n : Nat) (a b : List Int) (kont : Int → List Int → Option (List Int)) (ha : a.length < 1099511627776) (hb : InR b) : ∀ (us : List Int) (i : Nat) (c : Int) (pre suf : List Int) (m : Nat), a.drop i = us → InR us → 0 ≤ c → c ≤ 1 → pre.length = i → us.length ≤ suf.length → us.length < m →
    big_add_L1 n a b kont m c (i : Int) (pre ++ suf) = kont (addD c us (b.drop i)).2 (pre ++ ((addD c us (b.drop i)).1 ++ suf.drop us.length))
  | [], i, c, pre, suf, m + 1, hd, _, _, _, _, _, _ => by
    rw [big_add_L1_s]
    have := drop_nil hd
    have e1 : decide ((i : Int) < (a.length : Int)) = false := by simp; omega
    rw [e1]; simp [addD]
  | x :: xs, i, c, pre, [], m + 1, _, _, _, _, _, hs, _ => by simp at hs
  | x :: xs, i, c, pre, z :: suf, m + 1, hd, hx, h0, h1, hp, hs, hm => by
    rw [big_add_L1_s]
    obtain ⟨e1, e2, e3⟩ := drop_cons hd
    have e4 : decide ((i : Int) < (a.length : Int)) = true := by simp; omega
    have hx0 := hx.head
    have hy0 := (InR.drop hb i).headD
    have e5 : (bif decide ((i : Int) < (b.length : Int)) then (ix b (i : Int)).bind fun ex4 => some (iadd .i64 (iadd .i64 c x) ex4) else some (iadd .i64 c x)) = some (c + x + (b.drop i).headD 0) := by
      cases hbd : b.drop i with
      | nil =>
        have := drop_nil hbd
        have e6 : decide ((i : Int) < (b.length : Int)) = false := by simp; omega
        rw [e6, iadd_i64 (by omega) (by omega)]; simp
      | cons y ys =>
        obtain ⟨f1, _, f3⟩ := drop_cons hbd
        have e6 : decide ((i : Int) < (b.length : Int)) = true := by simp; omega
        rw [hbd] at hy0
        simp only [List.headD_cons] at hy0
        rw [e6, f1, iadd_i64 (x := c) (by omega) (by omega)]
        simp only [cond_true, Option.bind_some, List.headD_cons]
        rw [iadd_i64 (by omega) (by omega)]
    rw [e4, e1]
    simp only [cond_true, Option.bind_some]
    rw [e5]
    simp only [Option.bind_some]
    rw [ix_mid pre z suf (by omega), iand_mask, lset_mid pre z _ suf (by omega), shr_i64, inc64 (by omega)]
    simp only [Option.bind_some]
    have ih := add_L n a b kont ha hb xs (i + 1) ((c + x + (b.drop i).headD 0) / 1048576) (pre ++ [(c + x + (b.drop i).headD 0) % 1048576]) suf m e2 hx.tail (by omega) (by omega) (by simp; omega) (by simpa using hs) (by simpa using hm)
    rw [List.append_assoc, List.singleton_append] at ih
    rw [ih]
    have e7 : b.drop (i + 1) = (b.drop i).tail := by simp
    simp only [addD, e7, List.append_assoc, List.nil_append, List.cons_append, List.drop_succ_cons, List.length_cons]
  | _, _, _, _, _, 0, _, _, _, _, _, _, h => by omega

theorem set_last {p : List Int} {x y : Int} : lset (p ++ [x]) (p.length : Int) y = some (p ++ [y]) := lset_mid p x y [] rfl

theorem add_ev {a b : List Int} (ha : InR a) (hb : InR b) (hla : a.length < 1073741824) (hlb : b.length < 1073741824) : Ev (fun n => big_add n a b) (dig (val a + val b).toNat) := by
  -- the longer one first
  have key : ∀ {a b : List Int}, InR a → InR b → a.length < 1073741824 → b.length ≤ a.length → Ev (fun n => (mks 8 (0 : Int) (iadd .i64 (a.length : Int) 1)).bind fun l1 =>
      big_add_L1 n a b (fun (carry2 : Int) (l3 : List Int) => (ix l3 (a.length : Int)).bind fun _ => (lset l3 (a.length : Int) carry2).bind fun l4 => (big_trim n l4).bind fun v1 => some v1) n 0 0 l1) (dig (val a + val b).toNat) := by
    intro a b ha hb hla hle
    refine Ev.step (by rw [inc64 (by omega)]; exact mks_eq (by omega)) ?_
    refine ⟨a.length + 2, fun n hn => ?_⟩
    have h1 := add_L n a b (fun (carry2 : Int) (l3 : List Int) => (ix l3 (a.length : Int)).bind fun _ => (lset l3 (a.length : Int) carry2).bind fun l4 => (big_trim n l4).bind fun v1 => some v1) (by omega) hb a 0 0 [] (List.replicate (a.length + 1) 0) n rfl ha (by decide) (by decide) rfl (by simp) (by omega)
    simp only [List.nil_append, List.drop_zero] at h1
    rw [show ((0 : Nat) : Int) = 0 from rfl] at h1
    dsimp only
    rw [h1]
    have e1 : (List.replicate (a.length + 1) (0 : Int)).drop a.length = [0] := by simp
    have e2 := addD_len a b 0
    have e3 := addD_carry a b 0 ha hb (by decide) (by decide)
    have e4 := addD_val a b 0 hle
    rw [e1, ix_mid _ 0 [] (by rw [e2]), lset_mid _ 0 _ [] (by rw [e2])]
    simp only [Option.bind_some]
    have e5 : InR ((addD 0 a b).1 ++ [(addD 0 a b).2]) := (addD_in a b 0).append (InR.cons e3.1 (by omega) InR.nil)
    rw [trim_n e5 (by simp [e2]; omega) (by simp [e2]; omega)]
    simp only [Option.bind_some]
    have e6 : val ((addD 0 a b).1 ++ [(addD 0 a b).2]) = val a + val b := by
      rw [← valc_append]
      simp only [val, Int.mul_zero, Int.add_zero]
      omega
    rw [e6]
  unfold big_add
  by_cases hlt : a.length < b.length
  · refine Ev.step (a := (b, a)) (by rw [show decide ((a.length : Int) < (b.length : Int)) = true from by simp; omega]; rfl) ?_
    rw [Int.add_comm]
    exact key hb ha hlb (by omega)
  · refine Ev.step (a := (a, b)) (by rw [show decide ((a.length : Int) < (b.length : Int)) = false from by simp; omega]; rfl) ?_
    exact key ha hb hla (by omega)
end Go.Proofs.YtaanocaobllohaaGreatDoor.D
