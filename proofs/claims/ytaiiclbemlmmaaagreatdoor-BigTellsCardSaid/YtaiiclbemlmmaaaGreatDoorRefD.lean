/-
  THE REFERENCE's FUNCTIONS, as arithmetic, fourth part: products, long division.
-/
import Derived.Test.YtaiiclbemlmmaaaGreatDoorRefC
namespace Go.Proofs.YtaiiclbemlmmaaaGreatDoor.D
open Go Rt M

theorem times_L1 (n : Nat) (a b : List Int) (kont : List Int → Option (List Int)) (ha : InR a) (hb : InR b) (hla : a.length < 1073741824) (hlb : b.length < 1073741824) (hn : b.length + 2 ≤ n) (T : Int) : ∀ (us : List Int) (i m : Nat) (l : List Int),
    a.drop i = us → us.length < m → InR l → l.length = a.length + b.length → val l < pw (i + b.length) → val l + pw i * (val us * val b) = T →
    ∃ l', ref04_times_L1 n a b kont m (i : Int) l = kont l' ∧ InR l' ∧ l'.length = a.length + b.length ∧ val l' = T
  | [], i, m + 1, l, hd, _, hl, hlen, _, hv => by
    refine ⟨l, ?_, hl, hlen, ?_⟩
    · unfold ref04_times_L1
      have := drop_nil hd
      rw [show decide ((i : Int) < (a.length : Int)) = false by simp; omega]; rfl
    · rw [← hv]; simp [val]
  | x :: us, i, m + 1, l, hd, hm, hl, hlen, hlt, hv => by
    obtain ⟨f1, f2, f3⟩ := drop_cons hd
    have xr := (show InR (x :: us) by rw [← hd]; exact InR.drop ha i).head
    unfold ref04_times_L1
    rw [show decide ((i : Int) < (a.length : Int)) = true by simpa using f3, cond_true]
    have hbv := val_lt hb
    have hb0 := val_nonneg hb
    have hpi := pw_pos i
    have hW : val l + pw i * (x * val b) < pw (i + b.length + 1) := by
      have h1 : x * val b ≤ 1048575 * pw b.length := Int.le_trans (Int.mul_le_mul_of_nonneg_right (show x ≤ 1048575 by omega) hb0) (Int.mul_le_mul_of_nonneg_left (Int.le_of_lt hbv) (by decide))
      have h2 := Int.mul_le_mul_of_nonneg_left h1 (Int.le_of_lt hpi)
      rw [pw_add] at hlt
      rw [show pw (i + b.length + 1) = 1048576 * pw (i + b.length) from rfl, pw_add]
      have h3 : pw i * (1048575 * pw b.length) = 1048575 * (pw i * pw b.length) := by grind
      omega
    obtain ⟨l', h1, h2, h3, h4⟩ := times_L2 n a b i x (fun (l5 : List Int) => ref04_times_L1 n a b kont m (iadd .i64 (i : Int) 1) l5) f1 xr hb hla hlb (val l + pw i * (x * val b)) f3 hW n 0 0 l hl hlen (by decide) (by decide) (by simp) (.inl (by omega)) (by omega)
    obtain ⟨l2, h5, h6, h7, h8⟩ := times_L1 n a b kont ha hb hla hlb hn T us (i + 1) m l' f2 (by simpa using hm) h2 h3 (by rw [h4, show i + 1 + b.length = i + b.length + 1 by omega]; exact hW) (by
      rw [h4, ← hv, show pw (i + 1) = 1048576 * pw i from rfl]
      simp only [val]
      grind)
    refine ⟨l2, ?_, h6, h7, h8⟩
    refine Eq.trans h1 ?_
    show ref04_times_L1 n a b kont m (iadd .i64 (i : Int) 1) l' = _
    rw [inc64 (by omega)]; exact h5
  | _, _, 0, _, _, h, _, _, _, _ => by omega
theorem val_zeros : ∀ k, val (List.replicate k (0 : Int)) = 0
  | 0 => rfl
  | k + 1 => by rw [List.replicate_succ]; simp only [val, val_zeros k]; rfl
theorem InR_zeros (k : Nat) : InR (List.replicate k (0 : Int)) := fun e he => by rw [(List.mem_replicate.1 he).2]; decide
theorem times_n {a b : List Int} (ha : InR a) (hb : InR b) (hla : a.length < 536870912) (hlb : b.length < 536870912) {n : Nat} (hn : a.length + b.length + 2 < n) : ref04_times n a b = some (dig (val a * val b).toNat) := by
  unfold ref04_times
  obtain ⟨l', h1, h2, h3, h4⟩ := times_L1 n a b (fun (l3 : List Int) => (ref04_trim n l3).bind fun v1 => some v1) ha hb (by omega) (by omega) (by omega) (val a * val b) a 0 n (List.replicate (a.length + b.length) 0) rfl (by omega) (InR_zeros _) (by simp) (by rw [val_zeros]; exact pw_pos _) (by rw [val_zeros]; simp [pw])
  rw [show iadd .i64 (a.length : Int) (b.length : Int) = ((a.length + b.length : Nat) : Int) by rw [iadd_i64 (by omega) (by omega)]; omega, mks_eq (by omega), Option.bind_some]
  refine Eq.trans h1 ?_
  show (ref04_trim n l').bind _ = _
  rw [rtrim_n h2 (by omega) (by omega), h4]; rfl
theorem times_dig {u v n : Nat} (hu : (dig u).length < 536870912) (hv : (dig v).length < 536870912) (hn : (dig u).length + (dig v).length + 2 < n) : ref04_times n (dig u) (dig v) = some (dig (u * v)) := by
  rw [times_n (InR_dig u) (InR_dig v) hu hv hn, val_dig, val_dig, ← Int.natCast_mul, Int.toNat_natCast]

/- long division: the digit of the quotient is searched by halves -/
theorem over_L2 (n : Nat) (b r : Nat) (kont : Int → Option (List Int × List Int)) (hb : 0 < b) (hlb : (dig b).length < 536870900) (hlr : (dig r).length < 536870900) (hn : (dig b).length + (dig r).length + 8 < n) : ∀ (m : Nat) (lo hi : Nat),
    hi - lo < m → lo < hi → hi ≤ 1048576 → lo * b ≤ r → r < hi * b → ref04_over_L2 n (dig b) (dig r) kont m (lo : Int) (hi : Int) = kont ((r / b : Nat) : Int)
  | 0, _, _, h, _, _, _, _ => by omega
  | m + 1, lo, hi, hm, hlt, hh, h1, h2 => by
    unfold ref04_over_L2
    rw [isub_i64 (by omega) (by omega)]
    by_cases hg : 1 < hi - lo
    · rw [show decide (1 < (hi : Int) - (lo : Int)) = true by simp; omega, cond_true, iadd_i64 (by omega) (by omega), quo_i64 (by omega) (by omega) (by decide), Option.bind_some]
      have e1 : ((lo : Int) + (hi : Int)) / 2 = (((lo + hi) / 2 : Nat) : Int) := by omega
      rw [e1]
      generalize hmid : (lo + hi) / 2 = mid at *
      have e2 : ref04_times n (dig b) [(mid : Int)] = some (dig (b * mid)) := by
        rw [times_n (InR_dig b) (InR.cons (by omega) (by omega) InR.nil) (by omega) (by simp) (by simp; omega), val_dig]
        have : val [(mid : Int)] = mid := by simp [val]
        rw [this, ← Int.natCast_mul, Int.toNat_natCast]
      have hbm : (dig (b * mid)).length ≤ (dig b).length + 1 := by
        have hs1 : Sm (dig b).length (b : Int) := sm_of_len (by rw [Int.natAbs_natCast]; exact Nat.le_refl _)
        have hs2 : Sm 1 (mid : Int) := by unfold Sm; rw [Int.natAbs_natCast, show pw 1 = 1048576 by decide]; omega
        have := len_of_sm (hs1.mul hs2)
        rwa [← Int.natCast_mul, Int.natAbs_natCast] at this
      rw [e2, Option.bind_some, less_n (InR_dig r) (InR_dig (b * mid)) (by omega) (by omega) (by omega), Option.bind_some, val_dig, val_dig]
      by_cases hl : r < b * mid
      · rw [show decide ((r : Int) < ((b * mid : Nat) : Int)) = true by rw [decide_eq_true_eq]; omega, cond_true]
        exact over_L2 n b r kont hb hlb hlr hn m lo mid (by omega) (by omega) (by omega) h1 (by rw [Nat.mul_comm]; exact hl)
      · rw [show decide ((r : Int) < ((b * mid : Nat) : Int)) = false by rw [decide_eq_false_iff_not]; omega, cond_false]
        exact over_L2 n b r kont hb hlb hlr hn m mid hi (by omega) (by omega) hh (by rw [Nat.mul_comm]; omega) h2
    · rw [show decide (1 < (hi : Int) - (lo : Int)) = false by simp; omega, cond_false]
      have : hi = lo + 1 := by omega
      subst this
      have : r / b = lo := by
        apply Nat.div_eq_of_lt_le
        · exact h1
        · exact h2
      rw [this]
end Go.Proofs.YtaiiclbemlmmaaaGreatDoor.D
