/-
  THE BIG INTEGERS' FUNCTIONS, as arithmetic, sixth part: Read.
-/
import Derived.Test.YtaanocaobllohaaGreatDoorBigZ
namespace Go.Proofs.YtaanocaobllohaaGreatDoor.D
open Go Rt M

theorem dig_ten : dig 10 = [10] := by rw [dig_pos (by decide), show 10 / 1048576 = 0 from rfl, dig_zero]; rfl
theorem isd_range {b : UInt8} (h : isd b = true) : 48 ≤ b.toNat ∧ b.toNat ≤ 57 := by simpa [isd] using h
theorem Read_L (t : Bs) (ht : t.all isd = true) (hlt : t.length < 1099511627776) : ∀ (us : Bs) (i v : Nat), t.drop i = us → (dig (dv v us)).length < 536870900 →
    ∃ N, ∀ n, N ≤ n → ∀ (kont : List Int → Option (Big × Int)) (m : Nat), us.length < m → big_Read_L1 n (t.map fun b => (b.toNat : Int)) kont m (dig v) (i : Int) = kont (dig (dv v us)) := by
  intro us
  induction us with
  | nil =>
    intro i v hd _
    refine ⟨0, fun n _ kont m hm => ?_⟩
    obtain ⟨m, rfl⟩ : ∃ m', m = m' + 1 := ⟨m - 1, by omega⟩
    have hi : t.length ≤ i := by simpa using hd
    rw [big_Read_L1_s, show decide ((i : Int) < ((t.map fun b => (b.toNat : Int)).length : Int)) = false by simp; omega, cond_false, dv_nil]
  | cons b us ih =>
    intro i v hd hl
    rw [dv_cons] at hl
    obtain ⟨hix, hdt, hi⟩ := drop_cons hd
    have hb : isd b = true := List.all_eq_true.1 ht b (List.mem_of_mem_drop (by rw [hd]; simp : b ∈ t.drop i))
    have hbr := isd_range hb
    have hle := len_mono (dv_le us (ten1 v b))
    have hten : ten1 v b = v * 10 + (b.toNat - 48) := by unfold ten1; omega
    have h10 := len_mono (show v * 10 ≤ ten1 v b by omega)
    have hv := len_mono (show v ≤ ten1 v b by omega)
    have hbl : (dig (b.toNat - 48)).length ≤ 1 := by
      have h1 : Sm 1 ((b.toNat - 48 : Nat) : Int) := by unfold Sm; rw [Int.natAbs_natCast, show pw 1 = 1048576 by decide]; omega
      have h2 := len_of_sm h1
      rwa [Int.natAbs_natCast] at h2
    obtain ⟨N1, h1⟩ := mul_nat v 10 (by omega) (by rw [dig_ten]; decide)
    have hR : InR [((b.toNat - 48 : Nat) : Int)] := by intro d hd; rw [List.mem_singleton] at hd; subst hd; omega
    obtain ⟨N2, h2⟩ := trim_ev hR (by simp)
    obtain ⟨N3, h3⟩ := add_nat (v * 10) (b.toNat - 48) (by omega) (by omega)
    obtain ⟨N4, h4⟩ := ih (i + 1) (ten1 v b) hdt hl
    refine ⟨max (max N1 N2) (max N3 N4), fun n hn kont m hm => ?_⟩
    obtain ⟨m, rfl⟩ : ∃ m', m = m' + 1 := ⟨m - 1, by omega⟩
    rw [big_Read_L1_s, show decide ((i : Int) < ((t.map fun b => (b.toNat : Int)).length : Int)) = true by simp; omega, cond_true]
    have e1 : ix (t.map fun b => (b.toNat : Int)) (i : Int) = some (b.toNat : Int) := by
      rw [ix_nat] at hix ⊢
      rw [List.getElem?_map, hix]; rfl
    have e2 : IntKind.i64.wrap (isub .u8 (b.toNat : Int) 48) = ((b.toNat - 48 : Nat) : Int) := by
      rw [show isub .u8 (b.toNat : Int) 48 = ((b.toNat - 48 : Nat) : Int) by unfold isub; rw [wrapu8]; omega, wrap_i64 (by omega) (by omega)]
    have e3 : (val [((b.toNat - 48 : Nat) : Int)]).toNat = b.toNat - 48 := by simp [val]
    have h1' : big_mul n (dig v) [10] = some (dig (v * 10)) := by have := h1 n (by omega); rwa [dig_ten] at this
    have h2' : big_trim n [((b.toNat - 48 : Nat) : Int)] = some (dig (b.toNat - 48)) := by have := h2 n (by omega); rwa [e3] at this
    have h3' : big_add n (dig (v * 10)) (dig (b.toNat - 48)) = some (dig (ten1 v b)) := by rw [hten]; exact h3 n (by omega)
    rw [e1, Option.bind_some, h1', Option.bind_some, e2, h2', Option.bind_some, h3', Option.bind_some, show iadd .i64 (i : Int) 1 = ((i + 1 : Nat) : Int) by rw [iadd_i64 (by omega) (by omega)]; omega, h4 n (by omega) kont m (by simp only [List.length_cons] at hm; omega), dv_cons]

/-- the sign and the digits of a string -/
def cut (s : Bs) : Bs × Bool := match s with
  | 45 :: t => (t, true)
  | s => (s, false)
theorem cut_n (n : Nat) (s : Bs) (hl : s.length < 1099511627776) : strings_CutPrefix n s [45] = some (cut s) := by
  unfold strings_CutPrefix internal_stringslite_CutPrefix internal_stringslite_HasPrefix
  rcases s with _ | ⟨b, s⟩
  · rfl
  · rw [show decide ((([45] : Bs).length : Int) ≤ ((b :: s).length : Int)) = true by simp; omega, cond_true]
    have e1 : ssl (b :: s) 0 (([45] : Bs).length : Int) = some [b] := by unfold ssl; rw [if_pos ⟨by omega, by simp, by simp; omega⟩]; simp
    rw [e1, Option.bind_some, Option.bind_some, Option.bind_some]
    by_cases hb : b = 45
    · subst hb
      rw [show (!(([45] : Bs) == [45])) = false from rfl, cond_false]
      have e2 : ssl (45 :: s) (([45] : Bs).length : Int) (((45 : UInt8) :: s).length : Int) = some s := by unfold ssl; rw [if_pos ⟨by simp, by simp; omega, by omega⟩]; simp
      rw [e2]; rfl
    · rw [show (!(([b] : Bs) == [45])) = true by simp [hb], cond_true, Option.bind_some]
      unfold cut
      split
      · rename_i h; exact absurd (List.cons.inj h).1 hb
      · rfl
def good (t : Bs) : Bool := !(t == []) && !(t.head?.getD 0 == 48) && t.all isd
theorem guards {n : Nat} {t : Bs} {β : Type} {f : Bool → Option β} (hl : t.length < 1099511627776) (hn : t.length < n) :
    ((bif t == [] then
      some true
    else
      (sidx t 0).bind fun c1 =>
      some (c1 == 48)).bind fun v2 =>
    (bif v2 then
      some true
    else
      (strings_Trim n t tens).bind fun v9 =>
      some (!(v9 == []))).bind f) = f (!good t) := by
  rcases t with _ | ⟨b, t⟩
  · rfl
  · rw [show ((b :: t : Bs) == []) = false from rfl, cond_false]
    have e1 : sidx (b :: t) 0 = some (b.toNat : Int) := by unfold sidx; rw [if_pos (by omega)]; simp
    rw [e1, Option.bind_some, Option.bind_some]
    obtain ⟨r, h1, h2⟩ := Trim_n (t := b :: t) (by simp) hl hn
    have e2 : ((b.toNat : Int) == 48) = (b == 48) := by
      by_cases h : b = 48
      · subst h; rfl
      · have : b.toNat ≠ 48 := fun e => h (UInt8.toNat_inj.1 e)
        rw [show (b == 48) = false by simpa using h]; simp; omega
    rw [e2, h1, Option.bind_some, h2]
    unfold good
    rw [show ((b :: t : Bs) == []) = false from rfl, show (b :: t).head?.getD 0 = b from rfl]
    cases (b == 48) <;> cases List.all (b :: t) isd <;> rfl
theorem two_cast (k : Nat) : ((2 ^ k : Nat) : Int) = 2 ^ k := by simp
theorem dv_key {t : Bs} (h : t.all isd = true) (K : Nat) (hK : 4 * t.length ≤ K) : ((dv 0 t : Nat) : Int) < 2 ^ K := by
  have h1 := dv_lt t 0 h
  rw [show (0 + 1) * 16 ^ t.length = 16 ^ t.length by omega] at h1
  have h2 : 16 ^ t.length ≤ 2 ^ K := by
    rw [show (16 : Nat) = 2 ^ 4 from rfl, ← Nat.pow_mul]; exact Nat.pow_le_pow_right (by decide) hK
  have h4 := Int.ofNat_lt.2 (Nat.lt_of_lt_of_le h1 h2)
  rwa [two_cast] at h4
theorem sm_key {v k : Nat} (h : ∀ K, K = 20 * k → (v : Int) < 2 ^ K) : Sm k (v : Int) := by
  unfold Sm; rw [pw_two, Int.natAbs_natCast]; exact h _ rfl
theorem dv_sm {t : Bs} (h : t.all isd = true) (hl : t.length ≤ 500) : Sm 100 ((dv 0 t : Nat) : Int) := sm_key fun K hK => dv_key h K (by omega)
theorem Read_zero : Ev (fun n => big_Read n [48]) (⟨0, []⟩, 0) := by
  refine ⟨0, fun n _ => ?_⟩
  show big_Read n [48] = _
  unfold big_Read
  rw [cut_n n [48] (by decide)]; rfl
theorem cut_len (s : Bs) : (cut s).1.length ≤ s.length := by unfold cut; split <;> simp
theorem Read_bad {s : Bs} (hs : (s == [48]) = false) (hl : s.length ≤ 500) (hg : good (cut s).1 = false) : Ev (fun n => big_Read n s) (⟨0, []⟩, 2) := by
  have := cut_len s
  refine ⟨501, fun n hn => ?_⟩
  show big_Read n s = _
  unfold big_Read
  rw [cut_n n s (by omega), Option.bind_some, hs, cond_false]
  have h := guards (n := n) (t := (cut s).1) (f := fun v3 => bif v3 then some ((⟨0, []⟩ : Big), (2 : Int)) else
      (toBytes (cut s).1).bind fun l1 =>
      big_Read_L1 n l1 (fun (l3 : (List Int)) =>
        bif (cut s).2 then
          (big_signed n (-1) l3).bind fun v4 =>
          some ((⟨v4.Sign, v4.Digits⟩ : Big), 0)
        else
          (big_signed n 1 l3).bind fun v5 =>
          some ((⟨v5.Sign, v5.Digits⟩ : Big), 0)) n [] 0) (by omega) (by omega)
  refine Eq.trans h ?_
  rw [hg]; rfl
theorem Read_good {s : Bs} (hs : (s == [48]) = false) (hl : s.length ≤ 500) (hg : good (cut s).1 = true) : Ev (fun n => big_Read n s) (toB (if (cut s).2 then -((dv 0 (cut s).1 : Nat) : Int) else ((dv 0 (cut s).1 : Nat) : Int)), 0) := by
  have hc := cut_len s
  have hg' : List.all (cut s).1 isd = true := by unfold good at hg; simp only [Bool.and_eq_true] at hg; exact hg.2
  have hsm := dv_sm hg' (by omega)
  have hlen := len_of_sm hsm
  rw [Int.natAbs_natCast] at hlen
  obtain ⟨N, hN⟩ := Read_L (cut s).1 hg' (by omega) (cut s).1 0 0 rfl (by omega)
  have hfin : Ev (fun n => (bif (cut s).2 then
          (big_signed n (-1) (dig (dv 0 (cut s).1))).bind fun v4 =>
          some ((⟨v4.Sign, v4.Digits⟩ : Big), (0 : Int))
        else
          (big_signed n 1 (dig (dv 0 (cut s).1))).bind fun v5 =>
          some ((⟨v5.Sign, v5.Digits⟩ : Big), 0))) (toB (if (cut s).2 then -((dv 0 (cut s).1 : Nat) : Int) else ((dv 0 (cut s).1 : Nat) : Int)), 0) := by
    generalize dv 0 (cut s).1 = V at *
    cases (cut s).2 with
    | true =>
      refine Ev.then rfl (Ev.bind (signed_ev (-1) (by omega)) ((Ev.pure _).eq ?_))
      have e := signed_toB (s := -1) (v := V) (-(V : Int)) (by omega) (fun h => (sg_neg (by omega)).symm)
      rw [e]; rfl
    | false =>
      refine Ev.else rfl (Ev.bind (signed_ev 1 (by omega)) ((Ev.pure _).eq ?_))
      have e := signed_toB (s := 1) (v := V) (V : Int) (by omega) (fun h => (sg_pos (by omega)).symm)
      rw [e]; rfl
  refine Ev.from (max N 501) (fun n hn => ?_) hfin
  show big_Read n s = _
  unfold big_Read
  rw [cut_n n s (by omega), Option.bind_some, hs, cond_false]
  have h := guards (n := n) (t := (cut s).1) (f := fun v3 => bif v3 then some ((⟨0, []⟩ : Big), (2 : Int)) else
      (toBytes (cut s).1).bind fun l1 =>
      big_Read_L1 n l1 (fun (l3 : (List Int)) =>
        bif (cut s).2 then
          (big_signed n (-1) l3).bind fun v4 =>
          some ((⟨v4.Sign, v4.Digits⟩ : Big), 0)
        else
          (big_signed n 1 l3).bind fun v5 =>
          some ((⟨v5.Sign, v5.Digits⟩ : Big), 0)) n [] 0) (by omega) (by omega)
  refine Eq.trans h ?_
  rw [hg]
  have e1 : toBytes (cut s).1 = some ((cut s).1.map fun b => (b.toNat : Int)) := by unfold toBytes; rw [if_pos (by omega)]
  show (toBytes (cut s).1).bind _ = _
  rw [e1, Option.bind_some]
  have h2 := hN n (by omega) (fun (l3 : (List Int)) =>
        bif (cut s).2 then
          (big_signed n (-1) l3).bind fun v4 =>
          some ((⟨v4.Sign, v4.Digits⟩ : Big), 0)
        else
          (big_signed n 1 l3).bind fun v5 =>
          some ((⟨v5.Sign, v5.Digits⟩ : Big), 0)) n (by omega)
  rw [dig_zero] at h2
  exact h2

/- and the texts -/
theorem cut_ne {b : UInt8} {l : Bs} (h : b ≠ 45) : cut (b :: l) = (b :: l, false) := by
  unfold cut; split
  · rename_i e; exact absurd (List.cons.inj e).1 h
  · rfl
theorem good_of {b : UInt8} {l : Bs} (h : b ≠ 48) (h2 : List.all (b :: l) isd = true) : good (b :: l) = true := by
  unfold good; rw [h2]; simp [h]
/-- the digits of a number, and more digits, are read -/
theorem Read_digits {x : Int} {l : Bs} (hx : x ≠ 0) (hl : l.all isd = true) (hlen : (txt x ++ l).length ≤ 500) : Ev (fun n => big_Read n (txt x ++ l)) (toB (sg x * ((dv x.natAbs l : Nat) : Int)), 0) := by
  obtain ⟨b, m, h1, h2, h3⟩ := dec_head x.natAbs (by omega)
  have h4 := isd_dec x.natAbs
  have h5 := dv_dec x.natAbs
  have hall : List.all (b :: (m ++ l)) isd = true := by
    rw [h1] at h4
    rw [← List.cons_append, List.all_append, h4, hl]; rfl
  have hdv : dv 0 (b :: (m ++ l)) = dv x.natAbs l := by
    rw [← List.cons_append, dv_append, ← h1, h5]
  have hg := good_of h2 hall
  by_cases hn : x < 0
  · have e : txt x ++ l = 45 :: (b :: (m ++ l)) := by unfold txt; rw [if_pos hn, h1]; rfl
    have hcut : cut (txt x ++ l) = (b :: (m ++ l), true) := by rw [e]; rfl
    refine (Read_good (s := txt x ++ l) (by rw [e]; rfl) hlen (by rw [hcut]; exact hg)).eq ?_
    rw [hcut, if_pos rfl, hdv, sg_neg hn]
    congr 2
    omega
  · have e : txt x ++ l = b :: (m ++ l) := by unfold txt; rw [if_neg hn, h1]; rfl
    have hcut : cut (txt x ++ l) = (b :: (m ++ l), false) := by rw [e]; exact cut_ne h3
    refine (Read_good (s := txt x ++ l) (by rw [e]; simp [h2]) hlen (by rw [hcut]; exact hg)).eq ?_
    rw [hcut, if_neg (by simp), hdv, sg_pos (by omega)]
    congr 2
    omega
/-- what is read, in full -/
theorem Read_all (s : Bs) (hl : s.length ≤ 500) : (∃ y, Ev (fun n => big_Read n s) (toB y, 0) ∧ txt y = s ∧ Sm 100 y) ∨ Ev (fun n => big_Read n s) (⟨0, []⟩, 2) := by
  by_cases hs : s = [48]
  · subst hs
    left
    refine ⟨0, by rw [toB_zero]; exact Read_zero, ?_, by unfold Sm; exact pw_pos _⟩
    unfold txt; rw [if_neg (by omega), show (0 : Int).natAbs = 0 from rfl, dec_small (by decide)]; rfl
  have hs' : (s == [48]) = false := beq_false_of_ne hs
  by_cases hg : good (cut s).1 = true
  · left
    have hc := cut_len s
    have hall : List.all (cut s).1 isd = true := by unfold good at hg; simp only [Bool.and_eq_true] at hg; exact hg.2
    have hsm := dv_sm hall (by omega)
    have hdec : Lib.decDigits (dv 0 (cut s).1) = (cut s).1 ∧ dv 0 (cut s).1 ≠ 0 := by
      rcases hT : (cut s).1 with _ | ⟨b, l⟩
      · rw [hT] at hg; simp [good] at hg
      · rw [hT] at hg hall
        have hb0 : b ≠ 48 := by intro e; subst e; simp [good] at hg
        simp only [List.all_cons, Bool.and_eq_true] at hall
        refine ⟨dec_dv b hall.1 hb0 l.length l (Nat.le_refl _) hall.2, ?_⟩
        rw [dv_cons]
        have := dv_le l (ten1 0 b)
        have hbr := isd_range hall.1
        have hbz : b.toNat ≠ 48 := fun e => hb0 (UInt8.toNat_inj.1 e)
        unfold ten1 at *
        omega
    refine ⟨_, Read_good hs' hl hg, ?_, ?_⟩
    · unfold cut at hdec ⊢
      split at hdec
      · rename_i t
        simp only [if_true] at hdec ⊢
        unfold txt
        rw [if_pos (by omega), Int.natAbs_neg, Int.natAbs_natCast, hdec.1]
      · simp only [Bool.false_eq_true, if_false] at hdec ⊢
        unfold txt
        rw [if_neg (by omega), Int.natAbs_natCast, hdec.1]
    · split
      · exact hsm.neg
      · exact hsm
  · exact .inr (Read_bad hs' hl (by simpa using hg))
/-- what is read -/
def readB (s : Bs) : Big × Int :=
  if s = [48] then (⟨0, []⟩, 0)
  else if good (cut s).1 = true then (toB (if (cut s).2 then -((dv 0 (cut s).1 : Nat) : Int) else ((dv 0 (cut s).1 : Nat) : Int)), 0)
  else (⟨0, []⟩, 2)
theorem Read_ev {s : Bs} (hl : s.length ≤ 500) : Ev (fun n => big_Read n s) (readB s) := by
  unfold readB
  by_cases hs : s = [48]
  · rw [if_pos hs]; subst hs; exact Read_zero
  · rw [if_neg hs]
    have hs' : (s == [48]) = false := beq_false_of_ne hs
    by_cases hg : good (cut s).1 = true
    · rw [if_pos hg]; exact Read_good hs' hl hg
    · rw [if_neg hg]; exact Read_bad hs' hl (by simpa using hg)
end Go.Proofs.YtaanocaobllohaaGreatDoor.D
