/-
  THE REFERENCE's FUNCTIONS, as arithmetic, tenth part: Read.
-/
import Derived.Test.YtaiiclbemlmmaaaGreatDoorRefI
import Derived.Test.YtaiiclbemlmmaaaGreatDoorBigQ
namespace Go.Proofs.YtaiiclbemlmmaaaGreatDoor.D
open Go Rt M

theorem sidx_drop {t : Bs} {i : Nat} {b : UInt8} {us : Bs} (h : t.drop i = b :: us) : sidx t (i : Int) = some (b.toNat : Int) ∧ t.drop (i + 1) = us ∧ i < t.length := by
  obtain ⟨h1, h2, h3⟩ := drop_cons h
  refine ⟨?_, h2, h3⟩
  rw [ix_nat] at h1
  unfold sidx
  rw [if_pos (by omega), Int.toNat_natCast, h1]; rfl
theorem isd_not {b : UInt8} : (decide ((b.toNat : Int) < 48) = true ∨ decide (57 < (b.toNat : Int)) = true) ↔ isd b = false := by
  unfold isd
  simp only [decide_eq_true_eq, Bool.and_eq_false_iff, decide_eq_false_iff_not]
  omega
theorem RRead_L1 (n : Nat) (t : Bs) (kont : Option (Big × Int)) (hlt : t.length < 1099511627776) : ∀ (us : Bs) (i m : Nat), t.drop i = us → us.length < m →
    ref04_Read_L1 n t kont m (i : Int) = bif us.all isd then kont else some (⟨0, []⟩, 2)
  | [], i, m + 1, hd, _ => by
    have hi := drop_nil hd
    rw [ref04_Read_L1_s, show decide ((i : Int) < (t.length : Int)) = false by simp; omega]; rfl
  | b :: us, i, m + 1, hd, hm => by
    obtain ⟨h1, h2, h3⟩ := sidx_drop hd
    rw [ref04_Read_L1_s, show decide ((i : Int) < (t.length : Int)) = true by simp; omega, cond_true, h1, Option.bind_some, Option.bind_some]
    have ih := RRead_L1 n t kont hlt us (i + 1) m h2 (by simp only [List.length_cons] at hm; omega)
    have e : (bif decide ((b.toNat : Int) < 48) then some true else some (decide (57 < (b.toNat : Int)))) = some (!isd b) := by
      by_cases hb : isd b = true
      · have hr := isd_range hb
        rw [decide_eq_false (by omega), decide_eq_false (by omega), hb]; rfl
      · have hb' : isd b = false := by simpa using hb
        rw [hb']
        rcases isd_not.2 hb' with h | h
        · rw [h]; rfl
        · rw [h]; cases decide ((b.toNat : Int) < 48) <;> rfl
    rw [e, Option.bind_some, List.all_cons]
    cases hb : isd b with
    | true => rw [Bool.not_true, cond_false, Bool.true_and, ← ih, show iadd .i64 (i : Int) 1 = ((i + 1 : Nat) : Int) by rw [iadd_i64 (by omega) (by omega)]; omega]
    | false => rfl
theorem dig_lit {d : Nat} (h : d < 1048576) (n : Nat) (hn : 2 < n) : ref04_trim n [(d : Int)] = some (dig d) := by
  have hR : InR [(d : Int)] := by intro e he; rw [List.mem_singleton] at he; subst he; omega
  have := rtrim_n hR (by simp) (n := n) (by simp; omega)
  rwa [show (val [(d : Int)]).toNat = d by simp [val]] at this
theorem RRead_L2 (t : Bs) (ht : t.all isd = true) (hlt : t.length < 1099511627776) (n L : Nat) (hL : L < 536870900) (hn : 2 * L + 20 < n) (kont : List Int → Option (Big × Int)) : ∀ (us : Bs) (i v m : Nat), t.drop i = us → (dig (dv v us)).length ≤ L → us.length < m →
    ref04_Read_L2 n t kont m (dig v) (i : Int) = kont (dig (dv v us)) := by
  intro us
  induction us with
  | nil =>
    intro i v m hd _ hm
    obtain ⟨m, rfl⟩ : ∃ m', m = m' + 1 := ⟨m - 1, by omega⟩
    have hi := drop_nil hd
    rw [ref04_Read_L2_s, show decide ((i : Int) < (t.length : Int)) = false by simp; omega, cond_false, dv_nil]
  | cons b us ih =>
    intro i v m hd hl hm
    obtain ⟨m, rfl⟩ : ∃ m', m = m' + 1 := ⟨m - 1, by omega⟩
    rw [dv_cons] at hl
    obtain ⟨h1, h2, h3⟩ := sidx_drop hd
    have hb : isd b = true := List.all_eq_true.1 ht b (List.mem_of_mem_drop (by rw [hd]; simp : b ∈ t.drop i))
    have hbr := isd_range hb
    have hle := len_mono (dv_le us (ten1 v b))
    have hten : ten1 v b = v * 10 + (b.toNat - 48) := by unfold ten1; omega
    have h10 := len_mono (show v * 10 ≤ ten1 v b by omega)
    have hv := len_mono (show v ≤ ten1 v b by omega)
    have hbl := dig_le_one (v := b.toNat - 48) (by omega)
    have e2 : IntKind.i64.wrap (isub .u8 (b.toNat : Int) 48) = ((b.toNat - 48 : Nat) : Int) := by
      rw [show isub .u8 (b.toNat : Int) 48 = ((b.toNat - 48 : Nat) : Int) by unfold isub; rw [wrapu8]; omega, wrap_i64 (by omega) (by omega)]
    have t1 : ref04_times n (dig v) [10] = some (dig (v * 10)) := by
      have := times_dig (u := v) (v := 10) (n := n) (by omega) (by rw [dig_ten]; decide) (by rw [dig_ten]; simp only [List.length_singleton]; omega)
      rwa [dig_ten] at this
    have t3 : ref04_plus n (dig (v * 10)) (dig (b.toNat - 48)) = some (dig (ten1 v b)) := by
      have := plus_n (InR_dig (v * 10)) (InR_dig (b.toNat - 48)) (by omega) (by omega) (n := n) (by omega)
      rwa [val_dig, val_dig, show (((v * 10 : Nat) : Int) + ((b.toNat - 48 : Nat) : Int)).toNat = ten1 v b by omega] at this
    rw [ref04_Read_L2_s, show decide ((i : Int) < (t.length : Int)) = true by simp; omega, cond_true, h1, Option.bind_some, t1, Option.bind_some, e2, dig_lit (by omega) n (by omega), Option.bind_some, t3, Option.bind_some, show iadd .i64 (i : Int) 1 = ((i + 1 : Nat) : Int) by rw [iadd_i64 (by omega) (by omega)]; omega, ih (i + 1) (ten1 v b) m h2 hl (by simp only [List.length_cons] at hm; omega), dv_cons]

/-- what is read -/
def readB (s : Bs) : Big × Int :=
  if s = [48] then (⟨0, []⟩, 0)
  else if good (cut s).1 = true then (toB (if (cut s).2 then -((dv 0 (cut s).1 : Nat) : Int) else ((dv 0 (cut s).1 : Nat) : Int)), 0)
  else (⟨0, []⟩, 2)
theorem Read_ev {s : Bs} (hl : s.length ≤ 500) : Ev (fun n => big_Read n s) (readB s) := by
  unfold readB
  by_cases hs : s = [48]
  · rw [if_pos hs]; subst hs; exact Read_zero
  · rw [if_neg hs]
    have hs' : (s == [48]) = false := beq_false_of_ne hs
    by_cases hg : good (cut s).1 = true
    · rw [if_pos hg]; exact Read_good hs' hl hg
    · rw [if_neg hg]; exact Read_bad hs' hl (by simpa using hg)
theorem RRead_open (n : Nat) (s : Bs) (hl : s.length ≤ 500) : ref04_Read n s =
    (bif (cut s).1 == [] then some true
      else (sidx (cut s).1 0).bind fun c4 => (bif c4 == 48 then some (!(s == [48])) else some false).bind fun v8 => some v8).bind fun v2 =>
    bif v2 then some ((⟨0, []⟩ : Big), 2)
    else ref04_Read_L1 n (cut s).1 (ref04_Read_L2 n (cut s).1 (fun (l2 : (List Int)) => (ref04_made n (if (cut s).2 then -1 else 1) l2).bind fun v3 => some ((⟨v3.Sign, v3.Digits⟩ : Big), 0)) n [] 0) n 0 := by
  unfold ref04_Read
  rcases s with _ | ⟨b, s⟩
  · rfl
  · have e1 : sidx (b :: s) 0 = some (b.toNat : Int) := rfl
    rw [show decide (0 < ((b :: s).length : Int)) = true by simp, cond_true, e1, Option.bind_some, Option.bind_some]
    by_cases hb : b = 45
    · subst hb
      have e2 : ssl (45 :: s) 1 ((45 : UInt8) :: s).length = some s := by unfold ssl; rw [if_pos ⟨by omega, by simp; omega, by omega⟩]; simp
      rw [show (((45 : UInt8).toNat : Int) == 45) = true from rfl, cond_true, e2]
      rfl
    · have e3 : ((b.toNat : Int) == 45) = false := by
        rw [beq_eq_false_iff_ne]; intro h
        exact hb (UInt8.toNat_inj.1 (by show b.toNat = 45; omega))
      rw [e3, cond_false, cut_ne hb]
      rfl
theorem RRead_ev {s : Bs} (hl : s.length ≤ 500) : Ev (fun n => ref04_Read n s) (readB s) := by
  have hc := cut_len s
  by_cases hs : s = [48]
  · subst hs
    refine ⟨600, fun n hn => ?_⟩
    obtain ⟨m, rfl⟩ := Nat.le.dest hn
    rw [Nat.add_comm]
    exact (show ref04_Read (m + 600) [48] = some (⟨0, []⟩, 0) by kernel_rfl)
  have hs' : (s == [48]) = false := beq_false_of_ne hs
  unfold readB
  rw [if_neg hs]
  have hop := fun n => RRead_open n s hl
  generalize hT : (cut s).1 = T at *
  generalize (cut s).2 = ng at *
  rcases T with _ | ⟨b, t⟩
  · rw [if_neg (by decide)]
    refine ⟨0, fun n _ => ?_⟩
    show ref04_Read n s = _
    rw [hop n]; rfl
  have hev : ∀ n, ref04_Read n s = bif b == 48 then some ((⟨0, []⟩ : Big), 2)
      else ref04_Read_L1 n (b :: t) (ref04_Read_L2 n (b :: t) (fun (l2 : (List Int)) => (ref04_made n (if ng then -1 else 1) l2).bind fun v3 => some ((⟨v3.Sign, v3.Digits⟩ : Big), 0)) n [] 0) n 0 := by
    intro n
    have e1 : sidx (b :: t) 0 = some (b.toNat : Int) := rfl
    have e2 : ((b.toNat : Int) == 48) = (b == 48) := by
      by_cases h : b = 48
      · subst h; rfl
      · have : b.toNat ≠ 48 := fun e => h (UInt8.toNat_inj.1 e)
        rw [show (b == 48) = false by simpa using h]; simp; omega
    rw [hop n, show ((b :: t : Bs) == []) = false from rfl, cond_false, e1, Option.bind_some, e2, hs']
    cases b == 48 <;> rfl
  by_cases hb : b = 48
  · subst hb
    rw [if_neg (by simp [good])]
    exact ⟨0, fun n _ => by show ref04_Read n s = _; rw [hev n]; rfl⟩
  by_cases ha : List.all (b :: t) isd = true
  · rw [if_pos (good_of hb ha)]
    have hsm := dv_sm ha (by omega)
    have hlen := len_of_sm hsm
    rw [Int.natAbs_natCast] at hlen
    have hfin : Ev (fun n => (ref04_made n (if ng then -1 else 1) (dig (dv 0 (b :: t)))).bind fun v3 => some ((⟨v3.Sign, v3.Digits⟩ : Big), (0 : Int))) (toB (if ng then -((dv 0 (b :: t) : Nat) : Int) else ((dv 0 (b :: t) : Nat) : Int)), 0) := by
      generalize dv 0 (b :: t) = V at *
      cases ng with
      | true => exact Ev.bind (made_toB (s := -1) (v := V) (by omega) (-(V : Int)) (by omega) (fun h => (sg_neg (by omega)).symm)) (Ev.pure _)
      | false => exact Ev.bind (made_toB (s := 1) (v := V) (by omega) (V : Int) (by omega) (fun h => (sg_pos (by omega)).symm)) (Ev.pure _)
    refine Ev.from 800 (fun n hn => ?_) hfin
    show ref04_Read n s = _
    rw [hev n, show (b == 48) = false by simpa using hb, cond_false]
    have h1 := RRead_L1 n (b :: t) (ref04_Read_L2 n (b :: t) (fun (l2 : (List Int)) => (ref04_made n (if ng then -1 else 1) l2).bind fun v3 => some ((⟨v3.Sign, v3.Digits⟩ : Big), 0)) n [] 0) (by omega) (b :: t) 0 n rfl (by omega)
    have h2 := RRead_L2 (b :: t) ha (by omega) n 100 (by decide) (by omega) (fun (l2 : (List Int)) => (ref04_made n (if ng then -1 else 1) l2).bind fun v3 => some ((⟨v3.Sign, v3.Digits⟩ : Big), (0 : Int))) (b :: t) 0 0 n rfl hlen (by omega)
    rw [dig_zero] at h2
    rw [ha] at h1
    exact h1.trans h2
  · have ha' : List.all (b :: t) isd = false := by simpa using ha
    rw [if_neg (by unfold good; rw [ha']; simp)]
    refine ⟨501, fun n hn => ?_⟩
    show ref04_Read n s = _
    rw [hev n, show (b == 48) = false by simpa using hb, cond_false]
    have h1 := RRead_L1 n (b :: t) (ref04_Read_L2 n (b :: t) (fun (l2 : (List Int)) => (ref04_made n (if ng then -1 else 1) l2).bind fun v3 => some ((⟨v3.Sign, v3.Digits⟩ : Big), 0)) n [] 0) (by omega) (b :: t) 0 n rfl (by omega)
    rw [ha'] at h1
    exact h1
end Go.Proofs.YtaiiclbemlmmaaaGreatDoor.D
