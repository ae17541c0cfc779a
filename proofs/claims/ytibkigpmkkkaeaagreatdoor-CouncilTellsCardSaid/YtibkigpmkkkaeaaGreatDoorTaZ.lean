/-
  TYPES, CHECKS AND PARSING, joined: typed_2, Check_2, Parse_2.
-/
import Derived.Test.YtibkigpmkkkaeaaGreatDoorTaY
namespace Go.Proofs.YtibkigpmkkkaeaaGreatDoor.Ta
open Go Rt M
/-- what is done with the types of the Args -/
def codeK (names : List Rt.Bs) (x : M.Expr) (n : Nat) (l2 : List Int) : Option (Int × Int) :=
   (bif x.Op == 1 then
    some true
   else
    some (x.Op == 4)).bind fun v1 =>
   bif v1 then
    (slices_Contains_string_string n names x.Name).bind fun v2 =>
    bif !v2 then
     some (0, 11)
    else
     bif x.Op == 4 then
      some (2, 0)
     else
      some (1, 0)
   else
    (bif x.Op == 0 then
     some true
    else
     bif x.Op == 2 then
      some true
     else
      some (x.Op == 3)).bind fun v3 =>
    bif v3 then
     some (1, 0)
    else
     (bif x.Op == 12 then
      some true
     else
      some (x.Op == 13)).bind fun v4 =>
     bif v4 then
      (tariff_all n 0 l2 1).bind fun v5 =>
      some (v5.1, v5.2)
     else
      (bif x.Op == 14 then
       some true
      else
       bif x.Op == 15 then
        some true
       else
        some (x.Op == 16)).bind fun v6 =>
      bif v6 then
       (tariff_all n 0 l2 0).bind fun v7 =>
       some (v7.1, v7.2)
      else
       bif x.Op == 11 then
        (ix l2 0).bind fun ex =>
        bif ex != 0 then
         some (0, 13)
        else
         (ix l2 1).bind fun w2 =>
         (ix l2 2).bind fun w3 =>
         (tariff_join n w2 w3).bind fun v8 =>
         some (v8.1, v8.2)
       else
        bif x.Op == 7 then
         (ix l2 0).bind fun w4 =>
         (bif w4 == 2 then
          (ix l2 1).bind fun w7 =>
          some (w7 == 2)
         else
          some false).bind fun v9 =>
         bif v9 then
          some (0, 13)
         else
          (ix l2 0).bind fun w5 =>
          (ix l2 1).bind fun w6 =>
          (tariff_join n w5 w6).bind fun v10 =>
          some (v10.1, v10.2)
        else
         bif x.Op == 8 then
          (ix x.Args 1).bind fun w8 =>
          bif w8.Op != 0 then
           some (0, 13)
          else
           bif w8.N == 0 then
            some (0, 14)
           else
            (ix l2 0).bind fun w9 =>
            (ix l2 1).bind fun w0 =>
            (tariff_join n w9 w0).bind fun v11 =>
            some (v11.1, v11.2)
         else
          (ix l2 0).bind fun w1 =>
          (ix l2 1).bind fun w2 =>
          (tariff_join n w1 w2).bind fun v12 =>
          some (v12.1, v12.2)
def refK (names : List Rt.Bs) (x : M.Expr) (n : Nat) (l2 : List Int) : Option (Int × Int) :=
   (bif x.Op == 1 then
    some true
   else
    some (x.Op == 4)).bind fun v1 =>
   (bif v1 then
    (ref35_Number n names x.Name).bind fun v6 =>
    some (decide (v6 < 0))
   else
    some false).bind fun v2 =>
   bif v2 then
    some (0, 11)
   else
    bif x.Op == 4 then
     some (2, 0)
    else
     bif (l2.length : Int) == 0 then
      some (1, 0)
     else
      bif x.Op == 8 then
       (ix x.Args 1).bind fun ex =>
       (bif ex.Op == 0 then
        (ix x.Args 1).bind fun ex3 =>
        some (ex3.N == 0)
       else
        some false).bind fun v3 =>
       bif v3 then
        some (0, 14)
       else
        (ix x.Args 1).bind fun ex2 =>
        bif ex2.Op != 0 then
         some (0, 13)
        else
         (ref35_fit n x.Op l2).bind fun v4 =>
         bif !v4.2 then
          some (0, 13)
         else
          some (v4.1, 0)
      else
       (ref35_fit n x.Op l2).bind fun v5 =>
       bif !v5.2 then
        some (0, 13)
       else
        some (v5.1, 0)
theorem typed_K (n : Nat) (x : M.Expr) (names : List Rt.Bs) : tariff_typed (n + 1) x names = tariff_typed_L1 n (tariff_typed n) x names (codeK names x n) n 0 [] := rfl
theorem rtyped_K (n : Nat) (x : M.Expr) (names : List Rt.Bs) : ref35_typed (n + 1) x names = ref35_typed_L1 n (ref35_typed n) x names (refK names x n) n 0 [] := rfl
def joinV (p q : Int) : Int × Int := bif p == 0 || q == 0 then (0, 13) else (wideV p q, 0)
theorem joinV_ty (p q : Int) : Ty (joinV p q) := by
  unfold joinV
  cases p == 0 || q == 0
  · exact fun _ => wideV_range p q
  · exact fun h => by cases h
theorem join_ev (p q : Int) : Ev (fun n => (tariff_join n p q).bind fun v => some (v.1, v.2)) (joinV p q) := Ev.all fun n => by rw [join_n]; rfl
theorem ty0 (b : Bool) : Ty (bif b then ((0 : Int), (0 : Int)) else (0, 13)) := by
  cases b
  · exact fun h => by cases h
  · exact fun _ => ⟨by decide, by decide⟩
theorem num_ref {o p q : Int} (ho : o = 5 ∨ o = 6 ∨ o = 8 ∨ o = 9 ∨ o = 10) : Ev (fun n => (ref35_fit n o [p, q]).bind fun v5 => bif !v5.2 then some ((0 : Int), (13 : Int)) else some (v5.1, 0)) (joinV p q) := Ev.all fun n => by
  rw [fit_num n p q ho]
  unfold joinV
  cases hp : p == 0 <;> cases hq : q == 0 <;> simp [bne, hp, hq]
theorem all2b (p q w : Int) : Ev (fun n => (tariff_all n 0 [p, q] w).bind fun v5 => some (v5.1, v5.2)) (bif p == w && q == w then (0, 0) else (0, 13)) := Ev.bind (all2 0 p q w) (Ev.pure _)
theorem all1b (p w : Int) : Ev (fun n => (tariff_all n 0 [p] w).bind fun v5 => some (v5.1, v5.2)) (bif p == w then (0, 0) else (0, 13)) := Ev.bind (all1 0 p w) (Ev.pure _)
theorem fitb {o : Int} {l : List Int} {b : Bool} (h : ∀ n, ref35_fit n o l = some (0, b)) : Ev (fun n => (ref35_fit n o l).bind fun v5 => bif !v5.2 then some ((0 : Int), (13 : Int)) else some (v5.1, 0)) (bif b then (0, 0) else (0, 13)) :=
  Ev.all fun n => by rw [h n]; cases b <;> rfl
theorem typed_2 {x : M.Expr} (hx : Fit x) (names : List Rt.Bs) (hn : names.length < 4611686018427387904) : Shp x → ∃ r, Ev (fun n => tariff_typed n x names) r ∧ Ev (fun n => ref35_typed n x names) r ∧ Ty r := by
  induction hx with
  | @mk o k s l hl _ ih =>
    intro hs
    cases hs with
    | mk h1 h2 h3 h4 =>
    rcases types_L ⟨o, k, s, l⟩ names hl l 0 [] rfl rfl (by simp) (by simp) (fun y hy => ih y hy (h4 y hy)) with ⟨N, e, he, hL⟩ | ⟨N, l2, hl2, ht, hL⟩
    · exact ⟨(0, e), Ev.suc (fun n => typed_K n _ _) ⟨N + l.length + 1, fun n hn => (hL n n _ (fun _ => none) (by omega) (by omega)).1⟩, Ev.suc (fun n => rtyped_K n _ _) ⟨N + l.length + 1, fun n hn => (hL n n (fun _ => none) _ (by omega) (by omega)).2⟩, fun h => absurd h he⟩
    have out : ∀ r : Int × Int, Ty r → Ev (fun n => codeK names ⟨o, k, s, l⟩ n l2) r → Ev (fun n => refK names ⟨o, k, s, l⟩ n l2) r → ∃ r, Ev (fun n => tariff_typed n ⟨o, k, s, l⟩ names) r ∧ Ev (fun n => ref35_typed n ⟨o, k, s, l⟩ names) r ∧ Ty r := by
      intro r hty hf hg
      exact ⟨r, Ev.suc (fun n => typed_K n _ _) (Ev.from (N + l.length + 1) (fun n hn => (hL n n _ (fun _ => none) (by omega) (by omega)).1) hf), Ev.suc (fun n => rtyped_K n _ _) (Ev.from (N + l.length + 1) (fun n hn => (hL n n (fun _ => none) _ (by omega) (by omega)).2) hg), hty⟩
    replace hl2 : (l2.length : Int) = argsN o := by rw [← h3]; exact congrArg Int.ofNat hl2
    clear hL
    have len0 : (l2.length : Int) = 0 → l2 = [] := fun h => List.length_eq_zero_iff.1 (by omega)
    have len1 : (l2.length : Int) = 1 → ∃ p, l2 = [p] := fun h => by
      match l2, h with
      | [p], _ => exact ⟨p, rfl⟩
      | [], h => simp at h
      | _ :: _ :: _, h => simp at h; omega
    have len2 : (l2.length : Int) = 2 → ∃ p q, l2 = [p, q] ∧ (0 ≤ p ∧ p ≤ 2) ∧ (0 ≤ q ∧ q ≤ 2) := fun h => by
      match l2, h, ht with
      | [p, q], _, ht => exact ⟨p, q, rfl, ht p (by simp), ht q (by simp)⟩
      | [], h, _ => simp at h
      | [_], h, _ => simp at h
      | _ :: _ :: _ :: _, h, _ => simp at h; omega
    have len3 : (l2.length : Int) = 3 → ∃ p q r, l2 = [p, q, r] := fun h => by
      match l2, h with
      | [p, q, r], _ => exact ⟨p, q, r, rfl⟩
      | [], h => simp at h
      | [_], h => simp at h
      | [_, _], h => simp at h
      | _ :: _ :: _ :: _ :: _, h => simp at h; omega
    have hc : o = 0 ∨ o = 1 ∨ o = 2 ∨ o = 3 ∨ o = 4 ∨ o = 5 ∨ o = 6 ∨ o = 7 ∨ o = 8 ∨ o = 9 ∨ o = 10 ∨ o = 11 ∨ o = 12 ∨ o = 13 ∨ o = 14 ∨ o = 15 ∨ o = 16 := by omega
    have lf : ∀ t : Int, 0 ≤ t → t ≤ 2 → Ty (bif !decide (s ∈ names) then ((0 : Int), (11 : Int)) else (t, 0)) := by
      intro t h5 h6
      cases decide (s ∈ names)
      · exact fun h => by cases h
      · exact fun _ => ⟨h5, h6⟩
    have t10 : Ty ((1 : Int), (0 : Int)) := fun _ => ⟨by decide, by decide⟩
    rcases hc with rfl | rfl | rfl | rfl | rfl | rfl | rfl | rfl | rfl | rfl | rfl | rfl | rfl | rfl | rfl | rfl | rfl
    · obtain rfl := len0 hl2
      exact out (1, 0) t10 (Ev.all fun n => rfl) (Ev.all fun n => rfl)
    · obtain rfl := len0 hl2
      refine out _ (lf 1 (by decide) (by decide)) ?_ ?_
      · exact Ev.bind (f := fun n v2 => bif !v2 then some (0, 11) else some (1, 0)) (Contains_ev s hn) (by cases decide (s ∈ names) <;> exact Ev.pure _)
      · exact Ev.bind (f := fun n v2 => bif v2 then some (0, 11) else some (1, 0)) (Number_ev s hn) (by cases decide (s ∈ names) <;> exact Ev.pure _)
    · obtain rfl := len0 hl2
      exact out (1, 0) t10 (Ev.all fun n => rfl) (Ev.all fun n => rfl)
    · obtain rfl := len0 hl2
      exact out (1, 0) t10 (Ev.all fun n => rfl) (Ev.all fun n => rfl)
    · obtain rfl := len0 hl2
      refine out _ (lf 2 (by decide) (by decide)) ?_ ?_
      · exact Ev.bind (f := fun n v2 => bif !v2 then some (0, 11) else some (2, 0)) (Contains_ev s hn) (by cases decide (s ∈ names) <;> exact Ev.pure _)
      · exact Ev.bind (f := fun n v2 => bif v2 then some (0, 11) else some (2, 0)) (Number_ev s hn) (by cases decide (s ∈ names) <;> exact Ev.pure _)
    · obtain ⟨p, q, rfl, _, _⟩ := len2 hl2
      exact out _ (joinV_ty p q) (join_ev p q) (num_ref (o := 5) (by decide))
    · obtain ⟨p, q, rfl, _, _⟩ := len2 hl2
      exact out _ (joinV_ty p q) (join_ev p q) (num_ref (o := 6) (by decide))
    · obtain ⟨p, q, rfl, hp, hq⟩ := len2 hl2
      refine out (bif p == 2 && q == 2 then (0, 13) else joinV p q) ?_ ?_ ?_
      · cases p == 2 && q == 2
        · exact joinV_ty p q
        · exact fun h => by cases h
      · show Ev (fun n => (bif p == 2 then some (q == 2) else some false).bind fun v9 => bif v9 then some (0, 13) else (tariff_join n p q).bind fun v => some (v.1, v.2)) _
        refine Ev.bind (a := p == 2 && q == 2) (Ev.all fun n => andT _ _) ?_
        cases p == 2 && q == 2
        · exact Ev.else rfl (join_ev p q)
        · exact Ev.then rfl (Ev.pure _)
      · show Ev (fun n => (ref35_fit n 7 [p, q]).bind fun v5 => bif !v5.2 then some ((0 : Int), (13 : Int)) else some (v5.1, 0)) _
        refine Ev.all fun n => ?_
        rw [fit_mul]
        unfold joinV
        have hp3 : p = 0 ∨ p = 1 ∨ p = 2 := by omega
        have hq3 : q = 0 ∨ q = 1 ∨ q = 2 := by omega
        rcases hp3 with rfl | rfl | rfl <;> rcases hq3 with rfl | rfl | rfl <;> rfl
    · obtain ⟨p, q, rfl, _, _⟩ := len2 hl2
      have h8 : (l.length : Int) = 2 := h3
      obtain ⟨u, v, rfl⟩ : ∃ u v, l = [u, v] := by
        match l, h8 with
        | [u, v], _ => exact ⟨u, v, rfl⟩
        | [], h => simp at h
        | [_], h => simp at h
        | _ :: _ :: _ :: _, h => simp at h; omega
      refine out (bif v.Op != 0 then (0, 13) else bif v.N == 0 then (0, 14) else joinV p q) ?_ ?_ ?_
      · cases v.Op != 0
        · cases v.N == 0
          · exact joinV_ty p q
          · exact fun h => by cases h
        · exact fun h => by cases h
      · show Ev (fun n => bif v.Op != 0 then some (0, 13) else bif v.N == 0 then some (0, 14) else (tariff_join n p q).bind fun v => some (v.1, v.2)) _
        cases v.Op != 0
        · cases v.N == 0
          · exact Ev.else rfl (Ev.else rfl (join_ev p q))
          · exact Ev.else rfl (Ev.then rfl (Ev.pure _))
        · exact Ev.then rfl (Ev.pure _)
      · show Ev (fun n => (bif v.Op == 0 then some (v.N == 0) else some false).bind fun v3 => bif v3 then some (0, 14) else bif v.Op != 0 then some (0, 13) else (ref35_fit n 8 [p, q]).bind fun v5 => bif !v5.2 then some ((0 : Int), (13 : Int)) else some (v5.1, 0)) _
        refine Ev.bind (a := v.Op == 0 && v.N == 0) (Ev.all fun n => andT _ _) ?_
        unfold bne
        cases v.Op == 0
        · exact Ev.else rfl (Ev.then rfl (Ev.pure _))
        · cases v.N == 0
          · exact Ev.else rfl (Ev.else rfl (num_ref (o := 8) (by decide)))
          · exact Ev.then rfl (Ev.pure _)
    · obtain ⟨p, q, rfl, _, _⟩ := len2 hl2
      exact out _ (joinV_ty p q) (join_ev p q) (num_ref (o := 9) (by decide))
    · obtain ⟨p, q, rfl, _, _⟩ := len2 hl2
      exact out _ (joinV_ty p q) (join_ev p q) (num_ref (o := 10) (by decide))
    · obtain ⟨p, q, r, rfl⟩ := len3 hl2
      refine out (bif p != 0 then (0, 13) else joinV q r) ?_ ?_ ?_
      · cases p != 0
        · exact joinV_ty q r
        · exact fun h => by cases h
      · show Ev (fun n => bif p != 0 then some (0, 13) else (tariff_join n q r).bind fun v => some (v.1, v.2)) _
        cases p != 0
        · exact Ev.else rfl (join_ev q r)
        · exact Ev.then rfl (Ev.pure _)
      · show Ev (fun n => (ref35_fit n 11 [p, q, r]).bind fun v5 => bif !v5.2 then some ((0 : Int), (13 : Int)) else some (v5.1, 0)) _
        refine Ev.all fun n => ?_
        rw [fit_if]
        unfold joinV
        cases hp : p == 0 <;> cases hq : q == 0 <;> cases hr : r == 0 <;> simp [bne, hp, hq, hr]
    · obtain ⟨p, q, rfl, _, _⟩ := len2 hl2
      exact out _ (ty0 (p == 1 && q == 1)) (all2b p q 1) (fitb fun n => (fit_less n p q).1)
    · obtain ⟨p, q, rfl, _, _⟩ := len2 hl2
      exact out _ (ty0 (p == 1 && q == 1)) (all2b p q 1) (fitb fun n => (fit_less n p q).2)
    · obtain ⟨p, rfl⟩ := len1 hl2
      exact out _ (ty0 (p == 0)) (all1b p 0) (fitb fun n => fit_not n p)
    · obtain ⟨p, q, rfl, _, _⟩ := len2 hl2
      exact out _ (ty0 (p == 0 && q == 0)) (all2b p q 0) (fitb fun n => (fit_and n p q).1)
    · obtain ⟨p, q, rfl, _, _⟩ := len2 hl2
      exact out _ (ty0 (p == 0 && q == 0)) (all2b p q 0) (fitb fun n => (fit_and n p q).2)
theorem Check_2 {t : Tariff} (hx : Fit t.Fee) (names : List Rt.Bs) (hn : names.length < 4611686018427387904) : ∃ e, Ev (fun n => tariff_Check n t names) e ∧ Ev (fun n => ref35_Check n t names) e := by
  obtain ⟨b, w1, w2, hS⟩ := written_2 hx
  cases hnm : named names with
  | false => exact ⟨1, Ev.bind ((named_ev hn).eq hnm) (Ev.then rfl (Ev.pure _)), Ev.bind ((Names_ev names).eq hnm) (Ev.then rfl (Ev.pure _))⟩
  | true =>
    cases b with
    | false => exact ⟨2, Ev.bind ((named_ev hn).eq hnm) (Ev.else rfl (Ev.bind w1 (Ev.then rfl (Ev.pure _)))), Ev.bind ((Names_ev names).eq hnm) (Ev.else rfl (Ev.bind w2 (Ev.then rfl (Ev.pure _))))⟩
    | true =>
      obtain ⟨r, r1, r2, _⟩ := typed_2 hx names hn (hS rfl)
      refine ⟨bif (r.2 == 0 && r.1 == 0) then 13 else r.2, Ev.bind ((named_ev hn).eq hnm) (Ev.else rfl (Ev.bind w1 (Ev.else rfl (Ev.bind r1 (Ev.bind (Ev.all fun n => andT _ _) ?_))))), Ev.bind ((Names_ev names).eq hnm) (Ev.else rfl (Ev.bind w2 (Ev.else rfl (Ev.bind r2 (Ev.bind (Ev.all fun n => andT _ _) ?_)))))⟩ <;>
      (cases r.2 == 0 && r.1 == 0 <;> exact Ev.pure _)
end Go.Proofs.YtibkigpmkkkaeaaGreatDoor.Ta
