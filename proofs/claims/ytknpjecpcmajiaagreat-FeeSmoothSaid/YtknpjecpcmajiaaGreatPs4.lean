/- Several texts in one, for FeeSmooth.said: what the theorem leans on. -/
import Derived.Test.YtknpjecpcmajiaaGreatRows
import Derived.Test.YtknpjecpcmajiaaGreatPs3
namespace Go.Proofs.YtknpjecpcmajiaaGreat.M
open Go Go.RowKit Rt
def c0a (n : Nat) (ax1 : Big) (b1 : Big) (kont1 : Option Bool) : Nat → Int → Option Bool
 | 0, _ => none
 | mx1 + 1, i1 =>
  bif decide (i1 < (ax1.Digits.length : Int)) then
   (ix ax1.Digits i1).bind fun ex1 =>
   (ix b1.Digits i1).bind fun ex2 =>
   bif ex1 != ex2 then
    some false
   else
    c0a n ax1 b1 kont1 mx1 (iadd .i64 i1 1)
  else
   kont1
theorem u4 : Tryz.prog.underlying 4 = some .bool := by kernel_rfl
def a4m (n : Nat) (ax1 : Big) (kont1 : Option Bool) : Nat → Int → Option Bool
 | 0, _ => none
 | mx1 + 1, i1 =>
  bif decide (i1 < (ax1.Digits.length : Int)) then
   (ix ax1.Digits i1).bind fun ex2 =>
   (bif decide (ex2 < 0) then
    some true
   else
    (ix ax1.Digits i1).bind fun ex3 =>
    some (decide (1048576 ≤ ex3))).bind fun v4 =>
   bif v4 then
    some false
   else
    a4m n ax1 kont1 mx1 (iadd .i64 i1 1)
  else
   kont1
theorem b6b (n : Nat) (ax1 : Big) (kont1 : Option Bool) (mx1 : Nat) (i1 : Int) : a4m n ax1 kont1 (mx1 + 1) i1 =
  bif decide (i1 < (ax1.Digits.length : Int)) then
   (ix ax1.Digits i1).bind fun ex2 =>
   (bif decide (ex2 < 0) then
    some true
   else
    (ix ax1.Digits i1).bind fun ex3 =>
    some (decide (1048576 ≤ ex3))).bind fun v4 =>
   bif v4 then
    some false
   else
    a4m n ax1 kont1 mx1 (iadd .i64 i1 1)
  else
   kont1 := rfl
def a4i (n : Nat) (ax1 : Big) : Option Bool :=
 a4m n ax1 (
  (bif decide (ax1.Sign < (-1)) then
   some true
  else
   some (decide (1 < ax1.Sign))).bind fun v1 =>
  (bif v1 then
   some true
  else
   some (!(((ax1.Digits.length : Int) == 0) == (ax1.Sign == 0)))).bind fun v2 =>
  bif v2 then
   some false
  else
   (bif (ax1.Digits.length : Int) == 0 then
    some true
   else
    (ix ax1.Digits (isub .i64 (ax1.Digits.length : Int) 1)).bind fun ex1 =>
    some (ex1 != 0)).bind fun v3 =>
   some v3) n 0
set_option maxHeartbeats 1000000 in
set_option maxRecDepth 1000000 in
theorem a5u (n : Nat) (ax1 : Big) (r : Bool) (hm : a4i n ax1 = some r) {w : World} {F : Frz} (hs : Sat F w) {as1 : Option Addr} {ns1 : Nat} {cs1 : Nat} (hs1 : SlR (Rp.int .i64) F as1 ns1 cs1 ax1.Digits) :
  Calls Tryz.prog 98 #[.agg #[.int .i64 ax1.Sign, .slice as1 ns1 cs1]] w fun e w' => ∃ v F' O', e = .returned v ∧ HS F w [] F' O' w' ∧ (v = .bool r ∧ O' = []) := by
 unfold a4i at hm
 have h := HS.init hs
 refine a1a 56 Tryz.func98 rfl rfl rfl ?_
 refine a0f (a0a ?_)
 refine a2t rfl rfl rfl rfl h ?_
 intro b1 wx1 hx1
 refine a0b rfl rfl rfl (a0c (a0d (a0f (a0f (a0a (a0b rfl rfl rfl (a0c (a0d (a1g ?_)))))))))
 intro a hax7
 obtain ⟨kont1, hkont1⟩ : ∃ kont1 : Option Bool, kont1 = (
       (bif decide (ax1.Sign < (-1)) then
        some true
       else
        some (decide (1 < ax1.Sign))).bind fun v1 =>
       (bif v1 then
        some true
       else
        some (!(((ax1.Digits.length : Int) == 0) == (ax1.Sign == 0)))).bind fun v2 =>
       bif v2 then
        some false
       else
        (bif (ax1.Digits.length : Int) == 0 then
         some true
        else
         (ix ax1.Digits (isub .i64 (ax1.Digits.length : Int) 1)).bind fun ex1 =>
         some (ex1 != 0)).bind fun v3 =>
        some v3) := ⟨_, rfl⟩
 replace hm : (fun m (s : Int) => a4m n ax1 kont1 m s) n 0 = some r := by rw [hkont1]; exact hm
 refine a5w (id := 0) (fun m (s : Int) => a4m n ax1 kont1 m s) (fun (y : Unit) => kont1) r (fun (s : Int) a w' => wx1 = w' ∧ Has 56 a [(1, .pointer (some ⟨b1, 0, none⟩)), (3, .int .i64 s)]) (fun (y : Unit) a w' => wx1 = w' ∧ Has 56 a [(1, .pointer (some ⟨b1, 0, none⟩))]) (fun _ => rfl) ?_ ?_ hm ⟨rfl, hax7.cut (l := [1, 3]) rfl⟩
 ·clear hm; rintro _u a wx2 hm ⟨rfl, hax1⟩
  rw [hkont1] at hm
  refine a2f (e := .exit 0) hax1 ?_
  refine a1k (a0d (a0f (a0a ?_)))
  refine a0h fa35_1 rfl rfl rfl ?_
  refine a0r ag28 rfl rfl hx1 rfl (i := 0) rfl rfl ?_
  refine a1u hs1.len u28 rfl rfl rfl ?_
  refine a0b rfl rfl rfl (a0c (a0d (a0f (a0f (a0a ?_)))))
  refine a0h fa35_0 rfl rfl rfl ?_
  refine a0r ag3 rfl rfl hx1 rfl (i := 0) rfl rfl ?_
  refine a0u rfl rfl rfl rfl rfl ?_
  refine a0e rfl rfl rfl ?_
  obtain ⟨v1, hb1, hm⟩ := bind_some hm
  refine a2r 4 (fun a w' => wx1 = w' ∧ Has 56 a [(1, .pointer (some ⟨b1, 0, none⟩)), (4, .int .i64 (ax1.Digits.length : Int)), (36, .bool v1)]) ?_ ?_
  ·rintro a wx3 ⟨rfl, hax2⟩
   refine a1f hax2 ?_
   refine a0e rfl rfl rfl ?_
   obtain ⟨v2, hb2, hm⟩ := bind_some hm
   refine a2r 7 (fun a w' => wx1 = w' ∧ Has 56 a [(1, .pointer (some ⟨b1, 0, none⟩)), (4, .int .i64 (ax1.Digits.length : Int)), (44, .bool v2)]) ?_ ?_
   ·rintro a wx4 ⟨rfl, hax3⟩
    refine a1f hax3 ?_
    refine a0c (a0d ?_)
    rcases a0g hm with ⟨hb3, hm⟩ | ⟨hb3, hm⟩
    ·refine a0t 44 rfl hb3 ?_
     refine a0y rfl (a0f (a0a (a0b rfl rfl rfl (a0c (a0d (a1d (a0k ?_)))))))
     refine a1l rfl rfl ?_
     obtain rfl := Option.some.inj hm
     exact ⟨_, _, _, rfl, hx1.pick [] (by decide) rfl, rfl, rfl⟩
    ·refine a0t 44 rfl hb3 ?_
     refine a0s rfl (a1e (a0d (a0f (a0a (a0e rfl rfl rfl ?_)))))
     refine a0u rfl rfl rfl rfl rfl ?_
     refine a0e rfl rfl rfl ?_
     obtain ⟨v3, hb4, hm⟩ := bind_some hm
     refine a2r 8 (fun a w' => wx1 = w' ∧ Has 56 a [(55, .bool v3)]) ?_ ?_
     ·rintro a wx5 ⟨rfl, hax4⟩
      refine a1f hax4 ?_
      refine a0b rfl rfl rfl (a0c (a0d (a1d ?_)))
      refine a1l rfl rfl ?_
      obtain rfl := Option.some.inj hm
      exact ⟨_, _, _, rfl, hx1.pick [] (by decide) rfl, rfl, rfl⟩
     ·clear hm
      rcases a0g hb4 with ⟨hb5, hb4⟩ | ⟨hb5, hb4⟩
      ·refine a1j 47 rfl hb5 ?_
       refine a0z rfl (by decide) rfl (a0z rfl (by decide) rfl (a0z rfl (by decide) rfl (a0z rfl (by decide) rfl (a0z rfl (by decide) rfl (a0z rfl (by decide) rfl (a0z rfl (by decide) rfl (a0q rfl rfl rfl rfl (a0c ?_))))))))
       refine a0n (fun a ha => ?_)
       cases hb4
       exact ⟨rfl, ha.cut (l := [55]) rfl⟩
      ·refine a1j 47 rfl hb5 ?_
       refine a0h fa35_1 rfl rfl rfl ?_
       refine a0r ag28 rfl rfl hx1 rfl (i := 0) rfl rfl ?_
       refine a0e rfl rfl rfl ?_
       refine a0u rfl rfl rfl rfl rfl ?_
       obtain ⟨ex1, he1, hb4⟩ := bind_some hb4
       refine a2n (r := (Rp.int .i64)) u28 sz3 rfl rfl rfl rfl hs1 he1 ?_
       intro b2 o1 cs1 hf1 hr1
       have hc1 : cs1 = [.int .i64 ex1] := hr1
       subst hc1
       refine a2h (j := 0) ag3 rfl rfl hx1 hf1 rfl rfl ?_
       refine a0u rfl rfl rfl rfl rfl ?_
       refine a0m rfl rfl rfl rfl (a0c ?_)
       refine a0n (fun a ha => ?_)
       cases hb4
       exact ⟨rfl, ha.cut (l := [55]) rfl⟩
   ·clear hm
    rcases a0g hb2 with ⟨hb6, hb2⟩ | ⟨hb6, hb2⟩
    ·refine a1j 37 rfl hb6 ?_
     refine a0z rfl (by decide) rfl (a0z rfl (by decide) rfl (a0z rfl (by decide) rfl (a0z rfl (by decide) rfl (a0z rfl (by decide) rfl (a0z rfl (by decide) rfl (a0q rfl rfl rfl rfl (a0c ?_)))))))
     refine a0n (fun a ha => ?_)
     cases hb2
     exact ⟨rfl, ha.cut (l := [1, 4, 44]) rfl⟩
    ·refine a1j 37 rfl hb6 ?_
     refine a0e rfl rfl rfl ?_
     refine a0u rfl rfl rfl rfl rfl ?_
     refine a0h fa35_0 rfl rfl rfl ?_
     refine a0r ag3 rfl rfl hx1 rfl (i := 0) rfl rfl ?_
     refine a0u rfl rfl rfl rfl rfl ?_
     refine d2z u4 rfl rfl rfl rfl ?_
     refine a0m rfl rfl rfl rfl (a0c ?_)
     refine a0n (fun a ha => ?_)
     cases hb2
     exact ⟨rfl, ha.cut (l := [1, 4, 44]) rfl⟩
  ·clear hm
   rcases a0g hb1 with ⟨hb7, hb1⟩ | ⟨hb7, hb1⟩
   ·refine a1j 32 rfl hb7 ?_
    refine a0z rfl (by decide) rfl (a0z rfl (by decide) rfl (a0z rfl (by decide) rfl (a0q rfl rfl rfl rfl (a0c ?_))))
    refine a0n (fun a ha => ?_)
    cases hb1
    exact ⟨rfl, ha.cut (l := [1, 4, 36]) rfl⟩
   ·refine a1j 32 rfl hb7 ?_
    refine a0h fa35_0 rfl rfl rfl ?_
    refine a0r ag3 rfl rfl hx1 rfl (i := 0) rfl rfl ?_
    refine a0u rfl rfl rfl rfl rfl ?_
    refine a0m rfl rfl rfl rfl (a0c ?_)
    refine a0n (fun a ha => ?_)
    cases hb1
    exact ⟨rfl, ha.cut (l := [1, 4, 36]) rfl⟩
 ·clear hm hkont1; intro hk1 mx1 K ihx1
  rintro i1 a wx6 hm ⟨rfl, hax5⟩
  simp only [b6b] at hm
  refine a1i hax5 ?_
  refine a0f (a0f (a0a (a0e rfl rfl rfl ?_)))
  refine a0h fa35_1 rfl rfl rfl ?_
  refine a0r ag28 rfl rfl hx1 rfl (i := 0) rfl rfl ?_
  refine a1u hs1.len u28 rfl rfl rfl ?_
  refine a0u rfl rfl rfl rfl rfl ?_
  refine a0c (a0d ?_)
  rcases a0g hm with ⟨hb8, hm⟩ | ⟨hb8, hm⟩
  ·refine a0t 9 rfl hb8 ?_
   refine a0y rfl (a1e (a0d (a0f (a1g (a0f (a0a ?_))))))
   refine a0h fa35_1 rfl rfl rfl ?_
   refine a0r ag28 rfl rfl hx1 rfl (i := 0) rfl rfl ?_
   refine a0e rfl rfl rfl ?_
   obtain ⟨ex2, he2, hm⟩ := bind_some hm
   refine a2n (r := (Rp.int .i64)) u28 sz3 rfl rfl rfl rfl hs1 he2 ?_
   intro b3 o2 cs2 hf2 hr2
   have hc2 : cs2 = [.int .i64 ex2] := hr2
   subst hc2
   refine a2h (j := 0) ag3 rfl rfl hx1 hf2 rfl rfl ?_
   refine a0u rfl rfl rfl rfl rfl ?_
   refine a0e rfl rfl rfl ?_
   obtain ⟨v4, hb9, hm⟩ := bind_some hm
   refine a2r 7 (fun a w' => wx1 = w' ∧ Has 56 a [(1, .pointer (some ⟨b1, 0, none⟩)), (3, .int .i64 i1), (25, .bool v4)]) ?_ ?_
   ·rintro a wx7 ⟨rfl, hax6⟩
    refine a1f hax6 ?_
    refine a0c (a0d ?_)
    rcases a0g hm with ⟨hb10, hm⟩ | ⟨hb10, hm⟩
    ·refine a0t 25 rfl hb10 ?_
     refine a0y rfl (a0f (a0a (a0b rfl rfl rfl (a0c (a0d (a1d (a0x (a0k (a0k (a0x (a0k ?_)))))))))))
     refine a1l rfl rfl ?_
     obtain rfl := Option.some.inj hm
     exact ⟨_, _, _, rfl, hx1.pick [] (by decide) rfl, rfl, rfl⟩
    ·refine a0t 25 rfl hb10 ?_
     refine a0s rfl (a1e (a1m (a0d (a0a (a0e rfl rfl rfl ?_)))))
     refine a0u rfl rfl rfl rfl rfl ?_
     refine a0b rfl rfl rfl (a0c ?_)
     refine a0n (fun a ha => ihx1 (iadd .i64 i1 1) a _ hm ?_)
     exact ⟨rfl, ha.cut (l := [1, 3]) rfl⟩
   ·clear hm
    rcases a0g hb9 with ⟨hb11, hb9⟩ | ⟨hb11, hb9⟩
    ·refine a1j 18 rfl hb11 ?_
     refine a0z rfl (by decide) rfl (a0z rfl (by decide) rfl (a0z rfl (by decide) rfl (a0z rfl (by decide) rfl (a0z rfl (by decide) rfl (a0z rfl (by decide) rfl (a0q rfl rfl rfl rfl (a0c ?_)))))))
     refine a0n (fun a ha => ?_)
     cases hb9
     exact ⟨rfl, ha.cut (l := [1, 3, 25]) rfl⟩
    ·refine a1j 18 rfl hb11 ?_
     refine a0h fa35_1 rfl rfl rfl ?_
     refine a0r ag28 rfl rfl hx1 rfl (i := 0) rfl rfl ?_
     refine a0e rfl rfl rfl ?_
     obtain ⟨ex3, he3, hb9⟩ := bind_some hb9
     refine a2n (r := (Rp.int .i64)) u28 sz3 rfl rfl rfl rfl hs1 he3 ?_
     intro b4 o3 cs3 hf3 hr3
     have hc3 : cs3 = [.int .i64 ex3] := hr3
     subst hc3
     refine a2h (j := 0) ag3 rfl rfl hx1 hf3 rfl rfl ?_
     refine a0u rfl rfl rfl rfl rfl ?_
     refine a0m rfl rfl rfl rfl (a0c ?_)
     refine a0n (fun a ha => ?_)
     cases hb9
     exact ⟨rfl, ha.cut (l := [1, 3, 25]) rfl⟩
  ·refine a0t 9 rfl hb8 ?_
   refine a0s rfl (a3u (a0w (a0w ?_)))
   refine fun a ha => hk1 () a _ hm ?_
   exact ⟨rfl, ha.cut (l := [1]) rfl⟩
def a5a (n : Nat) (l1 : (List Int)) (kont1 : Int → Option (List Int)) : Nat → Int → Option (List Int)
 | 0, _ => none
 | mx1 + 1, nx1 =>
  (bif decide (0 < nx1) then
   (ix l1 (isub .i64 nx1 1)).bind fun ex1 =>
   some (ex1 == 0)
  else
   some false).bind fun v1 =>
  bif v1 then
   a5a n l1 kont1 mx1 (isub .i64 nx1 1)
  else
   kont1 nx1
theorem b7v (n : Nat) (l1 : (List Int)) (kont1 : Int → Option (List Int)) (mx1 : Nat) (nx1 : Int) : a5a n l1 kont1 (mx1 + 1) nx1 =
  (bif decide (0 < nx1) then
   (ix l1 (isub .i64 nx1 1)).bind fun ex1 =>
   some (ex1 == 0)
  else
   some false).bind fun v1 =>
  bif v1 then
   a5a n l1 kont1 mx1 (isub .i64 nx1 1)
  else
   kont1 nx1 := rfl
def a2d (n : Nat) (l1 : (List Int)) : Option (List Int) :=
 a5a n l1 (fun (nx2 : Int) =>
  (lsl l1 0 nx2).bind fun l2 =>
  (app 8 [] l2).bind fun l3 =>
  some l3) n (l1.length : Int)
set_option maxHeartbeats 1000000 in
set_option maxRecDepth 1000000 in
theorem a6f (n : Nat) (l1 : (List Int)) (r : (List Int)) (hm : a2d n l1 = some r) {w : World} {F : Frz} (hs : Sat F w) {as1 : Option Addr} {ns1 : Nat} {cs1 : Nat} (hs1 : SlR (Rp.int .i64) F as1 ns1 cs1 l1) :
  Calls Tryz.prog 135 #[.slice as1 ns1 cs1] w fun e w' => ∃ v F' O', e = .returned v ∧ HS F w [] F' O' w' ∧ (∃ (a0_0 : Option Addr) (n0_0 : Nat) (c0_0 : Nat) (xs0_0 : List Value), v = .slice a0_0 n0_0 c0_0 ∧ O' = [.row 3 1 a0_0 n0_0 c0_0 xs0_0] ∧ RowN (Rp.int .i64) F' n0_0 xs0_0 r) := by
 unfold a2d at hm
 have h := HS.init hs
 refine a1a 23 Tryz.func135 rfl rfl rfl ?_
 refine a0f (a0a (a0b rfl rfl rfl (a0c (a0d (a0f (a0a (a0e rfl rfl rfl ?_)))))))
 refine a1u hs1.len u28 rfl rfl rfl ?_
 refine a0b rfl rfl rfl (a0c (a0d (a0f (a1g ?_))))
 intro a hax4
 obtain ⟨kont1, hkont1⟩ : ∃ kont1 : Int → Option (List Int), kont1 = (fun (nx2 : Int) =>
       (lsl l1 0 nx2).bind fun l2 =>
       (app 8 [] l2).bind fun l3 =>
       some l3) := ⟨_, rfl⟩
 replace hm : (fun m (s : Int) => a5a n l1 kont1 m s) n (l1.length : Int) = some r := by rw [hkont1]; exact hm
 refine a5w (id := 0) (fun m (s : Int) => a5a n l1 kont1 m s) (fun (y : Int) => kont1 y) r (fun (s : Int) a w' => w = w' ∧ Has 23 a [(0, .slice as1 ns1 cs1), (3, .int .i64 s)]) (fun (y : Int) a w' => w = w' ∧ Has 23 a [(0, .slice as1 ns1 cs1), (3, .int .i64 y)]) (fun _ => rfl) ?_ ?_ hm ⟨rfl, hax4.cut (l := [0, 3]) rfl⟩
 ·clear hm; rintro nx2 a wx1 hm ⟨rfl, hax1⟩
  rw [hkont1] at hm
  replace hm := hm
  refine a2f (e := .exit 0) hax1 ?_
  refine a1k (a0d (a0f (a0a ?_)))
  refine a1q (e := 3) (cs := []) (q := 1) rfl rfl h rfl (fun _ => by kernel_rfl) rfl rfl ?_
  intro b1 wx2 hx1
  refine a0e rfl rfl rfl (a0e rfl rfl rfl ?_)
  obtain ⟨l2, hc1, hm⟩ := bind_some hm
  refine c6b u28 (r := (Rp.int .i64)) sz3 rfl rfl rfl rfl hs1 hc1 ?_
  intro as2 ns2 cs2 hs2
  obtain ⟨l3, hr1, hm⟩ := bind_some hm
  refine b7b (r := (Rp.int .i64)) ap28 rfl rfl rfl hx1 rfl rfl (i := 0) rfl ((show RowN (Rp.int .i64) F 0 [] [] from ⟨rfl, (rfl : RowR (Rp.int .i64) _ [] [])⟩)) hs2 hr1 ?_
  intro as3 cs3 wx3 xss3 hx2 hs3
  refine a0b rfl rfl rfl (a0c (a0d (a1d ?_)))
  refine a1l rfl rfl ?_
  obtain rfl := Option.some.inj hm
  exact ⟨_, _, _, rfl, hx2.pick [0] (by decide) rfl, as3, (0 + ns2), cs3, xss3, rfl, rfl, hs3⟩
 ·clear hm hkont1; intro hk1 mx1 K ihx1
  rintro nx1 a wx4 hm ⟨rfl, hax2⟩
  simp only [b7v] at hm
  refine a1i hax2 ?_
  refine a0f (a0f (a0a (a0e rfl rfl rfl ?_)))
  refine a0u rfl rfl rfl rfl rfl ?_
  refine a0e rfl rfl rfl ?_
  obtain ⟨v1, hb1, hm⟩ := bind_some hm
  refine a2r 7 (fun a w' => w = w' ∧ Has 23 a [(0, .slice as1 ns1 cs1), (3, .int .i64 nx1), (15, .bool v1)]) ?_ ?_
  ·rintro a wx5 ⟨rfl, hax3⟩
   refine a1f hax3 ?_
   refine a0c (a0d ?_)
   rcases a0g hm with ⟨hb2, hm⟩ | ⟨hb2, hm⟩
   ·refine a0t 15 rfl hb2 ?_
    refine a0y rfl (a1e (a0d (a1g (a0a (a0e rfl rfl rfl ?_)))))
    refine a0u rfl rfl rfl rfl rfl ?_
    refine a0b rfl rfl rfl (a0c (a1m ?_))
    refine a0n (fun a ha => ihx1 (isub .i64 nx1 1) a _ hm ?_)
    exact ⟨rfl, ha.cut (l := [0, 3]) rfl⟩
   ·refine a0t 15 rfl hb2 ?_
    refine a0s rfl (a3u (a0w (a0w ?_)))
    refine fun a ha => hk1 nx1 a _ hm ?_
    exact ⟨rfl, ha.cut (l := [0, 3]) rfl⟩
  ·clear hm
   rcases a0g hb1 with ⟨hb3, hb1⟩ | ⟨hb3, hb1⟩
   ·refine a1j 8 rfl hb3 ?_
    refine a0e rfl rfl rfl (a0e rfl rfl rfl ?_)
    refine a0u rfl rfl rfl rfl rfl ?_
    obtain ⟨ex1, he1, hb1⟩ := bind_some hb1
    refine a2n (r := (Rp.int .i64)) u28 sz3 rfl rfl rfl rfl hs1 he1 ?_
    intro b2 o1 cs1 hf1 hr2
    have hc2 : cs1 = [.int .i64 ex1] := hr2
    subst hc2
    refine a2h (j := 0) ag3 rfl rfl h hf1 rfl rfl ?_
    refine a0u rfl rfl rfl rfl rfl ?_
    refine a0q rfl rfl rfl rfl (a0c ?_)
    refine a0n (fun a ha => ?_)
    cases hb1
    exact ⟨rfl, ha.cut (l := [0, 3, 15]) rfl⟩
   ·refine a1j 8 rfl hb3 ?_
    refine a0z rfl (by decide) rfl (a0z rfl (by decide) rfl (a0z rfl (by decide) rfl (a0z rfl (by decide) rfl (a0z rfl (by decide) rfl (a0z rfl (by decide) rfl (a0m rfl rfl rfl rfl (a0c ?_)))))))
    refine a0n (fun a ha => ?_)
    cases hb1
    exact ⟨rfl, ha.cut (l := [0, 3, 15]) rfl⟩
theorem ent135 : Ent Tryz.prog 135 := fun _ _ => by kernel_rfl
def a3j (n : Nat) (sign1 : Int) (l1 : (List Int)) : Option Big :=
 (a2d n l1).bind fun v1 =>
 bif (v1.length : Int) == 0 then
  some (⟨0, []⟩ : Big)
 else
  some (⟨sign1, v1⟩ : Big)
set_option maxHeartbeats 1000000 in
set_option maxRecDepth 1000000 in
theorem a6g (n : Nat) (sign1 : Int) (l1 : (List Int)) (r : Big) (hm : a3j n sign1 l1 = some r) {w : World} {F : Frz} (hs : Sat F w) {as1 : Option Addr} {ns1 : Nat} {cs1 : Nat} (hs1 : SlR (Rp.int .i64) F as1 ns1 cs1 l1) :
  Calls Tryz.prog 102 #[.int .i64 sign1, .slice as1 ns1 cs1] w fun e w' => ∃ v F' O', e = .returned v ∧ HS F w [] F' O' w' ∧ (∃ (a0_1 : Option Addr) (n0_1 : Nat) (c0_1 : Nat), v = .agg #[.int .i64 r.Sign, .slice a0_1 n0_1 c0_1] ∧ O' = [] ∧ SlR (Rp.int .i64) F' a0_1 n0_1 c0_1 r.Digits) := by
 unfold a3j at hm
 have h := HS.init hs
 refine a1a 15 Tryz.func102 rfl rfl rfl ?_
 refine a0f (a0a ?_)
 refine a1b ze35 rfl rfl rfl h ?_
 intro b1 wx1 hx1
 refine a0c (a0d (a0f (a0a (a0e rfl rfl rfl ?_))))
 obtain ⟨v1, hv1, hm⟩ := bind_some hm
 refine a0i ent135 rfl rfl rfl rfl hx1 (a6f _ _ _ hv1 hx1.sat hs1) ?_
 rintro _ Fx1 _ wx2 hF1 hx2 ⟨as2, ns2, cs2, xss2, rfl, rfl, hs2⟩
 refine a0b rfl rfl rfl (a0c (a0d (a0f (a0f (a0a (a0e rfl rfl rfl ?_))))))
 refine a1u hs2.len u28 rfl rfl rfl ?_
 refine a0u rfl rfl rfl rfl rfl ?_
 refine a0c (a0d ?_)
 rcases a0g hm with ⟨hb1, hm⟩ | ⟨hb1, hm⟩
 ·refine a0t 10 rfl hb1 ?_
  refine a0y rfl (a0f (a0a ?_))
  refine a2b (v := .agg #[.int .i64 0, .slice none 0 0]) rfl rfl rfl (fun _ => by kernel_rfl) ?_
  refine a0p sz35 rfl hx2 rfl rfl rfl rfl (i := 1) rfl rfl rfl rfl ?_
  intro wx3 hx3
  refine a0c (a0d (a1d (a0k ?_)))
  refine a3r rfl ag35 sz35 rfl hx3 rfl (i := 1) rfl ?_
  obtain rfl := Option.some.inj hm
  exact ⟨_, _, _, rfl, hx3.pick [] (by decide) rfl, none, 0, 0, rfl, rfl, SlR.nil _ _⟩
 ·refine a0t 10 rfl hb1 ?_
  refine a0s rfl (a1e (a0d (a0f (a0a (a0e rfl rfl rfl (a0e rfl rfl rfl ?_))))))
  obtain ⟨Fx2, hF2, hx4, hsx1⟩ := a1c hx2 (i := 0) rfl hs2
  refine a2b (v := .agg #[.int .i64 sign1, .slice as2 ns2 cs2]) rfl rfl rfl (fun _ => by kernel_rfl) ?_
  refine a0p sz35 rfl hx4 rfl rfl rfl rfl (i := 0) rfl rfl rfl rfl ?_
  intro wx4 hx5
  refine a0c (a0d (a1d ?_))
  refine a3r rfl ag35 sz35 rfl hx5 rfl (i := 0) rfl ?_
  obtain rfl := Option.some.inj hm
  exact ⟨_, _, _, rfl, hx5.pick [] (by decide) rfl, as2, ns2, cs2, rfl, rfl, hsx1⟩
theorem ent102 : Ent Tryz.prog 102 := fun _ _ => by kernel_rfl
def a7c (n : Nat) (kont1 : (List Int) → Option Big) : Nat → Int → (List Int) → Option Big
 | 0, _, _ => none
 | mx1 + 1, nx2, l1 =>
  bif nx2 != 0 then
   (rem nx2 1048576).bind fun q1 =>
   (bif decide (q1 < 0) then
    some (IntKind.i64.wrap (0 - q1))
   else
    some q1).bind fun d1 =>
   (app 8 l1 [d1]).bind fun l3 =>
   (quo .i64 nx2 1048576).bind fun q2 =>
   a7c n kont1 mx1 q2 l3
  else
   kont1 l1
theorem c0h (n : Nat) (kont1 : (List Int) → Option Big) (mx1 : Nat) (nx2 : Int) (l1 : List Int) : a7c n kont1 (mx1 + 1) nx2 l1 =
  bif nx2 != 0 then
   (rem nx2 1048576).bind fun q1 =>
   (bif decide (q1 < 0) then
    some (IntKind.i64.wrap (0 - q1))
   else
    some q1).bind fun d1 =>
   (app 8 l1 [d1]).bind fun l3 =>
   (quo .i64 nx2 1048576).bind fun q2 =>
   a7c n kont1 mx1 q2 l3
  else
   kont1 l1 := rfl
def b1p (n : Nat) (nx1 : Int) : Option Big :=
 bif nx1 == 0 then
  some (⟨0, []⟩ : Big)
 else
  (bif decide (nx1 < 0) then
   some (-1)
  else
   some 1).bind fun sign1 =>
  a7c n (fun (l2 : List Int) =>
   (a3j n sign1 l2).bind fun v1 =>
   some v1) n nx1 ([] : List Int)
set_option maxHeartbeats 1000000 in
set_option maxRecDepth 1000000 in
theorem b7y (n : Nat) (nx1 : Int) (r : Big) (hm : b1p n nx1 = some r) {w : World} {F : Frz} (hs : Sat F w)  :
  Calls Tryz.prog 59 #[.int .i64 nx1] w fun e w' => ∃ v F' O', e = .returned v ∧ HS F w [] F' O' w' ∧ (∃ (a0_1 : Option Addr) (n0_1 : Nat) (c0_1 : Nat), v = .agg #[.int .i64 r.Sign, .slice a0_1 n0_1 c0_1] ∧ O' = [] ∧ SlR (Rp.int .i64) F' a0_1 n0_1 c0_1 r.Digits) := by
 unfold b1p at hm
 have h := HS.init hs
 refine a1a 28 Tryz.func59 rfl rfl rfl ?_
 refine a0f (a0a ?_)
 refine a1b ze35 rfl rfl rfl h ?_
 intro b1 wx1 hx1
 refine a0c (a0d (a0f (a0f (a0a (a0e rfl rfl rfl ?_)))))
 refine a0u rfl rfl rfl rfl rfl ?_
 refine a0c (a0d ?_)
 rcases a0g hm with ⟨hb1, hm⟩ | ⟨hb1, hm⟩
 ·refine a0t 7 rfl hb1 ?_
  refine a0y rfl (a0f (a0a ?_))
  refine a2b (v := .agg #[.int .i64 0, .slice none 0 0]) rfl rfl rfl (fun _ => by kernel_rfl) ?_
  refine a0p sz35 rfl hx1 rfl rfl rfl rfl (i := 0) rfl rfl rfl rfl ?_
  intro wx2 hx2
  refine a0c (a0d (a1d (a0k ?_)))
  refine a3r rfl ag35 sz35 rfl hx2 rfl (i := 0) rfl ?_
  obtain rfl := Option.some.inj hm
  exact ⟨_, _, _, rfl, hx2.pick [] (by decide) rfl, none, 0, 0, rfl, rfl, SlR.nil _ _⟩
 ·refine a0t 7 rfl hb1 ?_
  refine a0s rfl (a1e (a0d (a0f (a0a (a0b rfl rfl rfl (a0c (a0d (a0f (a0f (a0a (a0e rfl rfl rfl ?_)))))))))))
  refine a0u rfl rfl rfl rfl rfl ?_
  refine a0c (a0d ?_)
  obtain ⟨sign1, hb2, hm⟩ := bind_some hm
  refine a8f (fun a w' => wx1 = w' ∧ Has 28 a [(0, .int .i64 nx1), (2, .pointer (some ⟨b1, 0, none⟩)), (3, .int .i64 sign1)]) ?_ ?_
  ·rintro a wx3 ⟨rfl, hax1⟩
   refine a1i hax1 ?_
   refine a0f (a0a (a0b rfl rfl rfl (a0c (a0d (a0f (a1g ?_))))))
   have hx3 := hx1.nilRow 3 1
   intro a hax5
   obtain ⟨kont1, hkont1⟩ : ∃ kont1 : (List Int) → Option Big, kont1 = (fun (l2 : List Int) =>
       (a3j n sign1 l2).bind fun v1 =>
       some v1) := ⟨_, rfl⟩
   replace hm : (fun m (s : Int × List Int) => a7c n kont1 m s.1 s.2) n (nx1, ([] : List Int)) = some r := by rw [hkont1]; exact hm
   refine a5w (id := 0) (fun m (s : Int × List Int) => a7c n kont1 m s.1 s.2) (fun (y : List Int) => kont1 y) r (fun (s : Int × List Int) a w' => ∃ (Fx1 : Frz) (as1 : Option Addr) (ns1 : Nat) (cs1 : Nat) (xss1 : List Value), Frz.le F Fx1 ∧ HS F w [] Fx1 [.row 3 1 as1 ns1 cs1 xss1, .box b1 35 [.int .i64 0, .slice none 0 0]] w' ∧ (RowN (Rp.int .i64) Fx1 ns1 xss1 s.2) ∧ Has 28 a [(0, .int .i64 s.1), (2, .pointer (some ⟨b1, 0, none⟩)), (3, .int .i64 sign1), (4, .slice as1 ns1 cs1)]) (fun (y : List Int) a w' => ∃ (Fx2 : Frz) (as2 : Option Addr) (ns2 : Nat) (cs2 : Nat) (xss2 : List Value), Frz.le F Fx2 ∧ HS F w [] Fx2 [.row 3 1 as2 ns2 cs2 xss2, .box b1 35 [.int .i64 0, .slice none 0 0]] w' ∧ (RowN (Rp.int .i64) Fx2 ns2 xss2 y) ∧ Has 28 a [(2, .pointer (some ⟨b1, 0, none⟩)), (3, .int .i64 sign1), (4, .slice as2 ns2 cs2)]) (fun _ => rfl) ?_ ?_ hm ⟨_, none, 0, 0, [], Frz.refl _, hx3.pick [0, 1] (by decide) rfl, ((show RowN (Rp.int .i64) _ 0 [] [] from ⟨rfl, rfl⟩)), hax5.cut (l := [0, 2, 3, 4]) rfl⟩
   ·clear hm; rintro l2 a wx4 hm ⟨Fx2, as2, ns2, cs2, xss2, hF2, hx5, hs2, hax2⟩
    rw [hkont1] at hm
    replace hm := hm
    refine a2f (e := .exit 0) hax2 ?_
    refine a1k (a0d (a0f (a0a (a0e rfl rfl rfl (a0e rfl rfl rfl ?_)))))
    obtain ⟨Fx3, hF3, hx6, hsx1⟩ := a1c hx5 (i := 0) rfl hs2
    obtain ⟨v1, hv1, hm⟩ := bind_some hm
    refine a0i ent102 rfl rfl rfl rfl hx6 (a6g _ _ _ _ hv1 hx6.sat hsx1) ?_
    rintro _ Fx4 _ wx5 hF4 hx7 ⟨as3, ns3, cs3, rfl, rfl, hs3⟩
    refine a0p sz35 rfl hx7 rfl rfl rfl rfl (i := 0) rfl rfl rfl rfl ?_
    intro wx6 hx8
    refine a0c (a0d (a1d ?_))
    refine a3r rfl ag35 sz35 rfl hx8 rfl (i := 0) rfl ?_
    obtain rfl := Option.some.inj hm
    exact ⟨_, _, _, rfl, hx8.pick [] (by decide) rfl, as3, ns3, cs3, rfl, rfl, hs3⟩
   ·clear hm hkont1; intro hk1 mx1 K ihx1
    rintro ⟨nx2, l1⟩ a wx7 hm ⟨Fx1, as1, ns1, cs1, xss1, hF1, hx4, hs1, hax3⟩
    simp only [c0h] at hm
    refine a1i hax3 ?_
    refine a0f (a0f (a0a (a0e rfl rfl rfl ?_)))
    refine a0u rfl rfl rfl rfl rfl ?_
    refine a0c (a0d ?_)
    rcases a0g hm with ⟨hb3, hm⟩ | ⟨hb3, hm⟩
    ·refine a0t 12 rfl hb3 ?_
     refine a0y rfl (a1e (a0d (a1g (a0f (a0a (a0e rfl rfl rfl ?_))))))
     obtain ⟨q1, hq1, hm⟩ := bind_some hm
     refine c4z rfl rfl rfl rfl hq1 ?_
     refine a0b rfl rfl rfl (a0c (a0d (a0f (a0f (a0a (a0e rfl rfl rfl ?_))))))
     refine a0u rfl rfl rfl rfl rfl ?_
     refine a0c (a0d ?_)
     obtain ⟨d1, hb4, hm⟩ := bind_some hm
     refine a8f (fun a w' => wx7 = w' ∧ Has 28 a [(0, .int .i64 nx2), (2, .pointer (some ⟨b1, 0, none⟩)), (3, .int .i64 sign1), (4, .slice as1 ns1 cs1), (5, .int .i64 d1)]) ?_ ?_
     ·rintro a wx8 ⟨rfl, hax4⟩
      refine a1i hax4 ?_
      refine a0f (a0a (a0e rfl rfl rfl (a0e rfl rfl rfl ?_)))
      refine a1q (e := 3) (cs := [.int .i64 d1]) (q := 1) rfl rfl hx4 rfl (fun _ => by kernel_rfl) rfl rfl ?_
      intro b2 wx9 hx9
      obtain ⟨l3, hr1, hm⟩ := bind_some hm
      refine a9n (r := (Rp.int .i64)) ap28 rfl rfl hx9 rfl rfl (i := 1) (j := 0) rfl rfl hs1 ((show RowN (Rp.int .i64) Fx1 1 [.int .i64 d1] [d1] from ⟨rfl, ⟨_, _, rfl, rfl, (rfl : RowR (Rp.int .i64) _ [] [])⟩⟩)) hr1 ?_
      intro as4 cs4 wx10 hx10 hs4
      refine a0b rfl rfl rfl (a0c (a0d (a0a (a0e rfl rfl rfl ?_))))
      obtain ⟨q2, hq2, hm⟩ := bind_some hm
      refine c4e rfl rfl rfl rfl hq2 ?_
      refine a0b rfl rfl rfl (a0c (a1m ?_))
      refine a0n (fun a ha => ihx1 (q2, l3) a _ hm ?_)
      exact ⟨_, as4, (ns1 + 1), cs4, (xss1 ++ [.int .i64 d1]), hF1, hx10.pick [1, 2] (by decide) rfl, hs4, ha.cut (l := [0, 2, 3, 4]) rfl⟩
     ·clear hm
      rcases a0g hb4 with ⟨hb5, hb4⟩ | ⟨hb5, hb4⟩
      ·refine a0t 16 rfl hb5 ?_
       refine a0y rfl (a0a (a0e rfl rfl rfl ?_))
       refine c3x rfl rfl rfl ?_
       refine a0b rfl rfl rfl (a0c ?_)
       refine a0n (fun a ha => ?_)
       cases hb4
       exact ⟨rfl, ha.cut (l := [0, 2, 3, 4, 5]) rfl⟩
      ·refine a0t 16 rfl hb5 ?_
       refine a0s rfl (a1e ?_)
       refine a0n (fun a ha => ?_)
       cases hb4
       exact ⟨rfl, ha.cut (l := [0, 2, 3, 4, 5]) rfl⟩
    ·refine a0t 12 rfl hb3 ?_
     refine a0s rfl (a3u (a0w (a0w ?_)))
     refine fun a ha => hk1 l1 a _ hm ?_
     exact ⟨_, as1, ns1, cs1, xss1, hF1, hx4.pick [0, 1] (by decide) rfl, hs1, ha.cut (l := [2, 3, 4]) rfl⟩
  ·clear hm
   rcases a0g hb2 with ⟨hb6, hb2⟩ | ⟨hb6, hb2⟩
   ·refine a0t 10 rfl hb6 ?_
    refine a0y rfl (a0a (a0b rfl rfl rfl (a0c ?_)))
    refine a0n (fun a ha => ?_)
    cases hb2
    exact ⟨rfl, ha.cut (l := [0, 2, 3]) rfl⟩
   ·refine a0t 10 rfl hb6 ?_
    refine a0s rfl (a1e ?_)
    refine a0n (fun a ha => ?_)
    cases hb2
    exact ⟨rfl, ha.cut (l := [0, 2, 3]) rfl⟩
def a2x (_n : Nat) (l1 : (List Int)) (i1 : Int) : Option Int :=
 bif decide (i1 < (l1.length : Int)) then
  (ix l1 i1).bind fun ex1 =>
  some ex1
 else
  some 0
set_option maxHeartbeats 1000000 in
set_option maxRecDepth 1000000 in
theorem a5e (n : Nat) (l1 : (List Int)) (i1 : Int) (r : Int) (hm : a2x n l1 i1 = some r) {w : World} {F : Frz} (hs : Sat F w) {as1 : Option Addr} {ns1 : Nat} {cs1 : Nat} (hs1 : SlR (Rp.int .i64) F as1 ns1 cs1 l1) :
  Calls Tryz.prog 142 #[.slice as1 ns1 cs1, .int .i64 i1] w fun e w' => e = .returned (.int .i64 r) ∧ w' = w := by
 unfold a2x at hm
 have h := HS.init hs
 refine a1a 13 Tryz.func142 rfl rfl rfl ?_
 refine a0f (a0a (a0b rfl rfl rfl (a0c (a0d (a0f (a0f (a0a (a0e rfl rfl rfl (a0e rfl rfl rfl ?_)))))))))
 refine a1u hs1.len u28 rfl rfl rfl ?_
 refine a0u rfl rfl rfl rfl rfl ?_
 refine a0c (a0d ?_)
 rcases a0g hm with ⟨hb1, hm⟩ | ⟨hb1, hm⟩
 ·refine a0t 8 rfl hb1 ?_
  refine a0y rfl (a0f (a0a (a0e rfl rfl rfl (a0e rfl rfl rfl ?_))))
  obtain ⟨ex1, he1, hm⟩ := bind_some hm
  refine a2n (r := (Rp.int .i64)) u28 sz3 rfl rfl rfl rfl hs1 he1 ?_
  intro b1 o1 cs1 hf1 hr1
  have hc1 : cs1 = [.int .i64 ex1] := hr1
  subst hc1
  refine a2h (j := 0) ag3 rfl rfl h hf1 rfl rfl ?_
  refine a0b rfl rfl rfl (a0c (a0d (a1d (a0k ?_))))
  refine a1l rfl rfl ?_
  obtain rfl := Option.some.inj hm
  exact ⟨rfl, rfl⟩
 ·refine a0t 8 rfl hb1 ?_
  refine a0s rfl (a1e (a0d (a0f (a0a (a0b rfl rfl rfl (a0c (a0d (a1d ?_))))))))
  refine a1l rfl rfl ?_
  obtain rfl := Option.some.inj hm
  exact ⟨rfl, rfl⟩
theorem ent142 : Ent Tryz.prog 142 := fun _ _ => by kernel_rfl
def a5d (n : Nat) (ax1 : (List Int)) (b1 : (List Int)) (kont1 : Option Bool) : Nat → Int → Option Bool
 | 0, _ => none
 | mx1 + 1, i1 =>
  bif decide (0 ≤ i1) then
   (a2x n ax1 i1).bind fun v1 =>
   (a2x n b1 i1).bind fun v2 =>
   bif v1 != v2 then
    (a2x n ax1 i1).bind fun v3 =>
    (a2x n b1 i1).bind fun v4 =>
    some (decide (v3 < v4))
   else
    a5d n ax1 b1 kont1 mx1 (isub .i64 i1 1)
  else
   kont1
theorem b6z (n : Nat) (ax1 : (List Int)) (b1 : (List Int)) (kont1 : Option Bool) (mx1 : Nat) (i1 : Int) : a5d n ax1 b1 kont1 (mx1 + 1) i1 =
  bif decide (0 ≤ i1) then
   (a2x n ax1 i1).bind fun v1 =>
   (a2x n b1 i1).bind fun v2 =>
   bif v1 != v2 then
    (a2x n ax1 i1).bind fun v3 =>
    (a2x n b1 i1).bind fun v4 =>
    some (decide (v3 < v4))
   else
    a5d n ax1 b1 kont1 mx1 (isub .i64 i1 1)
  else
   kont1 := rfl
def b0f (n : Nat) (ax1 : (List Int)) (b1 : (List Int)) : Option Bool :=
 a5d n ax1 b1 (
  some false) n (isub .i64 (imax (ax1.length : Int) (b1.length : Int)) 1)
set_option maxHeartbeats 1000000 in
set_option maxRecDepth 1000000 in
theorem c0j (n : Nat) (ax1 : (List Int)) (b1 : (List Int)) (r : Bool) (hm : b0f n ax1 b1 = some r) {w : World} {F : Frz} (hs : Sat F w) {as1 : Option Addr} {ns1 : Nat} {cs1 : Nat} {as2 : Option Addr} {ns2 : Nat} {cs2 : Nat} (hs1 : SlR (Rp.int .i64) F as1 ns1 cs1 ax1) (hs2 : SlR (Rp.int .i64) F as2 ns2 cs2 b1) :
  Calls Tryz.prog 119 #[.slice as1 ns1 cs1, .slice as2 ns2 cs2] w fun e w' => e = .returned (.bool r) ∧ w' = w := by
 unfold b0f at hm
 have h := HS.init hs
 refine a1a 30 Tryz.func119 rfl rfl rfl ?_
 refine a0f (a0a (a0b rfl rfl rfl (a0c (a0d (a0f (a0f (a0a (a0e rfl rfl rfl ?_))))))))
 refine a1u hs1.len u28 rfl rfl rfl ?_
 refine a0e rfl rfl rfl ?_
 refine a1u hs2.len u28 rfl rfl rfl ?_
 refine d3f rfl rfl rfl rfl ?_
 refine a0u rfl rfl rfl rfl rfl ?_
 refine a0b rfl rfl rfl (a0c (a0d (a1g ?_)))
 intro a hax3
 obtain ⟨kont1, hkont1⟩ : ∃ kont1 : Option Bool, kont1 = (
       some false) := ⟨_, rfl⟩
 replace hm : (fun m (s : Int) => a5d n ax1 b1 kont1 m s) n (isub .i64 (imax (ax1.length : Int) (b1.length : Int)) 1) = some r := by rw [hkont1]; exact hm
 refine a5w (id := 0) (fun m (s : Int) => a5d n ax1 b1 kont1 m s) (fun (y : Unit) => kont1) r (fun (s : Int) a w' => w = w' ∧ Has 30 a [(0, .slice as1 ns1 cs1), (1, .slice as2 ns2 cs2), (5, .int .i64 s)]) (fun (y : Unit) a w' => w = w' ∧ Has 30 a []) (fun _ => rfl) ?_ ?_ hm ⟨rfl, hax3.cut (l := [0, 1, 5]) rfl⟩
 ·clear hm; rintro _u a wx1 hm ⟨rfl, hax1⟩
  rw [hkont1] at hm
  refine a2f (e := .exit 0) hax1 ?_
  refine a1k (a0d (a0f (a0a (a0b rfl rfl rfl (a0c (a0d (a1d ?_)))))))
  refine a1l rfl rfl ?_
  obtain rfl := Option.some.inj hm
  exact ⟨rfl, rfl⟩
 ·clear hm hkont1; intro hk1 mx1 K ihx1
  rintro i1 a wx2 hm ⟨rfl, hax2⟩
  simp only [b6z] at hm
  refine a1i hax2 ?_
  refine a0f (a0f (a0a (a0e rfl rfl rfl ?_)))
  refine a0u rfl rfl rfl rfl rfl ?_
  refine a0c (a0d ?_)
  rcases a0g hm with ⟨hb1, hm⟩ | ⟨hb1, hm⟩
  ·refine a0t 13 rfl hb1 ?_
   refine a0y rfl (a1e (a0d (a0f (a1g (a0f (a0a (a0e rfl rfl rfl (a0e rfl rfl rfl ?_))))))))
   obtain ⟨v1, hv1, hm⟩ := bind_some hm
   refine a3m ent142 rfl rfl rfl rfl (a5e _ _ _ _ hv1 h.sat hs1) ?_
   refine a0e rfl rfl rfl (a0e rfl rfl rfl ?_)
   obtain ⟨v2, hv2, hm⟩ := bind_some hm
   refine a3m ent142 rfl rfl rfl rfl (a5e _ _ _ _ hv2 h.sat hs2) ?_
   refine a0u rfl rfl rfl rfl rfl ?_
   refine a0c (a0d ?_)
   rcases a0g hm with ⟨hb2, hm⟩ | ⟨hb2, hm⟩
   ·refine a0t 22 rfl hb2 ?_
    refine a0y rfl (a0f (a0a (a0e rfl rfl rfl (a0e rfl rfl rfl ?_))))
    obtain ⟨v3, hv3, hm⟩ := bind_some hm
    refine a3m ent142 rfl rfl rfl rfl (a5e _ _ _ _ hv3 h.sat hs1) ?_
    refine a0e rfl rfl rfl (a0e rfl rfl rfl ?_)
    obtain ⟨v4, hv4, hm⟩ := bind_some hm
    refine a3m ent142 rfl rfl rfl rfl (a5e _ _ _ _ hv4 h.sat hs2) ?_
    refine a0u rfl rfl rfl rfl rfl ?_
    refine a0b rfl rfl rfl (a0c (a0d (a1d (a0x (a0k (a0k (a0x (a0k ?_))))))))
    refine a1l rfl rfl ?_
    obtain rfl := Option.some.inj hm
    exact ⟨rfl, rfl⟩
   ·refine a0t 22 rfl hb2 ?_
    refine a0s rfl (a1e (a1m (a0d (a0a (a0e rfl rfl rfl ?_)))))
    refine a0u rfl rfl rfl rfl rfl ?_
    refine a0b rfl rfl rfl (a0c ?_)
    refine a0n (fun a ha => ihx1 (isub .i64 i1 1) a _ hm ?_)
    exact ⟨rfl, ha.cut (l := [0, 1, 5]) rfl⟩
  ·refine a0t 13 rfl hb1 ?_
   refine a0s rfl (a3u (a0w (a0w ?_)))
   refine fun a ha => hk1 () a _ hm ?_
   exact ⟨rfl, ha.cut (l := []) rfl⟩
def a5n (n : Nat) (ax1 : (List Int)) (b1 : (List Int)) (kont1 : (List Int) → Option (List Int)) : Nat → Int → Int → (List Int) → Option (List Int)
 | 0, _, _, _ => none
 | mx1 + 1, carry1, i1, l1 =>
  (bif decide (i1 < (ax1.length : Int)) then
   some true
  else
   some (decide (i1 < (b1.length : Int)))).bind fun v2 =>
  (bif v2 then
   some true
  else
   some (decide (0 < carry1))).bind fun v3 =>
  bif v3 then
   (a2x n ax1 i1).bind fun v4 =>
   (a2x n b1 i1).bind fun v5 =>
   (rem (iadd .i64 (iadd .i64 v4 v5) carry1) 1048576).bind fun q1 =>
   (app 8 l1 [q1]).bind fun l3 =>
   (quo .i64 (iadd .i64 (iadd .i64 v4 v5) carry1) 1048576).bind fun q2 =>
   a5n n ax1 b1 kont1 mx1 q2 (iadd .i64 i1 1) l3
  else
   kont1 l1
theorem b7w (n : Nat) (ax1 : (List Int)) (b1 : (List Int)) (kont1 : (List Int) → Option (List Int)) (mx1 : Nat) (carry1 : Int) (i1 : Int) (l1 : List Int) : a5n n ax1 b1 kont1 (mx1 + 1) carry1 i1 l1 =
  (bif decide (i1 < (ax1.length : Int)) then
   some true
  else
   some (decide (i1 < (b1.length : Int)))).bind fun v2 =>
  (bif v2 then
   some true
  else
   some (decide (0 < carry1))).bind fun v3 =>
  bif v3 then
   (a2x n ax1 i1).bind fun v4 =>
   (a2x n b1 i1).bind fun v5 =>
   (rem (iadd .i64 (iadd .i64 v4 v5) carry1) 1048576).bind fun q1 =>
   (app 8 l1 [q1]).bind fun l3 =>
   (quo .i64 (iadd .i64 (iadd .i64 v4 v5) carry1) 1048576).bind fun q2 =>
   a5n n ax1 b1 kont1 mx1 q2 (iadd .i64 i1 1) l3
  else
   kont1 l1 := rfl
def a9a (n : Nat) (ax1 : (List Int)) (b1 : (List Int)) : Option (List Int) :=
 a5n n ax1 b1 (fun (l2 : List Int) =>
  (a2d n l2).bind fun v1 =>
  some v1) n 0 0 ([] : List Int)
set_option maxHeartbeats 1000000 in
set_option maxRecDepth 1000000 in
theorem c0f (n : Nat) (ax1 : (List Int)) (b1 : (List Int)) (r : (List Int)) (hm : a9a n ax1 b1 = some r) {w : World} {F : Frz} (hs : Sat F w) {as1 : Option Addr} {ns1 : Nat} {cs1 : Nat} {as2 : Option Addr} {ns2 : Nat} {cs2 : Nat} (hs1 : SlR (Rp.int .i64) F as1 ns1 cs1 ax1) (hs2 : SlR (Rp.int .i64) F as2 ns2 cs2 b1) :
  Calls Tryz.prog 133 #[.slice as1 ns1 cs1, .slice as2 ns2 cs2] w fun e w' => ∃ v F' O', e = .returned v ∧ HS F w [] F' O' w' ∧ (∃ (a0_0 : Option Addr) (n0_0 : Nat) (c0_0 : Nat) (xs0_0 : List Value), v = .slice a0_0 n0_0 c0_0 ∧ O' = [.row 3 1 a0_0 n0_0 c0_0 xs0_0] ∧ RowN (Rp.int .i64) F' n0_0 xs0_0 r) := by
 unfold a9a at hm
 have h := HS.init hs
 refine a1a 43 Tryz.func133 rfl rfl rfl ?_
 refine a0f (a0a (a0b rfl rfl rfl (a0c (a0d (a0f (a0a (a0b rfl rfl rfl (a0c (a0d (a0f (a0a (a0b rfl rfl rfl (a0c (a0d (a0f (a0f (a0a (a0b rfl rfl rfl (a0c (a0d (a1g ?_)))))))))))))))))))))
 have hx1 := h.nilRow 3 1
 intro a hax5
 obtain ⟨kont1, hkont1⟩ : ∃ kont1 : (List Int) → Option (List Int), kont1 = (fun (l2 : List Int) =>
       (a2d n l2).bind fun v1 =>
       some v1) := ⟨_, rfl⟩
 replace hm : (fun m (s : Int × Int × List Int) => a5n n ax1 b1 kont1 m s.1 s.2.1 s.2.2) n (0, 0, ([] : List Int)) = some r := by rw [hkont1]; exact hm
 refine a5w (id := 0) (fun m (s : Int × Int × List Int) => a5n n ax1 b1 kont1 m s.1 s.2.1 s.2.2) (fun (y : List Int) => kont1 y) r (fun (s : Int × Int × List Int) a w' => ∃ (Fx1 : Frz) (as3 : Option Addr) (ns3 : Nat) (cs3 : Nat) (xss3 : List Value), Frz.le F Fx1 ∧ HS F w [] Fx1 [.row 3 1 as3 ns3 cs3 xss3] w' ∧ (RowN (Rp.int .i64) Fx1 ns3 xss3 s.2.2) ∧ Has 43 a [(0, .slice as1 ns1 cs1), (1, .slice as2 ns2 cs2), (5, .slice as3 ns3 cs3), (6, .int .i64 s.1), (7, .int .i64 s.2.1)]) (fun (y : List Int) a w' => ∃ (Fx2 : Frz) (as4 : Option Addr) (ns4 : Nat) (cs4 : Nat) (xss4 : List Value), Frz.le F Fx2 ∧ HS F w [] Fx2 [.row 3 1 as4 ns4 cs4 xss4] w' ∧ (RowN (Rp.int .i64) Fx2 ns4 xss4 y) ∧ Has 43 a [(5, .slice as4 ns4 cs4)]) (fun _ => rfl) ?_ ?_ hm ⟨_, none, 0, 0, [], Frz.refl _, hx1.pick [0] (by decide) rfl, ((show RowN (Rp.int .i64) _ 0 [] [] from ⟨rfl, rfl⟩)), hax5.cut (l := [0, 1, 5, 6, 7]) rfl⟩
 ·clear hm; rintro l2 a wx1 hm ⟨Fx2, as4, ns4, cs4, xss4, hF2, hx3, hs4, hax1⟩
  rw [hkont1] at hm
  replace hm := hm
  refine a2f (e := .exit 0) hax1 ?_
  refine a1k (a0d (a0f (a0a (a0e rfl rfl rfl ?_))))
  obtain ⟨Fx3, hF3, hx4, hsx1⟩ := a1c hx3 (i := 0) rfl hs4
  obtain ⟨v1, hv1, hm⟩ := bind_some hm
  refine a0i ent135 rfl rfl rfl rfl hx4 (a6f _ _ _ hv1 hx4.sat hsx1) ?_
  rintro _ Fx4 _ wx2 hF4 hx5 ⟨as5, ns5, cs5, xss5, rfl, rfl, hs5⟩
  refine a0b rfl rfl rfl (a0c (a0d (a1d ?_)))
  refine a1l rfl rfl ?_
  obtain rfl := Option.some.inj hm
  exact ⟨_, _, _, rfl, hx5.pick [0] (by decide) rfl, as5, ns5, cs5, xss5, rfl, rfl, hs5⟩
 ·clear hm hkont1; intro hk1 mx1 K ihx1
  rintro ⟨carry1, i1, l1⟩ a wx3 hm ⟨Fx1, as3, ns3, cs3, xss3, hF1, hx2, hs3, hax2⟩
  simp only [b7w] at hm
  refine a1i hax2 ?_
  refine a0f (a0f (a0a (a0e rfl rfl rfl (a0e rfl rfl rfl ?_))))
  refine a1u hs1.len u28 rfl rfl rfl ?_
  refine a0u rfl rfl rfl rfl rfl ?_
  refine a0e rfl rfl rfl ?_
  obtain ⟨v2, hb1, hm⟩ := bind_some hm
  refine a2r 5 (fun a w' => wx3 = w' ∧ Has 43 a [(0, .slice as1 ns1 cs1), (1, .slice as2 ns2 cs2), (5, .slice as3 ns3 cs3), (6, .int .i64 carry1), (7, .int .i64 i1), (18, .bool v2)]) ?_ ?_
  ·rintro a wx4 ⟨rfl, hax3⟩
   refine a1f hax3 ?_
   refine a0e rfl rfl rfl ?_
   obtain ⟨v3, hb2, hm⟩ := bind_some hm
   refine a2r 3 (fun a w' => wx3 = w' ∧ Has 43 a [(0, .slice as1 ns1 cs1), (1, .slice as2 ns2 cs2), (5, .slice as3 ns3 cs3), (6, .int .i64 carry1), (7, .int .i64 i1), (22, .bool v3)]) ?_ ?_
   ·rintro a wx5 ⟨rfl, hax4⟩
    refine a1f hax4 ?_
    refine a0c (a0d ?_)
    rcases a0g hm with ⟨hb3, hm⟩ | ⟨hb3, hm⟩
    ·refine a0t 22 rfl hb3 ?_
     refine a0y rfl (a1e (a0d (a0f (a1g (a0f (a0a (a0e rfl rfl rfl (a0e rfl rfl rfl ?_))))))))
     obtain ⟨v4, hv2, hm⟩ := bind_some hm
     refine a3m ent142 rfl rfl rfl rfl (a5e _ _ _ _ hv2 hx2.sat (hs1.mono hF1)) ?_
     refine a0e rfl rfl rfl (a0e rfl rfl rfl ?_)
     obtain ⟨v5, hv3, hm⟩ := bind_some hm
     refine a3m ent142 rfl rfl rfl rfl (a5e _ _ _ _ hv3 hx2.sat (hs2.mono hF1)) ?_
     refine a0u rfl rfl rfl rfl rfl ?_
     refine a0e rfl rfl rfl ?_
     refine a0u rfl rfl rfl rfl rfl ?_
     refine a0b rfl rfl rfl (a0c (a0d (a0f (a0a (a0e rfl rfl rfl (a0e rfl rfl rfl ?_))))))
     obtain ⟨q1, hq1, hm⟩ := bind_some hm
     refine c4z rfl rfl rfl rfl hq1 ?_
     refine a1q (e := 3) (cs := [.int .i64 q1]) (q := 1) rfl rfl hx2 rfl (fun _ => by kernel_rfl) rfl rfl ?_
     intro b2 wx6 hx6
     obtain ⟨l3, hr1, hm⟩ := bind_some hm
     refine a9n (r := (Rp.int .i64)) ap28 rfl rfl hx6 rfl rfl (i := 1) (j := 0) rfl rfl hs3 ((show RowN (Rp.int .i64) Fx1 1 [.int .i64 q1] [q1] from ⟨rfl, ⟨_, _, rfl, rfl, (rfl : RowR (Rp.int .i64) _ [] [])⟩⟩)) hr1 ?_
     intro as6 cs6 wx7 hx7 hs6
     refine a0b rfl rfl rfl (a0c (a0d (a0a (a0e rfl rfl rfl ?_))))
     obtain ⟨q2, hq2, hm⟩ := bind_some hm
     refine c4e rfl rfl rfl rfl hq2 ?_
     refine a0b rfl rfl rfl (a0c (a1m (a0d (a0a (a0e rfl rfl rfl ?_)))))
     refine a0u rfl rfl rfl rfl rfl ?_
     refine a0b rfl rfl rfl (a0c ?_)
     refine a0n (fun a ha => ihx1 (q2, (iadd .i64 i1 1), l3) a _ hm ?_)
     exact ⟨_, as6, (ns3 + 1), cs6, (xss3 ++ [.int .i64 q1]), hF1, hx7.pick [1] (by decide) rfl, hs6, ha.cut (l := [0, 1, 5, 6, 7]) rfl⟩
    ·refine a0t 22 rfl hb3 ?_
     refine a0s rfl (a3u (a0w (a0w ?_)))
     refine fun a ha => hk1 l1 a _ hm ?_
     exact ⟨_, as3, ns3, cs3, xss3, hF1, hx2.pick [0] (by decide) rfl, hs3, ha.cut (l := [5]) rfl⟩
   ·clear hm
    rcases a0g hb2 with ⟨hb4, hb2⟩ | ⟨hb4, hb2⟩
    ·refine a1j 19 rfl hb4 ?_
     refine a0z rfl (by decide) rfl (a0z rfl (by decide) rfl (a0q rfl rfl rfl rfl (a0c ?_)))
     refine a0n (fun a ha => ?_)
     cases hb2
     exact ⟨rfl, ha.cut (l := [0, 1, 5, 6, 7, 22]) rfl⟩
    ·refine a1j 19 rfl hb4 ?_
     refine a0e rfl rfl rfl ?_
     refine a0u rfl rfl rfl rfl rfl ?_
     refine a0m rfl rfl rfl rfl (a0c ?_)
     refine a0n (fun a ha => ?_)
     cases hb2
     exact ⟨rfl, ha.cut (l := [0, 1, 5, 6, 7, 22]) rfl⟩
  ·clear hm
   rcases a0g hb1 with ⟨hb5, hb1⟩ | ⟨hb5, hb1⟩
   ·refine a1j 13 rfl hb5 ?_
    refine a0z rfl (by decide) rfl (a0z rfl (by decide) rfl (a0z rfl (by decide) rfl (a0z rfl (by decide) rfl (a0q rfl rfl rfl rfl (a0c ?_)))))
    refine a0n (fun a ha => ?_)
    cases hb1
    exact ⟨rfl, ha.cut (l := [0, 1, 5, 6, 7, 18]) rfl⟩
   ·refine a1j 13 rfl hb5 ?_
    refine a0e rfl rfl rfl (a0e rfl rfl rfl ?_)
    refine a1u hs2.len u28 rfl rfl rfl ?_
    refine a0u rfl rfl rfl rfl rfl ?_
    refine a0m rfl rfl rfl rfl (a0c ?_)
    refine a0n (fun a ha => ?_)
    cases hb1
    exact ⟨rfl, ha.cut (l := [0, 1, 5, 6, 7, 18]) rfl⟩
def a3z (n : Nat) (ax1 : (List Int)) (b1 : (List Int)) (kont1 : (List Int) → Option (List Int)) : Nat → Int → Int → (List Int) → Option (List Int)
 | 0, _, _, _ => none
 | mx1 + 1, borrow1, i1, l1 =>
  bif decide (i1 < (ax1.length : Int)) then
   (ix ax1 i1).bind fun ex1 =>
   (a2x n b1 i1).bind fun v2 =>
   (bif decide ((isub .i64 (isub .i64 ex1 v2) borrow1) < 0) then
    some (1, iadd .i64 (isub .i64 (isub .i64 ex1 v2) borrow1) 1048576)
   else
    some (0, isub .i64 (isub .i64 ex1 v2) borrow1)).bind fun (borrow2, nx1) =>
   (app 8 l1 [nx1]).bind fun l3 =>
   a3z n ax1 b1 kont1 mx1 borrow2 (iadd .i64 i1 1) l3
  else
   kont1 l1
theorem b6l (n : Nat) (ax1 : (List Int)) (b1 : (List Int)) (kont1 : (List Int) → Option (List Int)) (mx1 : Nat) (borrow1 : Int) (i1 : Int) (l1 : List Int) : a3z n ax1 b1 kont1 (mx1 + 1) borrow1 i1 l1 =
  bif decide (i1 < (ax1.length : Int)) then
   (ix ax1 i1).bind fun ex1 =>
   (a2x n b1 i1).bind fun v2 =>
   (bif decide ((isub .i64 (isub .i64 ex1 v2) borrow1) < 0) then
    some (1, iadd .i64 (isub .i64 (isub .i64 ex1 v2) borrow1) 1048576)
   else
    some (0, isub .i64 (isub .i64 ex1 v2) borrow1)).bind fun (borrow2, nx1) =>
   (app 8 l1 [nx1]).bind fun l3 =>
   a3z n ax1 b1 kont1 mx1 borrow2 (iadd .i64 i1 1) l3
  else
   kont1 l1 := rfl
def a4c (n : Nat) (ax1 : (List Int)) (b1 : (List Int)) : Option (List Int) :=
 a3z n ax1 b1 (fun (l2 : List Int) =>
  (a2d n l2).bind fun v1 =>
  some v1) n 0 0 ([] : List Int)
set_option maxHeartbeats 1000000 in
set_option maxRecDepth 1000000 in
theorem b3r (n : Nat) (ax1 : (List Int)) (b1 : (List Int)) (r : (List Int)) (hm : a4c n ax1 b1 = some r) {w : World} {F : Frz} (hs : Sat F w) {as1 : Option Addr} {ns1 : Nat} {cs1 : Nat} {as2 : Option Addr} {ns2 : Nat} {cs2 : Nat} (hs1 : SlR (Rp.int .i64) F as1 ns1 cs1 ax1) (hs2 : SlR (Rp.int .i64) F as2 ns2 cs2 b1) :
  Calls Tryz.prog 134 #[.slice as1 ns1 cs1, .slice as2 ns2 cs2] w fun e w' => ∃ v F' O', e = .returned v ∧ HS F w [] F' O' w' ∧ (∃ (a0_0 : Option Addr) (n0_0 : Nat) (c0_0 : Nat) (xs0_0 : List Value), v = .slice a0_0 n0_0 c0_0 ∧ O' = [.row 3 1 a0_0 n0_0 c0_0 xs0_0] ∧ RowN (Rp.int .i64) F' n0_0 xs0_0 r) := by
 unfold a4c at hm
 have h := HS.init hs
 refine a1a 35 Tryz.func134 rfl rfl rfl ?_
 refine a0f (a0a (a0b rfl rfl rfl (a0c (a0d (a0f (a0a (a0b rfl rfl rfl (a0c (a0d (a0f (a0a (a0b rfl rfl rfl (a0c (a0d (a0f (a0f (a0a (a0b rfl rfl rfl (a0c (a0d (a1g ?_)))))))))))))))))))))
 have hx1 := h.nilRow 3 1
 intro a hax4
 obtain ⟨kont1, hkont1⟩ : ∃ kont1 : (List Int) → Option (List Int), kont1 = (fun (l2 : List Int) =>
       (a2d n l2).bind fun v1 =>
       some v1) := ⟨_, rfl⟩
 replace hm : (fun m (s : Int × Int × List Int) => a3z n ax1 b1 kont1 m s.1 s.2.1 s.2.2) n (0, 0, ([] : List Int)) = some r := by rw [hkont1]; exact hm
 refine a5w (id := 0) (fun m (s : Int × Int × List Int) => a3z n ax1 b1 kont1 m s.1 s.2.1 s.2.2) (fun (y : List Int) => kont1 y) r (fun (s : Int × Int × List Int) a w' => ∃ (Fx1 : Frz) (as3 : Option Addr) (ns3 : Nat) (cs3 : Nat) (xss3 : List Value), Frz.le F Fx1 ∧ HS F w [] Fx1 [.row 3 1 as3 ns3 cs3 xss3] w' ∧ (RowN (Rp.int .i64) Fx1 ns3 xss3 s.2.2) ∧ Has 35 a [(0, .slice as1 ns1 cs1), (1, .slice as2 ns2 cs2), (5, .slice as3 ns3 cs3), (6, .int .i64 s.1), (7, .int .i64 s.2.1)]) (fun (y : List Int) a w' => ∃ (Fx2 : Frz) (as4 : Option Addr) (ns4 : Nat) (cs4 : Nat) (xss4 : List Value), Frz.le F Fx2 ∧ HS F w [] Fx2 [.row 3 1 as4 ns4 cs4 xss4] w' ∧ (RowN (Rp.int .i64) Fx2 ns4 xss4 y) ∧ Has 35 a [(5, .slice as4 ns4 cs4)]) (fun _ => rfl) ?_ ?_ hm ⟨_, none, 0, 0, [], Frz.refl _, hx1.pick [0] (by decide) rfl, ((show RowN (Rp.int .i64) _ 0 [] [] from ⟨rfl, rfl⟩)), hax4.cut (l := [0, 1, 5, 6, 7]) rfl⟩
 ·clear hm; rintro l2 a wx1 hm ⟨Fx2, as4, ns4, cs4, xss4, hF2, hx3, hs4, hax1⟩
  rw [hkont1] at hm
  replace hm := hm
  refine a2f (e := .exit 0) hax1 ?_
  refine a1k (a0d (a0f (a0a (a0e rfl rfl rfl ?_))))
  obtain ⟨Fx3, hF3, hx4, hsx1⟩ := a1c hx3 (i := 0) rfl hs4
  obtain ⟨v1, hv1, hm⟩ := bind_some hm
  refine a0i ent135 rfl rfl rfl rfl hx4 (a6f _ _ _ hv1 hx4.sat hsx1) ?_
  rintro _ Fx4 _ wx2 hF4 hx5 ⟨as5, ns5, cs5, xss5, rfl, rfl, hs5⟩
  refine a0b rfl rfl rfl (a0c (a0d (a1d ?_)))
  refine a1l rfl rfl ?_
  obtain rfl := Option.some.inj hm
  exact ⟨_, _, _, rfl, hx5.pick [0] (by decide) rfl, as5, ns5, cs5, xss5, rfl, rfl, hs5⟩
 ·clear hm hkont1; intro hk1 mx1 K ihx1
  rintro ⟨borrow1, i1, l1⟩ a wx3 hm ⟨Fx1, as3, ns3, cs3, xss3, hF1, hx2, hs3, hax2⟩
  simp only [b6l] at hm
  refine a1i hax2 ?_
  refine a0f (a0f (a0a (a0e rfl rfl rfl (a0e rfl rfl rfl ?_))))
  refine a1u hs1.len u28 rfl rfl rfl ?_
  refine a0u rfl rfl rfl rfl rfl ?_
  refine a0c (a0d ?_)
  rcases a0g hm with ⟨hb1, hm⟩ | ⟨hb1, hm⟩
  ·refine a0t 12 rfl hb1 ?_
   refine a0y rfl (a1e (a0d (a0f (a1g (a0f ?_)))))
   refine a4f (by kernel_rfl) (by kernel_rfl) hx2 ?_
   refine a1h rfl rfl rfl rfl (fun _ _ _ _ => a0e rfl rfl rfl (a0c (qq rfl))) ?_
   refine a1h rfl rfl rfl rfl (fun _ _ _ _ => a0e rfl rfl rfl (a0c (qq rfl))) ?_
   obtain ⟨ex1, he1, hm⟩ := bind_some hm
   obtain ⟨b2, o1, cs1, hf1, hr1, hrun1⟩ := a2s (P := Tryz.prog) (r := (Rp.int .i64)) u28 sz3 (hs1.mono hF1) he1
   have hc1 : cs1 = [.int .i64 ex1] := hr1
   subst hc1
   refine a3i rfl rfl rfl rfl hrun1 ?_
   refine a1h rfl rfl rfl rfl (fun _ _ hleq hq => a2h (j := 0) ag3 rfl rfl hq (hf1.mono hleq) rfl rfl (a0c (qq rfl))) ?_
   refine a1h rfl rfl rfl rfl (fun _ _ _ _ => a0e rfl rfl rfl (a0c (qq rfl))) ?_
   refine a1h rfl rfl rfl rfl (fun _ _ _ _ => a0e rfl rfl rfl (a0c (qq rfl))) ?_
   obtain ⟨v2, hv2, hm⟩ := bind_some hm
   refine b0w ent142 rfl rfl rfl rfl (fun _ _ hleq hq => a5e _ _ _ _ hv2 hq.sat ((hs2.mono hF1).mono hleq)) ?_
   refine a1h rfl rfl rfl rfl (fun _ _ _ _ => a0u rfl rfl rfl rfl rfl (a0c (qq rfl))) ?_
   refine a1h rfl rfl rfl rfl (fun _ _ _ _ => a0e rfl rfl rfl (a0c (qq rfl))) ?_
   refine a1h rfl rfl rfl rfl (fun _ _ _ _ => a0u rfl rfl rfl rfl rfl (a0c (qq rfl))) ?_
   refine a1h rfl rfl rfl rfl (fun _ _ _ _ => a0b rfl rfl rfl (a0c (qq rfl))) ?_
   refine b2i ?_
   rintro wx4 ⟨Fx5, hF5, hx6⟩
   refine a0d (a0f (a0a (a0b rfl rfl rfl (a0c (a0d (a0f (a0f (a0a (a0e rfl rfl rfl ?_)))))))))
   refine a0u rfl rfl rfl rfl rfl ?_
   refine a0c (a0d ?_)
   obtain ⟨⟨borrow2, nx1⟩, hb2, hm⟩ := bind_some hm
   refine a8f (fun a w' => wx4 = w' ∧ Has 35 a [(0, .slice as1 ns1 cs1), (1, .slice as2 ns2 cs2), (5, .slice as3 ns3 cs3), (6, .int .i64 borrow2), (7, .int .i64 i1), (8, .int .i64 nx1)]) ?_ ?_
   ·rintro a wx5 ⟨rfl, hax3⟩
    refine a1i hax3 ?_
    refine a0a (a0e rfl rfl rfl (a0e rfl rfl rfl ?_))
    refine a1q (e := 3) (cs := [.int .i64 nx1]) (q := 1) rfl rfl hx6 rfl (fun _ => by kernel_rfl) rfl rfl ?_
    intro b3 wx6 hx7
    obtain ⟨l3, hr2, hm⟩ := bind_some hm
    refine a9n (r := (Rp.int .i64)) ap28 rfl rfl hx7 rfl rfl (i := 1) (j := 0) rfl rfl (hs3.mono hF5) ((show RowN (Rp.int .i64) Fx5 1 [.int .i64 nx1] [nx1] from ⟨rfl, ⟨_, _, rfl, rfl, (rfl : RowR (Rp.int .i64) _ [] [])⟩⟩)) hr2 ?_
    intro as6 cs6 wx7 hx8 hs6
    refine a0b rfl rfl rfl (a0c (a1m (a0d (a0a (a0e rfl rfl rfl ?_)))))
    refine a0u rfl rfl rfl rfl rfl ?_
    refine a0b rfl rfl rfl (a0c ?_)
    refine a0n (fun a ha => ihx1 (borrow2, (iadd .i64 i1 1), l3) a _ hm ?_)
    exact ⟨_, as6, (ns3 + 1), cs6, (xss3 ++ [.int .i64 nx1]), (hF1.trans hF5), hx8.pick [1] (by decide) rfl, hs6, ha.cut (l := [0, 1, 5, 6, 7]) rfl⟩
   ·clear hm
    rcases a0g hb2 with ⟨hb3, hb2⟩ | ⟨hb3, hb2⟩
    ·refine a0t 26 rfl hb3 ?_
     refine a0y rfl (a0f (a0a (a0e rfl rfl rfl ?_)))
     refine a0u rfl rfl rfl rfl rfl ?_
     refine a0b rfl rfl rfl (a0c (a0d (a0a (a0b rfl rfl rfl (a0c ?_)))))
     refine a0n (fun a ha => ?_)
     cases hb2
     exact ⟨rfl, ha.cut (l := [0, 1, 5, 6, 7, 8]) rfl⟩
    ·refine a0t 26 rfl hb3 ?_
     refine a0s rfl (a1e ?_)
     refine a0n (fun a ha => ?_)
     cases hb2
     exact ⟨rfl, ha.cut (l := [0, 1, 5, 6, 7, 8]) rfl⟩
  ·refine a0t 12 rfl hb1 ?_
   refine a0s rfl (a3u (a0w (a0w ?_)))
   refine fun a ha => hk1 l1 a _ hm ?_
   exact ⟨_, as3, ns3, cs3, xss3, hF1, hx2.pick [0] (by decide) rfl, hs3, ha.cut (l := [5]) rfl⟩
def a4l (n : Nat) (ax1 : (List Int)) (b1 : (List Int)) (i1 : Int) (kont2 : (List Int) → Option (List Int)) : Nat → Int → Int → (List Int) → Option (List Int)
 | 0, _, _, _ => none
 | mx2 + 1, carry1, k1, l4 =>
  (bif decide (k1 < (b1.length : Int)) then
   some true
  else
   some (decide (0 < carry1))).bind fun v2 =>
  bif v2 then
   (ix l4 (iadd .i64 i1 k1)).bind fun ex1 =>
   (ix ax1 i1).bind fun ex2 =>
   (a2x n b1 k1).bind fun v3 =>
   (rem (iadd .i64 (iadd .i64 ex1 (imul .i64 ex2 v3)) carry1) 1048576).bind fun q1 =>
   (ix l4 (iadd .i64 i1 k1)).bind fun _ =>
   (lset l4 (iadd .i64 i1 k1) q1).bind fun l6 =>
   (quo .i64 (iadd .i64 (iadd .i64 ex1 (imul .i64 ex2 v3)) carry1) 1048576).bind fun q2 =>
   a4l n ax1 b1 i1 kont2 mx2 q2 (iadd .i64 k1 1) l6
  else
   kont2 l4
theorem b6f (n : Nat) (ax1 : (List Int)) (b1 : (List Int)) (i1 : Int) (kont2 : (List Int) → Option (List Int)) (mx2 : Nat) (carry1 : Int) (k1 : Int) (l4 : List Int) : a4l n ax1 b1 i1 kont2 (mx2 + 1) carry1 k1 l4 =
  (bif decide (k1 < (b1.length : Int)) then
   some true
  else
   some (decide (0 < carry1))).bind fun v2 =>
  bif v2 then
   (ix l4 (iadd .i64 i1 k1)).bind fun ex1 =>
   (ix ax1 i1).bind fun ex2 =>
   (a2x n b1 k1).bind fun v3 =>
   (rem (iadd .i64 (iadd .i64 ex1 (imul .i64 ex2 v3)) carry1) 1048576).bind fun q1 =>
   (ix l4 (iadd .i64 i1 k1)).bind fun _ =>
   (lset l4 (iadd .i64 i1 k1) q1).bind fun l6 =>
   (quo .i64 (iadd .i64 (iadd .i64 ex1 (imul .i64 ex2 v3)) carry1) 1048576).bind fun q2 =>
   a4l n ax1 b1 i1 kont2 mx2 q2 (iadd .i64 k1 1) l6
  else
   kont2 l4 := rfl
def a3o (n : Nat) (ax1 : (List Int)) (b1 : (List Int)) (kont1 : (List Int) → Option (List Int)) : Nat → Int → (List Int) → Option (List Int)
 | 0, _, _ => none
 | mx1 + 1, i1, l2 =>
  bif decide (i1 < (ax1.length : Int)) then
   a4l n ax1 b1 i1 (fun (l5 : List Int) =>
    a3o n ax1 b1 kont1 mx1 (iadd .i64 i1 1) l5) n 0 0 l2
  else
   kont1 l2
theorem b6g (n : Nat) (ax1 : (List Int)) (b1 : (List Int)) (kont1 : (List Int) → Option (List Int)) (mx1 : Nat) (i1 : Int) (l2 : List Int) : a3o n ax1 b1 kont1 (mx1 + 1) i1 l2 =
  bif decide (i1 < (ax1.length : Int)) then
   a4l n ax1 b1 i1 (fun (l5 : List Int) =>
    a3o n ax1 b1 kont1 mx1 (iadd .i64 i1 1) l5) n 0 0 l2
  else
   kont1 l2 := rfl
def a4k (n : Nat) (ax1 : (List Int)) (b1 : (List Int)) : Option (List Int) :=
 (mks 8 0 (iadd .i64 (ax1.length : Int) (b1.length : Int))).bind fun l1 =>
 a3o n ax1 b1 (fun (l3 : List Int) =>
  (a2d n l3).bind fun v1 =>
  some v1) n 0 l1
set_option maxHeartbeats 1000000 in
set_option maxRecDepth 1000000 in
theorem b3t (n : Nat) (ax1 : (List Int)) (b1 : (List Int)) (r : (List Int)) (hm : a4k n ax1 b1 = some r) {w : World} {F : Frz} (hs : Sat F w) {as1 : Option Addr} {ns1 : Nat} {cs1 : Nat} {as2 : Option Addr} {ns2 : Nat} {cs2 : Nat} (hs1 : SlR (Rp.int .i64) F as1 ns1 cs1 ax1) (hs2 : SlR (Rp.int .i64) F as2 ns2 cs2 b1) :
  Calls Tryz.prog 117 #[.slice as1 ns1 cs1, .slice as2 ns2 cs2] w fun e w' => ∃ v F' O', e = .returned v ∧ HS F w [] F' O' w' ∧ (∃ (a0_0 : Option Addr) (n0_0 : Nat) (c0_0 : Nat) (xs0_0 : List Value), v = .slice a0_0 n0_0 c0_0 ∧ O' = [.row 3 1 a0_0 n0_0 c0_0 xs0_0] ∧ RowN (Rp.int .i64) F' n0_0 xs0_0 r) := by
 unfold a4k at hm
 have h := HS.init hs
 refine a1a 60 Tryz.func117 rfl rfl rfl ?_
 refine a0f (a0a (a0b rfl rfl rfl (a0c (a0d (a0f (a0a (a0e rfl rfl rfl ?_)))))))
 refine a1u hs1.len u28 rfl rfl rfl ?_
 refine a0e rfl rfl rfl ?_
 refine a1u hs2.len u28 rfl rfl rfl ?_
 refine a0u rfl rfl rfl rfl rfl ?_
 obtain ⟨l1, hl1, hm⟩ := bind_some hm
 refine b8u (r := (Rp.int .i64)) ap28 zi3 (fun _ => rfl) rfl rfl rfl h rfl rfl hl1 ?_
 intro b2 wx1 xs1 hx1 hr1
 refine a0b rfl rfl rfl (a0c (a0d (a0f (a0f (a0a (a0b rfl rfl rfl (a0c (a0d (a1g ?_)))))))))
 intro a hax9
 obtain ⟨kont1, hkont1⟩ : ∃ kont1 : (List Int) → Option (List Int), kont1 = (fun (l3 : List Int) =>
       (a2d n l3).bind fun v1 =>
       some v1) := ⟨_, rfl⟩
 replace hm : (fun m (s : Int × List Int) => a3o n ax1 b1 kont1 m s.1 s.2) n (0, l1) = some r := by rw [hkont1]; exact hm
 refine a5w (id := 0) (fun m (s : Int × List Int) => a3o n ax1 b1 kont1 m s.1 s.2) (fun (y : List Int) => kont1 y) r (fun (s : Int × List Int) a w' => ∃ (Fx1 : Frz) (as3 : Option Addr) (ns3 : Nat) (cs3 : Nat) (xss3 : List Value), Frz.le F Fx1 ∧ HS F w [] Fx1 [.row 3 1 as3 ns3 cs3 xss3] w' ∧ (RowN (Rp.int .i64) Fx1 ns3 xss3 s.2) ∧ Has 60 a [(0, .slice as1 ns1 cs1), (1, .slice as2 ns2 cs2), (5, .slice as3 ns3 cs3), (6, .int .i64 s.1)]) (fun (y : List Int) a w' => ∃ (Fx2 : Frz) (as4 : Option Addr) (ns4 : Nat) (cs4 : Nat) (xss4 : List Value), Frz.le F Fx2 ∧ HS F w [] Fx2 [.row 3 1 as4 ns4 cs4 xss4] w' ∧ (RowN (Rp.int .i64) Fx2 ns4 xss4 y) ∧ Has 60 a [(5, .slice as4 ns4 cs4)]) (fun _ => rfl) ?_ ?_ hm ⟨_, (some ⟨b2, 0, none⟩), ((iadd .i64 (ax1.length : Int) (b1.length : Int)).toNat), ((iadd .i64 (ax1.length : Int) (b1.length : Int)).toNat), xs1, Frz.refl _, hx1.pick [0] (by decide) rfl, hr1, hax9.cut (l := [0, 1, 5, 6]) rfl⟩
 ·clear hm; rintro l3 a wx2 hm ⟨Fx2, as4, ns4, cs4, xss4, hF2, hx3, hs4, hax1⟩
  rw [hkont1] at hm
  replace hm := hm
  refine a2f (e := .exit 0) hax1 ?_
  refine a1k (a0d (a0f (a0a (a0e rfl rfl rfl ?_))))
  obtain ⟨Fx3, hF3, hx4, hsx1⟩ := a1c hx3 (i := 0) rfl hs4
  obtain ⟨v1, hv1, hm⟩ := bind_some hm
  refine a0i ent135 rfl rfl rfl rfl hx4 (a6f _ _ _ hv1 hx4.sat hsx1) ?_
  rintro _ Fx4 _ wx3 hF4 hx5 ⟨as5, ns5, cs5, xss5, rfl, rfl, hs5⟩
  refine a0b rfl rfl rfl (a0c (a0d (a1d ?_)))
  refine a1l rfl rfl ?_
  obtain rfl := Option.some.inj hm
  exact ⟨_, _, _, rfl, hx5.pick [0] (by decide) rfl, as5, ns5, cs5, xss5, rfl, rfl, hs5⟩
 ·clear hm hkont1; intro hk1 mx1 K ihx1
  rintro ⟨i1, l2⟩ a wx4 hm ⟨Fx1, as3, ns3, cs3, xss3, hF1, hx2, hs3, hax2⟩
  simp only [b6g] at hm
  refine a1i hax2 ?_
  refine a0f (a0f (a0a (a0e rfl rfl rfl (a0e rfl rfl rfl ?_))))
  refine a1u hs1.len u28 rfl rfl rfl ?_
  refine a0u rfl rfl rfl rfl rfl ?_
  refine a0c (a0d ?_)
  rcases a0g hm with ⟨hb1, hm⟩ | ⟨hb1, hm⟩
  ·refine a0t 19 rfl hb1 ?_
   refine a0y rfl (a1e (a0d (a0f (a1g (a0f (a0a (a0b rfl rfl rfl (a0c (a0d (a0f (a0a (a0b rfl rfl rfl (a0c (a0d (a1g ?_)))))))))))))))
   intro a hax8
   obtain ⟨kont2, hkont2⟩ : ∃ kont2 : (List Int) → Option (List Int), kont2 = (fun (l5 : List Int) =>
       a3o n ax1 b1 kont1 mx1 (iadd .i64 i1 1) l5) := ⟨_, rfl⟩
   replace hm : (fun m (s : Int × Int × List Int) => a4l n ax1 b1 i1 kont2 m s.1 s.2.1 s.2.2) n (0, 0, l2) = some r := by rw [hkont2]; exact hm
   refine a5w (id := 2) (fun m (s : Int × Int × List Int) => a4l n ax1 b1 i1 kont2 m s.1 s.2.1 s.2.2) (fun (y : List Int) => kont2 y) r (fun (s : Int × Int × List Int) a w' => ∃ (Fx5 : Frz) (as6 : Option Addr) (ns6 : Nat) (cs6 : Nat) (xss6 : List Value), Frz.le Fx1 Fx5 ∧ HS F w [] Fx5 [.row 3 1 as6 ns6 cs6 xss6] w' ∧ (RowN (Rp.int .i64) Fx5 ns6 xss6 s.2.2) ∧ Has 60 a [(0, .slice as1 ns1 cs1), (1, .slice as2 ns2 cs2), (5, .slice as6 ns6 cs6), (6, .int .i64 i1), (7, .int .i64 s.1), (8, .int .i64 s.2.1)]) (fun (y : List Int) a w' => ∃ (Fx6 : Frz) (as7 : Option Addr) (ns7 : Nat) (cs7 : Nat) (xss7 : List Value), Frz.le Fx1 Fx6 ∧ HS F w [] Fx6 [.row 3 1 as7 ns7 cs7 xss7] w' ∧ (RowN (Rp.int .i64) Fx6 ns7 xss7 y) ∧ Has 60 a [(0, .slice as1 ns1 cs1), (1, .slice as2 ns2 cs2), (5, .slice as7 ns7 cs7), (6, .int .i64 i1)]) (fun _ => rfl) ?_ ?_ hm ⟨_, as3, ns3, cs3, xss3, Frz.refl _, hx2.pick [0] (by decide) rfl, hs3, hax8.cut (l := [0, 1, 5, 6, 7, 8]) rfl⟩
   ·clear hm; rintro l5 a wx5 hm ⟨Fx6, as7, ns7, cs7, xss7, hF6, hx7, hs7, hax3⟩
    rw [hkont2] at hm
    replace hm := hm
    refine a2f (e := .exit 2) hax3 ?_
    refine a1k (a1m (a0d (a0a (a0e rfl rfl rfl ?_))))
    refine a0u rfl rfl rfl rfl rfl ?_
    refine a0b rfl rfl rfl (a0c ?_)
    refine a0n (fun a ha => ihx1 ((iadd .i64 i1 1), l5) a _ hm ?_)
    exact ⟨_, as7, ns7, cs7, xss7, (hF1.trans hF6), hx7.pick [0] (by decide) rfl, hs7, ha.cut (l := [0, 1, 5, 6]) rfl⟩
   ·clear hm hkont2; intro hk2 mx2 K ihx2
    rintro ⟨carry1, k1, l4⟩ a wx6 hm ⟨Fx5, as6, ns6, cs6, xss6, hF5, hx6, hs6, hax4⟩
    simp only [b6f] at hm
    refine a1i hax4 ?_
    refine a0f (a0f (a0a (a0e rfl rfl rfl (a0e rfl rfl rfl ?_))))
    refine a1u hs2.len u28 rfl rfl rfl ?_
    refine a0u rfl rfl rfl rfl rfl ?_
    refine a0e rfl rfl rfl ?_
    obtain ⟨v2, hb2, hm⟩ := bind_some hm
    refine a2r 3 (fun a w' => wx6 = w' ∧ Has 60 a [(0, .slice as1 ns1 cs1), (1, .slice as2 ns2 cs2), (5, .slice as6 ns6 cs6), (6, .int .i64 i1), (7, .int .i64 carry1), (8, .int .i64 k1), (29, .bool v2)]) ?_ ?_
    ·rintro a wx7 ⟨rfl, hax5⟩
     refine a1f hax5 ?_
     refine a0c (a0d ?_)
     rcases a0g hm with ⟨hb3, hm⟩ | ⟨hb3, hm⟩
     ·refine a0t 29 rfl hb3 ?_
      refine a0y rfl (a1e (a0d (a0f (a1g (a0f ?_)))))
      refine a4f (by kernel_rfl) (by kernel_rfl) hx6 ?_
      refine a1h rfl rfl rfl rfl (fun _ _ _ _ => a0e rfl rfl rfl (a0c (qq rfl))) ?_
      refine a1h rfl rfl rfl rfl (fun _ _ _ _ => a0e rfl rfl rfl (a0c (qq rfl))) ?_
      refine a1h rfl rfl rfl rfl (fun _ _ _ _ => a0e rfl rfl rfl (a0c (qq rfl))) ?_
      refine a1h rfl rfl rfl rfl (fun _ _ _ _ => a0u rfl rfl rfl rfl rfl (a0c (qq rfl))) ?_
      obtain ⟨ex1, he1, hm⟩ := bind_some hm
      obtain ⟨b3, o1, cs1, hax6, ho1, hr2, hp1, hrun1⟩ := a3y (P := Tryz.prog) (r := (Rp.int .i64)) u28 sz3 hx6 (p := 0) rfl rfl hs6 he1
      have hc1 : cs1 = [.int .i64 ex1] := hr2
      subst hc1
      refine a3i rfl rfl rfl rfl hrun1 ?_
      refine a1h rfl rfl rfl rfl (fun _ _ _ hq => a4s (j := 0) ag3 rfl rfl hq rfl (p := 0) rfl rfl hax6 ho1 hp1 rfl (a0c (qq rfl))) ?_
      refine a1h rfl rfl rfl rfl (fun _ _ _ _ => a0e rfl rfl rfl (a0c (qq rfl))) ?_
      refine a1h rfl rfl rfl rfl (fun _ _ _ _ => a0e rfl rfl rfl (a0c (qq rfl))) ?_
      obtain ⟨ex2, he2, hm⟩ := bind_some hm
      obtain ⟨b4, o2, cs2, hf1, hr3, hrun2⟩ := a2s (P := Tryz.prog) (r := (Rp.int .i64)) u28 sz3 ((hs1.mono hF1).mono hF5) he2
      have hc2 : cs2 = [.int .i64 ex2] := hr3
      subst hc2
      refine a3i rfl rfl rfl rfl hrun2 ?_
      refine a1h rfl rfl rfl rfl (fun _ _ hleq hq => a2h (j := 0) ag3 rfl rfl hq (hf1.mono hleq) rfl rfl (a0c (qq rfl))) ?_
      refine a1h rfl rfl rfl rfl (fun _ _ _ _ => a0e rfl rfl rfl (a0c (qq rfl))) ?_
      refine a1h rfl rfl rfl rfl (fun _ _ _ _ => a0e rfl rfl rfl (a0c (qq rfl))) ?_
      obtain ⟨v3, hv2, hm⟩ := bind_some hm
      refine b0w ent142 rfl rfl rfl rfl (fun _ _ hleq hq => a5e _ _ _ _ hv2 hq.sat (((hs2.mono hF1).mono hF5).mono hleq)) ?_
      refine a1h rfl rfl rfl rfl (fun _ _ _ _ => a0u rfl rfl rfl rfl rfl (a0c (qq rfl))) ?_
      refine a1h rfl rfl rfl rfl (fun _ _ _ _ => a0u rfl rfl rfl rfl rfl (a0c (qq rfl))) ?_
      refine a1h rfl rfl rfl rfl (fun _ _ _ _ => a0e rfl rfl rfl (a0c (qq rfl))) ?_
      refine a1h rfl rfl rfl rfl (fun _ _ _ _ => a0u rfl rfl rfl rfl rfl (a0c (qq rfl))) ?_
      refine a1h rfl rfl rfl rfl (fun _ _ _ _ => a0b rfl rfl rfl (a0c (qq rfl))) ?_
      refine b2i ?_
      rintro wx8 ⟨Fx7, hF7, hx8⟩
      refine a0d (a0f (a0a (a0e rfl rfl rfl (a0e rfl rfl rfl (a0e rfl rfl rfl ?_)))))
      refine a0u rfl rfl rfl rfl rfl ?_
      refine a0e rfl rfl rfl ?_
      obtain ⟨q1, hq1, hm⟩ := bind_some hm
      refine c4z rfl rfl rfl rfl hq1 ?_
      obtain ⟨ex3, he3, hm⟩ := bind_some hm
      refine a5c (r := (Rp.int .i64)) u28 sz3 rfl rfl hx8 rfl rfl (p := 0) rfl rfl (hs6.mono hF7) he3 ?_
      intro b5 o3 cs3 hax7 ho2 hr4 hp2
      have hc3 : cs3 = [.int .i64 ex3] := hr4
      subst hc3
      obtain ⟨l6, hl2, hm⟩ := bind_some hm
      refine a6x (r := (Rp.int .i64)) sz3 rfl hx8 rfl rfl rfl rfl rfl (p := 0) rfl rfl hax7 ho2 (hs6.mono hF7) rfl rfl hl2 ?_
      intro wx9 xs2 hx9 hr5
      refine a0c (a0d (a0a (a0e rfl rfl rfl ?_)))
      obtain ⟨q2, hq2, hm⟩ := bind_some hm
      refine c4e rfl rfl rfl rfl hq2 ?_
      refine a0b rfl rfl rfl (a0c (a1m (a0d (a0a (a0e rfl rfl rfl ?_)))))
      refine a0u rfl rfl rfl rfl rfl ?_
      refine a0b rfl rfl rfl (a0c ?_)
      refine a0n (fun a ha => ihx2 (q2, (iadd .i64 k1 1), l6) a _ hm ?_)
      exact ⟨_, as6, ns6, cs6, xs2, (hF5.trans hF7), hx9.pick [0] (by decide) rfl, hr5, ha.cut (l := [0, 1, 5, 6, 7, 8]) rfl⟩
     ·refine a0t 29 rfl hb3 ?_
      refine a0s rfl (a3u (a0w (a0w ?_)))
      refine fun a ha => hk2 l4 a _ hm ?_
      exact ⟨_, as6, ns6, cs6, xss6, hF5, hx6.pick [0] (by decide) rfl, hs6, ha.cut (l := [0, 1, 5, 6]) rfl⟩
    ·clear hm
     rcases a0g hb2 with ⟨hb4, hb2⟩ | ⟨hb4, hb2⟩
     ·refine a1j 26 rfl hb4 ?_
      refine a0z rfl (by decide) rfl (a0z rfl (by decide) rfl (a0q rfl rfl rfl rfl (a0c ?_)))
      refine a0n (fun a ha => ?_)
      cases hb2
      exact ⟨rfl, ha.cut (l := [0, 1, 5, 6, 7, 8, 29]) rfl⟩
     ·refine a1j 26 rfl hb4 ?_
      refine a0e rfl rfl rfl ?_
      refine a0u rfl rfl rfl rfl rfl ?_
      refine a0m rfl rfl rfl rfl (a0c ?_)
      refine a0n (fun a ha => ?_)
      cases hb2
      exact ⟨rfl, ha.cut (l := [0, 1, 5, 6, 7, 8, 29]) rfl⟩
  ·refine a0t 19 rfl hb1 ?_
   refine a0s rfl (a3u (a0w (a0w ?_)))
   refine fun a ha => hk1 l2 a _ hm ?_
   exact ⟨_, as3, ns3, cs3, xss3, hF1, hx2.pick [0] (by decide) rfl, hs3, ha.cut (l := [5]) rfl⟩
theorem ent117 : Ent Tryz.prog 117 := fun _ _ => by kernel_rfl
theorem ent134 : Ent Tryz.prog 134 := fun _ _ => by kernel_rfl
theorem ent119 : Ent Tryz.prog 119 := fun _ _ => by kernel_rfl
def a4b (n : Nat) (b1 : (List Int)) (v2 : (List Int)) (kont2 : Int → Option ((List Int) × (List Int))) : Nat → Int → Int → Option ((List Int) × (List Int))
 | 0, _, _ => none
 | mx2 + 1, lo1, hi1 =>
  bif decide (1 < (isub .i64 hi1 lo1)) then
   (quo .i64 (iadd .i64 lo1 hi1) 2).bind fun q1 =>
   (a4k n b1 [q1]).bind fun v6 =>
   (b0f n v2 v6).bind fun v7 =>
   bif v7 then
    a4b n b1 v2 kont2 mx2 lo1 q1
   else
    a4b n b1 v2 kont2 mx2 q1 hi1
  else
   kont2 lo1
theorem b6x (n : Nat) (b1 : (List Int)) (v2 : (List Int)) (kont2 : Int → Option ((List Int) × (List Int))) (mx2 : Nat) (lo1 : Int) (hi1 : Int) : a4b n b1 v2 kont2 (mx2 + 1) lo1 hi1 =
  bif decide (1 < (isub .i64 hi1 lo1)) then
   (quo .i64 (iadd .i64 lo1 hi1) 2).bind fun q1 =>
   (a4k n b1 [q1]).bind fun v6 =>
   (b0f n v2 v6).bind fun v7 =>
   bif v7 then
    a4b n b1 v2 kont2 mx2 lo1 q1
   else
    a4b n b1 v2 kont2 mx2 q1 hi1
  else
   kont2 lo1 := rfl
def a4d (n : Nat) (ax1 : (List Int)) (b1 : (List Int)) (kont1 : (List Int) → (List Int) → Option ((List Int) × (List Int))) : Nat → (List Int) → Int → (List Int) → Option ((List Int) × (List Int))
 | 0, _, _, _ => none
 | mx1 + 1, rx1, i1, l2 =>
  bif decide (0 ≤ i1) then
   (ix ax1 i1).bind fun ex1 =>
   (app 8 [ex1] rx1).bind fun l4 =>
   (a2d n l4).bind fun v2 =>
   a4b n b1 v2 (fun (lo2 : Int) =>
    (ix l2 i1).bind fun _ =>
    (lset l2 i1 lo2).bind fun l5 =>
    (a2d n [lo2]).bind fun v3 =>
    (a4k n b1 v3).bind fun v4 =>
    (a4c n v2 v4).bind fun v5 =>
    a4d n ax1 b1 kont1 mx1 v5 (isub .i64 i1 1) l5) n 0 1048576
  else
   kont1 rx1 l2
theorem b7z (n : Nat) (ax1 : (List Int)) (b1 : (List Int)) (kont1 : (List Int) → (List Int) → Option ((List Int) × (List Int))) (mx1 : Nat) (rx1 : (List Int)) (i1 : Int) (l2 : List Int) : a4d n ax1 b1 kont1 (mx1 + 1) rx1 i1 l2 =
  bif decide (0 ≤ i1) then
   (ix ax1 i1).bind fun ex1 =>
   (app 8 [ex1] rx1).bind fun l4 =>
   (a2d n l4).bind fun v2 =>
   a4b n b1 v2 (fun (lo2 : Int) =>
    (ix l2 i1).bind fun _ =>
    (lset l2 i1 lo2).bind fun l5 =>
    (a2d n [lo2]).bind fun v3 =>
    (a4k n b1 v3).bind fun v4 =>
    (a4c n v2 v4).bind fun v5 =>
    a4d n ax1 b1 kont1 mx1 v5 (isub .i64 i1 1) l5) n 0 1048576
  else
   kont1 rx1 l2 := rfl
def a7l (n : Nat) (ax1 : (List Int)) (b1 : (List Int)) : Option ((List Int) × (List Int)) :=
 (mks 8 0 (ax1.length : Int)).bind fun l1 =>
 a4d n ax1 b1 (fun (rx2 : (List Int)) (l3 : List Int) =>
  (a2d n l3).bind fun v1 =>
  some (v1, rx2)) n [] (isub .i64 (ax1.length : Int) 1) l1
set_option maxHeartbeats 1000000 in
set_option maxRecDepth 1000000 in
theorem b4u (n : Nat) (ax1 : (List Int)) (b1 : (List Int)) (r : ((List Int) × (List Int))) (hm : a7l n ax1 b1 = some r) {w : World} {F : Frz} (hs : Sat F w) {as1 : Option Addr} {ns1 : Nat} {cs1 : Nat} {as2 : Option Addr} {ns2 : Nat} {cs2 : Nat} (hs1 : SlR (Rp.int .i64) F as1 ns1 cs1 ax1) (hs2 : SlR (Rp.int .i64) F as2 ns2 cs2 b1) :
  Calls Tryz.prog 132 #[.slice as1 ns1 cs1, .slice as2 ns2 cs2] w fun e w' => ∃ v F' O', e = .returned v ∧ HS F w [] F' O' w' ∧ (∃ (a0_0 : Option Addr) (n0_0 : Nat) (c0_0 : Nat) (xs0_0 : List Value) (a1_0 : Option Addr) (n1_0 : Nat) (c1_0 : Nat), v = .tuple #[.slice a0_0 n0_0 c0_0, .slice a1_0 n1_0 c1_0] ∧ O' = [.row 3 1 a0_0 n0_0 c0_0 xs0_0] ∧ RowN (Rp.int .i64) F' n0_0 xs0_0 r.1 ∧ SlR (Rp.int .i64) F' a1_0 n1_0 c1_0 r.2) := by
 unfold a7l at hm
 have h := HS.init hs
 refine a1a 60 Tryz.func132 rfl rfl rfl ?_
 refine a0f (a0a (a0b rfl rfl rfl (a0b rfl rfl rfl (a0c (a0d (a0f (a0a (a0e rfl rfl rfl ?_))))))))
 refine a1u hs1.len u28 rfl rfl rfl ?_
 obtain ⟨l1, hl1, hm⟩ := bind_some hm
 refine b8u (r := (Rp.int .i64)) ap28 zi3 (fun _ => rfl) rfl rfl rfl h rfl rfl hl1 ?_
 intro b2 wx1 xs1 hx1 hr1
 refine a0b rfl rfl rfl (a0c (a0d (a0f (a0a (a0b rfl rfl rfl (a0c (a0d (a0f (a0f (a0a (a0e rfl rfl rfl ?_)))))))))))
 refine a1u hs1.len u28 rfl rfl rfl ?_
 refine a0u rfl rfl rfl rfl rfl ?_
 refine a0b rfl rfl rfl (a0c (a0d (a1g ?_)))
 intro a hax7
 obtain ⟨kont1, hkont1⟩ : ∃ kont1 : (List Int) → (List Int) → Option ((List Int) × (List Int)), kont1 = (fun (rx2 : (List Int)) (l3 : List Int) =>
       (a2d n l3).bind fun v1 =>
       some (v1, rx2)) := ⟨_, rfl⟩
 replace hm : (fun m (s : (List Int) × Int × List Int) => a4d n ax1 b1 kont1 m s.1 s.2.1 s.2.2) n ([], (isub .i64 (ax1.length : Int) 1), l1) = some r := by rw [hkont1]; exact hm
 refine a5w (id := 0) (fun m (s : (List Int) × Int × List Int) => a4d n ax1 b1 kont1 m s.1 s.2.1 s.2.2) (fun (y : (List Int) × List Int) => kont1 y.1 y.2) r (fun (s : (List Int) × Int × List Int) a w' => ∃ (Fx1 : Frz) (as3 : Option Addr) (ns3 : Nat) (cs3 : Nat) (as4 : Option Addr) (ns4 : Nat) (cs4 : Nat) (xss4 : List Value), Frz.le F Fx1 ∧ HS F w [] Fx1 [.row 3 1 as4 ns4 cs4 xss4] w' ∧ (SlR (Rp.int .i64) Fx1 as3 ns3 cs3 s.1) ∧ (RowN (Rp.int .i64) Fx1 ns4 xss4 s.2.2) ∧ Has 60 a [(0, .slice as1 ns1 cs1), (1, .slice as2 ns2 cs2), (6, .slice as4 ns4 cs4), (7, .slice as3 ns3 cs3), (8, .int .i64 s.2.1)]) (fun (y : (List Int) × List Int) a w' => ∃ (Fx2 : Frz) (as5 : Option Addr) (ns5 : Nat) (cs5 : Nat) (as6 : Option Addr) (ns6 : Nat) (cs6 : Nat) (xss6 : List Value), Frz.le F Fx2 ∧ HS F w [] Fx2 [.row 3 1 as6 ns6 cs6 xss6] w' ∧ (SlR (Rp.int .i64) Fx2 as5 ns5 cs5 y.1) ∧ (RowN (Rp.int .i64) Fx2 ns6 xss6 y.2) ∧ Has 60 a [(6, .slice as6 ns6 cs6), (7, .slice as5 ns5 cs5)]) (fun _ => rfl) ?_ ?_ hm ⟨_, none, 0, 0, (some ⟨b2, 0, none⟩), ((ax1.length : Int).toNat), ((ax1.length : Int).toNat), xs1, Frz.refl _, hx1.pick [0] (by decide) rfl, SlR.nil _ _, hr1, hax7.cut (l := [0, 1, 6, 7, 8]) rfl⟩
 ·clear hm; rintro ⟨rx2, l3⟩ a wx2 hm ⟨Fx2, as5, ns5, cs5, as6, ns6, cs6, xss6, hF2, hx3, hs5, hs6, hax1⟩
  rw [hkont1] at hm
  replace hm := hm
  refine a2f (e := .exit 0) hax1 ?_
  refine a1k (a0d (a0f (a0a (a0e rfl rfl rfl ?_))))
  obtain ⟨Fx3, hF3, hx4, hsx1⟩ := a1c hx3 (i := 0) rfl hs6
  obtain ⟨v1, hv1, hm⟩ := bind_some hm
  refine a0i ent135 rfl rfl rfl rfl hx4 (a6f _ _ _ hv1 hx4.sat hsx1) ?_
  rintro _ Fx4 _ wx3 hF4 hx5 ⟨as7, ns7, cs7, xss7, rfl, rfl, hs7⟩
  refine a0e rfl rfl rfl (a0b rfl rfl rfl (a0b rfl rfl rfl (a0c (a0d (a1d ?_)))))
  refine a1v (vl := [.slice as7 ns7 cs7, .slice as5 ns5 cs5]) rfl ⟨a1z rfl, a1z rfl, trivial⟩ (by simp) ?_
  obtain rfl := Option.some.inj hm
  exact ⟨_, _, _, rfl, hx5.pick [0] (by decide) rfl, as7, ns7, cs7, xss7, as5, ns5, cs5, rfl, rfl, hs7, ((hs5.mono hF3).mono hF4)⟩
 ·clear hm hkont1; intro hk1 mx1 K ihx1
  rintro ⟨rx1, i1, l2⟩ a wx4 hm ⟨Fx1, as3, ns3, cs3, as4, ns4, cs4, xss4, hF1, hx2, hs3, hs4, hax2⟩
  simp only [b7z] at hm
  refine a1i hax2 ?_
  refine a0f (a0f (a0a (a0e rfl rfl rfl ?_)))
  refine a0u rfl rfl rfl rfl rfl ?_
  refine a0c (a0d ?_)
  rcases a0g hm with ⟨hb1, hm⟩ | ⟨hb1, hm⟩
  ·refine a0t 19 rfl hb1 ?_
   refine a0y rfl (a1e (a0d (a0f (a1g (a0f (a0a (a0e rfl rfl rfl (a0e rfl rfl rfl ?_))))))))
   obtain ⟨ex1, he1, hm⟩ := bind_some hm
   refine a2n (r := (Rp.int .i64)) u28 sz3 rfl rfl rfl rfl (hs1.mono hF1) he1 ?_
   intro b3 o1 cs1 hf1 hr2
   have hc1 : cs1 = [.int .i64 ex1] := hr2
   subst hc1
   refine a2h (j := 0) ag3 rfl rfl hx2 hf1 rfl rfl ?_
   refine a1q (e := 3) (cs := [.int .i64 ex1]) (q := 1) rfl rfl hx2 rfl (fun _ => by kernel_rfl) rfl rfl ?_
   intro b4 wx5 hx6
   refine a0e rfl rfl rfl ?_
   obtain ⟨l4, hr3, hm⟩ := bind_some hm
   refine b7b (r := (Rp.int .i64)) ap28 rfl rfl rfl hx6 rfl rfl (i := 0) rfl ((show RowN (Rp.int .i64) Fx1 1 [.int .i64 ex1] [ex1] from ⟨rfl, ⟨_, _, rfl, rfl, (rfl : RowR (Rp.int .i64) _ [] [])⟩⟩)) hs3 hr3 ?_
   intro as8 cs8 wx6 xss8 hx7 hs8
   obtain ⟨Fx5, hF5, hx8, hsx2⟩ := a1c hx7 (i := 0) rfl hs8
   obtain ⟨v2, hv2, hm⟩ := bind_some hm
   refine a0i ent135 rfl rfl rfl rfl hx8 (a6f _ _ _ hv2 hx8.sat hsx2) ?_
   rintro _ Fx6 _ wx7 hF6 hx9 ⟨as9, ns9, cs9, xss9, rfl, rfl, hs9⟩
   refine a0b rfl rfl rfl (a0c (a0d (a0f (a0a (a0b rfl rfl rfl (a0c (a0d (a0f (a0a (a0b rfl rfl rfl (a0c (a0d (a0f (a1g ?_))))))))))))))
   intro a hax6
   obtain ⟨kont2, hkont2⟩ : ∃ kont2 : Int → Option ((List Int) × (List Int)), kont2 = (fun (lo2 : Int) =>
       (ix l2 i1).bind fun ex2 =>
       (lset l2 i1 lo2).bind fun l5 =>
       (a2d n [lo2]).bind fun v3 =>
       (a4k n b1 v3).bind fun v4 =>
       (a4c n v2 v4).bind fun v5 =>
       a4d n ax1 b1 kont1 mx1 v5 (isub .i64 i1 1) l5) := ⟨_, rfl⟩
   replace hm : (fun m (s : Int × Int) => a4b n b1 v2 kont2 m s.1 s.2) n (0, 1048576) = some r := by rw [hkont2]; exact hm
   refine a5w (id := 2) (fun m (s : Int × Int) => a4b n b1 v2 kont2 m s.1 s.2) (fun (y : Int) => kont2 y) r (fun (s : Int × Int) a w' => ∃ (Fx7 : Frz), Frz.le Fx6 Fx7 ∧ HS F w [] Fx7 [.row 3 1 as9 ns9 cs9 xss9, .row 3 1 as4 ns4 cs4 xss4] w' ∧ Has 60 a [(0, .slice as1 ns1 cs1), (1, .slice as2 ns2 cs2), (6, .slice as4 ns4 cs4), (7, .slice as9 ns9 cs9), (8, .int .i64 i1), (9, .int .i64 s.1), (10, .int .i64 s.2)]) (fun (y : Int) a w' => ∃ (Fx8 : Frz), Frz.le Fx6 Fx8 ∧ HS F w [] Fx8 [.row 3 1 as9 ns9 cs9 xss9, .row 3 1 as4 ns4 cs4 xss4] w' ∧ Has 60 a [(0, .slice as1 ns1 cs1), (1, .slice as2 ns2 cs2), (6, .slice as4 ns4 cs4), (7, .slice as9 ns9 cs9), (8, .int .i64 i1), (9, .int .i64 y)]) (fun _ => rfl) ?_ ?_ hm ⟨_, Frz.refl _, hx9.pick [0, 1] (by decide) rfl, hax6.cut (l := [0, 1, 6, 7, 8, 9, 10]) rfl⟩
   ·clear hm; rintro lo2 a wx8 hm ⟨Fx8, hF8, hx11, hax3⟩
    rw [hkont2] at hm
    replace hm := hm
    refine a2f (e := .exit 2) hax3 ?_
    refine a1k (a0d (a0f (a0a (a0e rfl rfl rfl (a0e rfl rfl rfl (a0e rfl rfl rfl ?_))))))
    obtain ⟨ex2, he2, hm⟩ := bind_some hm
    refine a5c (r := (Rp.int .i64)) u28 sz3 rfl rfl hx11 rfl rfl (p := 1) rfl rfl (((hs4.mono hF5).mono hF6).mono hF8) he2 ?_
    intro b5 o2 cs2 hax4 ho1 hr4 hp1
    have hc2 : cs2 = [.int .i64 ex2] := hr4
    subst hc2
    obtain ⟨l5, hl2, hm⟩ := bind_some hm
    refine a6x (r := (Rp.int .i64)) sz3 rfl hx11 rfl rfl rfl rfl rfl (p := 1) rfl rfl hax4 ho1 (((hs4.mono hF5).mono hF6).mono hF8) rfl rfl hl2 ?_
    intro wx9 xs2 hx12 hr5
    refine a0c (a0d (a0a (a0e rfl rfl rfl (a0e rfl rfl rfl (a0e rfl rfl rfl ?_)))))
    refine a1q (e := 3) (cs := [.int .i64 lo2]) (q := 1) rfl rfl hx12 rfl (fun _ => by kernel_rfl) rfl rfl ?_
    intro b6 wx10 hx13
    obtain ⟨Fx9, hF9, hx14, hsx3⟩ := a1c hx13 (i := 0) rfl ((show RowN (Rp.int .i64) Fx8 1 [.int .i64 lo2] [lo2] from ⟨rfl, ⟨_, _, rfl, rfl, (rfl : RowR (Rp.int .i64) _ [] [])⟩⟩))
    obtain ⟨v3, hv3, hm⟩ := bind_some hm
    refine a0i ent135 rfl rfl rfl rfl hx14 (a6f _ _ _ hv3 hx14.sat hsx3) ?_
    rintro _ Fx10 _ wx11 hF10 hx15 ⟨as10, ns10, cs10, xss10, rfl, rfl, hs10⟩
    obtain ⟨Fx11, hF11, hx16, hsx4⟩ := a1c hx15 (i := 0) rfl hs10
    have hG1 := (((((hF1.trans hF5).trans hF6).trans hF8).trans hF9).trans hF10).trans hF11
    obtain ⟨v4, hv4, hm⟩ := bind_some hm
    refine a0i ent117 rfl rfl rfl rfl hx16 (b3t _ _ _ _ hv4 hx16.sat (hs2.mono hG1) hsx4) ?_
    rintro _ Fx12 _ wx12 hF12 hx17 ⟨as11, ns11, cs11, xss11, rfl, rfl, hs11⟩
    obtain ⟨Fx13, hF13, hx18, hsx5⟩ := a1c hx17 (i := 1) rfl (((((hs9.mono hF8).mono hF9).mono hF10).mono hF11).mono hF12)
    obtain ⟨Fx14, hF14, hx19, hsx6⟩ := a1c hx18 (i := 0) rfl (hs11.mono hF13)
    obtain ⟨v5, hv5, hm⟩ := bind_some hm
    refine a0i ent134 rfl rfl rfl rfl hx19 (b3r _ _ _ _ hv5 hx19.sat (hsx5.mono hF14) hsx6) ?_
    rintro _ Fx15 _ wx13 hF15 hx20 ⟨as12, ns12, cs12, xss12, rfl, rfl, hs12⟩
    refine a0b rfl rfl rfl (a0c (a1m (a0d (a0a (a0e rfl rfl rfl ?_)))))
    refine a0u rfl rfl rfl rfl rfl ?_
    refine a0b rfl rfl rfl (a0c ?_)
    obtain ⟨Fx16, hF16, hx21, hsx7⟩ := a1c hx20 (i := 0) rfl hs12
    refine a0n (fun a ha => ihx1 (v5, (isub .i64 i1 1), l5) a _ hm ?_)
    exact ⟨_, as12, ns12, cs12, as4, ns4, cs4, xs2, (((((((((((hF1.trans hF5).trans hF6).trans hF8).trans hF9).trans hF10).trans hF11).trans hF12).trans hF13).trans hF14).trans hF15).trans hF16), hx21.pick [0] (by decide) rfl, hsx7, ((((((((hr5.mono hF9).mono hF10).mono hF11).mono hF12).mono hF13).mono hF14).mono hF15).mono hF16), ha.cut (l := [0, 1, 6, 7, 8]) rfl⟩
   ·clear hm hkont2; intro hk2 mx2 K ihx2
    rintro ⟨lo1, hi1⟩ a wx14 hm ⟨Fx7, hF7, hx10, hax5⟩
    simp only [b6x] at hm
    refine a1i hax5 ?_
    refine a0f (a0f (a0a (a0e rfl rfl rfl (a0e rfl rfl rfl ?_))))
    refine a0u rfl rfl rfl rfl rfl ?_
    refine a0u rfl rfl rfl rfl rfl ?_
    refine a0c (a0d ?_)
    rcases a0g hm with ⟨hb2, hm⟩ | ⟨hb2, hm⟩
    ·refine a0t 33 rfl hb2 ?_
     refine a0y rfl (a1e (a0d (a1g (a0f (a0a (a0e rfl rfl rfl (a0e rfl rfl rfl ?_)))))))
     refine a0u rfl rfl rfl rfl rfl ?_
     obtain ⟨q1, hq1, hm⟩ := bind_some hm
     refine c4e rfl rfl rfl rfl hq1 ?_
     refine a0b rfl rfl rfl (a0c (a0d (a0f (a0a (a0e rfl rfl rfl (a0e rfl rfl rfl (a0e rfl rfl rfl ?_)))))))
     refine a1q (e := 3) (cs := [.int .i64 q1]) (q := 1) rfl rfl hx10 rfl (fun _ => by kernel_rfl) rfl rfl ?_
     intro b7 wx15 hx22
     obtain ⟨Fx17, hF17, hx23, hsx8⟩ := a1c hx22 (i := 0) rfl ((show RowN (Rp.int .i64) Fx7 1 [.int .i64 q1] [q1] from ⟨rfl, ⟨_, _, rfl, rfl, (rfl : RowR (Rp.int .i64) _ [] [])⟩⟩))
     have hG2 := (((hF1.trans hF5).trans hF6).trans hF7).trans hF17
     obtain ⟨v6, hv6, hm⟩ := bind_some hm
     refine a0i ent117 rfl rfl rfl rfl hx23 (b3t _ _ _ _ hv6 hx23.sat (hs2.mono hG2) hsx8) ?_
     rintro _ Fx18 _ wx16 hF18 hx24 ⟨as13, ns13, cs13, xss13, rfl, rfl, hs13⟩
     obtain ⟨v7, hv7, hm⟩ := bind_some hm
     refine a3m ent119 rfl rfl rfl rfl (c0j _ _ _ _ hv7 (b0a _) (hx24.viewRow (p := 1) rfl rfl (((hs9.mono hF7).mono hF17).mono hF18)) (hx24.viewRow (p := 0) rfl rfl hs13)) ?_
     refine a0c (a0d ?_)
     rcases a0g hm with ⟨hb3, hm⟩ | ⟨hb3, hm⟩
     ·refine a0t 43 rfl hb3 ?_
      refine a0y rfl (a0a (a0e rfl rfl rfl (a0b rfl rfl rfl (a0c (a1m ?_)))))
      refine a0n (fun a ha => ihx2 (lo1, q1) a _ hm ?_)
      exact ⟨_, ((hF7.trans hF17).trans hF18), hx24.pick [1, 2] (by decide) rfl, ha.cut (l := [0, 1, 6, 7, 8, 9, 10]) rfl⟩
     ·refine a0t 43 rfl hb3 ?_
      refine a0s rfl (a0a (a0e rfl rfl rfl (a0b rfl rfl rfl (a0c (a1m ?_)))))
      refine a0n (fun a ha => ihx2 (q1, hi1) a _ hm ?_)
      exact ⟨_, ((hF7.trans hF17).trans hF18), hx24.pick [1, 2] (by decide) rfl, ha.cut (l := [0, 1, 6, 7, 8, 9, 10]) rfl⟩
    ·refine a0t 33 rfl hb2 ?_
     refine a0s rfl (a3u (a0w (a0w ?_)))
     refine fun a ha => hk2 lo1 a _ hm ?_
     exact ⟨_, hF7, hx10.pick [0, 1] (by decide) rfl, ha.cut (l := [0, 1, 6, 7, 8, 9]) rfl⟩
  ·refine a0t 19 rfl hb1 ?_
   refine a0s rfl (a3u (a0w (a0w ?_)))
   refine fun a ha => hk1 (rx1, l2) a _ hm ?_
   exact ⟨_, as3, ns3, cs3, as4, ns4, cs4, xss4, hF1, hx2.pick [0] (by decide) rfl, hs3, hs4, ha.cut (l := [6, 7]) rfl⟩
theorem ent98 : Ent Tryz.prog 98 := fun _ _ => by kernel_rfl
def b1i (n : Nat) (ax1 : Big) : Option Big :=
 (a4i n ax1).bind fun v1 =>
 bif !v1 then
  some (⟨0, []⟩ : Big)
 else
  (a3j n (IntKind.i64.wrap (0 - ax1.Sign)) ax1.Digits).bind fun v2 =>
  some v2
set_option maxHeartbeats 1000000 in
set_option maxRecDepth 1000000 in
theorem b5t (n : Nat) (ax1 : Big) (r : Big) (hm : b1i n ax1 = some r) {w : World} {F : Frz} (hs : Sat F w) {as1 : Option Addr} {ns1 : Nat} {cs1 : Nat} (hs1 : SlR (Rp.int .i64) F as1 ns1 cs1 ax1.Digits) :
  Calls Tryz.prog 99 #[.agg #[.int .i64 ax1.Sign, .slice as1 ns1 cs1]] w fun e w' => ∃ v F' O', e = .returned v ∧ HS F w [] F' O' w' ∧ (∃ (a0_1 : Option Addr) (n0_1 : Nat) (c0_1 : Nat), v = .agg #[.int .i64 r.Sign, .slice a0_1 n0_1 c0_1] ∧ O' = [] ∧ SlR (Rp.int .i64) F' a0_1 n0_1 c0_1 r.Digits) := by
 unfold b1i at hm
 have h := HS.init hs
 refine a1a 13 Tryz.func99 rfl rfl rfl ?_
 refine a0f (a0a ?_)
 refine a2t rfl rfl rfl rfl h ?_
 intro b1 wx1 hx1
 refine a1b ze35 rfl rfl rfl hx1 ?_
 intro b2 wx2 hx2
 refine a0c (a0d (a0f (a0f (a0a ?_))))
 refine a0l ag35 sz35 rfl rfl hx2 rfl (i := 1) rfl rfl ?_
 obtain ⟨v1, hv1, hm⟩ := bind_some hm
 refine a0i ent98 rfl rfl rfl rfl hx2 (a5u _ _ _ hv1 hx2.sat hs1) ?_
 rintro _ Fx1 _ wx3 hF1 hx3 ⟨rfl, rfl⟩
 refine a4g rfl rfl rfl (a0c (a0d ?_))
 rcases a0g hm with ⟨hb1, hm⟩ | ⟨hb1, hm⟩
 ·refine a0t 5 rfl hb1 ?_
  refine a0y rfl (a0f (a0a ?_))
  refine a2b (v := .agg #[.int .i64 0, .slice none 0 0]) rfl rfl rfl (fun _ => by kernel_rfl) ?_
  refine a0p sz35 rfl hx3 rfl rfl rfl rfl (i := 0) rfl rfl rfl rfl ?_
  intro wx4 hx4
  refine a0c (a0d (a1d (a0k ?_)))
  refine a3r rfl ag35 sz35 rfl hx4 rfl (i := 0) rfl ?_
  obtain rfl := Option.some.inj hm
  exact ⟨_, _, _, rfl, hx4.pick [] (by decide) rfl, none, 0, 0, rfl, rfl, SlR.nil _ _⟩
 ·refine a0t 5 rfl hb1 ?_
  refine a0s rfl (a1e (a0d (a0f (a0a ?_))))
  refine a0h fa35_0 rfl rfl rfl ?_
  refine a0r ag3 rfl rfl hx3 rfl (i := 1) rfl rfl ?_
  refine c3x rfl rfl rfl ?_
  refine a0h fa35_1 rfl rfl rfl ?_
  refine a0r ag28 rfl rfl hx3 rfl (i := 1) rfl rfl ?_
  obtain ⟨v2, hv2, hm⟩ := bind_some hm
  refine a0i ent102 rfl rfl rfl rfl hx3 (a6g _ _ _ _ hv2 hx3.sat (hs1.mono hF1)) ?_
  rintro _ Fx2 _ wx5 hF2 hx5 ⟨as2, ns2, cs2, rfl, rfl, hs2⟩
  refine a0p sz35 rfl hx5 rfl rfl rfl rfl (i := 0) rfl rfl rfl rfl ?_
  intro wx6 hx6
  refine a0c (a0d (a1d ?_))
  refine a3r rfl ag35 sz35 rfl hx6 rfl (i := 0) rfl ?_
  obtain rfl := Option.some.inj hm
  exact ⟨_, _, _, rfl, hx6.pick [] (by decide) rfl, as2, ns2, cs2, rfl, rfl, hs2⟩
theorem ent133 : Ent Tryz.prog 133 := fun _ _ => by kernel_rfl
theorem ent99 : Ent Tryz.prog 99 := fun _ _ => by kernel_rfl
theorem ent132 : Ent Tryz.prog 132 := fun _ _ => by kernel_rfl
def a9u (n : Nat) (ax1 : Big) (b1 : Big) : Option (Big × Big × Int) :=
 (a4i n ax1).bind fun v1 =>
 (bif !v1 then
  some true
 else
  (a4i n b1).bind fun v11 =>
  some (!v11)).bind fun v2 =>
 bif v2 then
  some ((⟨0, []⟩ : Big), (⟨0, []⟩ : Big), 1)
 else
  bif b1.Sign == 0 then
   some ((⟨0, []⟩ : Big), (⟨0, []⟩ : Big), 14)
  else
   (a7l n ax1.Digits b1.Digits).bind fun v3 =>
   (bif decide (0 ≤ (imul .i64 ax1.Sign b1.Sign)) then
    some true
   else
    some ((v3.2.length : Int) == 0)).bind fun v4 =>
   bif v4 then
    (a3j n (imul .i64 ax1.Sign b1.Sign) v3.1).bind fun v5 =>
    (a3j n ax1.Sign v3.2).bind fun v6 =>
    some (v5, v6, 0)
   else
    (a9a n v3.1 [1]).bind fun v7 =>
    (a3j n (-1) v7).bind fun v8 =>
    (a4c n b1.Digits v3.2).bind fun v9 =>
    (a3j n b1.Sign v9).bind fun v10 =>
    some (v8, v10, 0)
set_option maxHeartbeats 1000000 in
set_option maxRecDepth 1000000 in
theorem b5o (n : Nat) (ax1 : Big) (b1 : Big) (r : (Big × Big × Int)) (hm : a9u n ax1 b1 = some r) {w : World} {F : Frz} (hs : Sat F w) {as1 : Option Addr} {ns1 : Nat} {cs1 : Nat} {as2 : Option Addr} {ns2 : Nat} {cs2 : Nat} (hs1 : SlR (Rp.int .i64) F as1 ns1 cs1 ax1.Digits) (hs2 : SlR (Rp.int .i64) F as2 ns2 cs2 b1.Digits) :
  Calls Tryz.prog 101 #[.agg #[.int .i64 ax1.Sign, .slice as1 ns1 cs1], .agg #[.int .i64 b1.Sign, .slice as2 ns2 cs2]] w fun e w' => ∃ v F' O', e = .returned v ∧ HS F w [] F' O' w' ∧ (∃ (a0_1 : Option Addr) (n0_1 : Nat) (c0_1 : Nat) (a1_1 : Option Addr) (n1_1 : Nat) (c1_1 : Nat), v = .tuple #[.agg #[.int .i64 r.1.Sign, .slice a0_1 n0_1 c0_1], .agg #[.int .i64 r.2.1.Sign, .slice a1_1 n1_1 c1_1], .int .i64 r.2.2] ∧ O' = [] ∧ SlR (Rp.int .i64) F' a0_1 n0_1 c0_1 r.1.Digits ∧ SlR (Rp.int .i64) F' a1_1 n1_1 c1_1 r.2.1.Digits) := by
 unfold a9u at hm
 have h := HS.init hs
 refine a1a 65 Tryz.func101 rfl rfl rfl ?_
 refine a0f (a0a ?_)
 refine a2t rfl rfl rfl rfl h ?_
 intro b2 wx1 hx1
 refine a2t rfl rfl rfl rfl hx1 ?_
 intro b3 wx2 hx2
 refine a1b ze35 rfl rfl rfl hx2 ?_
 intro b4 wx3 hx3
 refine a1b ze35 rfl rfl rfl hx3 ?_
 intro b5 wx4 hx4
 refine a0b rfl rfl rfl (a0c (a0d (a0f (a0f (a0a ?_)))))
 refine a0l ag35 sz35 rfl rfl hx4 rfl (i := 3) rfl rfl ?_
 obtain ⟨v1, hv1, hm⟩ := bind_some hm
 refine a0i ent98 rfl rfl rfl rfl hx4 (a5u _ _ _ hv1 hx4.sat hs1) ?_
 rintro _ Fx1 _ wx5 hF1 hx5 ⟨rfl, rfl⟩
 refine a4g rfl rfl rfl (a0e rfl rfl rfl ?_)
 obtain ⟨v2, hb1, hm⟩ := bind_some hm
 refine a2r 4 (fun a w' => ∃ (Fx2 : Frz), Frz.le Fx1 Fx2 ∧ HS F w [] Fx2 [.box b5 35 [.int .i64 0, .slice none 0 0], .box b4 35 [.int .i64 0, .slice none 0 0], .box b3 35 [.int .i64 b1.Sign, .slice as2 ns2 cs2], .box b2 35 [.int .i64 ax1.Sign, .slice as1 ns1 cs1]] w' ∧ Has 65 a [(2, .pointer (some ⟨b2, 0, none⟩)), (3, .pointer (some ⟨b3, 0, none⟩)), (4, .pointer (some ⟨b4, 0, none⟩)), (5, .pointer (some ⟨b5, 0, none⟩)), (16, .bool v2)]) ?_ ?_
 ·rintro a wx6 ⟨Fx2, hF2, hx6, hax1⟩
  refine a1f hax1 ?_
  refine a0c (a0d ?_)
  rcases a0g hm with ⟨hb2, hm⟩ | ⟨hb2, hm⟩
  ·refine a0t 16 rfl hb2 ?_
   refine a0y rfl (a0f (a0a ?_))
   refine a2b (v := .agg #[.int .i64 0, .slice none 0 0]) rfl rfl rfl (fun _ => by kernel_rfl) ?_
   refine a2b (v := .agg #[.int .i64 0, .slice none 0 0]) rfl rfl rfl (fun _ => by kernel_rfl) ?_
   refine a0p sz35 rfl hx6 rfl rfl rfl rfl (i := 1) rfl rfl rfl rfl ?_
   intro wx7 hx7
   refine a0p sz35 rfl hx7 rfl rfl rfl rfl (i := 0) rfl rfl rfl rfl ?_
   intro wx8 hx8
   refine a0b rfl rfl rfl (a0c (a0d (a1d (a0k ?_))))
   refine a1v (vl := [.agg #[.int .i64 0, .slice none 0 0], .agg #[.int .i64 0, .slice none 0 0], .int .i64 1]) rfl ⟨a2p ag35 sz35 rfl hx8 rfl (i := 1) rfl, a2p ag35 sz35 rfl hx8 rfl (i := 0) rfl, a1z rfl, trivial⟩ (by simp) ?_
   obtain rfl := Option.some.inj hm
   exact ⟨_, _, _, rfl, hx8.pick [] (by decide) rfl, none, 0, 0, none, 0, 0, rfl, rfl, SlR.nil _ _, SlR.nil _ _⟩
  ·refine a0t 16 rfl hb2 ?_
   refine a0s rfl (a1e (a0d (a0f (a0f (a0a ?_)))))
   refine a0h fa35_0 rfl rfl rfl ?_
   refine a0r ag3 rfl rfl hx6 rfl (i := 2) rfl rfl ?_
   refine a0u rfl rfl rfl rfl rfl ?_
   refine a0c (a0d ?_)
   rcases a0g hm with ⟨hb3, hm⟩ | ⟨hb3, hm⟩
   ·refine a0t 21 rfl hb3 ?_
    refine a0y rfl (a0f (a0a ?_))
    refine a2b (v := .agg #[.int .i64 0, .slice none 0 0]) rfl rfl rfl (fun _ => by kernel_rfl) ?_
    refine a2b (v := .agg #[.int .i64 0, .slice none 0 0]) rfl rfl rfl (fun _ => by kernel_rfl) ?_
    refine a0p sz35 rfl hx6 rfl rfl rfl rfl (i := 1) rfl rfl rfl rfl ?_
    intro wx9 hx9
    refine a0p sz35 rfl hx9 rfl rfl rfl rfl (i := 0) rfl rfl rfl rfl ?_
    intro wx10 hx10
    refine a0b rfl rfl rfl (a0c (a0d (a1d (a0k ?_))))
    refine a1v (vl := [.agg #[.int .i64 0, .slice none 0 0], .agg #[.int .i64 0, .slice none 0 0], .int .i64 14]) rfl ⟨a2p ag35 sz35 rfl hx10 rfl (i := 1) rfl, a2p ag35 sz35 rfl hx10 rfl (i := 0) rfl, a1z rfl, trivial⟩ (by simp) ?_
    obtain rfl := Option.some.inj hm
    exact ⟨_, _, _, rfl, hx10.pick [] (by decide) rfl, none, 0, 0, none, 0, 0, rfl, rfl, SlR.nil _ _, SlR.nil _ _⟩
   ·refine a0t 21 rfl hb3 ?_
    refine a0s rfl (a1e (a0d (a0f (a0a ?_))))
    refine a0h fa35_1 rfl rfl rfl ?_
    refine a0r ag28 rfl rfl hx6 rfl (i := 3) rfl rfl ?_
    refine a0h fa35_1 rfl rfl rfl ?_
    refine a0r ag28 rfl rfl hx6 rfl (i := 2) rfl rfl ?_
    obtain ⟨v3, hv2, hm⟩ := bind_some hm
    refine a0i ent132 rfl rfl rfl rfl hx6 (b4u _ _ _ _ hv2 hx6.sat ((hs1.mono hF1).mono hF2) ((hs2.mono hF1).mono hF2)) ?_
    rintro _ Fx3 _ wx11 hF3 hx11 ⟨as3, ns3, cs3, xss3, as4, ns4, cs4, rfl, rfl, hs3, hs4⟩
    refine a0e rfl rfl rfl (a0j rfl rfl rfl rfl (a0j rfl rfl rfl rfl (a0b rfl rfl rfl (a0b rfl rfl rfl (a0c (a0d (a0f (a0f (a0a ?_)))))))))
    refine a0h fa35_0 rfl rfl rfl ?_
    refine a0r ag3 rfl rfl hx11 rfl (i := 4) rfl rfl ?_
    refine a0h fa35_0 rfl rfl rfl ?_
    refine a0r ag3 rfl rfl hx11 rfl (i := 3) rfl rfl ?_
    refine a0u rfl rfl rfl rfl rfl ?_
    refine a0u rfl rfl rfl rfl rfl ?_
    refine a0e rfl rfl rfl ?_
    obtain ⟨v4, hb4, hm⟩ := bind_some hm
    refine a2r 4 (fun a w' => wx11 = w' ∧ Has 65 a [(2, .pointer (some ⟨b2, 0, none⟩)), (3, .pointer (some ⟨b3, 0, none⟩)), (4, .pointer (some ⟨b4, 0, none⟩)), (5, .pointer (some ⟨b5, 0, none⟩)), (7, .slice as3 ns3 cs3), (8, .slice as4 ns4 cs4), (42, .bool v4)]) ?_ ?_
    ·rintro a wx12 ⟨rfl, hax2⟩
     refine a1f hax2 ?_
     refine a0c (a0d ?_)
     rcases a0g hm with ⟨hb5, hm⟩ | ⟨hb5, hm⟩
     ·refine a0t 42 rfl hb5 ?_
      refine a0y rfl (a0f ?_)
      refine a1w (SH Fx3 [.box b3 35 [.int .i64 b1.Sign, .slice as2 ns2 cs2], .box b2 35 [.int .i64 ax1.Sign, .slice as1 ns1 cs1]]) 14 rfl (by kernel_rfl) hx11 ?_
      intro wx13 hx12
      refine d_tk 0 rfl (by kernel_rfl) rfl rfl rfl rfl (hx12.sh (Frz.refl _) [3, 4] (by decide) rfl) (fun _ _ _ _ _ => a0h fa35_0 rfl rfl rfl (a0c (qq rfl))) ?_
      refine d_tk 1 rfl (by kernel_rfl) rfl rfl rfl rfl (hx12.sh (Frz.refl _) [3, 4] (by decide) rfl) (fun _ _ _ _ hq => a0r ag3 rfl rfl hq rfl (i := 1) rfl rfl (a0c (qq rfl))) ?_
      refine d_tk 2 rfl (by kernel_rfl) rfl rfl rfl rfl (hx12.sh (Frz.refl _) [3, 4] (by decide) rfl) (fun _ _ _ _ _ => a0h fa35_0 rfl rfl rfl (a0c (qq rfl))) ?_
      refine d_tk 3 rfl (by kernel_rfl) rfl rfl rfl rfl (hx12.sh (Frz.refl _) [3, 4] (by decide) rfl) (fun _ _ _ _ hq => a0r ag3 rfl rfl hq rfl (i := 0) rfl rfl (a0c (qq rfl))) ?_
      refine d_tk 4 rfl (by kernel_rfl) rfl rfl rfl rfl (hx12.sh (Frz.refl _) [3, 4] (by decide) rfl) (fun _ _ _ _ _ => a0u rfl rfl rfl rfl rfl (a0c (qq rfl))) ?_
      refine d_tk 5 rfl (by kernel_rfl) rfl rfl rfl rfl (hx12.sh (Frz.refl _) [3, 4] (by decide) rfl) (fun _ _ _ _ _ => a0e rfl rfl rfl (a0c (qq rfl))) ?_
      refine d_tk 7 rfl (by kernel_rfl) rfl rfl rfl rfl (hx12.sh (Frz.refl _) [3, 4] (by decide) rfl) (fun _ _ _ _ _ => a0h fa35_0 rfl rfl rfl (a0c (qq rfl))) ?_
      refine d_tk 8 rfl (by kernel_rfl) rfl rfl rfl rfl (hx12.sh (Frz.refl _) [3, 4] (by decide) rfl) (fun _ _ _ _ hq => a0r ag3 rfl rfl hq rfl (i := 1) rfl rfl (a0c (qq rfl))) ?_
      refine d_tk 9 rfl (by kernel_rfl) rfl rfl rfl rfl (hx12.sh (Frz.refl _) [3, 4] (by decide) rfl) (fun _ _ _ _ _ => a0e rfl rfl rfl (a0c (qq rfl))) ?_
      refine a0v 6 rfl (by kernel_rfl) ?_
      obtain ⟨Fx4, hF4, hx13, hsx1⟩ := a1c hx12 (i := 0) rfl hs3
      obtain ⟨v5, hv3, hm⟩ := bind_some hm
      refine a0i ent102 rfl rfl rfl rfl hx13 (a6g _ _ _ _ hv3 hx13.sat hsx1) ?_
      rintro _ Fx5 _ wx14 hF5 hx14 ⟨as5, ns5, cs5, rfl, rfl, hs5⟩
      refine a0o (hx14.sh (hF4.trans hF5) [2, 3] (by decide) rfl) ?_
      refine a0v 10 rfl (by kernel_rfl) ?_
      obtain ⟨v6, hv4, hm⟩ := bind_some hm
      refine a0i ent102 rfl rfl rfl rfl hx14 (a6g _ _ _ _ hv4 hx14.sat ((hs4.mono hF4).mono hF5)) ?_
      rintro _ Fx6 _ wx15 hF6 hx15 ⟨as6, ns6, cs6, rfl, rfl, hs6⟩
      refine a0o (hx15.sh ((hF4.trans hF5).trans hF6) [2, 3] (by decide) rfl) ?_
      refine a0v 11 rfl (by kernel_rfl) ?_
      refine a0p sz35 rfl hx15 rfl rfl rfl rfl (i := 1) rfl rfl rfl rfl ?_
      intro wx16 hx16
      refine a0o (hx16.sh ((hF4.trans hF5).trans hF6) [2, 3] (by decide) rfl) ?_
      refine a0v 12 rfl (by kernel_rfl) ?_
      refine a0p sz35 rfl hx16 rfl rfl rfl rfl (i := 0) rfl rfl rfl rfl ?_
      intro wx17 hx17
      refine a0o (hx17.sh ((hF4.trans hF5).trans hF6) [2, 3] (by decide) rfl) ?_
      refine d_tk 13 rfl (by kernel_rfl) rfl rfl rfl rfl (hx17.sh ((hF4.trans hF5).trans hF6) [2, 3] (by decide) rfl) (fun _ _ _ _ _ => a0b rfl rfl rfl (a0c (qq rfl))) ?_
      refine a2g (by kernel_rfl) ?_
      refine a0d (a1d (a0k ?_))
      refine a1v (vl := [.agg #[.int .i64 v5.Sign, .slice as5 ns5 cs5], .agg #[.int .i64 v6.Sign, .slice as6 ns6 cs6], .int .i64 0]) rfl ⟨a2p ag35 sz35 rfl hx17 rfl (i := 1) rfl, a2p ag35 sz35 rfl hx17 rfl (i := 0) rfl, a1z rfl, trivial⟩ (by simp) ?_
      obtain rfl := Option.some.inj hm
      exact ⟨_, _, _, rfl, hx17.pick [] (by decide) rfl, as5, ns5, cs5, as6, ns6, cs6, rfl, rfl, (hs5.mono hF6), hs6⟩
     ·refine a0t 42 rfl hb5 ?_
      refine a0s rfl (a1e (a0d (a0f ?_)))
      refine a1w (SH Fx3 [.box b3 35 [.int .i64 b1.Sign, .slice as2 ns2 cs2], .box b2 35 [.int .i64 ax1.Sign, .slice as1 ns1 cs1]]) 14 rfl (by kernel_rfl) hx11 ?_
      intro wx18 hx18
      refine d_tk 0 rfl (by kernel_rfl) rfl rfl rfl rfl (hx18.sh (Frz.refl _) [3, 4] (by decide) rfl) (fun _ _ _ _ _ => a0e rfl rfl rfl (a0c (qq rfl))) ?_
      refine d_tk 4 rfl (by kernel_rfl) rfl rfl rfl rfl (hx18.sh (Frz.refl _) [3, 4] (by decide) rfl) (fun _ _ _ _ _ => a0h fa35_0 rfl rfl rfl (a0c (qq rfl))) ?_
      refine d_tk 5 rfl (by kernel_rfl) rfl rfl rfl rfl (hx18.sh (Frz.refl _) [3, 4] (by decide) rfl) (fun _ _ _ _ hq => a0r ag3 rfl rfl hq rfl (i := 0) rfl rfl (a0c (qq rfl))) ?_
      refine d_tk 6 rfl (by kernel_rfl) rfl rfl rfl rfl (hx18.sh (Frz.refl _) [3, 4] (by decide) rfl) (fun _ _ _ _ _ => a0h fa35_1 rfl rfl rfl (a0c (qq rfl))) ?_
      refine d_tk 7 rfl (by kernel_rfl) rfl rfl rfl rfl (hx18.sh (Frz.refl _) [3, 4] (by decide) rfl) (fun _ _ _ _ hq => a0r ag28 rfl rfl hq rfl (i := 0) rfl rfl (a0c (qq rfl))) ?_
      refine d_tk 8 rfl (by kernel_rfl) rfl rfl rfl rfl (hx18.sh (Frz.refl _) [3, 4] (by decide) rfl) (fun _ _ _ _ _ => a0e rfl rfl rfl (a0c (qq rfl))) ?_
      refine a0v 1 rfl (by kernel_rfl) ?_
      refine a1q (e := 3) (cs := [.int .i64 1]) (q := 1) rfl rfl hx18 rfl (fun _ => by kernel_rfl) rfl rfl ?_
      intro b6 wx19 hx19
      refine a0o (hx19.sh (Frz.refl _) [4, 5] (by decide) rfl) ?_
      refine a0v 2 rfl (by kernel_rfl) ?_
      obtain ⟨Fx7, hF7, hx20, hsx2⟩ := a1c hx19 (i := 1) rfl hs3
      obtain ⟨Fx8, hF8, hx21, hsx3⟩ := a1c hx20 (i := 0) rfl ((show RowN (Rp.int .i64) Fx3 1 [.int .i64 1] [1] from ⟨rfl, ⟨_, _, rfl, rfl, (rfl : RowR (Rp.int .i64) _ [] [])⟩⟩).mono hF7)
      obtain ⟨v7, hv5, hm⟩ := bind_some hm
      refine a0i ent133 rfl rfl rfl rfl hx21 (c0f _ _ _ _ hv5 hx21.sat (hsx2.mono hF8) hsx3) ?_
      rintro _ Fx9 _ wx20 hF9 hx22 ⟨as7, ns7, cs7, xss7, rfl, rfl, hs7⟩
      refine a0o (hx22.sh ((hF7.trans hF8).trans hF9) [3, 4] (by decide) rfl) ?_
      refine a0v 3 rfl (by kernel_rfl) ?_
      obtain ⟨Fx10, hF10, hx23, hsx4⟩ := a1c hx22 (i := 0) rfl hs7
      obtain ⟨v8, hv6, hm⟩ := bind_some hm
      refine a0i ent102 rfl rfl rfl rfl hx23 (a6g _ _ _ _ hv6 hx23.sat hsx4) ?_
      rintro _ Fx11 _ wx21 hF11 hx24 ⟨as8, ns8, cs8, rfl, rfl, hs8⟩
      refine a0o (hx24.sh ((((hF7.trans hF8).trans hF9).trans hF10).trans hF11) [2, 3] (by decide) rfl) ?_
      refine a0v 9 rfl (by kernel_rfl) ?_
      have hG1 := ((((((hF1.trans hF2).trans hF3).trans hF7).trans hF8).trans hF9).trans hF10).trans hF11
      have hG2 := (((hF7.trans hF8).trans hF9).trans hF10).trans hF11
      obtain ⟨v9, hv7, hm⟩ := bind_some hm
      refine a0i ent134 rfl rfl rfl rfl hx24 (b3r _ _ _ _ hv7 hx24.sat (hs2.mono hG1) (hs4.mono hG2)) ?_
      rintro _ Fx12 _ wx22 hF12 hx25 ⟨as9, ns9, cs9, xss9, rfl, rfl, hs9⟩
      refine a0o (hx25.sh (((((hF7.trans hF8).trans hF9).trans hF10).trans hF11).trans hF12) [3, 4] (by decide) rfl) ?_
      refine a0v 10 rfl (by kernel_rfl) ?_
      obtain ⟨Fx13, hF13, hx26, hsx5⟩ := a1c hx25 (i := 0) rfl hs9
      obtain ⟨v10, hv8, hm⟩ := bind_some hm
      refine a0i ent102 rfl rfl rfl rfl hx26 (a6g _ _ _ _ hv8 hx26.sat hsx5) ?_
      rintro _ Fx14 _ wx23 hF14 hx27 ⟨as10, ns10, cs10, rfl, rfl, hs10⟩
      refine a0o (hx27.sh (((((((hF7.trans hF8).trans hF9).trans hF10).trans hF11).trans hF12).trans hF13).trans hF14) [2, 3] (by decide) rfl) ?_
      refine a0v 11 rfl (by kernel_rfl) ?_
      refine a0p sz35 rfl hx27 rfl rfl rfl rfl (i := 1) rfl rfl rfl rfl ?_
      intro wx24 hx28
      refine a0o (hx28.sh (((((((hF7.trans hF8).trans hF9).trans hF10).trans hF11).trans hF12).trans hF13).trans hF14) [2, 3] (by decide) rfl) ?_
      refine a0v 12 rfl (by kernel_rfl) ?_
      refine a0p sz35 rfl hx28 rfl rfl rfl rfl (i := 0) rfl rfl rfl rfl ?_
      intro wx25 hx29
      refine a0o (hx29.sh (((((((hF7.trans hF8).trans hF9).trans hF10).trans hF11).trans hF12).trans hF13).trans hF14) [2, 3] (by decide) rfl) ?_
      refine d_tk 13 rfl (by kernel_rfl) rfl rfl rfl rfl (hx29.sh (((((((hF7.trans hF8).trans hF9).trans hF10).trans hF11).trans hF12).trans hF13).trans hF14) [2, 3] (by decide) rfl) (fun _ _ _ _ _ => a0b rfl rfl rfl (a0c (qq rfl))) ?_
      refine a2g (by kernel_rfl) ?_
      refine a0d (a1d ?_)
      refine a1v (vl := [.agg #[.int .i64 v8.Sign, .slice as8 ns8 cs8], .agg #[.int .i64 v10.Sign, .slice as10 ns10 cs10], .int .i64 0]) rfl ⟨a2p ag35 sz35 rfl hx29 rfl (i := 1) rfl, a2p ag35 sz35 rfl hx29 rfl (i := 0) rfl, a1z rfl, trivial⟩ (by simp) ?_
      obtain rfl := Option.some.inj hm
      exact ⟨_, _, _, rfl, hx29.pick [] (by decide) rfl, as8, ns8, cs8, as10, ns10, cs10, rfl, rfl, (((hs8.mono hF12).mono hF13).mono hF14), hs10⟩
    ·clear hm
     rcases a0g hb4 with ⟨hb6, hb4⟩ | ⟨hb6, hb4⟩
     ·refine a1j 38 rfl hb6 ?_
      refine a0z rfl (by decide) rfl (a0z rfl (by decide) rfl (a0z rfl (by decide) rfl (a0q rfl rfl rfl rfl (a0c ?_))))
      refine a0n (fun a ha => ?_)
      cases hb4
      exact ⟨rfl, ha.cut (l := [2, 3, 4, 5, 7, 8, 42]) rfl⟩
     ·refine a1j 38 rfl hb6 ?_
      refine a0e rfl rfl rfl ?_
      refine a1u hs4.len u28 rfl rfl rfl ?_
      refine a0u rfl rfl rfl rfl rfl ?_
      refine a0m rfl rfl rfl rfl (a0c ?_)
      refine a0n (fun a ha => ?_)
      cases hb4
      exact ⟨rfl, ha.cut (l := [2, 3, 4, 5, 7, 8, 42]) rfl⟩
 ·clear hm
  rcases a0g hb1 with ⟨hb7, hb1⟩ | ⟨hb7, hb1⟩
  ·refine a1j 12 rfl hb7 ?_
   refine a0z rfl (by decide) rfl (a0z rfl (by decide) rfl (a0z rfl (by decide) rfl (a0q rfl rfl rfl rfl (a0c ?_))))
   refine a0n (fun a ha => ?_)
   cases hb1
   exact ⟨_, Frz.refl _, hx5.pick [0, 1, 2, 3] (by decide) rfl, ha.cut (l := [2, 3, 4, 5, 16]) rfl⟩
  ·refine a1j 12 rfl hb7 ?_
   refine a0l ag35 sz35 rfl rfl hx5 rfl (i := 2) rfl rfl ?_
   obtain ⟨v11, hv9, hb1⟩ := bind_some hb1
   refine a0i ent98 rfl rfl rfl rfl hx5 (a5u _ _ _ hv9 hx5.sat (hs2.mono hF1)) ?_
   rintro _ Fx15 _ wx26 hF15 hx30 ⟨rfl, rfl⟩
   refine a4g rfl rfl rfl (a0m rfl rfl rfl rfl (a0c ?_))
   refine a0n (fun a ha => ?_)
   cases hb1
   exact ⟨_, hF15, hx30.pick [0, 1, 2, 3] (by decide) rfl, ha.cut (l := [2, 3, 4, 5, 16]) rfl⟩
def a5q (n : Nat) (kont1 : (List Int) → Option (Big × Int)) : Nat → (List Int) → (List Int) → Option (Big × Int)
 | 0, _, _ => none
 | mx1 + 1, x1, y1 =>
  bif decide (0 < (y1.length : Int)) then
   (a7l n x1 y1).bind fun v4 =>
   a5q n kont1 mx1 y1 v4.2
  else
   kont1 x1
theorem b8k (n : Nat) (kont1 : (List Int) → Option (Big × Int)) (mx1 : Nat) (x1 : (List Int)) (y1 : (List Int)) : a5q n kont1 (mx1 + 1) x1 y1 =
  bif decide (0 < (y1.length : Int)) then
   (a7l n x1 y1).bind fun v4 =>
   a5q n kont1 mx1 y1 v4.2
  else
   kont1 x1 := rfl
def b1n (n : Nat) (ax1 : Big) (b1 : Big) : Option (Big × Int) :=
 (a4i n ax1).bind fun v1 =>
 (bif !v1 then
  some true
 else
  (a4i n b1).bind fun v5 =>
  some (!v5)).bind fun v2 =>
 bif v2 then
  some ((⟨0, []⟩ : Big), 1)
 else
  a5q n (fun (x2 : (List Int)) =>
   (a3j n 1 x2).bind fun v3 =>
   some (v3, 0)) n ax1.Digits b1.Digits
set_option maxHeartbeats 1000000 in
set_option maxRecDepth 1000000 in
theorem c1k (n : Nat) (ax1 : Big) (b1 : Big) (r : (Big × Int)) (hm : b1n n ax1 b1 = some r) {w : World} {F : Frz} (hs : Sat F w) {as1 : Option Addr} {ns1 : Nat} {cs1 : Nat} {as2 : Option Addr} {ns2 : Nat} {cs2 : Nat} (hs1 : SlR (Rp.int .i64) F as1 ns1 cs1 ax1.Digits) (hs2 : SlR (Rp.int .i64) F as2 ns2 cs2 b1.Digits) :
  Calls Tryz.prog 100 #[.agg #[.int .i64 ax1.Sign, .slice as1 ns1 cs1], .agg #[.int .i64 b1.Sign, .slice as2 ns2 cs2]] w fun e w' => ∃ v F' O', e = .returned v ∧ HS F w [] F' O' w' ∧ (∃ (a0_1 : Option Addr) (n0_1 : Nat) (c0_1 : Nat), v = .tuple #[.agg #[.int .i64 r.1.Sign, .slice a0_1 n0_1 c0_1], .int .i64 r.2] ∧ O' = [] ∧ SlR (Rp.int .i64) F' a0_1 n0_1 c0_1 r.1.Digits) := by
 unfold b1n at hm
 have h := HS.init hs
 refine a1a 36 Tryz.func100 rfl rfl rfl ?_
 refine a0f (a0a ?_)
 refine a2t rfl rfl rfl rfl h ?_
 intro b2 wx1 hx1
 refine a2t rfl rfl rfl rfl hx1 ?_
 intro b3 wx2 hx2
 refine a1b ze35 rfl rfl rfl hx2 ?_
 intro b4 wx3 hx3
 refine a0b rfl rfl rfl (a0c (a0d (a0f (a0f (a0a ?_)))))
 refine a0l ag35 sz35 rfl rfl hx3 rfl (i := 2) rfl rfl ?_
 obtain ⟨v1, hv1, hm⟩ := bind_some hm
 refine a0i ent98 rfl rfl rfl rfl hx3 (a5u _ _ _ hv1 hx3.sat hs1) ?_
 rintro _ Fx1 _ wx4 hF1 hx4 ⟨rfl, rfl⟩
 refine a4g rfl rfl rfl (a0e rfl rfl rfl ?_)
 obtain ⟨v2, hb1, hm⟩ := bind_some hm
 refine a2r 4 (fun a w' => ∃ (Fx2 : Frz), Frz.le Fx1 Fx2 ∧ HS F w [] Fx2 [.box b4 35 [.int .i64 0, .slice none 0 0], .box b3 35 [.int .i64 b1.Sign, .slice as2 ns2 cs2], .box b2 35 [.int .i64 ax1.Sign, .slice as1 ns1 cs1]] w' ∧ Has 36 a [(2, .pointer (some ⟨b2, 0, none⟩)), (3, .pointer (some ⟨b3, 0, none⟩)), (4, .pointer (some ⟨b4, 0, none⟩)), (17, .bool v2)]) ?_ ?_
 ·rintro a wx5 ⟨Fx2, hF2, hx5, hax1⟩
  refine a1f hax1 ?_
  refine a0c (a0d ?_)
  rcases a0g hm with ⟨hb2, hm⟩ | ⟨hb2, hm⟩
  ·refine a0t 17 rfl hb2 ?_
   refine a0y rfl (a0f (a0a ?_))
   refine a2b (v := .agg #[.int .i64 0, .slice none 0 0]) rfl rfl rfl (fun _ => by kernel_rfl) ?_
   refine a0p sz35 rfl hx5 rfl rfl rfl rfl (i := 0) rfl rfl rfl rfl ?_
   intro wx6 hx6
   refine a0b rfl rfl rfl (a0c (a0d (a1d (a0k ?_))))
   refine a1v (vl := [.agg #[.int .i64 0, .slice none 0 0], .int .i64 1]) rfl ⟨a2p ag35 sz35 rfl hx6 rfl (i := 0) rfl, a1z rfl, trivial⟩ (by simp) ?_
   obtain rfl := Option.some.inj hm
   exact ⟨_, _, _, rfl, hx6.pick [] (by decide) rfl, none, 0, 0, rfl, rfl, SlR.nil _ _⟩
  ·refine a0t 17 rfl hb2 ?_
   refine a0s rfl (a1e (a0d (a0f (a0a ?_))))
   refine a0h fa35_1 rfl rfl rfl ?_
   refine a0r ag28 rfl rfl hx5 rfl (i := 2) rfl rfl ?_
   refine a0b rfl rfl rfl (a0c (a0d (a0f (a0a ?_))))
   refine a0h fa35_1 rfl rfl rfl ?_
   refine a0r ag28 rfl rfl hx5 rfl (i := 1) rfl rfl ?_
   refine a0b rfl rfl rfl (a0c (a0d (a0f (a1g ?_))))
   intro a hax4
   obtain ⟨kont1, hkont1⟩ : ∃ kont1 : (List Int) → Option (Big × Int), kont1 = (fun (x2 : (List Int)) =>
       (a3j n 1 x2).bind fun v3 =>
       some (v3, 0)) := ⟨_, rfl⟩
   replace hm : (fun m (s : (List Int) × (List Int)) => a5q n kont1 m s.1 s.2) n (ax1.Digits, b1.Digits) = some r := by rw [hkont1]; exact hm
   refine a5w (id := 0) (fun m (s : (List Int) × (List Int)) => a5q n kont1 m s.1 s.2) (fun (y : (List Int)) => kont1 y) r (fun (s : (List Int) × (List Int)) a w' => ∃ (Fx3 : Frz) (as3 : Option Addr) (ns3 : Nat) (cs3 : Nat) (as4 : Option Addr) (ns4 : Nat) (cs4 : Nat), Frz.le Fx2 Fx3 ∧ HS F w [] Fx3 [.box b4 35 [.int .i64 0, .slice none 0 0]] w' ∧ (SlR (Rp.int .i64) Fx3 as3 ns3 cs3 s.1) ∧ (SlR (Rp.int .i64) Fx3 as4 ns4 cs4 s.2) ∧ Has 36 a [(4, .pointer (some ⟨b4, 0, none⟩)), (6, .slice as3 ns3 cs3), (7, .slice as4 ns4 cs4)]) (fun (y : (List Int)) a w' => ∃ (Fx4 : Frz) (as5 : Option Addr) (ns5 : Nat) (cs5 : Nat), Frz.le Fx2 Fx4 ∧ HS F w [] Fx4 [.box b4 35 [.int .i64 0, .slice none 0 0]] w' ∧ (SlR (Rp.int .i64) Fx4 as5 ns5 cs5 y) ∧ Has 36 a [(4, .pointer (some ⟨b4, 0, none⟩)), (6, .slice as5 ns5 cs5)]) (fun _ => rfl) ?_ ?_ hm ⟨_, as1, ns1, cs1, as2, ns2, cs2, Frz.refl _, hx5.pick [0] (by decide) rfl, ((hs1.mono hF1).mono hF2), ((hs2.mono hF1).mono hF2), hax4.cut (l := [4, 6, 7]) rfl⟩
   ·clear hm; rintro x2 a wx7 hm ⟨Fx4, as5, ns5, cs5, hF4, hx8, hs5, hax2⟩
    rw [hkont1] at hm
    replace hm := hm
    refine a2f (e := .exit 0) hax2 ?_
    refine a1k (a0d (a0f (a0a (a0e rfl rfl rfl ?_))))
    obtain ⟨v3, hv2, hm⟩ := bind_some hm
    refine a0i ent102 rfl rfl rfl rfl hx8 (a6g _ _ _ _ hv2 hx8.sat hs5) ?_
    rintro _ Fx5 _ wx8 hF5 hx9 ⟨as6, ns6, cs6, rfl, rfl, hs6⟩
    refine a0p sz35 rfl hx9 rfl rfl rfl rfl (i := 0) rfl rfl rfl rfl ?_
    intro wx9 hx10
    refine a0b rfl rfl rfl (a0c (a0d (a1d ?_)))
    refine a1v (vl := [.agg #[.int .i64 v3.Sign, .slice as6 ns6 cs6], .int .i64 0]) rfl ⟨a2p ag35 sz35 rfl hx10 rfl (i := 0) rfl, a1z rfl, trivial⟩ (by simp) ?_
    obtain rfl := Option.some.inj hm
    exact ⟨_, _, _, rfl, hx10.pick [] (by decide) rfl, as6, ns6, cs6, rfl, rfl, hs6⟩
   ·clear hm hkont1; intro hk1 mx1 K ihx1
    rintro ⟨x1, y1⟩ a wx10 hm ⟨Fx3, as3, ns3, cs3, as4, ns4, cs4, hF3, hx7, hs3, hs4, hax3⟩
    simp only [b8k] at hm
    refine a1i hax3 ?_
    refine a0f (a0f (a0a (a0e rfl rfl rfl ?_)))
    refine a1u hs4.len u28 rfl rfl rfl ?_
    refine a0u rfl rfl rfl rfl rfl ?_
    refine a0c (a0d ?_)
    rcases a0g hm with ⟨hb3, hm⟩ | ⟨hb3, hm⟩
    ·refine a0t 25 rfl hb3 ?_
     refine a0y rfl (a1e (a0d (a1g (a0f (a0a (a0e rfl rfl rfl (a0e rfl rfl rfl ?_)))))))
     obtain ⟨v4, hv3, hm⟩ := bind_some hm
     refine a0i ent132 rfl rfl rfl rfl hx7 (b4u _ _ _ _ hv3 hx7.sat hs3 hs4) ?_
     rintro _ Fx6 _ wx11 hF6 hx11 ⟨as7, ns7, cs7, xss7, as8, ns8, cs8, rfl, rfl, hs7, hs8⟩
     refine a0e rfl rfl rfl (a0j rfl rfl rfl rfl (a0j rfl rfl rfl rfl (a0b rfl rfl rfl (a0b rfl rfl rfl (a0c (a0d (a0f (a0a (a0e rfl rfl rfl (a0b rfl rfl rfl (a0c (a0d (a0a (a0e rfl rfl rfl (a0b rfl rfl rfl (a0c (a1m ?_)))))))))))))))))
     refine a0n (fun a ha => ihx1 (y1, v4.2) a _ hm ?_)
     exact ⟨_, as4, ns4, cs4, as8, ns8, cs8, (hF3.trans hF6), hx11.pick [1] (by decide) rfl, (hs4.mono hF6), hs8, ha.cut (l := [4, 6, 7]) rfl⟩
    ·refine a0t 25 rfl hb3 ?_
     refine a0s rfl (a3u (a0w (a0w ?_)))
     refine fun a ha => hk1 x1 a _ hm ?_
     exact ⟨_, as3, ns3, cs3, hF3, hx7.pick [0] (by decide) rfl, hs3, ha.cut (l := [4, 6]) rfl⟩
 ·clear hm
  rcases a0g hb1 with ⟨hb4, hb1⟩ | ⟨hb4, hb1⟩
  ·refine a1j 13 rfl hb4 ?_
   refine a0z rfl (by decide) rfl (a0z rfl (by decide) rfl (a0z rfl (by decide) rfl (a0q rfl rfl rfl rfl (a0c ?_))))
   refine a0n (fun a ha => ?_)
   cases hb1
   exact ⟨_, Frz.refl _, hx4.pick [0, 1, 2] (by decide) rfl, ha.cut (l := [2, 3, 4, 17]) rfl⟩
  ·refine a1j 13 rfl hb4 ?_
   refine a0l ag35 sz35 rfl rfl hx4 rfl (i := 1) rfl rfl ?_
   obtain ⟨v5, hv4, hb1⟩ := bind_some hb1
   refine a0i ent98 rfl rfl rfl rfl hx4 (a5u _ _ _ hv4 hx4.sat (hs2.mono hF1)) ?_
   rintro _ Fx7 _ wx12 hF7 hx12 ⟨rfl, rfl⟩
   refine a4g rfl rfl rfl (a0m rfl rfl rfl rfl (a0c ?_))
   refine a0n (fun a ha => ?_)
   cases hb1
   exact ⟨_, hF7, hx12.pick [0, 1, 2] (by decide) rfl, ha.cut (l := [2, 3, 4, 17]) rfl⟩
end Go.Proofs.YtknpjecpcmajiaaGreat.M

namespace Go.Proofs.YtknpjecpcmajiaaGreat.M
open Go Go.RowKit Rt
theorem ent100 : Ent Tryz.prog 100 := fun _ _ => by kernel_rfl
theorem ent59 : Ent Tryz.prog 59 := fun _ _ => by kernel_rfl
theorem ent101 : Ent Tryz.prog 101 := fun _ _ => by kernel_rfl
def b2m (n : Nat) (p1 : Big) (q1 : Big) : Option (Frac × Int) :=
 (a4i n p1).bind fun v1 =>
 (bif !v1 then
  some true
 else
  (a4i n q1).bind fun v8 =>
  some (!v8)).bind fun v2 =>
 bif v2 then
  some ((⟨(⟨0, []⟩ : Big), (⟨0, []⟩ : Big)⟩ : Frac), 1)
 else
  bif q1.Sign == 0 then
   some ((⟨(⟨0, []⟩ : Big), (⟨0, []⟩ : Big)⟩ : Frac), 14)
  else
   (bif decide (q1.Sign < 0) then
    (b1i n p1).bind fun v6 =>
    (b1i n q1).bind fun v7 =>
    some (v7.Sign, v7.Digits, v6.Sign, v6.Digits)
   else
    some (q1.Sign, q1.Digits, p1.Sign, p1.Digits)).bind fun (f1, f2, f3, f4) =>
   (b1n n (⟨f3, f4⟩ : Big) (⟨f1, f2⟩ : Big)).bind fun v3 =>
   (a9u n (⟨f3, f4⟩ : Big) v3.1).bind fun v4 =>
   (a9u n (⟨f1, f2⟩ : Big) v3.1).bind fun v5 =>
   some ((⟨v4.1, v5.1⟩ : Frac), 0)
set_option maxHeartbeats 1000000 in
set_option maxRecDepth 1000000 in
theorem c0t (n : Nat) (p1 : Big) (q1 : Big) (r : (Frac × Int)) (hm : b2m n p1 q1 = some r) {w : World} {F : Frz} (hs : Sat F w) {as1 : Option Addr} {ns1 : Nat} {cs1 : Nat} {as2 : Option Addr} {ns2 : Nat} {cs2 : Nat} (hs1 : SlR (Rp.int .i64) F as1 ns1 cs1 p1.Digits) (hs2 : SlR (Rp.int .i64) F as2 ns2 cs2 q1.Digits) :
  Calls Tryz.prog 58 #[.agg #[.int .i64 p1.Sign, .slice as1 ns1 cs1], .agg #[.int .i64 q1.Sign, .slice as2 ns2 cs2]] w fun e w' => ∃ v F' O', e = .returned v ∧ HS F w [] F' O' w' ∧ (∃ (a0_1 : Option Addr) (n0_1 : Nat) (c0_1 : Nat) (a0_3 : Option Addr) (n0_3 : Nat) (c0_3 : Nat), v = .tuple #[.agg #[.int .i64 r.1.P.Sign, .slice a0_1 n0_1 c0_1, .int .i64 r.1.Q.Sign, .slice a0_3 n0_3 c0_3], .int .i64 r.2] ∧ O' = [] ∧ SlR (Rp.int .i64) F' a0_1 n0_1 c0_1 r.1.P.Digits ∧ SlR (Rp.int .i64) F' a0_3 n0_3 c0_3 r.1.Q.Digits) := by
 unfold b2m at hm
 have h := HS.init hs
 refine a1a 57 Tryz.func58 rfl rfl rfl ?_
 refine a0f (a0a ?_)
 refine a2t rfl rfl rfl rfl h ?_
 intro b1 wx1 hx1
 refine a2t rfl rfl rfl rfl hx1 ?_
 intro b2 wx2 hx2
 refine a1b ze37 rfl rfl rfl hx2 ?_
 intro b3 wx3 hx3
 refine a0b rfl rfl rfl (a0c (a0d (a0f (a0f (a0a ?_)))))
 refine a0l ag35 sz35 rfl rfl hx3 rfl (i := 2) rfl rfl ?_
 obtain ⟨v1, hv1, hm⟩ := bind_some hm
 refine a0i ent98 rfl rfl rfl rfl hx3 (a5u _ _ _ hv1 hx3.sat hs1) ?_
 rintro _ Fx1 _ wx4 hF1 hx4 ⟨rfl, rfl⟩
 refine a4g rfl rfl rfl (a0e rfl rfl rfl ?_)
 obtain ⟨v2, hb1, hm⟩ := bind_some hm
 refine a2r 4 (fun a w' => ∃ (Fx2 : Frz), Frz.le Fx1 Fx2 ∧ HS F w [] Fx2 [.box b3 37 [.int .i64 0, .slice none 0 0, .int .i64 0, .slice none 0 0], .box b2 35 [.int .i64 q1.Sign, .slice as2 ns2 cs2], .box b1 35 [.int .i64 p1.Sign, .slice as1 ns1 cs1]] w' ∧ Has 57 a [(2, .pointer (some ⟨b1, 0, none⟩)), (3, .pointer (some ⟨b2, 0, none⟩)), (4, .pointer (some ⟨b3, 0, none⟩)), (21, .bool v2)]) ?_ ?_
 ·rintro a wx5 ⟨Fx2, hF2, hx5, hax1⟩
  refine a1f hax1 ?_
  refine a0c (a0d ?_)
  rcases a0g hm with ⟨hb2, hm⟩ | ⟨hb2, hm⟩
  ·refine a0t 21 rfl hb2 ?_
   refine a0y rfl (a0f (a0a ?_))
   refine a2b (v := .agg #[.int .i64 0, .slice none 0 0, .int .i64 0, .slice none 0 0]) rfl rfl rfl (fun _ => by kernel_rfl) ?_
   refine a0p sz37 rfl hx5 rfl rfl rfl rfl (i := 0) rfl rfl rfl rfl ?_
   intro wx6 hx6
   refine a0b rfl rfl rfl (a0c (a0d (a1d (a0k ?_))))
   refine a1v (vl := [.agg #[.int .i64 0, .slice none 0 0, .int .i64 0, .slice none 0 0], .int .i64 1]) rfl ⟨a2p ag37 sz37 rfl hx6 rfl (i := 0) rfl, a1z rfl, trivial⟩ (by simp) ?_
   obtain rfl := Option.some.inj hm
   exact ⟨_, _, _, rfl, hx6.pick [] (by decide) rfl, none, 0, 0, none, 0, 0, rfl, rfl, SlR.nil _ _, SlR.nil _ _⟩
  ·refine a0t 21 rfl hb2 ?_
   refine a0s rfl (a1e (a0d (a0f (a0f (a0a ?_)))))
   refine a0h fa35_0 rfl rfl rfl ?_
   refine a0r ag3 rfl rfl hx5 rfl (i := 1) rfl rfl ?_
   refine a0u rfl rfl rfl rfl rfl ?_
   refine a0c (a0d ?_)
   rcases a0g hm with ⟨hb3, hm⟩ | ⟨hb3, hm⟩
   ·refine a0t 25 rfl hb3 ?_
    refine a0y rfl (a0f (a0a ?_))
    refine a2b (v := .agg #[.int .i64 0, .slice none 0 0, .int .i64 0, .slice none 0 0]) rfl rfl rfl (fun _ => by kernel_rfl) ?_
    refine a0p sz37 rfl hx5 rfl rfl rfl rfl (i := 0) rfl rfl rfl rfl ?_
    intro wx7 hx7
    refine a0b rfl rfl rfl (a0c (a0d (a1d (a0k ?_))))
    refine a1v (vl := [.agg #[.int .i64 0, .slice none 0 0, .int .i64 0, .slice none 0 0], .int .i64 14]) rfl ⟨a2p ag37 sz37 rfl hx7 rfl (i := 0) rfl, a1z rfl, trivial⟩ (by simp) ?_
    obtain rfl := Option.some.inj hm
    exact ⟨_, _, _, rfl, hx7.pick [] (by decide) rfl, none, 0, 0, none, 0, 0, rfl, rfl, SlR.nil _ _, SlR.nil _ _⟩
   ·refine a0t 25 rfl hb3 ?_
    refine a0s rfl (a1e (a0d (a0f (a0f (a0a ?_)))))
    refine a0h fa35_0 rfl rfl rfl ?_
    refine a0r ag3 rfl rfl hx5 rfl (i := 1) rfl rfl ?_
    refine a0u rfl rfl rfl rfl rfl ?_
    refine a0c (a0d ?_)
    obtain ⟨⟨f1, f2, f3, f4⟩, hb4, hm⟩ := bind_some hm
    refine a8f (fun a w' => ∃ (Fx3 : Frz) (as3 : Option Addr) (ns3 : Nat) (cs3 : Nat) (as4 : Option Addr) (ns4 : Nat) (cs4 : Nat), Frz.le Fx2 Fx3 ∧ HS F w [] Fx3 [.box b3 37 [.int .i64 0, .slice none 0 0, .int .i64 0, .slice none 0 0], .box b2 35 [.int .i64 f1, .slice as3 ns3 cs3], .box b1 35 [.int .i64 f3, .slice as4 ns4 cs4]] w' ∧ (SlR (Rp.int .i64) Fx3 as3 ns3 cs3 f2) ∧ (SlR (Rp.int .i64) Fx3 as4 ns4 cs4 f4) ∧ Has 57 a [(2, .pointer (some ⟨b1, 0, none⟩)), (3, .pointer (some ⟨b2, 0, none⟩)), (4, .pointer (some ⟨b3, 0, none⟩))]) ?_ ?_
    ·rintro a wx8 ⟨Fx3, as3, ns3, cs3, as4, ns4, cs4, hF3, hx8, hs3, hs4, hax2⟩
     refine a1i hax2 ?_
     refine a0f (a0a ?_)
     refine a0l ag35 sz35 rfl rfl hx8 rfl (i := 2) rfl rfl ?_
     refine a0l ag35 sz35 rfl rfl hx8 rfl (i := 1) rfl rfl ?_
     obtain ⟨v3, hv2, hm⟩ := bind_some hm
     refine a0i ent100 rfl rfl rfl rfl hx8 (c1k _ _ _ _ hv2 hx8.sat hs4 hs3) ?_
     rintro _ Fx4 _ wx9 hF4 hx9 ⟨as5, ns5, cs5, rfl, rfl, hs5⟩
     refine a0e rfl rfl rfl (a0j rfl rfl rfl rfl (a0j rfl rfl rfl rfl ?_))
     refine a1b ze35 rfl rfl rfl hx9 ?_
     intro b4 wx10 hx10
     refine a0p sz35 rfl hx10 rfl rfl rfl rfl (i := 0) rfl rfl rfl rfl ?_
     intro wx11 hx11
     refine a0b rfl rfl rfl (a0c (a0d (a0f (a0a ?_))))
     refine a0l ag35 sz35 rfl rfl hx11 rfl (i := 3) rfl rfl ?_
     refine a0l ag35 sz35 rfl rfl hx11 rfl (i := 0) rfl rfl ?_
     obtain ⟨v4, hv3, hm⟩ := bind_some hm
     refine a0i ent101 rfl rfl rfl rfl hx11 (b5o _ _ _ _ hv3 hx11.sat (hs4.mono hF4) hs5) ?_
     rintro _ Fx5 _ wx12 hF5 hx12 ⟨as6, ns6, cs6, as7, ns7, cs7, rfl, rfl, hs6, hs7⟩
     refine a0e rfl rfl rfl (a0j rfl rfl rfl rfl (a0j rfl rfl rfl rfl (a0j rfl rfl rfl rfl ?_)))
     refine a1b ze35 rfl rfl rfl hx12 ?_
     intro b5 wx13 hx13
     refine a1b ze35 rfl rfl rfl hx13 ?_
     intro b6 wx14 hx14
     refine a0p sz35 rfl hx14 rfl rfl rfl rfl (i := 1) rfl rfl rfl rfl ?_
     intro wx15 hx15
     refine a0p sz35 rfl hx15 rfl rfl rfl rfl (i := 0) rfl rfl rfl rfl ?_
     intro wx16 hx16
     refine a0b rfl rfl rfl (a0c (a0d (a0f (a0a ?_))))
     refine a0l ag35 sz35 rfl rfl hx16 rfl (i := 4) rfl rfl ?_
     refine a0l ag35 sz35 rfl rfl hx16 rfl (i := 2) rfl rfl ?_
     obtain ⟨v5, hv4, hm⟩ := bind_some hm
     refine a0i ent101 rfl rfl rfl rfl hx16 (b5o _ _ _ _ hv4 hx16.sat ((hs3.mono hF4).mono hF5) (hs5.mono hF5)) ?_
     rintro _ Fx6 _ wx17 hF6 hx17 ⟨as8, ns8, cs8, as9, ns9, cs9, rfl, rfl, hs8, hs9⟩
     refine a0e rfl rfl rfl (a0j rfl rfl rfl rfl (a0j rfl rfl rfl rfl (a0j rfl rfl rfl rfl ?_)))
     refine a1b ze35 rfl rfl rfl hx17 ?_
     intro b7 wx18 hx18
     refine a1b ze35 rfl rfl rfl hx18 ?_
     intro b8 wx19 hx19
     refine a0p sz35 rfl hx19 rfl rfl rfl rfl (i := 1) rfl rfl rfl rfl ?_
     intro wx20 hx20
     refine a0p sz35 rfl hx20 rfl rfl rfl rfl (i := 0) rfl rfl rfl rfl ?_
     intro wx21 hx21
     refine a0b rfl rfl rfl (a0c (a0d (a0f (a0a ?_))))
     refine a0l ag35 sz35 rfl rfl hx21 rfl (i := 3) rfl rfl ?_
     refine a0l ag35 sz35 rfl rfl hx21 rfl (i := 1) rfl rfl ?_
     refine a2b (v := .agg #[.int .i64 v4.1.Sign, .slice as6 ns6 cs6, .int .i64 v5.1.Sign, .slice as8 ns8 cs8]) rfl rfl rfl (fun _ => by kernel_rfl) ?_
     refine a0p sz37 rfl hx21 rfl rfl rfl rfl (i := 5) rfl rfl rfl rfl ?_
     intro wx22 hx22
     refine a0b rfl rfl rfl (a0c (a0d (a1d ?_)))
     refine a1v (vl := [.agg #[.int .i64 v4.1.Sign, .slice as6 ns6 cs6, .int .i64 v5.1.Sign, .slice as8 ns8 cs8], .int .i64 0]) rfl ⟨a2p ag37 sz37 rfl hx22 rfl (i := 5) rfl, a1z rfl, trivial⟩ (by simp) ?_
     obtain rfl := Option.some.inj hm
     exact ⟨_, _, _, rfl, hx22.pick [] (by decide) rfl, as6, ns6, cs6, as8, ns8, cs8, rfl, rfl, (hs6.mono hF6), hs8⟩
    ·clear hm
     rcases a0g hb4 with ⟨hb5, hb4⟩ | ⟨hb5, hb4⟩
     ·refine a0t 29 rfl hb5 ?_
      refine a0y rfl (a0f (a0a ?_))
      refine a0l ag35 sz35 rfl rfl hx5 rfl (i := 2) rfl rfl ?_
      obtain ⟨v6, hv5, hb4⟩ := bind_some hb4
      refine a0i ent99 rfl rfl rfl rfl hx5 (b5t _ _ _ hv5 hx5.sat ((hs1.mono hF1).mono hF2)) ?_
      rintro _ Fx7 _ wx23 hF7 hx23 ⟨as10, ns10, cs10, rfl, rfl, hs10⟩
      refine a0p sz35 rfl hx23 rfl rfl rfl rfl (i := 2) rfl rfl rfl rfl ?_
      intro wx24 hx24
      refine a0c (a0d (a0a ?_))
      refine a0l ag35 sz35 rfl rfl hx24 rfl (i := 1) rfl rfl ?_
      obtain ⟨v7, hv6, hb4⟩ := bind_some hb4
      refine a0i ent99 rfl rfl rfl rfl hx24 (b5t _ _ _ hv6 hx24.sat (((hs2.mono hF1).mono hF2).mono hF7)) ?_
      rintro _ Fx8 _ wx25 hF8 hx25 ⟨as11, ns11, cs11, rfl, rfl, hs11⟩
      refine a0p sz35 rfl hx25 rfl rfl rfl rfl (i := 1) rfl rfl rfl rfl ?_
      intro wx26 hx26
      refine a0c ?_
      refine a0n (fun a ha => ?_)
      cases hb4
      exact ⟨_, as11, ns11, cs11, as10, ns10, cs10, (hF7.trans hF8), hx26.pick [0, 1, 2] (by decide) rfl, hs11, (hs10.mono hF8), ha.cut (l := [2, 3, 4]) rfl⟩
     ·refine a0t 29 rfl hb5 ?_
      refine a0s rfl (a1e ?_)
      refine a0n (fun a ha => ?_)
      cases hb4
      exact ⟨_, as2, ns2, cs2, as1, ns1, cs1, Frz.refl _, hx5.pick [0, 1, 2] (by decide) rfl, ((hs2.mono hF1).mono hF2), ((hs1.mono hF1).mono hF2), ha.cut (l := [2, 3, 4]) rfl⟩
 ·clear hm
  rcases a0g hb1 with ⟨hb6, hb1⟩ | ⟨hb6, hb1⟩
  ·refine a1j 17 rfl hb6 ?_
   refine a0z rfl (by decide) rfl (a0z rfl (by decide) rfl (a0z rfl (by decide) rfl (a0q rfl rfl rfl rfl (a0c ?_))))
   refine a0n (fun a ha => ?_)
   cases hb1
   exact ⟨_, Frz.refl _, hx4.pick [0, 1, 2] (by decide) rfl, ha.cut (l := [2, 3, 4, 21]) rfl⟩
  ·refine a1j 17 rfl hb6 ?_
   refine a0l ag35 sz35 rfl rfl hx4 rfl (i := 1) rfl rfl ?_
   obtain ⟨v8, hv7, hb1⟩ := bind_some hb1
   refine a0i ent98 rfl rfl rfl rfl hx4 (a5u _ _ _ hv7 hx4.sat (hs2.mono hF1)) ?_
   rintro _ Fx9 _ wx27 hF9 hx27 ⟨rfl, rfl⟩
   refine a4g rfl rfl rfl (a0m rfl rfl rfl rfl (a0c ?_))
   refine a0n (fun a ha => ?_)
   cases hb1
   exact ⟨_, hF9, hx27.pick [0, 1, 2] (by decide) rfl, ha.cut (l := [2, 3, 4, 21]) rfl⟩
theorem ent58 : Ent Tryz.prog 58 := fun _ _ => by kernel_rfl
def b2e (n : Nat) (p1 : Int) (q1 : Int) : Option (Frac × Int) :=
 (b1p n p1).bind fun v1 =>
 (b1p n q1).bind fun v2 =>
 (b2m n v1 v2).bind fun v3 =>
 some (v3.1, v3.2)
set_option maxHeartbeats 1000000 in
set_option maxRecDepth 1000000 in
theorem b4m (n : Nat) (p1 : Int) (q1 : Int) (r : (Frac × Int)) (hm : b2e n p1 q1 = some r) {w : World} {F : Frz} (hs : Sat F w)  :
  Calls Tryz.prog 26 #[.int .i64 p1, .int .i64 q1] w fun e w' => ∃ v F' O', e = .returned v ∧ HS F w [] F' O' w' ∧ (∃ (a0_1 : Option Addr) (n0_1 : Nat) (c0_1 : Nat) (a0_3 : Option Addr) (n0_3 : Nat) (c0_3 : Nat), v = .tuple #[.agg #[.int .i64 r.1.P.Sign, .slice a0_1 n0_1 c0_1, .int .i64 r.1.Q.Sign, .slice a0_3 n0_3 c0_3], .int .i64 r.2] ∧ O' = [] ∧ SlR (Rp.int .i64) F' a0_1 n0_1 c0_1 r.1.P.Digits ∧ SlR (Rp.int .i64) F' a0_3 n0_3 c0_3 r.1.Q.Digits) := by
 unfold b2e at hm
 have h := HS.init hs
 refine a1a 13 Tryz.func26 rfl rfl rfl ?_
 refine a0f (a0a ?_)
 refine a1b ze37 rfl rfl rfl h ?_
 intro b1 wx1 hx1
 refine a0b rfl rfl rfl (a0c (a0d (a0f (a0a (a0e rfl rfl rfl ?_)))))
 obtain ⟨v1, hv1, hm⟩ := bind_some hm
 refine a0i ent59 rfl rfl rfl rfl hx1 (b7y _ _ _ hv1 hx1.sat) ?_
 rintro _ Fx1 _ wx2 hF1 hx2 ⟨as1, ns1, cs1, rfl, rfl, hs1⟩
 refine a0e rfl rfl rfl ?_
 obtain ⟨v2, hv2, hm⟩ := bind_some hm
 refine a0i ent59 rfl rfl rfl rfl hx2 (b7y _ _ _ hv2 hx2.sat) ?_
 rintro _ Fx2 _ wx3 hF2 hx3 ⟨as2, ns2, cs2, rfl, rfl, hs2⟩
 obtain ⟨v3, hv3, hm⟩ := bind_some hm
 refine a0i ent58 rfl rfl rfl rfl hx3 (c0t _ _ _ _ hv3 hx3.sat (hs1.mono hF2) hs2) ?_
 rintro _ Fx3 _ wx4 hF3 hx4 ⟨as3, ns3, cs3, as4, ns4, cs4, rfl, rfl, hs3, hs4⟩
 refine a0j rfl rfl rfl rfl (a0j rfl rfl rfl rfl ?_)
 refine a0p sz37 rfl hx4 rfl rfl rfl rfl (i := 0) rfl rfl rfl rfl ?_
 intro wx5 hx5
 refine a0b rfl rfl rfl (a0c (a0d (a1d ?_)))
 refine a1v (vl := [.agg #[.int .i64 v3.1.P.Sign, .slice as3 ns3 cs3, .int .i64 v3.1.Q.Sign, .slice as4 ns4 cs4], .int .i64 v3.2]) rfl ⟨a2p ag37 sz37 rfl hx5 rfl (i := 0) rfl, a1z rfl, trivial⟩ (by simp) ?_
 obtain rfl := Option.some.inj hm
 exact ⟨_, _, _, rfl, hx5.pick [] (by decide) rfl, as3, ns3, cs3, as4, ns4, cs4, rfl, rfl, hs3, hs4⟩
theorem ent26 : Ent Tryz.prog 26 := fun _ _ => by kernel_rfl
def a3x (n : Nat) (nx1 : Int) : Option Frac :=
 (b2e n nx1 1).bind fun v1 =>
 some v1.1
set_option maxHeartbeats 1000000 in
set_option maxRecDepth 1000000 in
theorem a6a (n : Nat) (nx1 : Int) (r : Frac) (hm : a3x n nx1 = some r) {w : World} {F : Frz} (hs : Sat F w)  :
  Calls Tryz.prog 17 #[.int .i64 nx1] w fun e w' => ∃ v F' O', e = .returned v ∧ HS F w [] F' O' w' ∧ (∃ (a0_1 : Option Addr) (n0_1 : Nat) (c0_1 : Nat) (a0_3 : Option Addr) (n0_3 : Nat) (c0_3 : Nat), v = .agg #[.int .i64 r.P.Sign, .slice a0_1 n0_1 c0_1, .int .i64 r.Q.Sign, .slice a0_3 n0_3 c0_3] ∧ O' = [] ∧ SlR (Rp.int .i64) F' a0_1 n0_1 c0_1 r.P.Digits ∧ SlR (Rp.int .i64) F' a0_3 n0_3 c0_3 r.Q.Digits) := by
 unfold a3x at hm
 have h := HS.init hs
 refine a1a 11 Tryz.func17 rfl rfl rfl ?_
 refine a0f (a0a ?_)
 refine a1b ze37 rfl rfl rfl h ?_
 intro b1 wx1 hx1
 refine a0c (a0d (a0f (a0a (a0e rfl rfl rfl ?_))))
 obtain ⟨v1, hv1, hm⟩ := bind_some hm
 refine a0i ent26 rfl rfl rfl rfl hx1 (b4m _ _ _ _ hv1 hx1.sat) ?_
 rintro _ Fx1 _ wx2 hF1 hx2 ⟨as1, ns1, cs1, as2, ns2, cs2, rfl, rfl, hs1, hs2⟩
 refine a0e rfl rfl rfl (a0j rfl rfl rfl rfl (a0j rfl rfl rfl rfl ?_))
 refine a1b ze37 rfl rfl rfl hx2 ?_
 intro b2 wx3 hx3
 refine a0p sz37 rfl hx3 rfl rfl rfl rfl (i := 0) rfl rfl rfl rfl ?_
 intro wx4 hx4
 refine a0b rfl rfl rfl (a0c (a0d (a0f (a0a ?_))))
 refine a0l ag37 sz37 rfl rfl hx4 rfl (i := 0) rfl rfl ?_
 refine a0p sz37 rfl hx4 rfl rfl rfl rfl (i := 1) rfl rfl rfl rfl ?_
 intro wx5 hx5
 refine a0c (a0d (a1d ?_))
 refine a3r rfl ag37 sz37 rfl hx5 rfl (i := 1) rfl ?_
 obtain rfl := Option.some.inj hm
 exact ⟨_, _, _, rfl, hx5.pick [] (by decide) rfl, as1, ns1, cs1, as2, ns2, cs2, rfl, rfl, hs1, hs2⟩
end Go.Proofs.YtknpjecpcmajiaaGreat.M

namespace Go.Proofs.YtknpjecpcmajiaaGreat.M
open Go Go.RowKit Rt
def b5p (_n : Nat) (nx1 : Int) (high1 : Int) : Option Bool :=
 (bif decide (0 ≤ nx1) then
  some (decide (nx1 ≤ high1))
 else
  some false).bind fun v1 =>
 some v1
set_option maxHeartbeats 1000000 in
set_option maxRecDepth 1000000 in
theorem b8b (n : Nat) (nx1 : Int) (high1 : Int) (r : Bool) (hm : b5p n nx1 high1 = some r) {w : World}  :
  Calls Tryz.prog 63 #[.int .i64 nx1, .int .i64 high1] w fun e w' => e = .returned (.bool r) ∧ w' = w := by
 unfold b5p at hm
 refine a1a 12 Tryz.func63 rfl rfl rfl ?_
 refine a0f (a0a (a0b rfl rfl rfl (a0c (a0d (a0f (a0a (a0e rfl rfl rfl ?_)))))))
 refine a0u rfl rfl rfl rfl rfl ?_
 refine a0e rfl rfl rfl ?_
 obtain ⟨v1, hb1, hm⟩ := bind_some hm
 refine a2r 4 (fun a w' => w = w' ∧ Has 12 a [(11, .bool v1)]) ?_ ?_
 ·rintro a wx1 ⟨rfl, hax1⟩
  refine a1f hax1 ?_
  refine a0b rfl rfl rfl (a0c (a0d (a1d ?_)))
  refine a1l rfl rfl ?_
  obtain rfl := Option.some.inj hm
  exact ⟨rfl, rfl⟩
 ·clear hm
  rcases a0g hb1 with ⟨hb2, hb1⟩ | ⟨hb2, hb1⟩
  ·refine a1j 7 rfl hb2 ?_
   refine a0e rfl rfl rfl (a0e rfl rfl rfl ?_)
   refine a0u rfl rfl rfl rfl rfl ?_
   refine a0q rfl rfl rfl rfl (a0c ?_)
   refine a0n (fun a ha => ?_)
   cases hb1
   exact ⟨rfl, ha.cut (l := [11]) rfl⟩
  ·refine a1j 7 rfl hb2 ?_
   refine a0z rfl (by decide) rfl (a0z rfl (by decide) rfl (a0z rfl (by decide) rfl (a0m rfl rfl rfl rfl (a0c ?_))))
   refine a0n (fun a ha => ?_)
   cases hb1
   exact ⟨rfl, ha.cut (l := [11]) rfl⟩
theorem ent63 : Ent Tryz.prog 63 := fun _ _ => by kernel_rfl
def a7x (n : Nat) (k1 : Int) : Option Bool :=
 (b5p n k1 200).bind fun v1 =>
 some (!v1)
set_option maxHeartbeats 1000000 in
set_option maxRecDepth 1000000 in
theorem b8n (n : Nat) (k1 : Int) (r : Bool) (hm : a7x n k1 = some r) {w : World}  :
  Calls Tryz.prog 62 #[.int .i64 k1] w fun e w' => e = .returned (.bool r) ∧ w' = w := by
 unfold a7x at hm
 refine a1a 6 Tryz.func62 rfl rfl rfl ?_
 refine a0f (a0a (a0b rfl rfl rfl (a0c (a0d (a0f (a0a (a0e rfl rfl rfl ?_)))))))
 obtain ⟨v1, hv1, hm⟩ := bind_some hm
 refine a3m ent63 rfl rfl rfl rfl (b8b _ _ _ _ hv1) ?_
 refine a4g rfl rfl rfl (a0b rfl rfl rfl (a0c (a0d (a1d ?_))))
 refine a1l rfl rfl ?_
 obtain rfl := Option.some.inj hm
 exact ⟨rfl, rfl⟩
theorem ent15 : Ent Tryz.prog 15 := fun _ _ => by kernel_rfl
def a8a (n : Nat) (wx1 : Frac) : Option Bool :=
 (a2z n wx1).bind fun v1 =>
 (bif !v1 then
  some true
 else
  (b1l n wx1).bind fun v3 =>
  some (decide (v3 < 0))).bind fun v2 =>
 some v2
set_option maxHeartbeats 1000000 in
set_option maxRecDepth 1000000 in
theorem b8p (n : Nat) (wx1 : Frac) (r : Bool) (hm : a8a n wx1 = some r) {w : World} {F : Frz} (hs : Sat F w) {as1 : Option Addr} {ns1 : Nat} {cs1 : Nat} {as2 : Option Addr} {ns2 : Nat} {cs2 : Nat} (hs1 : SlR (Rp.int .i64) F as1 ns1 cs1 wx1.P.Digits) (hs2 : SlR (Rp.int .i64) F as2 ns2 cs2 wx1.Q.Digits) :
  Calls Tryz.prog 64 #[.agg #[.int .i64 wx1.P.Sign, .slice as1 ns1 cs1, .int .i64 wx1.Q.Sign, .slice as2 ns2 cs2]] w fun e w' => ∃ v F' O', e = .returned v ∧ HS F w [] F' O' w' ∧ (v = .bool r ∧ O' = []) := by
 unfold a8a at hm
 have h := HS.init hs
 refine a1a 11 Tryz.func64 rfl rfl rfl ?_
 refine a0f (a0a ?_)
 refine a2t rfl rfl rfl rfl h ?_
 intro b1 wx2 hx1
 refine a0b rfl rfl rfl (a0c (a0d (a0f (a0a ?_))))
 refine a0l ag37 sz37 rfl rfl hx1 rfl (i := 0) rfl rfl ?_
 obtain ⟨v1, hv1, hm⟩ := bind_some hm
 refine a0i ent14 rfl rfl rfl rfl hx1 (a2u _ _ _ hv1 hx1.sat hs1 hs2) ?_
 rintro _ Fx1 _ wx3 hF1 hx2 ⟨rfl, rfl⟩
 refine a4g rfl rfl rfl (a0e rfl rfl rfl ?_)
 obtain ⟨v2, hb1, hm⟩ := bind_some hm
 refine a2r 4 (fun a w' => ∃ (Fx2 : Frz), Frz.le Fx1 Fx2 ∧ HS F w [] Fx2 [.box b1 37 [.int .i64 wx1.P.Sign, .slice as1 ns1 cs1, .int .i64 wx1.Q.Sign, .slice as2 ns2 cs2]] w' ∧ Has 11 a [(10, .bool v2)]) ?_ ?_
 ·rintro a wx4 ⟨Fx2, hF2, hx3, hax1⟩
  refine a1f hax1 ?_
  refine a0b rfl rfl rfl (a0c (a0d (a1d ?_)))
  refine a1l rfl rfl ?_
  obtain rfl := Option.some.inj hm
  exact ⟨_, _, _, rfl, hx3.pick [] (by decide) rfl, rfl, rfl⟩
 ·clear hm
  rcases a0g hb1 with ⟨hb2, hb1⟩ | ⟨hb2, hb1⟩
  ·refine a1j 6 rfl hb2 ?_
   refine a0z rfl (by decide) rfl (a0z rfl (by decide) rfl (a0z rfl (by decide) rfl (a0q rfl rfl rfl rfl (a0c ?_))))
   refine a0n (fun a ha => ?_)
   cases hb1
   exact ⟨_, Frz.refl _, hx2.pick [0] (by decide) rfl, ha.cut (l := [10]) rfl⟩
  ·refine a1j 6 rfl hb2 ?_
   refine a0l ag37 sz37 rfl rfl hx2 rfl (i := 0) rfl rfl ?_
   obtain ⟨v3, hv2, hb1⟩ := bind_some hb1
   refine a0i ent15 rfl rfl rfl rfl hx2 (b5u _ _ _ hv2 hx2.sat (hs1.mono hF1) (hs2.mono hF1)) ?_
   rintro _ Fx3 _ wx5 hF3 hx4 ⟨rfl, rfl⟩
   refine a0u rfl rfl rfl rfl rfl ?_
   refine a0m rfl rfl rfl rfl (a0c ?_)
   refine a0n (fun a ha => ?_)
   cases hb1
   exact ⟨_, hF3, hx4.pick [0] (by decide) rfl, ha.cut (l := [10]) rfl⟩
theorem u31 : Tryz.prog.underlying 31 = some (.slice 37) := by kernel_rfl
def a1o (n : Nat) (s1 : (List Frac)) (f1 : (Frac → Option Bool)) (kont1 : Option Int) : Nat → Int → Option Int
 | 0, _ => none
 | mx1 + 1, i1 =>
  bif decide (i1 < (s1.length : Int)) then
   (ix s1 i1).bind fun ex1 =>
   (f1 ex1).bind fun v1 =>
   bif v1 then
    some i1
   else
    a1o n s1 f1 kont1 mx1 (iadd .i64 i1 1)
  else
   kont1
theorem a2q (n : Nat) (s1 : (List Frac)) (f1 : (Frac → Option Bool)) (kont1 : Option Int) (mx1 : Nat) (i1 : Int) : a1o n s1 f1 kont1 (mx1 + 1) i1 =
  bif decide (i1 < (s1.length : Int)) then
   (ix s1 i1).bind fun ex1 =>
   (f1 ex1).bind fun v1 =>
   bif v1 then
    some i1
   else
    a1o n s1 f1 kont1 mx1 (iadd .i64 i1 1)
  else
   kont1 := rfl
def a3e (n : Nat) (s1 : (List Frac)) (f1 : (Frac → Option Bool)) : Option Int :=
 a1o n s1 f1 (
  some (-1)) n 0
set_option maxHeartbeats 1000000 in
set_option maxRecDepth 1000000 in
theorem a7t (n : Nat) (s1 : (List Frac)) (f1 : (Frac → Option Bool)) (r : Int) (hm : a3e n s1 f1 = some r) {w : World} {F : Frz} (hs : Sat F w) {as2 : Option Addr} {ns2 : Nat} {cs2 : Nat} {fvf1 : Value} (hs2 : SlR rp_Frac F as2 ns2 cs2 s1) (hpff1 : GFn Tryz.prog F fvf1 (fun F l v => ∃ (q0 : Frac) (a0_0 : Option Addr) (n0_0 : Nat) (c0_0 : Nat) (a0_1 : Option Addr) (n0_1 : Nat) (c0_1 : Nat) (b : Bool), l = [.agg #[.int .i64 q0.P.Sign, .slice a0_0 n0_0 c0_0, .int .i64 q0.Q.Sign, .slice a0_1 n0_1 c0_1]] ∧ SlR (Rp.int .i64) F a0_0 n0_0 c0_0 q0.P.Digits ∧ SlR (Rp.int .i64) F a0_1 n0_1 c0_1 q0.Q.Digits ∧ v = some (.bool b) ∧ f1 q0 = some b)) :
  Calls Tryz.prog 104 #[.slice as2 ns2 cs2, fvf1] w fun e w' => ∃ v F' O', e = .returned v ∧ HS F w [] F' O' w' ∧ (v = .int .i64 r ∧ O' = []) := by
 unfold a3e at hm
 have h := HS.init hs
 refine a1a 19 Tryz.func104 rfl rfl rfl ?_
 refine a0f (a0a (a0b rfl rfl rfl (a0c (a0d (a0f (a0f (a0a (a0e rfl rfl rfl ?_))))))))
 refine a1u hs2.len u31 rfl rfl rfl ?_
 refine a0e rfl rfl rfl (a0c (a0d (a1g ?_)))
 intro a hax3
 obtain ⟨kont1, hkont1⟩ : ∃ kont1 : Option Int, kont1 = (
       some (-1)) := ⟨_, rfl⟩
 replace hm : (fun m (s : Int) => a1o n s1 f1 kont1 m s) n 0 = some r := by rw [hkont1]; exact hm
 refine a5w (id := 0) (fun m (s : Int) => a1o n s1 f1 kont1 m s) (fun (y : Unit) => kont1) r (fun (s : Int) a w' => ∃ (Fx1 : Frz), Frz.le F Fx1 ∧ HS F w [] Fx1 [] w' ∧ Has 19 a [(0, .slice as2 ns2 cs2), (1, fvf1), (7, .int .i64 (s1.length : Int)), (8, .int .i64 s)]) (fun (y : Unit) a w' => ∃ (Fx2 : Frz), Frz.le F Fx2 ∧ HS F w [] Fx2 [] w' ∧ Has 19 a []) (fun _ => rfl) ?_ ?_ hm ⟨_, Frz.refl _, h.pick [] (by decide) rfl, hax3.cut (l := [0, 1, 7, 8]) rfl⟩
 ·clear hm; rintro _u a wx1 hm ⟨Fx2, hF2, hx2, hax1⟩
  rw [hkont1] at hm
  refine a2f (e := .exit 0) hax1 ?_
  refine a1k (a0d (a0f (a0a (a0b rfl rfl rfl (a0c (a0d (a1d ?_)))))))
  refine a1l rfl rfl ?_
  obtain rfl := Option.some.inj hm
  exact ⟨_, _, _, rfl, hx2.pick [] (by decide) rfl, rfl, rfl⟩
 ·clear hm hkont1; intro hk1 mx1 K ihx1
  rintro i1 a wx2 hm ⟨Fx1, hF1, hx1, hax2⟩
  simp only [a2q] at hm
  refine a1i hax2 ?_
  refine a0f (a0a ?_)
  refine a0u rfl rfl rfl rfl rfl ?_
  refine a0c (a0d (a0f ?_))
  rcases a0g hm with ⟨hb1, hm⟩ | ⟨hb1, hm⟩
  ·refine a0t 9 rfl hb1 ?_
   refine a0y rfl (a1e (a0d (a0f (a1g (a0f (a0a (a0e rfl rfl rfl (a0b rfl rfl rfl (a0c (a0d (a0f (a0a (a0e rfl rfl rfl (a0e rfl rfl rfl (a0e rfl rfl rfl ?_)))))))))))))))
   obtain ⟨ex1, he1, hm⟩ := bind_some hm
   refine a2n (r := rp_Frac) u31 sz37 rfl rfl rfl rfl (hs2.mono hF1) he1 ?_
   intro b1 o1 cs1 hf1 hr1
   obtain ⟨as3, ns3, cs3, as4, ns4, cs4, hc1, hs3, hs4⟩ := hr1
   subst hc1
   refine a3s ag37 sz37 rfl rfl hx1 hf1 rfl rfl ?_
   obtain ⟨v1, hv1, hm⟩ := bind_some hm
   refine b9p (hpff1.mono hF1) rfl rfl rfl rfl hx1 ⟨_, _, _, _, _, _, _, _, rfl, hs3, hs4, rfl, hv1⟩ ?_
   intro Fx3 wx3 hF3 hx3
   refine a0c (a0d ?_)
   rcases a0g hm with ⟨hb2, hm⟩ | ⟨hb2, hm⟩
   ·refine a0t 16 rfl hb2 ?_
    refine a0y rfl (a0f (a0a (a0e rfl rfl rfl (a0b rfl rfl rfl (a0c (a0d (a1d (a0x (a0k (a0k (a0x (a0k ?_))))))))))))
    refine a1l rfl rfl ?_
    obtain rfl := Option.some.inj hm
    exact ⟨_, _, _, rfl, hx3.pick [] (by decide) rfl, rfl, rfl⟩
   ·refine a0t 16 rfl hb2 ?_
    refine a0s rfl (a1e (a1m (a0d (a0a ?_))))
    refine a0u rfl rfl rfl rfl rfl ?_
    refine a0e rfl rfl rfl (a0c ?_)
    refine a0n (fun a ha => ihx1 (iadd .i64 i1 1) a _ hm ?_)
    exact ⟨_, (hF1.trans hF3), hx3.pick [] (by decide) rfl, ha.cut (l := [0, 1, 7, 8]) rfl⟩
  ·refine a0t 9 rfl hb1 ?_
   refine a0s rfl (a3u (a0w (a0w ?_)))
   refine fun a ha => hk1 () a _ hm ?_
   exact ⟨_, hF1, hx1.pick [] (by decide) rfl, ha.cut (l := []) rfl⟩
theorem ent104 : Ent Tryz.prog 104 := fun _ _ => by kernel_rfl
def a2i (n : Nat) (s1 : (List Frac)) (f1 : (Frac → Option Bool)) : Option Bool :=
 (a3e n s1 f1).bind fun v1 =>
 some (decide (0 ≤ v1))
set_option maxHeartbeats 1000000 in
set_option maxRecDepth 1000000 in
theorem a6q (n : Nat) (s1 : (List Frac)) (f1 : (Frac → Option Bool)) (r : Bool) (hm : a2i n s1 f1 = some r) {w : World} {F : Frz} (hs : Sat F w) {as2 : Option Addr} {ns2 : Nat} {cs2 : Nat} {fvf1 : Value} (hs2 : SlR rp_Frac F as2 ns2 cs2 s1) (hpff1 : GFn Tryz.prog F fvf1 (fun F l v => ∃ (q0 : Frac) (a0_0 : Option Addr) (n0_0 : Nat) (c0_0 : Nat) (a0_1 : Option Addr) (n0_1 : Nat) (c0_1 : Nat) (b : Bool), l = [.agg #[.int .i64 q0.P.Sign, .slice a0_0 n0_0 c0_0, .int .i64 q0.Q.Sign, .slice a0_1 n0_1 c0_1]] ∧ SlR (Rp.int .i64) F a0_0 n0_0 c0_0 q0.P.Digits ∧ SlR (Rp.int .i64) F a0_1 n0_1 c0_1 q0.Q.Digits ∧ v = some (.bool b) ∧ f1 q0 = some b)) :
  Calls Tryz.prog 66 #[.slice as2 ns2 cs2, fvf1] w fun e w' => ∃ v F' O', e = .returned v ∧ HS F w [] F' O' w' ∧ (v = .bool r ∧ O' = []) := by
 unfold a2i at hm
 have h := HS.init hs
 refine a1a 9 Tryz.func66 rfl rfl rfl ?_
 refine a0f (a0a (a0b rfl rfl rfl (a0c (a0d (a0f (a0a (a0e rfl rfl rfl (a0e rfl rfl rfl ?_))))))))
 obtain ⟨v1, hv1, hm⟩ := bind_some hm
 refine a0i ent104 rfl rfl rfl rfl h (a7t _ _ _ _ hv1 h.sat hs2 hpff1) ?_
 rintro _ Fx1 _ wx1 hF1 hx1 ⟨rfl, rfl⟩
 refine a0u rfl rfl rfl rfl rfl ?_
 refine a0b rfl rfl rfl (a0c (a0d (a1d ?_)))
 refine a1l rfl rfl ?_
 obtain rfl := Option.some.inj hm
 exact ⟨_, _, _, rfl, hx1.pick [] (by decide) rfl, rfl, rfl⟩
structure Facts where
 Lifts : (List Int)
 Persons : Int
 Flats : Int
 deriving DecidableEq, Inhabited
def rp_Facts : Rp Facts where
 k := 3
 R := fun F cs x => ∃ (a0 : Option Addr) (n0 : Nat) (c0 : Nat), cs = [.slice a0 n0 c0, .int .i64 x.Persons, .int .i64 x.Flats] ∧ SlR (Rp.int .i64) F a0 n0 c0 x.Lifts
 len := by rintro F cs x ⟨a0, n0, c0, h, _⟩; simp [h]
 mono := by rintro F F' cs x hF ⟨a0, n0, c0, h, h0⟩; exact ⟨a0, n0, c0, h, h0.mono hF⟩
 one := by rintro F cs x ⟨a0, n0, c0, h, _⟩ u hu; subst h; simp at hu; rcases hu with rfl | rfl | rfl <;> rfl
theorem fa30_0 : a6n Tryz.prog 30 0 0 := fun _ _ _ => by kernel_rfl
theorem ent64 : Ent Tryz.prog 64 := fun _ _ => by kernel_rfl
theorem ent66 : Ent Tryz.prog 66 := fun _ _ => by kernel_rfl
theorem ent62 : Ent Tryz.prog 62 := fun _ _ => by kernel_rfl
theorem fa30_2 : a6n Tryz.prog 30 2 2 := fun _ _ _ => by kernel_rfl
theorem fa30_1 : a6n Tryz.prog 30 1 1 := fun _ _ _ => by kernel_rfl
def b2x (n : Nat) (f1 : Facts) (weights1 : (List Frac)) (nx1 : Int) : Option Bool :=
 (bif (f1.Lifts.length : Int) == nx1 then
  some ((weights1.length : Int) == nx1)
 else
  some false).bind fun v1 =>
 (bif v1 then
  (b5p n f1.Persons 1000).bind fun v9 =>
  some v9
 else
  some false).bind fun v2 =>
 (bif v2 then
  (b5p n f1.Flats 1000).bind fun v8 =>
  some v8
 else
  some false).bind fun v3 =>
 (bif v3 then
  (a2w n f1.Lifts (a7x n)).bind fun v7 =>
  some (!v7)
 else
  some false).bind fun v4 =>
 (bif v4 then
  (a2i n weights1 (a8a n)).bind fun v6 =>
  some (!v6)
 else
  some false).bind fun v5 =>
 some v5
set_option maxHeartbeats 1000000 in
set_option maxRecDepth 1000000 in
theorem c1q (n : Nat) (f1 : Facts) (weights1 : (List Frac)) (nx1 : Int) (r : Bool) (hm : b2x n f1 weights1 nx1 = some r) {w : World} {F : Frz} (hs : Sat F w) {as1 : Option Addr} {ns1 : Nat} {cs1 : Nat} {as2 : Option Addr} {ns2 : Nat} {cs2 : Nat} (hs1 : SlR (Rp.int .i64) F as1 ns1 cs1 f1.Lifts) (hs2 : SlR rp_Frac F as2 ns2 cs2 weights1) :
  Calls Tryz.prog 33 #[.agg #[.slice as1 ns1 cs1, .int .i64 f1.Persons, .int .i64 f1.Flats], .slice as2 ns2 cs2, .int .i64 nx1] w fun e w' => ∃ v F' O', e = .returned v ∧ HS F w [] F' O' w' ∧ (v = .bool r ∧ O' = []) := by
 unfold b2x at hm
 have h := HS.init hs
 refine a1a 43 Tryz.func33 rfl rfl rfl ?_
 refine a0f (a0a ?_)
 refine a2t rfl rfl rfl rfl h ?_
 intro b1 wx1 hx1
 refine a0b rfl rfl rfl (a0c (a0d (a0f (a0a (a0b rfl rfl rfl (a0c (a0d (a0f (a0a (a0b rfl rfl rfl (a0c (a0d (a0f (a0a ?_))))))))))))))
 refine a0h fa30_0 rfl rfl rfl ?_
 refine a0r ag28 rfl rfl hx1 rfl (i := 0) rfl rfl ?_
 refine a1u hs1.len u28 rfl rfl rfl ?_
 refine a0e rfl rfl rfl ?_
 refine a0u rfl rfl rfl rfl rfl ?_
 refine a0e rfl rfl rfl ?_
 obtain ⟨v1, hb1, hm⟩ := bind_some hm
 refine a2r 5 (fun a w' => wx1 = w' ∧ Has 43 a [(1, .slice as2 ns2 cs2), (3, .pointer (some ⟨b1, 0, none⟩)), (7, .func (.func 62) #[] #[]), (8, .func (.func 64) #[] #[]), (19, .bool v1)]) ?_ ?_
 ·rintro a wx2 ⟨rfl, hax1⟩
  refine a1f hax1 ?_
  refine a0e rfl rfl rfl ?_
  obtain ⟨v2, hb2, hm⟩ := bind_some hm
  refine a2r 4 (fun a w' => wx1 = w' ∧ Has 43 a [(1, .slice as2 ns2 cs2), (3, .pointer (some ⟨b1, 0, none⟩)), (7, .func (.func 62) #[] #[]), (8, .func (.func 64) #[] #[]), (24, .bool v2)]) ?_ ?_
  ·rintro a wx3 ⟨rfl, hax2⟩
   refine a1f hax2 ?_
   refine a0e rfl rfl rfl ?_
   obtain ⟨v3, hb3, hm⟩ := bind_some hm
   refine a2r 4 (fun a w' => wx1 = w' ∧ Has 43 a [(1, .slice as2 ns2 cs2), (3, .pointer (some ⟨b1, 0, none⟩)), (7, .func (.func 62) #[] #[]), (8, .func (.func 64) #[] #[]), (29, .bool v3)]) ?_ ?_
   ·rintro a wx4 ⟨rfl, hax3⟩
    refine a1f hax3 ?_
    refine a0e rfl rfl rfl ?_
    obtain ⟨v4, hb4, hm⟩ := bind_some hm
    refine a2r 6 (fun a w' => ∃ (Fx1 : Frz), Frz.le F Fx1 ∧ HS F w [] Fx1 [.box b1 30 [.slice as1 ns1 cs1, .int .i64 f1.Persons, .int .i64 f1.Flats]] w' ∧ Has 43 a [(1, .slice as2 ns2 cs2), (8, .func (.func 64) #[] #[]), (36, .bool v4)]) ?_ ?_
    ·rintro a wx5 ⟨Fx1, hF1, hx2, hax4⟩
     refine a1f hax4 ?_
     refine a0e rfl rfl rfl ?_
     obtain ⟨v5, hb5, hm⟩ := bind_some hm
     refine a2r 5 (fun a w' => ∃ (Fx2 : Frz), Frz.le Fx1 Fx2 ∧ HS F w [] Fx2 [.box b1 30 [.slice as1 ns1 cs1, .int .i64 f1.Persons, .int .i64 f1.Flats]] w' ∧ Has 43 a [(42, .bool v5)]) ?_ ?_
     ·rintro a wx6 ⟨Fx2, hF2, hx3, hax5⟩
      refine a1f hax5 ?_
      refine a0b rfl rfl rfl (a0c (a0d (a1d ?_)))
      refine a1l rfl rfl ?_
      obtain rfl := Option.some.inj hm
      exact ⟨_, _, _, rfl, hx3.pick [] (by decide) rfl, rfl, rfl⟩
     ·clear hm
      rcases a0g hb5 with ⟨hb6, hb5⟩ | ⟨hb6, hb5⟩
      ·refine a1j 37 rfl hb6 ?_
       refine a0e rfl rfl rfl (a0e rfl rfl rfl ?_)
       obtain ⟨v6, hv1, hb5⟩ := bind_some hb5
       refine a0i ent66 rfl rfl rfl rfl hx2 (a6q _ _ _ _ hv1 hx2.sat (hs2.mono hF1) (show GFn Tryz.prog _ (.func (.func 64) #[] #[]) (fun F l v => ∃ (q0 : Frac) (a0_0 : Option Addr) (n0_0 : Nat) (c0_0 : Nat) (a0_1 : Option Addr) (n0_1 : Nat) (c0_1 : Nat) (b : Bool), l = [.agg #[.int .i64 q0.P.Sign, .slice a0_0 n0_0 c0_0, .int .i64 q0.Q.Sign, .slice a0_1 n0_1 c0_1]] ∧ SlR (Rp.int .i64) F a0_0 n0_0 c0_0 q0.P.Digits ∧ SlR (Rp.int .i64) F a0_1 n0_1 c0_1 q0.Q.Digits ∧ v = some (.bool b) ∧ (a8a n) q0 = some b) from ⟨64, #[], rfl, ent64, fun F' hF' args r w hsat h => by
                               obtain ⟨q0, a0_0, n0_0, c0_0, a0_1, n0_1, c0_1, b, rfl, hs0_0, hs0_1, hv, hb⟩ := h
                               obtain rfl := Option.some.inj hv
                               exact (b8p n q0 _ hb hsat hs0_0 hs0_1).mono (by rintro _ _ ⟨v, F2, O', h1, h2, rfl, rfl⟩; exact ⟨_, F2, _, h1, h2, rfl, rfl⟩)⟩)) ?_
       rintro _ Fx3 _ wx7 hF3 hx4 ⟨rfl, rfl⟩
       refine a4g rfl rfl rfl (a0q rfl rfl rfl rfl (a0c ?_))
       refine a0n (fun a ha => ?_)
       cases hb5
       exact ⟨_, hF3, hx4.pick [0] (by decide) rfl, ha.cut (l := [42]) rfl⟩
      ·refine a1j 37 rfl hb6 ?_
       refine a0z rfl (by decide) rfl (a0z rfl (by decide) rfl (a0z rfl (by decide) rfl (a0z rfl (by decide) rfl (a0m rfl rfl rfl rfl (a0c ?_)))))
       refine a0n (fun a ha => ?_)
       cases hb5
       exact ⟨_, Frz.refl _, hx2.pick [0] (by decide) rfl, ha.cut (l := [42]) rfl⟩
    ·clear hm
     rcases a0g hb4 with ⟨hb7, hb4⟩ | ⟨hb7, hb4⟩
     ·refine a1j 30 rfl hb7 ?_
      refine a0h fa30_0 rfl rfl rfl ?_
      refine a0r ag28 rfl rfl hx1 rfl (i := 0) rfl rfl ?_
      refine a0e rfl rfl rfl ?_
      obtain ⟨v7, hv2, hb4⟩ := bind_some hb4
      refine a0i ent65 rfl rfl rfl rfl hx1 (a6b _ _ _ _ hv2 hx1.sat hs1 (show GFn Tryz.prog _ (.func (.func 62) #[] #[]) (fun _ l v => ∃ (q0 : Int) (b : Bool), l = [.int .i64 q0] ∧ v = some (.bool b) ∧ (a7x n) q0 = some b) from ⟨62, #[], rfl, ent62, fun F' hF' args r w hsat h => by
                               obtain ⟨q0, b, rfl, hv, hb⟩ := h
                               obtain rfl := Option.some.inj hv
                               exact (b8n n q0 _ hb).mono (by rintro _ _ ⟨rfl, rfl⟩; exact ⟨_, F', [], rfl, HS.init hsat, rfl, rfl⟩)⟩)) ?_
      rintro _ Fx4 _ wx8 hF4 hx5 ⟨rfl, rfl⟩
      refine a4g rfl rfl rfl (a0q rfl rfl rfl rfl (a0c ?_))
      refine a0n (fun a ha => ?_)
      cases hb4
      exact ⟨_, hF4, hx5.pick [0] (by decide) rfl, ha.cut (l := [1, 8, 36]) rfl⟩
     ·refine a1j 30 rfl hb7 ?_
      refine a0z rfl (by decide) rfl (a0z rfl (by decide) rfl (a0z rfl (by decide) rfl (a0z rfl (by decide) rfl (a0z rfl (by decide) rfl (a0m rfl rfl rfl rfl (a0c ?_))))))
      refine a0n (fun a ha => ?_)
      cases hb4
      exact ⟨_, Frz.refl _, hx1.pick [0] (by decide) rfl, ha.cut (l := [1, 8, 36]) rfl⟩
   ·clear hm
    rcases a0g hb3 with ⟨hb8, hb3⟩ | ⟨hb8, hb3⟩
    ·refine a1j 25 rfl hb8 ?_
     refine a0h fa30_2 rfl rfl rfl ?_
     refine a0r ag3 rfl rfl hx1 rfl (i := 0) rfl rfl ?_
     obtain ⟨v8, hv3, hb3⟩ := bind_some hb3
     refine a3m ent63 rfl rfl rfl rfl (b8b _ _ _ _ hv3) ?_
     refine a0q rfl rfl rfl rfl (a0c ?_)
     refine a0n (fun a ha => ?_)
     cases hb3
     exact ⟨rfl, ha.cut (l := [1, 3, 7, 8, 29]) rfl⟩
    ·refine a1j 25 rfl hb8 ?_
     refine a0z rfl (by decide) rfl (a0z rfl (by decide) rfl (a0z rfl (by decide) rfl (a0m rfl rfl rfl rfl (a0c ?_))))
     refine a0n (fun a ha => ?_)
     cases hb3
     exact ⟨rfl, ha.cut (l := [1, 3, 7, 8, 29]) rfl⟩
  ·clear hm
   rcases a0g hb2 with ⟨hb9, hb2⟩ | ⟨hb9, hb2⟩
   ·refine a1j 20 rfl hb9 ?_
    refine a0h fa30_1 rfl rfl rfl ?_
    refine a0r ag3 rfl rfl hx1 rfl (i := 0) rfl rfl ?_
    obtain ⟨v9, hv4, hb2⟩ := bind_some hb2
    refine a3m ent63 rfl rfl rfl rfl (b8b _ _ _ _ hv4) ?_
    refine a0q rfl rfl rfl rfl (a0c ?_)
    refine a0n (fun a ha => ?_)
    cases hb2
    exact ⟨rfl, ha.cut (l := [1, 3, 7, 8, 24]) rfl⟩
   ·refine a1j 20 rfl hb9 ?_
    refine a0z rfl (by decide) rfl (a0z rfl (by decide) rfl (a0z rfl (by decide) rfl (a0m rfl rfl rfl rfl (a0c ?_))))
    refine a0n (fun a ha => ?_)
    cases hb2
    exact ⟨rfl, ha.cut (l := [1, 3, 7, 8, 24]) rfl⟩
 ·clear hm
  rcases a0g hb1 with ⟨hb10, hb1⟩ | ⟨hb10, hb1⟩
  ·refine a1j 14 rfl hb10 ?_
   refine a0e rfl rfl rfl ?_
   refine a1u hs2.len u31 rfl rfl rfl ?_
   refine a0e rfl rfl rfl ?_
   refine a0u rfl rfl rfl rfl rfl ?_
   refine a0q rfl rfl rfl rfl (a0c ?_)
   refine a0n (fun a ha => ?_)
   cases hb1
   exact ⟨rfl, ha.cut (l := [1, 3, 7, 8, 19]) rfl⟩
  ·refine a1j 14 rfl hb10 ?_
   refine a0z rfl (by decide) rfl (a0z rfl (by decide) rfl (a0z rfl (by decide) rfl (a0z rfl (by decide) rfl (a0m rfl rfl rfl rfl (a0c ?_)))))
   refine a0n (fun a ha => ?_)
   cases hb1
   exact ⟨rfl, ha.cut (l := [1, 3, 7, 8, 19]) rfl⟩
theorem sz28 : a5f Tryz.prog 28 1 := fun _ => by kernel_rfl
def b3e (n : Nat) (f1 : Frac) : Option Frac :=
 ((a1s n f1.P.Digits).bind fun v1 =>
 (a1s n f1.Q.Digits).bind fun v2 =>
 some (v1, v2)).bind fun (f2, f3) =>
 some (⟨(⟨f1.P.Sign, f2⟩ : Big), (⟨f1.Q.Sign, f3⟩ : Big)⟩ : Frac)
set_option maxHeartbeats 1000000 in
set_option maxRecDepth 1000000 in
theorem c1i (n : Nat) (f1 : Frac) (r : Frac) (hm : b3e n f1 = some r) {w : World} {F : Frz} (hs : Sat F w) {as1 : Option Addr} {ns1 : Nat} {cs1 : Nat} {as2 : Option Addr} {ns2 : Nat} {cs2 : Nat} (hs1 : SlR (Rp.int .i64) F as1 ns1 cs1 f1.P.Digits) (hs2 : SlR (Rp.int .i64) F as2 ns2 cs2 f1.Q.Digits) :
  Calls Tryz.prog 34 #[.agg #[.int .i64 f1.P.Sign, .slice as1 ns1 cs1, .int .i64 f1.Q.Sign, .slice as2 ns2 cs2]] w fun e w' => ∃ v F' O', e = .returned v ∧ HS F w [] F' O' w' ∧ (∃ (a0_1 : Option Addr) (n0_1 : Nat) (c0_1 : Nat) (a0_3 : Option Addr) (n0_3 : Nat) (c0_3 : Nat), v = .agg #[.int .i64 r.P.Sign, .slice a0_1 n0_1 c0_1, .int .i64 r.Q.Sign, .slice a0_3 n0_3 c0_3] ∧ O' = [] ∧ SlR (Rp.int .i64) F' a0_1 n0_1 c0_1 r.P.Digits ∧ SlR (Rp.int .i64) F' a0_3 n0_3 c0_3 r.Q.Digits) := by
 unfold b3e at hm
 have h := HS.init hs
 refine a1a 16 Tryz.func34 rfl rfl rfl ?_
 refine a0f (a0a ?_)
 refine a2t rfl rfl rfl rfl h ?_
 intro b1 wx1 hx1
 refine a1b ze37 rfl rfl rfl hx1 ?_
 intro b2 wx2 hx2
 refine a0c (a0d ?_)
 obtain ⟨⟨f2, f3⟩, hb1, hm⟩ := bind_some hm
 refine c1n (fun a w' => ∃ (Fx1 : Frz) (as3 : Option Addr) (ns3 : Nat) (cs3 : Nat) (as4 : Option Addr) (ns4 : Nat) (cs4 : Nat), Frz.le F Fx1 ∧ HS F w [] Fx1 [.box b2 37 [.int .i64 0, .slice none 0 0, .int .i64 0, .slice none 0 0], .box b1 37 [.int .i64 f1.P.Sign, .slice as3 ns3 cs3, .int .i64 f1.Q.Sign, .slice as4 ns4 cs4]] w' ∧ (SlR (Rp.int .i64) Fx1 as3 ns3 cs3 f2) ∧ (SlR (Rp.int .i64) Fx1 as4 ns4 cs4 f3) ∧ Has 16 a [(1, .pointer (some ⟨b1, 0, none⟩)), (2, .pointer (some ⟨b2, 0, none⟩))]) ?_ ?_
 ·rintro a wx3 ⟨Fx1, as3, ns3, cs3, as4, ns4, cs4, hF1, hx3, hs3, hs4, hax1⟩
  refine a1i hax1 ?_
  refine a0f (a0a ?_)
  refine a0l ag37 sz37 rfl rfl hx3 rfl (i := 1) rfl rfl ?_
  refine a0p sz37 rfl hx3 rfl rfl rfl rfl (i := 0) rfl rfl rfl rfl ?_
  intro wx4 hx4
  refine a0c (a0d (a1d ?_))
  refine a3r rfl ag37 sz37 rfl hx4 rfl (i := 0) rfl ?_
  obtain rfl := Option.some.inj hm
  exact ⟨_, _, _, rfl, hx4.pick [] (by decide) rfl, as3, ns3, cs3, as4, ns4, cs4, rfl, rfl, hs3, hs4⟩
 ·clear hm
  refine a1w (SH F [.box b2 37 [.int .i64 0, .slice none 0 0, .int .i64 0, .slice none 0 0]]) 14 rfl (by kernel_rfl) hx2 ?_
  intro wx5 hx5
  refine d_tk 0 rfl (by kernel_rfl) rfl rfl rfl rfl (hx5.sh (Frz.refl _) [0] (by decide) rfl) (fun _ _ _ _ _ => a0h fa37_0 rfl rfl rfl (a0c (qq rfl))) ?_
  refine d_tk 1 rfl (by kernel_rfl) rfl rfl rfl rfl (hx5.sh (Frz.refl _) [0] (by decide) rfl) (fun _ _ _ _ _ => a0h fa35_1 rfl rfl rfl (a0c (qq rfl))) ?_
  refine d_tk 4 rfl (by kernel_rfl) rfl rfl rfl rfl (hx5.sh (Frz.refl _) [0] (by decide) rfl) (fun _ _ _ _ _ => a0h fa37_1 rfl rfl rfl (a0c (qq rfl))) ?_
  refine d_tk 5 rfl (by kernel_rfl) rfl rfl rfl rfl (hx5.sh (Frz.refl _) [0] (by decide) rfl) (fun _ _ _ _ _ => a0h fa35_1 rfl rfl rfl (a0c (qq rfl))) ?_
  refine a9g 2 6 rfl rfl (by kernel_rfl) ?_ ?_
  ·refine a0r ag28 rfl rfl hx5 rfl (i := 1) rfl rfl ?_
   refine a0o (hx5.sh (Frz.refl _) [0] (by decide) rfl) ?_
   refine a9g 3 6 rfl rfl (by kernel_rfl) ?_ ?_
   ·obtain ⟨v1, hv1, hb1⟩ := bind_some hb1
    refine a0i ent67 rfl rfl rfl rfl hx5 (a1x _ _ _ hv1 hx5.sat hs1) ?_
    rintro _ Fx2 _ wx6 hF2 hx6 ⟨as5, ns5, cs5, xss5, rfl, rfl, hs5⟩
    refine a0o (hx6.sh hF2 [1] (by decide) rfl) ?_
    refine a0v 6 rfl (by kernel_rfl) ?_
    refine a0r ag28 rfl rfl hx6 rfl (i := 2) rfl rfl ?_
    refine a0o (hx6.sh hF2 [1] (by decide) rfl) ?_
    refine d_tk 8 rfl (by kernel_rfl) rfl rfl rfl rfl (hx6.sh hF2 [1] (by decide) rfl) (fun _ _ _ _ _ => a0h fa37_0 rfl rfl rfl (a0c (qq rfl))) ?_
    refine d_tk 9 rfl (by kernel_rfl) rfl rfl rfl rfl (hx6.sh hF2 [1] (by decide) rfl) (fun _ _ _ _ _ => a0h fa35_1 rfl rfl rfl (a0c (qq rfl))) ?_
    refine a0v 7 rfl (by kernel_rfl) ?_
    obtain ⟨v2, hv2, hb1⟩ := bind_some hb1
    refine a0i ent67 rfl rfl rfl rfl hx6 (a1x _ _ _ hv2 hx6.sat (hs2.mono hF2)) ?_
    rintro _ Fx3 _ wx7 hF3 hx7 ⟨as6, ns6, cs6, xss6, rfl, rfl, hs6⟩
    refine a0o (hx7.sh (hF2.trans hF3) [2] (by decide) rfl) ?_
    refine a0v 10 rfl (by kernel_rfl) ?_
    refine a0p sz28 rfl hx7 rfl rfl rfl rfl (i := 3) rfl rfl rfl rfl ?_
    intro wx8 hx8
    refine a0o (hx8.sh (hF2.trans hF3) [2] (by decide) rfl) ?_
    refine d_tk 11 rfl (by kernel_rfl) rfl rfl rfl rfl (hx8.sh (hF2.trans hF3) [2] (by decide) rfl) (fun _ _ _ _ _ => a0h fa37_1 rfl rfl rfl (a0c (qq rfl))) ?_
    refine d_tk 12 rfl (by kernel_rfl) rfl rfl rfl rfl (hx8.sh (hF2.trans hF3) [2] (by decide) rfl) (fun _ _ _ _ _ => a0h fa35_1 rfl rfl rfl (a0c (qq rfl))) ?_
    refine a0v 13 rfl (by kernel_rfl) ?_
    refine a0p sz28 rfl hx8 rfl rfl rfl rfl (i := 3) rfl rfl rfl rfl ?_
    intro wx9 hx9
    refine a0o (hx9.sh (hF2.trans hF3) [2] (by decide) rfl) ?_
    refine a2g (by kernel_rfl) ?_
    obtain ⟨Fx4, hF4, hx10, hsx1⟩ := a1c hx9 (i := 1) rfl (hs5.mono hF3)
    obtain ⟨Fx5, hF5, hx11, hsx2⟩ := a1c hx10 (i := 0) rfl (hs6.mono hF4)
    refine a0n (fun a ha => ?_)
    cases hb1
    exact ⟨_, as5, ns5, cs5, as6, ns6, cs6, (((hF2.trans hF3).trans hF4).trans hF5), hx11.pick [0, 1] (by decide) rfl, (hsx1.mono hF5), hsx2, ha.cut (l := [1, 2]) rfl⟩
   ·refine a0r ag28 rfl rfl hx5 rfl (i := 1) rfl rfl ?_
    refine a0o (hx5.sh (Frz.refl _) [0] (by decide) rfl) ?_
    refine a0v 3 rfl (by kernel_rfl) ?_
    obtain ⟨v1, hv1, hb1⟩ := bind_some hb1
    refine a0i ent67 rfl rfl rfl rfl hx5 (a1x _ _ _ hv1 hx5.sat hs1) ?_
    rintro _ Fx2 _ wx6 hF2 hx6 ⟨as5, ns5, cs5, xss5, rfl, rfl, hs5⟩
    refine a0o (hx6.sh hF2 [1] (by decide) rfl) ?_
    refine d_tk 8 rfl (by kernel_rfl) rfl rfl rfl rfl (hx6.sh hF2 [1] (by decide) rfl) (fun _ _ _ _ _ => a0h fa37_0 rfl rfl rfl (a0c (qq rfl))) ?_
    refine d_tk 9 rfl (by kernel_rfl) rfl rfl rfl rfl (hx6.sh hF2 [1] (by decide) rfl) (fun _ _ _ _ _ => a0h fa35_1 rfl rfl rfl (a0c (qq rfl))) ?_
    refine a0v 7 rfl (by kernel_rfl) ?_
    obtain ⟨v2, hv2, hb1⟩ := bind_some hb1
    refine a0i ent67 rfl rfl rfl rfl hx6 (a1x _ _ _ hv2 hx6.sat (hs2.mono hF2)) ?_
    rintro _ Fx3 _ wx7 hF3 hx7 ⟨as6, ns6, cs6, xss6, rfl, rfl, hs6⟩
    refine a0o (hx7.sh (hF2.trans hF3) [2] (by decide) rfl) ?_
    refine a0v 10 rfl (by kernel_rfl) ?_
    refine a0p sz28 rfl hx7 rfl rfl rfl rfl (i := 3) rfl rfl rfl rfl ?_
    intro wx8 hx8
    refine a0o (hx8.sh (hF2.trans hF3) [2] (by decide) rfl) ?_
    refine d_tk 11 rfl (by kernel_rfl) rfl rfl rfl rfl (hx8.sh (hF2.trans hF3) [2] (by decide) rfl) (fun _ _ _ _ _ => a0h fa37_1 rfl rfl rfl (a0c (qq rfl))) ?_
    refine d_tk 12 rfl (by kernel_rfl) rfl rfl rfl rfl (hx8.sh (hF2.trans hF3) [2] (by decide) rfl) (fun _ _ _ _ _ => a0h fa35_1 rfl rfl rfl (a0c (qq rfl))) ?_
    refine a0v 13 rfl (by kernel_rfl) ?_
    refine a0p sz28 rfl hx8 rfl rfl rfl rfl (i := 3) rfl rfl rfl rfl ?_
    intro wx9 hx9
    refine a0o (hx9.sh (hF2.trans hF3) [2] (by decide) rfl) ?_
    refine a2g (by kernel_rfl) ?_
    obtain ⟨Fx4, hF4, hx10, hsx1⟩ := a1c hx9 (i := 1) rfl (hs5.mono hF3)
    obtain ⟨Fx5, hF5, hx11, hsx2⟩ := a1c hx10 (i := 0) rfl (hs6.mono hF4)
    refine a0n (fun a ha => ?_)
    cases hb1
    exact ⟨_, as5, ns5, cs5, as6, ns6, cs6, (((hF2.trans hF3).trans hF4).trans hF5), hx11.pick [0, 1] (by decide) rfl, (hsx1.mono hF5), hsx2, ha.cut (l := [1, 2]) rfl⟩
  ·refine a0r ag28 rfl rfl hx5 rfl (i := 1) rfl rfl ?_
   refine a0o (hx5.sh (Frz.refl _) [0] (by decide) rfl) ?_
   refine a0v 2 rfl (by kernel_rfl) ?_
   refine a0r ag28 rfl rfl hx5 rfl (i := 1) rfl rfl ?_
   refine a0o (hx5.sh (Frz.refl _) [0] (by decide) rfl) ?_
   refine a0v 3 rfl (by kernel_rfl) ?_
   obtain ⟨v1, hv1, hb1⟩ := bind_some hb1
   refine a0i ent67 rfl rfl rfl rfl hx5 (a1x _ _ _ hv1 hx5.sat hs1) ?_
   rintro _ Fx2 _ wx6 hF2 hx6 ⟨as5, ns5, cs5, xss5, rfl, rfl, hs5⟩
   refine a0o (hx6.sh hF2 [1] (by decide) rfl) ?_
   refine d_tk 8 rfl (by kernel_rfl) rfl rfl rfl rfl (hx6.sh hF2 [1] (by decide) rfl) (fun _ _ _ _ _ => a0h fa37_0 rfl rfl rfl (a0c (qq rfl))) ?_
   refine d_tk 9 rfl (by kernel_rfl) rfl rfl rfl rfl (hx6.sh hF2 [1] (by decide) rfl) (fun _ _ _ _ _ => a0h fa35_1 rfl rfl rfl (a0c (qq rfl))) ?_
   refine a0v 7 rfl (by kernel_rfl) ?_
   obtain ⟨v2, hv2, hb1⟩ := bind_some hb1
   refine a0i ent67 rfl rfl rfl rfl hx6 (a1x _ _ _ hv2 hx6.sat (hs2.mono hF2)) ?_
   rintro _ Fx3 _ wx7 hF3 hx7 ⟨as6, ns6, cs6, xss6, rfl, rfl, hs6⟩
   refine a0o (hx7.sh (hF2.trans hF3) [2] (by decide) rfl) ?_
   refine a0v 10 rfl (by kernel_rfl) ?_
   refine a0p sz28 rfl hx7 rfl rfl rfl rfl (i := 3) rfl rfl rfl rfl ?_
   intro wx8 hx8
   refine a0o (hx8.sh (hF2.trans hF3) [2] (by decide) rfl) ?_
   refine d_tk 11 rfl (by kernel_rfl) rfl rfl rfl rfl (hx8.sh (hF2.trans hF3) [2] (by decide) rfl) (fun _ _ _ _ _ => a0h fa37_1 rfl rfl rfl (a0c (qq rfl))) ?_
   refine d_tk 12 rfl (by kernel_rfl) rfl rfl rfl rfl (hx8.sh (hF2.trans hF3) [2] (by decide) rfl) (fun _ _ _ _ _ => a0h fa35_1 rfl rfl rfl (a0c (qq rfl))) ?_
   refine a0v 13 rfl (by kernel_rfl) ?_
   refine a0p sz28 rfl hx8 rfl rfl rfl rfl (i := 3) rfl rfl rfl rfl ?_
   intro wx9 hx9
   refine a0o (hx9.sh (hF2.trans hF3) [2] (by decide) rfl) ?_
   refine a2g (by kernel_rfl) ?_
   obtain ⟨Fx4, hF4, hx10, hsx1⟩ := a1c hx9 (i := 1) rfl (hs5.mono hF3)
   obtain ⟨Fx5, hF5, hx11, hsx2⟩ := a1c hx10 (i := 0) rfl (hs6.mono hF4)
   refine a0n (fun a ha => ?_)
   cases hb1
   exact ⟨_, as5, ns5, cs5, as6, ns6, cs6, (((hF2.trans hF3).trans hF4).trans hF5), hx11.pick [0, 1] (by decide) rfl, (hsx1.mono hF5), hsx2, ha.cut (l := [1, 2]) rfl⟩
theorem ent19 : Ent Tryz.prog 19 := fun _ _ => by kernel_rfl
theorem ent20 : Ent Tryz.prog 20 := fun _ _ => by kernel_rfl
theorem ent57 : Ent Tryz.prog 57 := fun _ _ => by kernel_rfl
theorem ent105 : Ent Tryz.prog 105 := fun _ _ => by kernel_rfl
theorem ent23 : Ent Tryz.prog 23 := fun _ _ => by kernel_rfl
def a7i (n : Nat) (op1 : Int) (ax1 : Frac) (b1 : Frac) : Option Frac :=
 bif op1 == 5 then
  (b0c n ax1 b1).bind fun v1 =>
  some v1.1
 else
  bif op1 == 6 then
   (a7w n ax1 b1).bind fun v2 =>
   some v2.1
  else
   bif op1 == 7 then
    (a9j n ax1 b1).bind fun v3 =>
    some v3.1
   else
    bif op1 == 8 then
     (b0s n ax1 b1).bind fun v4 =>
     some v4.1
    else
     bif op1 == 9 then
      (b4q n ax1 b1).bind fun v5 =>
      some v5.1
     else
      bif op1 == 10 then
       (a5x n ax1 b1).bind fun v6 =>
       some v6.1
      else
       some (⟨(⟨0, []⟩ : Big), (⟨0, []⟩ : Big)⟩ : Frac)
set_option maxHeartbeats 1000000 in
set_option maxRecDepth 1000000 in
theorem b6m (n : Nat) (op1 : Int) (ax1 : Frac) (b1 : Frac) (r : Frac) (hm : a7i n op1 ax1 b1 = some r) {w : World} {F : Frz} (hs : Sat F w) {as1 : Option Addr} {ns1 : Nat} {cs1 : Nat} {as2 : Option Addr} {ns2 : Nat} {cs2 : Nat} {as3 : Option Addr} {ns3 : Nat} {cs3 : Nat} {as4 : Option Addr} {ns4 : Nat} {cs4 : Nat} (hs1 : SlR (Rp.int .i64) F as1 ns1 cs1 ax1.P.Digits) (hs2 : SlR (Rp.int .i64) F as2 ns2 cs2 ax1.Q.Digits) (hs3 : SlR (Rp.int .i64) F as3 ns3 cs3 b1.P.Digits) (hs4 : SlR (Rp.int .i64) F as4 ns4 cs4 b1.Q.Digits) :
  Calls Tryz.prog 70 #[.int .i64 op1, .agg #[.int .i64 ax1.P.Sign, .slice as1 ns1 cs1, .int .i64 ax1.Q.Sign, .slice as2 ns2 cs2], .agg #[.int .i64 b1.P.Sign, .slice as3 ns3 cs3, .int .i64 b1.Q.Sign, .slice as4 ns4 cs4]] w fun e w' => ∃ v F' O', e = .returned v ∧ HS F w [] F' O' w' ∧ (∃ (a0_1 : Option Addr) (n0_1 : Nat) (c0_1 : Nat) (a0_3 : Option Addr) (n0_3 : Nat) (c0_3 : Nat), v = .agg #[.int .i64 r.P.Sign, .slice a0_1 n0_1 c0_1, .int .i64 r.Q.Sign, .slice a0_3 n0_3 c0_3] ∧ O' = [] ∧ SlR (Rp.int .i64) F' a0_1 n0_1 c0_1 r.P.Digits ∧ SlR (Rp.int .i64) F' a0_3 n0_3 c0_3 r.Q.Digits) := by
 unfold a7i at hm
 have h := HS.init hs
 refine a1a 58 Tryz.func70 rfl rfl rfl ?_
 refine a0f (a0a ?_)
 refine a2t rfl rfl rfl rfl h ?_
 intro b2 wx1 hx1
 refine a2t rfl rfl rfl rfl hx1 ?_
 intro b3 wx2 hx2
 refine a1b ze37 rfl rfl rfl hx2 ?_
 intro b4 wx3 hx3
 refine a0c (a0d (a0f (a0a ?_)))
 refine a1b ze37 rfl rfl rfl hx3 ?_
 intro b5 wx4 hx4
 refine a0c (a0d (a0f (a0f (a0a (a0e rfl rfl rfl (a0c (a0d (a1g (a0f (a0a ?_))))))))))
 refine a0u rfl rfl rfl rfl rfl ?_
 refine a0b rfl rfl rfl (a0c (a0d ?_))
 rcases a0g hm with ⟨hb1, hm⟩ | ⟨hb1, hm⟩
 ·refine a0t 9 rfl hb1 ?_
  refine a0y rfl (a0a ?_)
  refine a0l ag37 sz37 rfl rfl hx4 rfl (i := 3) rfl rfl ?_
  refine a0l ag37 sz37 rfl rfl hx4 rfl (i := 2) rfl rfl ?_
  obtain ⟨v1, hv1, hm⟩ := bind_some hm
  refine a0i ent21 rfl rfl rfl rfl hx4 (b4d _ _ _ _ hv1 hx4.sat hs1 hs2 hs3 hs4) ?_
  rintro _ Fx1 _ wx5 hF1 hx5 ⟨as5, ns5, cs5, as6, ns6, cs6, rfl, rfl, hs5, hs6⟩
  refine a0e rfl rfl rfl (a0j rfl rfl rfl rfl (a0j rfl rfl rfl rfl ?_))
  refine a0p sz37 rfl hx5 rfl rfl rfl rfl (i := 0) rfl rfl rfl rfl ?_
  intro wx6 hx6
  refine a0c (a1m (a0d (a0f (a0a ?_))))
  refine a0l ag37 sz37 rfl rfl hx6 rfl (i := 0) rfl rfl ?_
  refine a0p sz37 rfl hx6 rfl rfl rfl rfl (i := 1) rfl rfl rfl rfl ?_
  intro wx7 hx7
  refine a0c (a0d (a1d ?_))
  refine a3r rfl ag37 sz37 rfl hx7 rfl (i := 1) rfl ?_
  obtain rfl := Option.some.inj hm
  exact ⟨_, _, _, rfl, hx7.pick [] (by decide) rfl, as5, ns5, cs5, as6, ns6, cs6, rfl, rfl, hs5, hs6⟩
 ·refine a0t 9 rfl hb1 ?_
  refine a0s rfl (a0f (a0a ?_))
  refine a0u rfl rfl rfl rfl rfl ?_
  refine a0b rfl rfl rfl (a0c (a0d ?_))
  rcases a0g hm with ⟨hb2, hm⟩ | ⟨hb2, hm⟩
  ·refine a0t 17 rfl hb2 ?_
   refine a0y rfl (a0a ?_)
   refine a0l ag37 sz37 rfl rfl hx4 rfl (i := 3) rfl rfl ?_
   refine a0l ag37 sz37 rfl rfl hx4 rfl (i := 2) rfl rfl ?_
   obtain ⟨v2, hv2, hm⟩ := bind_some hm
   refine a0i ent19 rfl rfl rfl rfl hx4 (b0p _ _ _ _ hv2 hx4.sat hs1 hs2 hs3 hs4) ?_
   rintro _ Fx2 _ wx8 hF2 hx8 ⟨as7, ns7, cs7, as8, ns8, cs8, rfl, rfl, hs7, hs8⟩
   refine a0e rfl rfl rfl (a0j rfl rfl rfl rfl (a0j rfl rfl rfl rfl ?_))
   refine a0p sz37 rfl hx8 rfl rfl rfl rfl (i := 0) rfl rfl rfl rfl ?_
   intro wx9 hx9
   refine a0c (a1m (a0d (a0f (a0a ?_))))
   refine a0l ag37 sz37 rfl rfl hx9 rfl (i := 0) rfl rfl ?_
   refine a0p sz37 rfl hx9 rfl rfl rfl rfl (i := 1) rfl rfl rfl rfl ?_
   intro wx10 hx10
   refine a0c (a0d (a1d ?_))
   refine a3r rfl ag37 sz37 rfl hx10 rfl (i := 1) rfl ?_
   obtain rfl := Option.some.inj hm
   exact ⟨_, _, _, rfl, hx10.pick [] (by decide) rfl, as7, ns7, cs7, as8, ns8, cs8, rfl, rfl, hs7, hs8⟩
  ·refine a0t 17 rfl hb2 ?_
   refine a0s rfl (a0f (a0a ?_))
   refine a0u rfl rfl rfl rfl rfl ?_
   refine a0b rfl rfl rfl (a0c (a0d ?_))
   rcases a0g hm with ⟨hb3, hm⟩ | ⟨hb3, hm⟩
   ·refine a0t 25 rfl hb3 ?_
    refine a0y rfl (a0a ?_)
    refine a0l ag37 sz37 rfl rfl hx4 rfl (i := 3) rfl rfl ?_
    refine a0l ag37 sz37 rfl rfl hx4 rfl (i := 2) rfl rfl ?_
    obtain ⟨v3, hv3, hm⟩ := bind_some hm
    refine a0i ent20 rfl rfl rfl rfl hx4 (b4n _ _ _ _ hv3 hx4.sat hs1 hs2 hs3 hs4) ?_
    rintro _ Fx3 _ wx11 hF3 hx11 ⟨as9, ns9, cs9, as10, ns10, cs10, rfl, rfl, hs9, hs10⟩
    refine a0e rfl rfl rfl (a0j rfl rfl rfl rfl (a0j rfl rfl rfl rfl ?_))
    refine a0p sz37 rfl hx11 rfl rfl rfl rfl (i := 0) rfl rfl rfl rfl ?_
    intro wx12 hx12
    refine a0c (a1m (a0d (a0f (a0a ?_))))
    refine a0l ag37 sz37 rfl rfl hx12 rfl (i := 0) rfl rfl ?_
    refine a0p sz37 rfl hx12 rfl rfl rfl rfl (i := 1) rfl rfl rfl rfl ?_
    intro wx13 hx13
    refine a0c (a0d (a1d ?_))
    refine a3r rfl ag37 sz37 rfl hx13 rfl (i := 1) rfl ?_
    obtain rfl := Option.some.inj hm
    exact ⟨_, _, _, rfl, hx13.pick [] (by decide) rfl, as9, ns9, cs9, as10, ns10, cs10, rfl, rfl, hs9, hs10⟩
   ·refine a0t 25 rfl hb3 ?_
    refine a0s rfl (a0f (a0a ?_))
    refine a0u rfl rfl rfl rfl rfl ?_
    refine a0b rfl rfl rfl (a0c (a0d ?_))
    rcases a0g hm with ⟨hb4, hm⟩ | ⟨hb4, hm⟩
    ·refine a0t 33 rfl hb4 ?_
     refine a0y rfl (a0a ?_)
     refine a0l ag37 sz37 rfl rfl hx4 rfl (i := 3) rfl rfl ?_
     refine a0l ag37 sz37 rfl rfl hx4 rfl (i := 2) rfl rfl ?_
     obtain ⟨v4, hv4, hm⟩ := bind_some hm
     refine a0i ent57 rfl rfl rfl rfl hx4 (b7t _ _ _ _ hv4 hx4.sat hs1 hs2 hs3 hs4) ?_
     rintro _ Fx4 _ wx14 hF4 hx14 ⟨as11, ns11, cs11, as12, ns12, cs12, rfl, rfl, hs11, hs12⟩
     refine a0e rfl rfl rfl (a0j rfl rfl rfl rfl (a0j rfl rfl rfl rfl ?_))
     refine a0p sz37 rfl hx14 rfl rfl rfl rfl (i := 0) rfl rfl rfl rfl ?_
     intro wx15 hx15
     refine a0c (a1m (a0d (a0f (a0a ?_))))
     refine a0l ag37 sz37 rfl rfl hx15 rfl (i := 0) rfl rfl ?_
     refine a0p sz37 rfl hx15 rfl rfl rfl rfl (i := 1) rfl rfl rfl rfl ?_
     intro wx16 hx16
     refine a0c (a0d (a1d ?_))
     refine a3r rfl ag37 sz37 rfl hx16 rfl (i := 1) rfl ?_
     obtain rfl := Option.some.inj hm
     exact ⟨_, _, _, rfl, hx16.pick [] (by decide) rfl, as11, ns11, cs11, as12, ns12, cs12, rfl, rfl, hs11, hs12⟩
    ·refine a0t 33 rfl hb4 ?_
     refine a0s rfl (a0f (a0a ?_))
     refine a0u rfl rfl rfl rfl rfl ?_
     refine a0b rfl rfl rfl (a0c (a0d ?_))
     rcases a0g hm with ⟨hb5, hm⟩ | ⟨hb5, hm⟩
     ·refine a0t 41 rfl hb5 ?_
      refine a0y rfl (a0a ?_)
      refine a0l ag37 sz37 rfl rfl hx4 rfl (i := 3) rfl rfl ?_
      refine a0l ag37 sz37 rfl rfl hx4 rfl (i := 2) rfl rfl ?_
      obtain ⟨v5, hv5, hm⟩ := bind_some hm
      refine a0i ent105 rfl rfl rfl rfl hx4 (c2g _ _ _ _ hv5 hx4.sat hs1 hs2 hs3 hs4) ?_
      rintro _ Fx5 _ wx17 hF5 hx17 ⟨as13, ns13, cs13, as14, ns14, cs14, rfl, rfl, hs13, hs14⟩
      refine a0e rfl rfl rfl (a0j rfl rfl rfl rfl (a0j rfl rfl rfl rfl ?_))
      refine a0p sz37 rfl hx17 rfl rfl rfl rfl (i := 0) rfl rfl rfl rfl ?_
      intro wx18 hx18
      refine a0c (a1m (a0d (a0f (a0a ?_))))
      refine a0l ag37 sz37 rfl rfl hx18 rfl (i := 0) rfl rfl ?_
      refine a0p sz37 rfl hx18 rfl rfl rfl rfl (i := 1) rfl rfl rfl rfl ?_
      intro wx19 hx19
      refine a0c (a0d (a1d ?_))
      refine a3r rfl ag37 sz37 rfl hx19 rfl (i := 1) rfl ?_
      obtain rfl := Option.some.inj hm
      exact ⟨_, _, _, rfl, hx19.pick [] (by decide) rfl, as13, ns13, cs13, as14, ns14, cs14, rfl, rfl, hs13, hs14⟩
     ·refine a0t 41 rfl hb5 ?_
      refine a0s rfl (a0f (a0a ?_))
      refine a0u rfl rfl rfl rfl rfl ?_
      refine a0b rfl rfl rfl (a0c (a0d ?_))
      rcases a0g hm with ⟨hb6, hm⟩ | ⟨hb6, hm⟩
      ·refine a0t 49 rfl hb6 ?_
       refine a0y rfl (a0a ?_)
       refine a0l ag37 sz37 rfl rfl hx4 rfl (i := 3) rfl rfl ?_
       refine a0l ag37 sz37 rfl rfl hx4 rfl (i := 2) rfl rfl ?_
       obtain ⟨v6, hv6, hm⟩ := bind_some hm
       refine a0i ent23 rfl rfl rfl rfl hx4 (a7a _ _ _ _ hv6 hx4.sat hs1 hs2 hs3 hs4) ?_
       rintro _ Fx6 _ wx20 hF6 hx20 ⟨as15, ns15, cs15, as16, ns16, cs16, rfl, rfl, hs15, hs16⟩
       refine a0e rfl rfl rfl (a0j rfl rfl rfl rfl (a0j rfl rfl rfl rfl ?_))
       refine a0p sz37 rfl hx20 rfl rfl rfl rfl (i := 0) rfl rfl rfl rfl ?_
       intro wx21 hx21
       refine a0c (a1m (a0d (a0f (a0a ?_))))
       refine a0l ag37 sz37 rfl rfl hx21 rfl (i := 0) rfl rfl ?_
       refine a0p sz37 rfl hx21 rfl rfl rfl rfl (i := 1) rfl rfl rfl rfl ?_
       intro wx22 hx22
       refine a0c (a0d (a1d ?_))
       refine a3r rfl ag37 sz37 rfl hx22 rfl (i := 1) rfl ?_
       obtain rfl := Option.some.inj hm
       exact ⟨_, _, _, rfl, hx22.pick [] (by decide) rfl, as15, ns15, cs15, as16, ns16, cs16, rfl, rfl, hs15, hs16⟩
      ·refine a0t 49 rfl hb6 ?_
       refine a0s rfl (a1e (a1m (a0d (a0f (a0a ?_)))))
       refine a0l ag37 sz37 rfl rfl hx4 rfl (i := 0) rfl rfl ?_
       refine a0p sz37 rfl hx4 rfl rfl rfl rfl (i := 1) rfl rfl rfl rfl ?_
       intro wx23 hx23
       refine a0c (a0d (a1d ?_))
       refine a3r rfl ag37 sz37 rfl hx23 rfl (i := 1) rfl ?_
       obtain rfl := Option.some.inj hm
       exact ⟨_, _, _, rfl, hx23.pick [] (by decide) rfl, none, 0, 0, none, 0, 0, rfl, rfl, SlR.nil _ _, SlR.nil _ _⟩
structure known where
 names : (List Bs)
 facts : Facts
 weights : (List Frac)
 deriving DecidableEq, Inhabited
theorem fa64_0 : a6n Tryz.prog 64 0 0 := fun _ _ _ => by kernel_rfl
theorem ag27 : a9y Tryz.prog 27 false := fun _ => by kernel_rfl
theorem ent40 : Ent Tryz.prog 40 := fun _ _ => by kernel_rfl
theorem fa64_1 : a6n Tryz.prog 64 1 1 := fun _ _ _ => by kernel_rfl
theorem fa64_2 : a6n Tryz.prog 64 2 4 := fun _ _ _ => by kernel_rfl
theorem ag31 : a9y Tryz.prog 31 false := fun _ => by kernel_rfl
theorem ag64 : a9y Tryz.prog 64 true := fun _ => by kernel_rfl
theorem sz64 : a5f Tryz.prog 64 5 := fun _ => by kernel_rfl
theorem ent69 : Ent Tryz.prog 69 := fun _ _ => by kernel_rfl
theorem ent35 : Ent Tryz.prog 35 := fun _ _ => by kernel_rfl
theorem ent70 : Ent Tryz.prog 70 := fun _ _ => by kernel_rfl
mutual
def fee_known_number : Nat → known → Expr → Option Frac
 | 0, _, _ => none
 | n + 1, k1, x1 =>
  (a2a n k1.names x1.Name).bind fun v1 =>
  bif x1.Op == 0 then
   (a6h n x1.N).bind fun v2 =>
   some v2
  else
   bif x1.Op == 1 then
    (ix k1.facts.Lifts v1).bind fun ex1 =>
    (a6h n ex1).bind fun v3 =>
    some v3
   else
    bif x1.Op == 2 then
     (a6h n k1.facts.Persons).bind fun v4 =>
     some v4
    else
     bif x1.Op == 3 then
      (a6h n k1.facts.Flats).bind fun v5 =>
      some v5
     else
      bif x1.Op == 4 then
       (ix k1.weights v1).bind fun ex2 =>
       some ex2
      else
       bif x1.Op == 11 then
        (ix x1.Args 0).bind fun ex3 =>
        (fee_known_truth n k1 ex3).bind fun v6 =>
        bif v6 then
         (ix x1.Args 1).bind fun ex4 =>
         (fee_known_number n k1 ex4).bind fun v7 =>
         some v7
        else
         (ix x1.Args 2).bind fun ex5 =>
         (fee_known_number n k1 ex5).bind fun v8 =>
         some v8
       else
        (ix x1.Args 0).bind fun ex6 =>
        (ix x1.Args 1).bind fun ex7 =>
        (fee_known_number n k1 ex6).bind fun v9 =>
        (fee_known_number n k1 ex7).bind fun v10 =>
        (a7i n x1.Op v9 v10).bind fun v11 =>
        some v11
def fee_known_truth : Nat → known → Expr → Option Bool
 | 0, _, _ => none
 | n + 1, k1, x1 =>
  bif x1.Op == 14 then
   (ix x1.Args 0).bind fun ex1 =>
   (fee_known_truth n k1 ex1).bind fun v1 =>
   some (!v1)
  else
   bif x1.Op == 15 then
    (ix x1.Args 0).bind fun ex2 =>
    (fee_known_truth n k1 ex2).bind fun v2 =>
    (bif v2 then
     (ix x1.Args 1).bind fun ex3 =>
     (fee_known_truth n k1 ex3).bind fun v4 =>
     some v4
    else
     some false).bind fun v3 =>
    some v3
   else
    bif x1.Op == 16 then
     (ix x1.Args 0).bind fun ex4 =>
     (fee_known_truth n k1 ex4).bind fun v5 =>
     (bif v5 then
      some true
     else
      (ix x1.Args 1).bind fun ex5 =>
      (fee_known_truth n k1 ex5).bind fun v7 =>
      some v7).bind fun v6 =>
     some v6
    else
     (ix x1.Args 0).bind fun ex6 =>
     (ix x1.Args 1).bind fun ex7 =>
     (fee_known_number n k1 ex6).bind fun v8 =>
     (fee_known_number n k1 ex7).bind fun v9 =>
     (a4e n v8 v9).bind fun v10 =>
     bif x1.Op == 12 then
      some (decide (v10 < 0))
     else
      some (v10 == 0)
 end
theorem a3g (n : Nat) (k1 : known) (x1 : Expr) : fee_known_number (n + 1) k1 x1 =
  (a2a n k1.names x1.Name).bind fun v1 =>
  bif x1.Op == 0 then
   (a6h n x1.N).bind fun v2 =>
   some v2
  else
   bif x1.Op == 1 then
    (ix k1.facts.Lifts v1).bind fun ex1 =>
    (a6h n ex1).bind fun v3 =>
    some v3
   else
    bif x1.Op == 2 then
     (a6h n k1.facts.Persons).bind fun v4 =>
     some v4
    else
     bif x1.Op == 3 then
      (a6h n k1.facts.Flats).bind fun v5 =>
      some v5
     else
      bif x1.Op == 4 then
       (ix k1.weights v1).bind fun ex2 =>
       some ex2
      else
       bif x1.Op == 11 then
        (ix x1.Args 0).bind fun ex3 =>
        (fee_known_truth n k1 ex3).bind fun v6 =>
        bif v6 then
         (ix x1.Args 1).bind fun ex4 =>
         (fee_known_number n k1 ex4).bind fun v7 =>
         some v7
        else
         (ix x1.Args 2).bind fun ex5 =>
         (fee_known_number n k1 ex5).bind fun v8 =>
         some v8
       else
        (ix x1.Args 0).bind fun ex6 =>
        (ix x1.Args 1).bind fun ex7 =>
        (fee_known_number n k1 ex6).bind fun v9 =>
        (fee_known_number n k1 ex7).bind fun v10 =>
        (a7i n x1.Op v9 v10).bind fun v11 =>
        some v11 := rfl
theorem a5y (n : Nat) (k1 : known) (x1 : Expr) : fee_known_truth (n + 1) k1 x1 =
  bif x1.Op == 14 then
   (ix x1.Args 0).bind fun ex1 =>
   (fee_known_truth n k1 ex1).bind fun v1 =>
   some (!v1)
  else
   bif x1.Op == 15 then
    (ix x1.Args 0).bind fun ex2 =>
    (fee_known_truth n k1 ex2).bind fun v2 =>
    (bif v2 then
     (ix x1.Args 1).bind fun ex3 =>
     (fee_known_truth n k1 ex3).bind fun v4 =>
     some v4
    else
     some false).bind fun v3 =>
    some v3
   else
    bif x1.Op == 16 then
     (ix x1.Args 0).bind fun ex4 =>
     (fee_known_truth n k1 ex4).bind fun v5 =>
     (bif v5 then
      some true
     else
      (ix x1.Args 1).bind fun ex5 =>
      (fee_known_truth n k1 ex5).bind fun v7 =>
      some v7).bind fun v6 =>
     some v6
    else
     (ix x1.Args 0).bind fun ex6 =>
     (ix x1.Args 1).bind fun ex7 =>
     (fee_known_number n k1 ex6).bind fun v8 =>
     (fee_known_number n k1 ex7).bind fun v9 =>
     (a4e n v8 v9).bind fun v10 =>
     bif x1.Op == 12 then
      some (decide (v10 < 0))
     else
      some (v10 == 0) := rfl
set_option maxHeartbeats 1000000 in
set_option maxRecDepth 1000000 in
theorem b3q (n : Nat) : (∀ (k1 : known) (x1 : Expr) (r : Frac) (_ : fee_known_number n k1 x1 = some r) {w : World} {F : Frz} (_ : Sat F w) {as1 : Option Addr} {ns1 : Nat} {cs1 : Nat} {as2 : Option Addr} {ns2 : Nat} {cs2 : Nat} {as3 : Option Addr} {ns3 : Nat} {cs3 : Nat} {as4 : Option Addr} {ns4 : Nat} {cs4 : Nat} (_ : SlR Rp.str F as1 ns1 cs1 k1.names) (_ : SlR (Rp.int .i64) F as2 ns2 cs2 k1.facts.Lifts) (_ : SlR rp_Frac F as3 ns3 cs3 k1.weights) (_ : SlR rp_Expr F as4 ns4 cs4 x1.Args), Calls Tryz.prog 35 #[.agg #[.slice as1 ns1 cs1, .slice as2 ns2 cs2, .int .i64 k1.facts.Persons, .int .i64 k1.facts.Flats, .slice as3 ns3 cs3], .agg #[.int .i64 x1.Op, .int .i64 x1.N, vs x1.Name, .slice as4 ns4 cs4]] w fun e w' => ∃ v F' O', e = .returned v ∧ HS F w [] F' O' w' ∧ (∃ (a0_1 : Option Addr) (n0_1 : Nat) (c0_1 : Nat) (a0_3 : Option Addr) (n0_3 : Nat) (c0_3 : Nat), v = .agg #[.int .i64 r.P.Sign, .slice a0_1 n0_1 c0_1, .int .i64 r.Q.Sign, .slice a0_3 n0_3 c0_3] ∧ O' = [] ∧ SlR (Rp.int .i64) F' a0_1 n0_1 c0_1 r.P.Digits ∧ SlR (Rp.int .i64) F' a0_3 n0_3 c0_3 r.Q.Digits)) ∧
  (∀ (k1 : known) (x1 : Expr) (r : Bool) (_ : fee_known_truth n k1 x1 = some r) {w : World} {F : Frz} (_ : Sat F w) {as1 : Option Addr} {ns1 : Nat} {cs1 : Nat} {as2 : Option Addr} {ns2 : Nat} {cs2 : Nat} {as3 : Option Addr} {ns3 : Nat} {cs3 : Nat} {as4 : Option Addr} {ns4 : Nat} {cs4 : Nat} (_ : SlR Rp.str F as1 ns1 cs1 k1.names) (_ : SlR (Rp.int .i64) F as2 ns2 cs2 k1.facts.Lifts) (_ : SlR rp_Frac F as3 ns3 cs3 k1.weights) (_ : SlR rp_Expr F as4 ns4 cs4 x1.Args), Calls Tryz.prog 69 #[.agg #[.slice as1 ns1 cs1, .slice as2 ns2 cs2, .int .i64 k1.facts.Persons, .int .i64 k1.facts.Flats, .slice as3 ns3 cs3], .agg #[.int .i64 x1.Op, .int .i64 x1.N, vs x1.Name, .slice as4 ns4 cs4]] w fun e w' => ∃ v F' O', e = .returned v ∧ HS F w [] F' O' w' ∧ (v = .bool r ∧ O' = [])) := by
 induction n with
 | zero =>
  refine ⟨?_, ?_⟩
  ·intro k1 x1 r hm
   exact absurd (show (none : Option Frac) = some r from hm) (by simp)
  ·intro k1 x1 r hm
   exact absurd (show (none : Option Bool) = some r from hm) (by simp)
 | succ n ih =>
  refine ⟨?_, ?_⟩
  ·intro k1 x1 r hm w F hs as1 ns1 cs1 as2 ns2 cs2 as3 ns3 cs3 as4 ns4 cs4 hs1 hs2 hs3 hs4
   rw [a3g] at hm
   have h := HS.init hs
   refine a1a 81 Tryz.func35 rfl rfl rfl ?_
   refine a0f (a0a ?_)
   refine a2t rfl rfl rfl rfl h ?_
   intro b1 wx1 hx1
   refine a2t rfl rfl rfl rfl hx1 ?_
   intro b2 wx2 hx2
   refine a1b ze37 rfl rfl rfl hx2 ?_
   intro b3 wx3 hx3
   refine a0c (a0d (a0f (a0a ?_)))
   refine a0h fa64_0 rfl rfl rfl ?_
   refine a0r ag27 rfl rfl hx3 rfl (i := 2) rfl rfl ?_
   refine a0h fa24_2 rfl rfl rfl ?_
   refine a0r ag9 rfl rfl hx3 rfl (i := 1) rfl rfl ?_
   obtain ⟨v1, hv1, hm⟩ := bind_some hm
   refine a3m ent68 rfl rfl rfl rfl (a6i _ _ _ _ hv1 hx3.sat hs1) ?_
   refine a0b rfl rfl rfl (a0c (a0d (a0f (a0f (a0a ?_)))))
   refine a0h fa24_0 rfl rfl rfl ?_
   refine a0r ag3 rfl rfl hx3 rfl (i := 1) rfl rfl ?_
   refine a0c (a0d (a1g (a0f (a0a ?_))))
   refine a0u rfl rfl rfl rfl rfl ?_
   refine a0b rfl rfl rfl (a0c (a0d ?_))
   rcases a0g hm with ⟨hb1, hm⟩ | ⟨hb1, hm⟩
   ·refine a0t 13 rfl hb1 ?_
    refine a0y rfl (a0f (a0a ?_))
    refine a0h fa24_1 rfl rfl rfl ?_
    refine a0r ag3 rfl rfl hx3 rfl (i := 1) rfl rfl ?_
    obtain ⟨v2, hv2, hm⟩ := bind_some hm
    refine a0i ent40 rfl rfl rfl rfl hx3 (a7z _ _ _ hv2 hx3.sat) ?_
    rintro _ Fx1 _ wx4 hF1 hx4 ⟨as5, ns5, cs5, as6, ns6, cs6, rfl, rfl, hs5, hs6⟩
    refine a0p sz37 rfl hx4 rfl rfl rfl rfl (i := 0) rfl rfl rfl rfl ?_
    intro wx5 hx5
    refine a0c (a0d (a1d (a0x (a0k ?_))))
    refine a3r rfl ag37 sz37 rfl hx5 rfl (i := 0) rfl ?_
    obtain rfl := Option.some.inj hm
    exact ⟨_, _, _, rfl, hx5.pick [] (by decide) rfl, as5, ns5, cs5, as6, ns6, cs6, rfl, rfl, hs5, hs6⟩
   ·refine a0t 13 rfl hb1 ?_
    refine a0s rfl (a0f (a0a ?_))
    refine a0u rfl rfl rfl rfl rfl ?_
    refine a0b rfl rfl rfl (a0c (a0d ?_))
    rcases a0g hm with ⟨hb2, hm⟩ | ⟨hb2, hm⟩
    ·refine a0t 18 rfl hb2 ?_
     refine a0y rfl (a0f (a0a ?_))
     refine a0h fa64_1 rfl rfl rfl ?_
     refine a0h fa30_0 rfl rfl rfl ?_
     refine a0r ag28 rfl rfl hx3 rfl (i := 2) rfl rfl ?_
     refine a0e rfl rfl rfl ?_
     obtain ⟨ex1, he1, hm⟩ := bind_some hm
     refine a2n (r := (Rp.int .i64)) u28 sz3 rfl rfl rfl rfl hs2 he1 ?_
     intro b4 o1 cs1 hf1 hr1
     have hc1 : cs1 = [.int .i64 ex1] := hr1
     subst hc1
     refine a2h (j := 0) ag3 rfl rfl hx3 hf1 rfl rfl ?_
     obtain ⟨v3, hv3, hm⟩ := bind_some hm
     refine a0i ent40 rfl rfl rfl rfl hx3 (a7z _ _ _ hv3 hx3.sat) ?_
     rintro _ Fx2 _ wx6 hF2 hx6 ⟨as7, ns7, cs7, as8, ns8, cs8, rfl, rfl, hs7, hs8⟩
     refine a0p sz37 rfl hx6 rfl rfl rfl rfl (i := 0) rfl rfl rfl rfl ?_
     intro wx7 hx7
     refine a0c (a0d (a1d (a0x (a0k ?_))))
     refine a3r rfl ag37 sz37 rfl hx7 rfl (i := 0) rfl ?_
     obtain rfl := Option.some.inj hm
     exact ⟨_, _, _, rfl, hx7.pick [] (by decide) rfl, as7, ns7, cs7, as8, ns8, cs8, rfl, rfl, hs7, hs8⟩
    ·refine a0t 18 rfl hb2 ?_
     refine a0s rfl (a0f (a0a ?_))
     refine a0u rfl rfl rfl rfl rfl ?_
     refine a0b rfl rfl rfl (a0c (a0d ?_))
     rcases a0g hm with ⟨hb3, hm⟩ | ⟨hb3, hm⟩
     ·refine a0t 27 rfl hb3 ?_
      refine a0y rfl (a0f (a0a ?_))
      refine a0h fa64_1 rfl rfl rfl ?_
      refine a0h fa30_1 rfl rfl rfl ?_
      refine a0r ag3 rfl rfl hx3 rfl (i := 2) rfl rfl ?_
      obtain ⟨v4, hv4, hm⟩ := bind_some hm
      refine a0i ent40 rfl rfl rfl rfl hx3 (a7z _ _ _ hv4 hx3.sat) ?_
      rintro _ Fx3 _ wx8 hF3 hx8 ⟨as9, ns9, cs9, as10, ns10, cs10, rfl, rfl, hs9, hs10⟩
      refine a0p sz37 rfl hx8 rfl rfl rfl rfl (i := 0) rfl rfl rfl rfl ?_
      intro wx9 hx9
      refine a0c (a0d (a1d (a0x (a0k ?_))))
      refine a3r rfl ag37 sz37 rfl hx9 rfl (i := 0) rfl ?_
      obtain rfl := Option.some.inj hm
      exact ⟨_, _, _, rfl, hx9.pick [] (by decide) rfl, as9, ns9, cs9, as10, ns10, cs10, rfl, rfl, hs9, hs10⟩
     ·refine a0t 27 rfl hb3 ?_
      refine a0s rfl (a0f (a0a ?_))
      refine a0u rfl rfl rfl rfl rfl ?_
      refine a0b rfl rfl rfl (a0c (a0d ?_))
      rcases a0g hm with ⟨hb4, hm⟩ | ⟨hb4, hm⟩
      ·refine a0t 33 rfl hb4 ?_
       refine a0y rfl (a0f (a0a ?_))
       refine a0h fa64_1 rfl rfl rfl ?_
       refine a0h fa30_2 rfl rfl rfl ?_
       refine a0r ag3 rfl rfl hx3 rfl (i := 2) rfl rfl ?_
       obtain ⟨v5, hv5, hm⟩ := bind_some hm
       refine a0i ent40 rfl rfl rfl rfl hx3 (a7z _ _ _ hv5 hx3.sat) ?_
       rintro _ Fx4 _ wx10 hF4 hx10 ⟨as11, ns11, cs11, as12, ns12, cs12, rfl, rfl, hs11, hs12⟩
       refine a0p sz37 rfl hx10 rfl rfl rfl rfl (i := 0) rfl rfl rfl rfl ?_
       intro wx11 hx11
       refine a0c (a0d (a1d (a0x (a0k ?_))))
       refine a3r rfl ag37 sz37 rfl hx11 rfl (i := 0) rfl ?_
       obtain rfl := Option.some.inj hm
       exact ⟨_, _, _, rfl, hx11.pick [] (by decide) rfl, as11, ns11, cs11, as12, ns12, cs12, rfl, rfl, hs11, hs12⟩
      ·refine a0t 33 rfl hb4 ?_
       refine a0s rfl (a0f (a0a ?_))
       refine a0u rfl rfl rfl rfl rfl ?_
       refine a0b rfl rfl rfl (a0c (a0d ?_))
       rcases a0g hm with ⟨hb5, hm⟩ | ⟨hb5, hm⟩
       ·refine a0t 39 rfl hb5 ?_
        refine a0y rfl (a0f (a0a ?_))
        refine a0h fa64_2 rfl rfl rfl ?_
        refine a0r ag31 rfl rfl hx3 rfl (i := 2) rfl rfl ?_
        refine a0e rfl rfl rfl ?_
        obtain ⟨ex2, he2, hm⟩ := bind_some hm
        refine a2n (r := rp_Frac) u31 sz37 rfl rfl rfl rfl hs3 he2 ?_
        intro b5 o2 cs2 hf2 hr2
        obtain ⟨as13, ns13, cs13, as14, ns14, cs14, hc2, hs13, hs14⟩ := hr2
        subst hc2
        refine a3s ag37 sz37 rfl rfl hx3 hf2 rfl rfl ?_
        refine a0p sz37 rfl hx3 rfl rfl rfl rfl (i := 0) rfl rfl rfl rfl ?_
        intro wx12 hx12
        refine a0c (a0d (a1d (a0x (a0k ?_))))
        refine a3r rfl ag37 sz37 rfl hx12 rfl (i := 0) rfl ?_
        obtain rfl := Option.some.inj hm
        exact ⟨_, _, _, rfl, hx12.pick [] (by decide) rfl, as13, ns13, cs13, as14, ns14, cs14, rfl, rfl, hs13, hs14⟩
       ·refine a0t 39 rfl hb5 ?_
        refine a0s rfl (a0f (a0a ?_))
        refine a0u rfl rfl rfl rfl rfl ?_
        refine a0b rfl rfl rfl (a0c (a0d ?_))
        rcases a0g hm with ⟨hb6, hm⟩ | ⟨hb6, hm⟩
        ·refine a0t 46 rfl hb6 ?_
         refine a0y rfl (a0f (a0f ?_))
         refine a4f (by kernel_rfl) (by kernel_rfl) hx3 ?_
         refine a1h rfl rfl rfl rfl (fun _ _ _ hq => a0l ag64 sz64 rfl rfl hq rfl (i := 2) rfl rfl (a0c (qq rfl))) ?_
         refine a1h rfl rfl rfl rfl (fun _ _ _ _ => a0h fa24_3 rfl rfl rfl (a0c (qq rfl))) ?_
         refine a1h rfl rfl rfl rfl (fun _ _ _ hq => a0r ag22 rfl rfl hq rfl (i := 1) rfl rfl (a0c (qq rfl))) ?_
         obtain ⟨ex3, he3, hm⟩ := bind_some hm
         obtain ⟨b6, o3, cs3, hf3, hr3, hrun1⟩ := a2s (P := Tryz.prog) (r := rp_Expr) u22 sz24 hs4 he3
         obtain ⟨as15, ns15, cs15, hc3, hs15⟩ := expr_iff.1 hr3
         subst hc3
         refine a3i rfl rfl rfl rfl hrun1 ?_
         refine a1h rfl rfl rfl rfl (fun _ _ hleq hq => a3s ag24 sz24 rfl rfl hq (hf3.mono hleq) rfl rfl (a0c (qq rfl))) ?_
         obtain ⟨v6, hv6, hm⟩ := bind_some hm
         refine b1r ent69 rfl rfl rfl rfl (fun _ _ hleq hq => ih.2 _ _ _ hv6 hq.sat (hs1.mono hleq) (hs2.mono hleq) (hs3.mono hleq) (hs15.mono hleq)) ?_
         refine b2i ?_
         rintro wx13 ⟨Fx5, hF5, hx13⟩
         refine a0d ?_
         rcases a0g hm with ⟨hb7, hm⟩ | ⟨hb7, hm⟩
         ·refine a0t 53 rfl hb7 ?_
          refine a0y rfl (a0f ?_)
          refine a1w (SH Fx5 [.box b2 24 [.int .i64 x1.Op, .int .i64 x1.N, vs x1.Name, .slice as4 ns4 cs4], .box b1 64 [.slice as1 ns1 cs1, .slice as2 ns2 cs2, .int .i64 k1.facts.Persons, .int .i64 k1.facts.Flats, .slice as3 ns3 cs3]]) 7 rfl (by kernel_rfl) hx13 ?_
          intro wx14 hx14
          refine d_tk 0 rfl (by kernel_rfl) rfl rfl rfl rfl (hx14.sh (Frz.refl _) [1, 2] (by decide) rfl) (fun _ _ _ _ hq => a0l ag64 sz64 rfl rfl hq rfl (i := 1) rfl rfl (a0c (qq rfl))) ?_
          refine d_tk 1 rfl (by kernel_rfl) rfl rfl rfl rfl (hx14.sh (Frz.refl _) [1, 2] (by decide) rfl) (fun _ _ _ _ _ => a0h fa24_3 rfl rfl rfl (a0c (qq rfl))) ?_
          refine d_tk 2 rfl (by kernel_rfl) rfl rfl rfl rfl (hx14.sh (Frz.refl _) [1, 2] (by decide) rfl) (fun _ _ _ _ hq => a0r ag22 rfl rfl hq rfl (i := 0) rfl rfl (a0c (qq rfl))) ?_
          obtain ⟨ex4, he4, hm⟩ := bind_some hm
          obtain ⟨b7, o4, cs4, hf4, hr4, hrun2⟩ := a2s (P := Tryz.prog) (r := rp_Expr) u22 sz24 (hs4.mono hF5) he4
          obtain ⟨as16, ns16, cs16, hc4, hs16⟩ := expr_iff.1 hr4
          subst hc4
          refine a5b 3 rfl (by kernel_rfl) (by kernel_rfl) (by kernel_rfl) rfl rfl rfl rfl hrun2 (hx14.sh (Frz.refl _) [1, 2] (by decide) rfl) ?_
          refine d_tk 4 rfl (by kernel_rfl) rfl rfl rfl rfl (hx14.sh (Frz.refl _) [1, 2] (by decide) rfl) (fun _ _ _ hleq hq => a3s ag24 sz24 rfl rfl hq (hf4.mono hleq) rfl rfl (a0c (qq rfl))) ?_
          refine a0v 5 rfl (by kernel_rfl) ?_
          obtain ⟨v7, hv7, hm⟩ := bind_some hm
          refine a0i ent35 rfl rfl rfl rfl hx14 (ih.1 _ _ _ hv7 hx14.sat (hs1.mono hF5) (hs2.mono hF5) (hs3.mono hF5) hs16) ?_
          rintro _ Fx6 _ wx15 hF6 hx15 ⟨as17, ns17, cs17, as18, ns18, cs18, rfl, rfl, hs17, hs18⟩
          refine a0o (hx15.sh hF6 [1, 2] (by decide) rfl) ?_
          refine a0v 6 rfl (by kernel_rfl) ?_
          refine a0p sz37 rfl hx15 rfl rfl rfl rfl (i := 0) rfl rfl rfl rfl ?_
          intro wx16 hx16
          refine a0o (hx16.sh hF6 [1, 2] (by decide) rfl) ?_
          refine a2g (by kernel_rfl) ?_
          refine a0d (a1d (a0k (a0x (a0k ?_))))
          refine a3r rfl ag37 sz37 rfl hx16 rfl (i := 0) rfl ?_
          obtain rfl := Option.some.inj hm
          exact ⟨_, _, _, rfl, hx16.pick [] (by decide) rfl, as17, ns17, cs17, as18, ns18, cs18, rfl, rfl, hs17, hs18⟩
         ·refine a0t 53 rfl hb7 ?_
          refine a0s rfl (a1e (a0d (a0f ?_)))
          refine a1w (SH Fx5 [.box b2 24 [.int .i64 x1.Op, .int .i64 x1.N, vs x1.Name, .slice as4 ns4 cs4], .box b1 64 [.slice as1 ns1 cs1, .slice as2 ns2 cs2, .int .i64 k1.facts.Persons, .int .i64 k1.facts.Flats, .slice as3 ns3 cs3]]) 7 rfl (by kernel_rfl) hx13 ?_
          intro wx17 hx17
          refine d_tk 0 rfl (by kernel_rfl) rfl rfl rfl rfl (hx17.sh (Frz.refl _) [1, 2] (by decide) rfl) (fun _ _ _ _ hq => a0l ag64 sz64 rfl rfl hq rfl (i := 1) rfl rfl (a0c (qq rfl))) ?_
          refine d_tk 1 rfl (by kernel_rfl) rfl rfl rfl rfl (hx17.sh (Frz.refl _) [1, 2] (by decide) rfl) (fun _ _ _ _ _ => a0h fa24_3 rfl rfl rfl (a0c (qq rfl))) ?_
          refine d_tk 2 rfl (by kernel_rfl) rfl rfl rfl rfl (hx17.sh (Frz.refl _) [1, 2] (by decide) rfl) (fun _ _ _ _ hq => a0r ag22 rfl rfl hq rfl (i := 0) rfl rfl (a0c (qq rfl))) ?_
          obtain ⟨ex5, he5, hm⟩ := bind_some hm
          obtain ⟨b8, o5, cs5, hf5, hr5, hrun3⟩ := a2s (P := Tryz.prog) (r := rp_Expr) u22 sz24 (hs4.mono hF5) he5
          obtain ⟨as19, ns19, cs19, hc5, hs19⟩ := expr_iff.1 hr5
          subst hc5
          refine a5b 3 rfl (by kernel_rfl) (by kernel_rfl) (by kernel_rfl) rfl rfl rfl rfl hrun3 (hx17.sh (Frz.refl _) [1, 2] (by decide) rfl) ?_
          refine d_tk 4 rfl (by kernel_rfl) rfl rfl rfl rfl (hx17.sh (Frz.refl _) [1, 2] (by decide) rfl) (fun _ _ _ hleq hq => a3s ag24 sz24 rfl rfl hq (hf5.mono hleq) rfl rfl (a0c (qq rfl))) ?_
          refine a0v 5 rfl (by kernel_rfl) ?_
          obtain ⟨v8, hv8, hm⟩ := bind_some hm
          refine a0i ent35 rfl rfl rfl rfl hx17 (ih.1 _ _ _ hv8 hx17.sat (hs1.mono hF5) (hs2.mono hF5) (hs3.mono hF5) hs19) ?_
          rintro _ Fx7 _ wx18 hF7 hx18 ⟨as20, ns20, cs20, as21, ns21, cs21, rfl, rfl, hs20, hs21⟩
          refine a0o (hx18.sh hF7 [1, 2] (by decide) rfl) ?_
          refine a0v 6 rfl (by kernel_rfl) ?_
          refine a0p sz37 rfl hx18 rfl rfl rfl rfl (i := 0) rfl rfl rfl rfl ?_
          intro wx19 hx19
          refine a0o (hx19.sh hF7 [1, 2] (by decide) rfl) ?_
          refine a2g (by kernel_rfl) ?_
          refine a0d (a1d (a0x (a0k ?_)))
          refine a3r rfl ag37 sz37 rfl hx19 rfl (i := 0) rfl ?_
          obtain rfl := Option.some.inj hm
          exact ⟨_, _, _, rfl, hx19.pick [] (by decide) rfl, as20, ns20, cs20, as21, ns21, cs21, rfl, rfl, hs20, hs21⟩
        ·refine a0t 46 rfl hb6 ?_
         refine a0s rfl (a1e (a1m (a0d (a0f ?_))))
         refine a1w (SH F [.box b2 24 [.int .i64 x1.Op, .int .i64 x1.N, vs x1.Name, .slice as4 ns4 cs4], .box b1 64 [.slice as1 ns1 cs1, .slice as2 ns2 cs2, .int .i64 k1.facts.Persons, .int .i64 k1.facts.Flats, .slice as3 ns3 cs3]]) 16 rfl (by kernel_rfl) hx3 ?_
         intro wx20 hx20
         refine d_tk 0 rfl (by kernel_rfl) rfl rfl rfl rfl (hx20.sh (Frz.refl _) [1, 2] (by decide) rfl) (fun _ _ _ _ _ => a0h fa24_0 rfl rfl rfl (a0c (qq rfl))) ?_
         refine d_tk 1 rfl (by kernel_rfl) rfl rfl rfl rfl (hx20.sh (Frz.refl _) [1, 2] (by decide) rfl) (fun _ _ _ _ hq => a0r ag3 rfl rfl hq rfl (i := 0) rfl rfl (a0c (qq rfl))) ?_
         refine d_tk 2 rfl (by kernel_rfl) rfl rfl rfl rfl (hx20.sh (Frz.refl _) [1, 2] (by decide) rfl) (fun _ _ _ _ hq => a0l ag64 sz64 rfl rfl hq rfl (i := 1) rfl rfl (a0c (qq rfl))) ?_
         refine d_tk 3 rfl (by kernel_rfl) rfl rfl rfl rfl (hx20.sh (Frz.refl _) [1, 2] (by decide) rfl) (fun _ _ _ _ _ => a0h fa24_3 rfl rfl rfl (a0c (qq rfl))) ?_
         refine d_tk 4 rfl (by kernel_rfl) rfl rfl rfl rfl (hx20.sh (Frz.refl _) [1, 2] (by decide) rfl) (fun _ _ _ _ hq => a0r ag22 rfl rfl hq rfl (i := 0) rfl rfl (a0c (qq rfl))) ?_
         obtain ⟨ex6, he6, hm⟩ := bind_some hm
         obtain ⟨b9, o6, cs6, hf6, hr6, hrun4⟩ := a2s (P := Tryz.prog) (r := rp_Expr) u22 sz24 hs4 he6
         obtain ⟨as22, ns22, cs22, hc6, hs22⟩ := expr_iff.1 hr6
         subst hc6
         refine a5b 5 rfl (by kernel_rfl) (by kernel_rfl) (by kernel_rfl) rfl rfl rfl rfl hrun4 (hx20.sh (Frz.refl _) [1, 2] (by decide) rfl) ?_
         refine d_tk 6 rfl (by kernel_rfl) rfl rfl rfl rfl (hx20.sh (Frz.refl _) [1, 2] (by decide) rfl) (fun _ _ _ hleq hq => a3s ag24 sz24 rfl rfl hq (hf6.mono hleq) rfl rfl (a0c (qq rfl))) ?_
         refine d_tk 8 rfl (by kernel_rfl) rfl rfl rfl rfl (hx20.sh (Frz.refl _) [1, 2] (by decide) rfl) (fun _ _ _ _ hq => a0l ag64 sz64 rfl rfl hq rfl (i := 1) rfl rfl (a0c (qq rfl))) ?_
         refine d_tk 9 rfl (by kernel_rfl) rfl rfl rfl rfl (hx20.sh (Frz.refl _) [1, 2] (by decide) rfl) (fun _ _ _ _ _ => a0h fa24_3 rfl rfl rfl (a0c (qq rfl))) ?_
         refine d_tk 10 rfl (by kernel_rfl) rfl rfl rfl rfl (hx20.sh (Frz.refl _) [1, 2] (by decide) rfl) (fun _ _ _ _ hq => a0r ag22 rfl rfl hq rfl (i := 0) rfl rfl (a0c (qq rfl))) ?_
         obtain ⟨ex7, he7, hm⟩ := bind_some hm
         obtain ⟨b10, o7, cs7, hf7, hr7, hrun5⟩ := a2s (P := Tryz.prog) (r := rp_Expr) u22 sz24 hs4 he7
         obtain ⟨as23, ns23, cs23, hc7, hs23⟩ := expr_iff.1 hr7
         subst hc7
         refine a5b 11 rfl (by kernel_rfl) (by kernel_rfl) (by kernel_rfl) rfl rfl rfl rfl hrun5 (hx20.sh (Frz.refl _) [1, 2] (by decide) rfl) ?_
         refine d_tk 12 rfl (by kernel_rfl) rfl rfl rfl rfl (hx20.sh (Frz.refl _) [1, 2] (by decide) rfl) (fun _ _ _ hleq hq => a3s ag24 sz24 rfl rfl hq (hf7.mono hleq) rfl rfl (a0c (qq rfl))) ?_
         refine a0v 7 rfl (by kernel_rfl) ?_
         obtain ⟨v9, hv9, hm⟩ := bind_some hm
         refine a0i ent35 rfl rfl rfl rfl hx20 (ih.1 _ _ _ hv9 hx20.sat hs1 hs2 hs3 hs22) ?_
         rintro _ Fx8 _ wx21 hF8 hx21 ⟨as24, ns24, cs24, as25, ns25, cs25, rfl, rfl, hs24, hs25⟩
         refine a0o (hx21.sh hF8 [1, 2] (by decide) rfl) ?_
         refine a0v 13 rfl (by kernel_rfl) ?_
         obtain ⟨v10, hv10, hm⟩ := bind_some hm
         refine a0i ent35 rfl rfl rfl rfl hx21 (ih.1 _ _ _ hv10 hx21.sat (hs1.mono hF8) (hs2.mono hF8) (hs3.mono hF8) (hs23.mono hF8)) ?_
         rintro _ Fx9 _ wx22 hF9 hx22 ⟨as26, ns26, cs26, as27, ns27, cs27, rfl, rfl, hs26, hs27⟩
         refine a0o (hx22.sh (hF8.trans hF9) [1, 2] (by decide) rfl) ?_
         refine a0v 14 rfl (by kernel_rfl) ?_
         obtain ⟨v11, hv11, hm⟩ := bind_some hm
         refine a0i ent70 rfl rfl rfl rfl hx22 (b6m _ _ _ _ _ hv11 hx22.sat (hs24.mono hF9) (hs25.mono hF9) hs26 hs27) ?_
         rintro _ Fx10 _ wx23 hF10 hx23 ⟨as28, ns28, cs28, as29, ns29, cs29, rfl, rfl, hs28, hs29⟩
         refine a0o (hx23.sh ((hF8.trans hF9).trans hF10) [1, 2] (by decide) rfl) ?_
         refine a0v 15 rfl (by kernel_rfl) ?_
         refine a0p sz37 rfl hx23 rfl rfl rfl rfl (i := 0) rfl rfl rfl rfl ?_
         intro wx24 hx24
         refine a0o (hx24.sh ((hF8.trans hF9).trans hF10) [1, 2] (by decide) rfl) ?_
         refine a2g (by kernel_rfl) ?_
         refine a0d (a1d ?_)
         refine a3r rfl ag37 sz37 rfl hx24 rfl (i := 0) rfl ?_
         obtain rfl := Option.some.inj hm
         exact ⟨_, _, _, rfl, hx24.pick [] (by decide) rfl, as28, ns28, cs28, as29, ns29, cs29, rfl, rfl, hs28, hs29⟩
  ·intro k1 x1 r hm w F hs as1 ns1 cs1 as2 ns2 cs2 as3 ns3 cs3 as4 ns4 cs4 hs1 hs2 hs3 hs4
   rw [a5y] at hm
   have h := HS.init hs
   refine a1a 69 Tryz.func69 rfl rfl rfl ?_
   refine a0f (a0a ?_)
   refine a2t rfl rfl rfl rfl h ?_
   intro b1 wx1 hx1
   refine a2t rfl rfl rfl rfl hx1 ?_
   intro b2 wx2 hx2
   refine a0b rfl rfl rfl (a0c (a0d (a0f (a0f (a0a ?_)))))
   refine a0h fa24_0 rfl rfl rfl ?_
   refine a0r ag3 rfl rfl hx2 rfl (i := 0) rfl rfl ?_
   refine a0c (a0d (a1g (a0f (a0a ?_))))
   refine a0u rfl rfl rfl rfl rfl ?_
   refine a0b rfl rfl rfl (a0c (a0d ?_))
   rcases a0g hm with ⟨hb1, hm⟩ | ⟨hb1, hm⟩
   ·refine a0t 8 rfl hb1 ?_
    refine a0y rfl (a0f ?_)
    refine a4f (by kernel_rfl) (by kernel_rfl) hx2 ?_
    refine a1h rfl rfl rfl rfl (fun _ _ _ hq => a0l ag64 sz64 rfl rfl hq rfl (i := 1) rfl rfl (a0c (qq rfl))) ?_
    refine a1h rfl rfl rfl rfl (fun _ _ _ _ => a0h fa24_3 rfl rfl rfl (a0c (qq rfl))) ?_
    refine a1h rfl rfl rfl rfl (fun _ _ _ hq => a0r ag22 rfl rfl hq rfl (i := 0) rfl rfl (a0c (qq rfl))) ?_
    obtain ⟨ex1, he1, hm⟩ := bind_some hm
    obtain ⟨b3, o1, cs1, hf1, hr1, hrun1⟩ := a2s (P := Tryz.prog) (r := rp_Expr) u22 sz24 hs4 he1
    obtain ⟨as5, ns5, cs5, hc1, hs5⟩ := expr_iff.1 hr1
    subst hc1
    refine a3i rfl rfl rfl rfl hrun1 ?_
    refine a1h rfl rfl rfl rfl (fun _ _ hleq hq => a3s ag24 sz24 rfl rfl hq (hf1.mono hleq) rfl rfl (a0c (qq rfl))) ?_
    obtain ⟨v1, hv1, hm⟩ := bind_some hm
    refine b1r ent69 rfl rfl rfl rfl (fun _ _ hleq hq => ih.2 _ _ _ hv1 hq.sat (hs1.mono hleq) (hs2.mono hleq) (hs3.mono hleq) (hs5.mono hleq)) ?_
    refine a1h rfl rfl rfl rfl (fun _ _ _ _ => a4g rfl rfl rfl (a0c (qq rfl))) ?_
    refine a1h rfl rfl rfl rfl (fun _ _ _ _ => a0b rfl rfl rfl (a0c (qq rfl))) ?_
    refine b2i ?_
    rintro wx3 ⟨Fx1, hF1, hx3⟩
    refine a0d (a1d (a0x (a0k ?_)))
    refine a1l rfl rfl ?_
    obtain rfl := Option.some.inj hm
    exact ⟨_, _, _, rfl, hx3.pick [] (by decide) rfl, rfl, rfl⟩
   ·refine a0t 8 rfl hb1 ?_
    refine a0s rfl (a0f (a0a ?_))
    refine a0u rfl rfl rfl rfl rfl ?_
    refine a0b rfl rfl rfl (a0c (a0d ?_))
    rcases a0g hm with ⟨hb2, hm⟩ | ⟨hb2, hm⟩
    ·refine a0t 17 rfl hb2 ?_
     refine a0y rfl (a0f ?_)
     refine a4f (by kernel_rfl) (by kernel_rfl) hx2 ?_
     refine a1h rfl rfl rfl rfl (fun _ _ _ hq => a0l ag64 sz64 rfl rfl hq rfl (i := 1) rfl rfl (a0c (qq rfl))) ?_
     refine a1h rfl rfl rfl rfl (fun _ _ _ _ => a0h fa24_3 rfl rfl rfl (a0c (qq rfl))) ?_
     refine a1h rfl rfl rfl rfl (fun _ _ _ hq => a0r ag22 rfl rfl hq rfl (i := 0) rfl rfl (a0c (qq rfl))) ?_
     obtain ⟨ex2, he2, hm⟩ := bind_some hm
     obtain ⟨b4, o2, cs2, hf2, hr2, hrun2⟩ := a2s (P := Tryz.prog) (r := rp_Expr) u22 sz24 hs4 he2
     obtain ⟨as6, ns6, cs6, hc2, hs6⟩ := expr_iff.1 hr2
     subst hc2
     refine a3i rfl rfl rfl rfl hrun2 ?_
     refine a1h rfl rfl rfl rfl (fun _ _ hleq hq => a3s ag24 sz24 rfl rfl hq (hf2.mono hleq) rfl rfl (a0c (qq rfl))) ?_
     obtain ⟨v2, hv2, hm⟩ := bind_some hm
     refine b1r ent69 rfl rfl rfl rfl (fun _ _ hleq hq => ih.2 _ _ _ hv2 hq.sat (hs1.mono hleq) (hs2.mono hleq) (hs3.mono hleq) (hs6.mono hleq)) ?_
     refine a1h rfl rfl rfl rfl (fun _ _ _ _ => a0e rfl rfl rfl (a0c (qq rfl))) ?_
     obtain ⟨v3, hb3, hm⟩ := bind_some hm
     refine c4i 7 (fun a => Has 69 a [(32, .bool v3)]) ?_ ?_
     ·intro a hax1
      refine b3j hax1 ?_
      refine a1h rfl rfl rfl rfl (fun _ _ _ _ => a0b rfl rfl rfl (a0c (qq rfl))) ?_
      refine b2i ?_
      rintro wx5 ⟨Fx2, hF2, hx4⟩
      refine a0d (a1d (a0x (a0k ?_)))
      refine a1l rfl rfl ?_
      obtain rfl := Option.some.inj hm
      exact ⟨_, _, _, rfl, hx4.pick [] (by decide) rfl, rfl, rfl⟩
     ·clear hm
      rcases a0g hb3 with ⟨hb4, hb3⟩ | ⟨hb4, hb3⟩
      ·refine b6e 25 rfl hb4 ?_
       refine a1h rfl rfl rfl rfl (fun _ _ _ hq => a0l ag64 sz64 rfl rfl hq rfl (i := 1) rfl rfl (a0c (qq rfl))) ?_
       refine a1h rfl rfl rfl rfl (fun _ _ _ _ => a0h fa24_3 rfl rfl rfl (a0c (qq rfl))) ?_
       refine a1h rfl rfl rfl rfl (fun _ _ _ hq => a0r ag22 rfl rfl hq rfl (i := 0) rfl rfl (a0c (qq rfl))) ?_
       obtain ⟨ex3, he3, hb3⟩ := bind_some hb3
       obtain ⟨b5, o3, cs3, hf3, hr3, hrun3⟩ := a2s (P := Tryz.prog) (r := rp_Expr) u22 sz24 hs4 he3
       obtain ⟨as7, ns7, cs7, hc3, hs7⟩ := expr_iff.1 hr3
       subst hc3
       refine a3i rfl rfl rfl rfl hrun3 ?_
       refine a1h rfl rfl rfl rfl (fun _ _ hleq hq => a3s ag24 sz24 rfl rfl hq (hf3.mono hleq) rfl rfl (a0c (qq rfl))) ?_
       obtain ⟨v4, hv3, hb3⟩ := bind_some hb3
       refine b1r ent69 rfl rfl rfl rfl (fun _ _ hleq hq => ih.2 _ _ _ hv3 hq.sat (hs1.mono hleq) (hs2.mono hleq) (hs3.mono hleq) (hs7.mono hleq)) ?_
       refine a1h rfl rfl rfl rfl (fun _ _ _ _ => a0q rfl rfl rfl rfl (a0c (qq rfl))) ?_
       refine b6j (fun a ha => ?_)
       cases hb3
       exact ha.cut (l := [32]) rfl
      ·refine b6e 25 rfl hb4 ?_
       refine a3v rfl rfl rfl (a3v rfl rfl rfl (a3v rfl rfl rfl (a3v rfl rfl rfl (a3v rfl rfl rfl (a3v rfl rfl rfl ?_)))))
       refine a1h rfl rfl rfl rfl (fun _ _ _ _ => a0m rfl rfl rfl rfl (a0c (qq rfl))) ?_
       refine b6j (fun a ha => ?_)
       cases hb3
       exact ha.cut (l := [32]) rfl
    ·refine a0t 17 rfl hb2 ?_
     refine a0s rfl (a0f (a0a ?_))
     refine a0u rfl rfl rfl rfl rfl ?_
     refine a0b rfl rfl rfl (a0c (a0d ?_))
     rcases a0g hm with ⟨hb5, hm⟩ | ⟨hb5, hm⟩
     ·refine a0t 33 rfl hb5 ?_
      refine a0y rfl (a0f ?_)
      refine a4f (by kernel_rfl) (by kernel_rfl) hx2 ?_
      refine a1h rfl rfl rfl rfl (fun _ _ _ hq => a0l ag64 sz64 rfl rfl hq rfl (i := 1) rfl rfl (a0c (qq rfl))) ?_
      refine a1h rfl rfl rfl rfl (fun _ _ _ _ => a0h fa24_3 rfl rfl rfl (a0c (qq rfl))) ?_
      refine a1h rfl rfl rfl rfl (fun _ _ _ hq => a0r ag22 rfl rfl hq rfl (i := 0) rfl rfl (a0c (qq rfl))) ?_
      obtain ⟨ex4, he4, hm⟩ := bind_some hm
      obtain ⟨b6, o4, cs4, hf4, hr4, hrun4⟩ := a2s (P := Tryz.prog) (r := rp_Expr) u22 sz24 hs4 he4
      obtain ⟨as8, ns8, cs8, hc4, hs8⟩ := expr_iff.1 hr4
      subst hc4
      refine a3i rfl rfl rfl rfl hrun4 ?_
      refine a1h rfl rfl rfl rfl (fun _ _ hleq hq => a3s ag24 sz24 rfl rfl hq (hf4.mono hleq) rfl rfl (a0c (qq rfl))) ?_
      obtain ⟨v5, hv4, hm⟩ := bind_some hm
      refine b1r ent69 rfl rfl rfl rfl (fun _ _ hleq hq => ih.2 _ _ _ hv4 hq.sat (hs1.mono hleq) (hs2.mono hleq) (hs3.mono hleq) (hs8.mono hleq)) ?_
      refine a1h rfl rfl rfl rfl (fun _ _ _ _ => a0e rfl rfl rfl (a0c (qq rfl))) ?_
      obtain ⟨v6, hb6, hm⟩ := bind_some hm
      refine c4i 7 (fun a => Has 69 a [(48, .bool v6)]) ?_ ?_
      ·intro a hax2
       refine b3j hax2 ?_
       refine a1h rfl rfl rfl rfl (fun _ _ _ _ => a0b rfl rfl rfl (a0c (qq rfl))) ?_
       refine b2i ?_
       rintro wx7 ⟨Fx3, hF3, hx5⟩
       refine a0d (a1d (a0x (a0k ?_)))
       refine a1l rfl rfl ?_
       obtain rfl := Option.some.inj hm
       exact ⟨_, _, _, rfl, hx5.pick [] (by decide) rfl, rfl, rfl⟩
      ·clear hm
       rcases a0g hb6 with ⟨hb7, hb6⟩ | ⟨hb7, hb6⟩
       ·refine b6e 41 rfl hb7 ?_
        refine a3v rfl rfl rfl (a3v rfl rfl rfl (a3v rfl rfl rfl (a3v rfl rfl rfl (a3v rfl rfl rfl (a3v rfl rfl rfl ?_)))))
        refine a1h rfl rfl rfl rfl (fun _ _ _ _ => a0q rfl rfl rfl rfl (a0c (qq rfl))) ?_
        refine b6j (fun a ha => ?_)
        cases hb6
        exact ha.cut (l := [48]) rfl
       ·refine b6e 41 rfl hb7 ?_
        refine a1h rfl rfl rfl rfl (fun _ _ _ hq => a0l ag64 sz64 rfl rfl hq rfl (i := 1) rfl rfl (a0c (qq rfl))) ?_
        refine a1h rfl rfl rfl rfl (fun _ _ _ _ => a0h fa24_3 rfl rfl rfl (a0c (qq rfl))) ?_
        refine a1h rfl rfl rfl rfl (fun _ _ _ hq => a0r ag22 rfl rfl hq rfl (i := 0) rfl rfl (a0c (qq rfl))) ?_
        obtain ⟨ex5, he5, hb6⟩ := bind_some hb6
        obtain ⟨b7, o5, cs5, hf5, hr5, hrun5⟩ := a2s (P := Tryz.prog) (r := rp_Expr) u22 sz24 hs4 he5
        obtain ⟨as9, ns9, cs9, hc5, hs9⟩ := expr_iff.1 hr5
        subst hc5
        refine a3i rfl rfl rfl rfl hrun5 ?_
        refine a1h rfl rfl rfl rfl (fun _ _ hleq hq => a3s ag24 sz24 rfl rfl hq (hf5.mono hleq) rfl rfl (a0c (qq rfl))) ?_
        obtain ⟨v7, hv5, hb6⟩ := bind_some hb6
        refine b1r ent69 rfl rfl rfl rfl (fun _ _ hleq hq => ih.2 _ _ _ hv5 hq.sat (hs1.mono hleq) (hs2.mono hleq) (hs3.mono hleq) (hs9.mono hleq)) ?_
        refine a1h rfl rfl rfl rfl (fun _ _ _ _ => a0m rfl rfl rfl rfl (a0c (qq rfl))) ?_
        refine b6j (fun a ha => ?_)
        cases hb6
        exact ha.cut (l := [48]) rfl
     ·refine a0t 33 rfl hb5 ?_
      refine a0s rfl (a1e (a1m (a0d (a0f ?_))))
      refine a1w (SH F [.box b2 24 [.int .i64 x1.Op, .int .i64 x1.N, vs x1.Name, .slice as4 ns4 cs4], .box b1 64 [.slice as1 ns1 cs1, .slice as2 ns2 cs2, .int .i64 k1.facts.Persons, .int .i64 k1.facts.Flats, .slice as3 ns3 cs3]]) 14 rfl (by kernel_rfl) hx2 ?_
      intro wx8 hx6
      refine d_tk 0 rfl (by kernel_rfl) rfl rfl rfl rfl (hx6.sh (Frz.refl _) [0, 1] (by decide) rfl) (fun _ _ _ _ hq => a0l ag64 sz64 rfl rfl hq rfl (i := 1) rfl rfl (a0c (qq rfl))) ?_
      refine d_tk 1 rfl (by kernel_rfl) rfl rfl rfl rfl (hx6.sh (Frz.refl _) [0, 1] (by decide) rfl) (fun _ _ _ _ _ => a0h fa24_3 rfl rfl rfl (a0c (qq rfl))) ?_
      refine d_tk 2 rfl (by kernel_rfl) rfl rfl rfl rfl (hx6.sh (Frz.refl _) [0, 1] (by decide) rfl) (fun _ _ _ _ hq => a0r ag22 rfl rfl hq rfl (i := 0) rfl rfl (a0c (qq rfl))) ?_
      obtain ⟨ex6, he6, hm⟩ := bind_some hm
      obtain ⟨b8, o6, cs6, hf6, hr6, hrun6⟩ := a2s (P := Tryz.prog) (r := rp_Expr) u22 sz24 hs4 he6
      obtain ⟨as10, ns10, cs10, hc6, hs10⟩ := expr_iff.1 hr6
      subst hc6
      refine a5b 3 rfl (by kernel_rfl) (by kernel_rfl) (by kernel_rfl) rfl rfl rfl rfl hrun6 (hx6.sh (Frz.refl _) [0, 1] (by decide) rfl) ?_
      refine d_tk 4 rfl (by kernel_rfl) rfl rfl rfl rfl (hx6.sh (Frz.refl _) [0, 1] (by decide) rfl) (fun _ _ _ hleq hq => a3s ag24 sz24 rfl rfl hq (hf6.mono hleq) rfl rfl (a0c (qq rfl))) ?_
      refine d_tk 6 rfl (by kernel_rfl) rfl rfl rfl rfl (hx6.sh (Frz.refl _) [0, 1] (by decide) rfl) (fun _ _ _ _ hq => a0l ag64 sz64 rfl rfl hq rfl (i := 1) rfl rfl (a0c (qq rfl))) ?_
      refine d_tk 7 rfl (by kernel_rfl) rfl rfl rfl rfl (hx6.sh (Frz.refl _) [0, 1] (by decide) rfl) (fun _ _ _ _ _ => a0h fa24_3 rfl rfl rfl (a0c (qq rfl))) ?_
      refine d_tk 8 rfl (by kernel_rfl) rfl rfl rfl rfl (hx6.sh (Frz.refl _) [0, 1] (by decide) rfl) (fun _ _ _ _ hq => a0r ag22 rfl rfl hq rfl (i := 0) rfl rfl (a0c (qq rfl))) ?_
      obtain ⟨ex7, he7, hm⟩ := bind_some hm
      obtain ⟨b9, o7, cs7, hf7, hr7, hrun7⟩ := a2s (P := Tryz.prog) (r := rp_Expr) u22 sz24 hs4 he7
      obtain ⟨as11, ns11, cs11, hc7, hs11⟩ := expr_iff.1 hr7
      subst hc7
      refine a5b 9 rfl (by kernel_rfl) (by kernel_rfl) (by kernel_rfl) rfl rfl rfl rfl hrun7 (hx6.sh (Frz.refl _) [0, 1] (by decide) rfl) ?_
      refine d_tk 10 rfl (by kernel_rfl) rfl rfl rfl rfl (hx6.sh (Frz.refl _) [0, 1] (by decide) rfl) (fun _ _ _ hleq hq => a3s ag24 sz24 rfl rfl hq (hf7.mono hleq) rfl rfl (a0c (qq rfl))) ?_
      refine a0v 5 rfl (by kernel_rfl) ?_
      obtain ⟨v8, hv6, hm⟩ := bind_some hm
      refine a0i ent35 rfl rfl rfl rfl hx6 (ih.1 _ _ _ hv6 hx6.sat hs1 hs2 hs3 hs10) ?_
      rintro _ Fx4 _ wx9 hF4 hx7 ⟨as12, ns12, cs12, as13, ns13, cs13, rfl, rfl, hs12, hs13⟩
      refine a0o (hx7.sh hF4 [0, 1] (by decide) rfl) ?_
      refine a0v 11 rfl (by kernel_rfl) ?_
      obtain ⟨v9, hv7, hm⟩ := bind_some hm
      refine a0i ent35 rfl rfl rfl rfl hx7 (ih.1 _ _ _ hv7 hx7.sat (hs1.mono hF4) (hs2.mono hF4) (hs3.mono hF4) (hs11.mono hF4)) ?_
      rintro _ Fx5 _ wx10 hF5 hx8 ⟨as14, ns14, cs14, as15, ns15, cs15, rfl, rfl, hs14, hs15⟩
      refine a0o (hx8.sh (hF4.trans hF5) [0, 1] (by decide) rfl) ?_
      refine a0v 12 rfl (by kernel_rfl) ?_
      obtain ⟨v10, hv8, hm⟩ := bind_some hm
      refine a0i ent16 rfl rfl rfl rfl hx8 (a6z _ _ _ _ hv8 hx8.sat (hs12.mono hF5) (hs13.mono hF5) hs14 hs15) ?_
      rintro _ Fx6 _ wx11 hF6 hx9 ⟨rfl, rfl⟩
      refine a0o (hx9.sh ((hF4.trans hF5).trans hF6) [0, 1] (by decide) rfl) ?_
      refine d_tk 13 rfl (by kernel_rfl) rfl rfl rfl rfl (hx9.sh ((hF4.trans hF5).trans hF6) [0, 1] (by decide) rfl) (fun _ _ _ _ _ => a0b rfl rfl rfl (a0c (qq rfl))) ?_
      refine a2g (by kernel_rfl) ?_
      refine a0d (a0f (a0f (a0a ?_)))
      refine a0h fa24_0 rfl rfl rfl ?_
      refine a0r ag3 rfl rfl hx9 rfl (i := 0) rfl rfl ?_
      refine a0u rfl rfl rfl rfl rfl ?_
      refine a0c (a0d ?_)
      rcases a0g hm with ⟨hb8, hm⟩ | ⟨hb8, hm⟩
      ·refine a0t 64 rfl hb8 ?_
       refine a0y rfl (a0f (a0a (a0e rfl rfl rfl ?_)))
       refine a0u rfl rfl rfl rfl rfl ?_
       refine a0b rfl rfl rfl (a0c (a0d (a1d (a0k ?_))))
       refine a1l rfl rfl ?_
       obtain rfl := Option.some.inj hm
       exact ⟨_, _, _, rfl, hx9.pick [] (by decide) rfl, rfl, rfl⟩
      ·refine a0t 64 rfl hb8 ?_
       refine a0s rfl (a1e (a0d (a0f (a0a (a0e rfl rfl rfl ?_)))))
       refine a0u rfl rfl rfl rfl rfl ?_
       refine a0b rfl rfl rfl (a0c (a0d (a1d ?_)))
       refine a1l rfl rfl ?_
       obtain rfl := Option.some.inj hm
       exact ⟨_, _, _, rfl, hx9.pick [] (by decide) rfl, rfl, rfl⟩
theorem b4l (n : Nat) (k1 : known) (x1 : Expr) (r : Frac) (hm : fee_known_number n k1 x1 = some r) {w : World} {F : Frz} (hs : Sat F w) {as1 : Option Addr} {ns1 : Nat} {cs1 : Nat} {as2 : Option Addr} {ns2 : Nat} {cs2 : Nat} {as3 : Option Addr} {ns3 : Nat} {cs3 : Nat} {as4 : Option Addr} {ns4 : Nat} {cs4 : Nat} (hs1 : SlR Rp.str F as1 ns1 cs1 k1.names) (hs2 : SlR (Rp.int .i64) F as2 ns2 cs2 k1.facts.Lifts) (hs3 : SlR rp_Frac F as3 ns3 cs3 k1.weights) (hs4 : SlR rp_Expr F as4 ns4 cs4 x1.Args) :
  Calls Tryz.prog 35 #[.agg #[.slice as1 ns1 cs1, .slice as2 ns2 cs2, .int .i64 k1.facts.Persons, .int .i64 k1.facts.Flats, .slice as3 ns3 cs3], .agg #[.int .i64 x1.Op, .int .i64 x1.N, vs x1.Name, .slice as4 ns4 cs4]] w fun e w' => ∃ v F' O', e = .returned v ∧ HS F w [] F' O' w' ∧ (∃ (a0_1 : Option Addr) (n0_1 : Nat) (c0_1 : Nat) (a0_3 : Option Addr) (n0_3 : Nat) (c0_3 : Nat), v = .agg #[.int .i64 r.P.Sign, .slice a0_1 n0_1 c0_1, .int .i64 r.Q.Sign, .slice a0_3 n0_3 c0_3] ∧ O' = [] ∧ SlR (Rp.int .i64) F' a0_1 n0_1 c0_1 r.P.Digits ∧ SlR (Rp.int .i64) F' a0_3 n0_3 c0_3 r.Q.Digits) :=
 (b3q n).1 k1 x1 r hm hs hs1 hs2 hs3 hs4
theorem ent32 : Ent Tryz.prog 32 := fun _ _ => by kernel_rfl
theorem ag30 : a9y Tryz.prog 30 true := fun _ => by kernel_rfl
theorem sz30 : a5f Tryz.prog 30 3 := fun _ => by kernel_rfl
theorem ent33 : Ent Tryz.prog 33 := fun _ _ => by kernel_rfl
theorem ent34 : Ent Tryz.prog 34 := fun _ _ => by kernel_rfl
def a4q (n : Nat) (t1 : Tariff) (names1 : (List Bs)) (f1 : Facts) (weights1 : (List Frac)) : Option (Frac × Int) :=
 (a9q n t1 names1).bind fun v1 =>
 bif v1 != 0 then
  some ((⟨(⟨0, []⟩ : Big), (⟨0, []⟩ : Big)⟩ : Frac), v1)
 else
  (b2x n f1 weights1 (names1.length : Int)).bind fun v2 =>
  bif !v2 then
   some ((⟨(⟨0, []⟩ : Big), (⟨0, []⟩ : Big)⟩ : Frac), 1)
  else
   (fee_known_number n (⟨names1, f1, weights1⟩ : known) t1.Fee).bind fun v3 =>
   (b3e n v3).bind fun v4 =>
   some (v4, 0)
set_option maxHeartbeats 1000000 in
set_option maxRecDepth 1000000 in
theorem a8j (n : Nat) (t1 : Tariff) (names1 : (List Bs)) (f1 : Facts) (weights1 : (List Frac)) (r : (Frac × Int)) (hm : a4q n t1 names1 f1 weights1 = some r) {w : World} {F : Frz} (hs : Sat F w) {as1 : Option Addr} {ns1 : Nat} {cs1 : Nat} {as2 : Option Addr} {ns2 : Nat} {cs2 : Nat} {as3 : Option Addr} {ns3 : Nat} {cs3 : Nat} {as4 : Option Addr} {ns4 : Nat} {cs4 : Nat} (hs1 : SlR rp_Expr F as1 ns1 cs1 t1.Fee.Args) (hs2 : SlR Rp.str F as2 ns2 cs2 names1) (hs3 : SlR (Rp.int .i64) F as3 ns3 cs3 f1.Lifts) (hs4 : SlR rp_Frac F as4 ns4 cs4 weights1) :
  Calls Tryz.prog 8 #[.agg #[vs t1.Name, .int .i64 t1.Fee.Op, .int .i64 t1.Fee.N, vs t1.Fee.Name, .slice as1 ns1 cs1, .int .i64 t1.Cap], .slice as2 ns2 cs2, .agg #[.slice as3 ns3 cs3, .int .i64 f1.Persons, .int .i64 f1.Flats], .slice as4 ns4 cs4] w fun e w' => ∃ v F' O', e = .returned v ∧ HS F w [] F' O' w' ∧ (∃ (a0_1 : Option Addr) (n0_1 : Nat) (c0_1 : Nat) (a0_3 : Option Addr) (n0_3 : Nat) (c0_3 : Nat), v = .tuple #[.agg #[.int .i64 r.1.P.Sign, .slice a0_1 n0_1 c0_1, .int .i64 r.1.Q.Sign, .slice a0_3 n0_3 c0_3], .int .i64 r.2] ∧ O' = [] ∧ SlR (Rp.int .i64) F' a0_1 n0_1 c0_1 r.1.P.Digits ∧ SlR (Rp.int .i64) F' a0_3 n0_3 c0_3 r.1.Q.Digits) := by
 unfold a4q at hm
 have h := HS.init hs
 refine a1a 33 Tryz.func8 rfl rfl rfl ?_
 refine a0f (a0a ?_)
 refine a2t rfl rfl rfl rfl h ?_
 intro b1 wx1 hx1
 refine a2t rfl rfl rfl rfl hx1 ?_
 intro b2 wx2 hx2
 refine a1b ze37 rfl rfl rfl hx2 ?_
 intro b3 wx3 hx3
 refine a0b rfl rfl rfl (a0c (a0d (a0f (a0f (a0a ?_)))))
 refine a0l ag26 sz26 rfl rfl hx3 rfl (i := 2) rfl rfl ?_
 refine a0e rfl rfl rfl ?_
 obtain ⟨v1, hv1, hm⟩ := bind_some hm
 refine a0i ent32 rfl rfl rfl rfl hx3 (b7u _ _ _ _ hv1 hx3.sat hs1 hs2) ?_
 rintro _ Fx1 _ wx4 hF1 hx4 ⟨rfl, rfl⟩
 refine a0b rfl rfl rfl (a0c (a0d (a0f (a0a (a0e rfl rfl rfl ?_)))))
 refine a0u rfl rfl rfl rfl rfl ?_
 refine a0c (a0d ?_)
 rcases a0g hm with ⟨hb1, hm⟩ | ⟨hb1, hm⟩
 ·refine a0t 15 rfl hb1 ?_
  refine a0y rfl (a0f (a0a ?_))
  refine a2b (v := .agg #[.int .i64 0, .slice none 0 0, .int .i64 0, .slice none 0 0]) rfl rfl rfl (fun _ => by kernel_rfl) ?_
  refine a0e rfl rfl rfl ?_
  refine a0p sz37 rfl hx4 rfl rfl rfl rfl (i := 0) rfl rfl rfl rfl ?_
  intro wx5 hx5
  refine a0b rfl rfl rfl (a0c (a0d (a1d (a0k ?_))))
  refine a1v (vl := [.agg #[.int .i64 0, .slice none 0 0, .int .i64 0, .slice none 0 0], .int .i64 v1]) rfl ⟨a2p ag37 sz37 rfl hx5 rfl (i := 0) rfl, a1z rfl, trivial⟩ (by simp) ?_
  obtain rfl := Option.some.inj hm
  exact ⟨_, _, _, rfl, hx5.pick [] (by decide) rfl, none, 0, 0, none, 0, 0, rfl, rfl, SlR.nil _ _, SlR.nil _ _⟩
 ·refine a0t 15 rfl hb1 ?_
  refine a0s rfl (a1e (a0d (a0f (a0f (a0a ?_)))))
  refine a0l ag30 sz30 rfl rfl hx4 rfl (i := 1) rfl rfl ?_
  refine a0e rfl rfl rfl (a0e rfl rfl rfl ?_)
  refine a1u hs2.len u27 rfl rfl rfl ?_
  obtain ⟨v2, hv2, hm⟩ := bind_some hm
  refine a0i ent33 rfl rfl rfl rfl hx4 (c1q _ _ _ _ _ hv2 hx4.sat (hs3.mono hF1) (hs4.mono hF1)) ?_
  rintro _ Fx2 _ wx6 hF2 hx6 ⟨rfl, rfl⟩
  refine a4g rfl rfl rfl (a0c (a0d ?_))
  rcases a0g hm with ⟨hb2, hm⟩ | ⟨hb2, hm⟩
  ·refine a0t 23 rfl hb2 ?_
   refine a0y rfl (a0f (a0a ?_))
   refine a2b (v := .agg #[.int .i64 0, .slice none 0 0, .int .i64 0, .slice none 0 0]) rfl rfl rfl (fun _ => by kernel_rfl) ?_
   refine a0p sz37 rfl hx6 rfl rfl rfl rfl (i := 0) rfl rfl rfl rfl ?_
   intro wx7 hx7
   refine a0b rfl rfl rfl (a0c (a0d (a1d (a0k ?_))))
   refine a1v (vl := [.agg #[.int .i64 0, .slice none 0 0, .int .i64 0, .slice none 0 0], .int .i64 1]) rfl ⟨a2p ag37 sz37 rfl hx7 rfl (i := 0) rfl, a1z rfl, trivial⟩ (by simp) ?_
   obtain rfl := Option.some.inj hm
   exact ⟨_, _, _, rfl, hx7.pick [] (by decide) rfl, none, 0, 0, none, 0, 0, rfl, rfl, SlR.nil _ _, SlR.nil _ _⟩
  ·refine a0t 23 rfl hb2 ?_
   refine a0s rfl (a1e (a0d (a0f (a0a (a0e rfl rfl rfl ?_)))))
   refine a0l ag30 sz30 rfl rfl hx6 rfl (i := 1) rfl rfl ?_
   refine a0e rfl rfl rfl ?_
   refine a2b (v := .agg #[.slice as2 ns2 cs2, .slice as3 ns3 cs3, .int .i64 f1.Persons, .int .i64 f1.Flats, .slice as4 ns4 cs4]) rfl rfl rfl (fun _ => by kernel_rfl) ?_
   refine a0h fa26_1 rfl rfl rfl ?_
   refine a2m (cs' := [.int .i64 t1.Fee.Op, .int .i64 t1.Fee.N, vs t1.Fee.Name, .slice as1 ns1 cs1]) ag24 sz24 rfl rfl hx6 rfl (i := 2) rfl rfl rfl ?_
   obtain ⟨v3, hv3, hm⟩ := bind_some hm
   refine a0i ent35 rfl rfl rfl rfl hx6 (b4l _ _ _ _ hv3 hx6.sat ((hs2.mono hF1).mono hF2) ((hs3.mono hF1).mono hF2) ((hs4.mono hF1).mono hF2) ((hs1.mono hF1).mono hF2)) ?_
   rintro _ Fx3 _ wx8 hF3 hx8 ⟨as5, ns5, cs5, as6, ns6, cs6, rfl, rfl, hs5, hs6⟩
   obtain ⟨v4, hv4, hm⟩ := bind_some hm
   refine a0i ent34 rfl rfl rfl rfl hx8 (c1i _ _ _ hv4 hx8.sat hs5 hs6) ?_
   rintro _ Fx4 _ wx9 hF4 hx9 ⟨as7, ns7, cs7, as8, ns8, cs8, rfl, rfl, hs7, hs8⟩
   refine a0p sz37 rfl hx9 rfl rfl rfl rfl (i := 0) rfl rfl rfl rfl ?_
   intro wx10 hx10
   refine a0b rfl rfl rfl (a0c (a0d (a1d ?_)))
   refine a1v (vl := [.agg #[.int .i64 v4.P.Sign, .slice as7 ns7 cs7, .int .i64 v4.Q.Sign, .slice as8 ns8 cs8], .int .i64 0]) rfl ⟨a2p ag37 sz37 rfl hx10 rfl (i := 0) rfl, a1z rfl, trivial⟩ (by simp) ?_
   obtain rfl := Option.some.inj hm
   exact ⟨_, _, _, rfl, hx10.pick [] (by decide) rfl, as7, ns7, cs7, as8, ns8, cs8, rfl, rfl, hs7, hs8⟩
theorem ent8 : Ent Tryz.prog 8 := fun _ _ => by kernel_rfl
def a6l (n : Nat) (t1 : Tariff) (names1 : (List Bs)) (f1 : Facts) (weights1 : (List Frac)) : Option (Frac × Int) :=
 (a4q n t1 names1 f1 weights1).bind fun v1 =>
 bif v1.2 != 0 then
  some ((⟨(⟨0, []⟩ : Big), (⟨0, []⟩ : Big)⟩ : Frac), v1.2)
 else
  (b1l n v1.1).bind fun v2 =>
  bif decide (v2 < 0) then
   (a6h n 0).bind fun v3 =>
   some (v3, 0)
  else
   (bif t1.Cap != (-1) then
    (a6h n t1.Cap).bind fun v6 =>
    (a4e n v1.1 v6).bind fun v7 =>
    some (decide (0 < v7))
   else
    some false).bind fun v4 =>
   bif v4 then
    (a6h n t1.Cap).bind fun v5 =>
    some (v5, 0)
   else
    some (v1.1, 0)
set_option maxHeartbeats 1000000 in
set_option maxRecDepth 1000000 in
theorem b1v (n : Nat) (t1 : Tariff) (names1 : (List Bs)) (f1 : Facts) (weights1 : (List Frac)) (r : (Frac × Int)) (hm : a6l n t1 names1 f1 weights1 = some r) {w : World} {F : Frz} (hs : Sat F w) {as1 : Option Addr} {ns1 : Nat} {cs1 : Nat} {as2 : Option Addr} {ns2 : Nat} {cs2 : Nat} {as3 : Option Addr} {ns3 : Nat} {cs3 : Nat} {as4 : Option Addr} {ns4 : Nat} {cs4 : Nat} (hs1 : SlR rp_Expr F as1 ns1 cs1 t1.Fee.Args) (hs2 : SlR Rp.str F as2 ns2 cs2 names1) (hs3 : SlR (Rp.int .i64) F as3 ns3 cs3 f1.Lifts) (hs4 : SlR rp_Frac F as4 ns4 cs4 weights1) :
  Calls Tryz.prog 10 #[.agg #[vs t1.Name, .int .i64 t1.Fee.Op, .int .i64 t1.Fee.N, vs t1.Fee.Name, .slice as1 ns1 cs1, .int .i64 t1.Cap], .slice as2 ns2 cs2, .agg #[.slice as3 ns3 cs3, .int .i64 f1.Persons, .int .i64 f1.Flats], .slice as4 ns4 cs4] w fun e w' => ∃ v F' O', e = .returned v ∧ HS F w [] F' O' w' ∧ (∃ (a0_1 : Option Addr) (n0_1 : Nat) (c0_1 : Nat) (a0_3 : Option Addr) (n0_3 : Nat) (c0_3 : Nat), v = .tuple #[.agg #[.int .i64 r.1.P.Sign, .slice a0_1 n0_1 c0_1, .int .i64 r.1.Q.Sign, .slice a0_3 n0_3 c0_3], .int .i64 r.2] ∧ O' = [] ∧ SlR (Rp.int .i64) F' a0_1 n0_1 c0_1 r.1.P.Digits ∧ SlR (Rp.int .i64) F' a0_3 n0_3 c0_3 r.1.Q.Digits) := by
 unfold a6l at hm
 have h := HS.init hs
 refine a1a 46 Tryz.func10 rfl rfl rfl ?_
 refine a0f (a0a ?_)
 refine a2t rfl rfl rfl rfl h ?_
 intro b1 wx1 hx1
 refine a2t rfl rfl rfl rfl hx1 ?_
 intro b2 wx2 hx2
 refine a1b ze37 rfl rfl rfl hx2 ?_
 intro b3 wx3 hx3
 refine a0b rfl rfl rfl (a0c (a0d (a0f (a0a ?_))))
 refine a0l ag26 sz26 rfl rfl hx3 rfl (i := 2) rfl rfl ?_
 refine a0e rfl rfl rfl ?_
 refine a0l ag30 sz30 rfl rfl hx3 rfl (i := 1) rfl rfl ?_
 refine a0e rfl rfl rfl ?_
 obtain ⟨v1, hv1, hm⟩ := bind_some hm
 refine a0i ent8 rfl rfl rfl rfl hx3 (a8j _ _ _ _ _ _ hv1 hx3.sat hs1 hs2 hs3 hs4) ?_
 rintro _ Fx1 _ wx4 hF1 hx4 ⟨as5, ns5, cs5, as6, ns6, cs6, rfl, rfl, hs5, hs6⟩
 refine a0e rfl rfl rfl (a0j rfl rfl rfl rfl (a0j rfl rfl rfl rfl ?_))
 refine a1b ze37 rfl rfl rfl hx4 ?_
 intro b4 wx5 hx5
 refine a0p sz37 rfl hx5 rfl rfl rfl rfl (i := 0) rfl rfl rfl rfl ?_
 intro wx6 hx6
 refine a0b rfl rfl rfl (a0c (a0d (a0f (a1g (a0f (a0a (a0e rfl rfl rfl ?_)))))))
 refine a0u rfl rfl rfl rfl rfl ?_
 refine a0b rfl rfl rfl (a0c (a0d ?_))
 rcases a0g hm with ⟨hb1, hm⟩ | ⟨hb1, hm⟩
 ·refine a0t 20 rfl hb1 ?_
  refine a0y rfl (a0f (a0a ?_))
  refine a2b (v := .agg #[.int .i64 0, .slice none 0 0, .int .i64 0, .slice none 0 0]) rfl rfl rfl (fun _ => by kernel_rfl) ?_
  refine a0e rfl rfl rfl ?_
  refine a0p sz37 rfl hx6 rfl rfl rfl rfl (i := 1) rfl rfl rfl rfl ?_
  intro wx7 hx7
  refine a0b rfl rfl rfl (a0c (a0d (a1d (a0x (a0k ?_)))))
  refine a1v (vl := [.agg #[.int .i64 0, .slice none 0 0, .int .i64 0, .slice none 0 0], .int .i64 v1.2]) rfl ⟨a2p ag37 sz37 rfl hx7 rfl (i := 1) rfl, a1z rfl, trivial⟩ (by simp) ?_
  obtain rfl := Option.some.inj hm
  exact ⟨_, _, _, rfl, hx7.pick [] (by decide) rfl, none, 0, 0, none, 0, 0, rfl, rfl, SlR.nil _ _, SlR.nil _ _⟩
 ·refine a0t 20 rfl hb1 ?_
  refine a0s rfl (a0f (a0a ?_))
  refine a0l ag37 sz37 rfl rfl hx6 rfl (i := 0) rfl rfl ?_
  obtain ⟨v2, hv2, hm⟩ := bind_some hm
  refine a0i ent15 rfl rfl rfl rfl hx6 (b5u _ _ _ hv2 hx6.sat hs5 hs6) ?_
  rintro _ Fx2 _ wx8 hF2 hx8 ⟨rfl, rfl⟩
  refine a0u rfl rfl rfl rfl rfl ?_
  refine a0b rfl rfl rfl (a0c (a0d ?_))
  rcases a0g hm with ⟨hb2, hm⟩ | ⟨hb2, hm⟩
  ·refine a0t 25 rfl hb2 ?_
   refine a0y rfl (a0f (a0a ?_))
   obtain ⟨v3, hv3, hm⟩ := bind_some hm
   refine a0i ent40 rfl rfl rfl rfl hx8 (a7z _ _ _ hv3 hx8.sat) ?_
   rintro _ Fx3 _ wx9 hF3 hx9 ⟨as7, ns7, cs7, as8, ns8, cs8, rfl, rfl, hs7, hs8⟩
   refine a0p sz37 rfl hx9 rfl rfl rfl rfl (i := 1) rfl rfl rfl rfl ?_
   intro wx10 hx10
   refine a0b rfl rfl rfl (a0c (a0d (a1d (a0x (a0k ?_)))))
   refine a1v (vl := [.agg #[.int .i64 v3.P.Sign, .slice as7 ns7 cs7, .int .i64 v3.Q.Sign, .slice as8 ns8 cs8], .int .i64 0]) rfl ⟨a2p ag37 sz37 rfl hx10 rfl (i := 1) rfl, a1z rfl, trivial⟩ (by simp) ?_
   obtain rfl := Option.some.inj hm
   exact ⟨_, _, _, rfl, hx10.pick [] (by decide) rfl, as7, ns7, cs7, as8, ns8, cs8, rfl, rfl, hs7, hs8⟩
  ·refine a0t 25 rfl hb2 ?_
   refine a0s rfl (a0f ?_)
   refine a1w (SH Fx2 [.box b4 37 [.int .i64 v1.1.P.Sign, .slice as5 ns5 cs5, .int .i64 v1.1.Q.Sign, .slice as6 ns6 cs6], .box b3 37 [.int .i64 0, .slice none 0 0, .int .i64 0, .slice none 0 0], .box b2 30 [.slice as3 ns3 cs3, .int .i64 f1.Persons, .int .i64 f1.Flats], .box b1 26 [vs t1.Name, .int .i64 t1.Fee.Op, .int .i64 t1.Fee.N, vs t1.Fee.Name, .slice as1 ns1 cs1, .int .i64 t1.Cap]]) 12 rfl (by kernel_rfl) hx8 ?_
   intro wx11 hx11
   refine d_tk 0 rfl (by kernel_rfl) rfl rfl rfl rfl (hx11.sh (Frz.refl _) [0, 1, 2, 3] (by decide) rfl) (fun _ _ _ _ _ => a0h fa26_2 rfl rfl rfl (a0c (qq rfl))) ?_
   refine d_tk 1 rfl (by kernel_rfl) rfl rfl rfl rfl (hx11.sh (Frz.refl _) [0, 1, 2, 3] (by decide) rfl) (fun _ _ _ _ hq => a0r ag3 rfl rfl hq rfl (i := 3) rfl rfl (a0c (qq rfl))) ?_
   refine d_tk 2 rfl (by kernel_rfl) rfl rfl rfl rfl (hx11.sh (Frz.refl _) [0, 1, 2, 3] (by decide) rfl) (fun _ _ _ _ _ => a0u rfl rfl rfl rfl rfl (a0c (qq rfl))) ?_
   refine d_tk 3 rfl (by kernel_rfl) rfl rfl rfl rfl (hx11.sh (Frz.refl _) [0, 1, 2, 3] (by decide) rfl) (fun _ _ _ _ _ => a0e rfl rfl rfl (a0c (qq rfl))) ?_
   obtain ⟨v4, hb3, hm⟩ := bind_some hm
   refine c2d (fuel' := 1) (listed' := #[true, true, true, true, true, true, true, true, true, true, true, false]) (fun a w' => ∃ (Fx4 : Frz), Frz.le Fx2 Fx4 ∧ HS F w [] Fx4 [.box b4 37 [.int .i64 v1.1.P.Sign, .slice as5 ns5 cs5, .int .i64 v1.1.Q.Sign, .slice as6 ns6 cs6], .box b3 37 [.int .i64 0, .slice none 0 0, .int .i64 0, .slice none 0 0], .box b2 30 [.slice as3 ns3 cs3, .int .i64 f1.Persons, .int .i64 f1.Flats], .box b1 26 [vs t1.Name, .int .i64 t1.Fee.Op, .int .i64 t1.Fee.N, vs t1.Fee.Name, .slice as1 ns1 cs1, .int .i64 t1.Cap]] w' ∧ Has 46 a [(4, .pointer (some ⟨b1, 0, none⟩)), (8, .pointer (some ⟨b3, 0, none⟩)), (10, .pointer (some ⟨b4, 0, none⟩)), (41, .bool v4)]) ?_ (fun hK1 => ?_)
   ·rintro a wx12 ⟨Fx4, hF4, hx12, hax1⟩
    refine b2f hax1 ?_
    refine d_tk 11 rfl (by kernel_rfl) rfl rfl rfl rfl (hx12.sh hF4 [0, 1, 2, 3] (by decide) rfl) (fun _ _ _ _ _ => a0b rfl rfl rfl (a0c (qq rfl))) ?_
    refine a2g (by kernel_rfl) ?_
    refine a0d ?_
    rcases a0g hm with ⟨hb4, hm⟩ | ⟨hb4, hm⟩
    ·refine a0t 30 rfl hb4 ?_
     refine a0y rfl (a0f (a0a ?_))
     refine a0h fa26_2 rfl rfl rfl ?_
     refine a0r ag3 rfl rfl hx12 rfl (i := 3) rfl rfl ?_
     obtain ⟨v5, hv4, hm⟩ := bind_some hm
     refine a0i ent40 rfl rfl rfl rfl hx12 (a7z _ _ _ hv4 hx12.sat) ?_
     rintro _ Fx5 _ wx13 hF5 hx13 ⟨as9, ns9, cs9, as10, ns10, cs10, rfl, rfl, hs9, hs10⟩
     refine a0p sz37 rfl hx13 rfl rfl rfl rfl (i := 1) rfl rfl rfl rfl ?_
     intro wx14 hx14
     refine a0b rfl rfl rfl (a0c (a0d (a1d (a0x (a0k ?_)))))
     refine a1v (vl := [.agg #[.int .i64 v5.P.Sign, .slice as9 ns9 cs9, .int .i64 v5.Q.Sign, .slice as10 ns10 cs10], .int .i64 0]) rfl ⟨a2p ag37 sz37 rfl hx14 rfl (i := 1) rfl, a1z rfl, trivial⟩ (by simp) ?_
     obtain rfl := Option.some.inj hm
     exact ⟨_, _, _, rfl, hx14.pick [] (by decide) rfl, as9, ns9, cs9, as10, ns10, cs10, rfl, rfl, hs9, hs10⟩
    ·refine a0t 30 rfl hb4 ?_
     refine a0s rfl (a1e (a1m (a0d (a0f (a0a ?_)))))
     refine a0l ag37 sz37 rfl rfl hx12 rfl (i := 0) rfl rfl ?_
     refine a0p sz37 rfl hx12 rfl rfl rfl rfl (i := 1) rfl rfl rfl rfl ?_
     intro wx15 hx15
     refine a0b rfl rfl rfl (a0c (a0d (a1d ?_)))
     refine a1v (vl := [.agg #[.int .i64 v1.1.P.Sign, .slice as5 ns5 cs5, .int .i64 v1.1.Q.Sign, .slice as6 ns6 cs6], .int .i64 0]) rfl ⟨a2p ag37 sz37 rfl hx15 rfl (i := 1) rfl, a1z rfl, trivial⟩ (by simp) ?_
     obtain rfl := Option.some.inj hm
     exact ⟨_, _, _, rfl, hx15.pick [] (by decide) rfl, as5, ns5, cs5, as6, ns6, cs6, rfl, rfl, ((hs5.mono hF2).mono hF4), ((hs6.mono hF2).mono hF4)⟩
   ·clear hm
    rcases a0g hb3 with ⟨hb5, hb3⟩ | ⟨hb5, hb3⟩
    ·refine b5a 34 rfl hb5 ?_
     refine d_tk 4 rfl (by kernel_rfl) rfl rfl rfl rfl (hx11.sh (Frz.refl _) [0, 1, 2, 3] (by decide) rfl) (fun _ _ _ _ hq => a0l ag37 sz37 rfl rfl hq rfl (i := 0) rfl rfl (a0c (qq rfl))) ?_
     refine d_tk 5 rfl (by kernel_rfl) rfl rfl rfl rfl (hx11.sh (Frz.refl _) [0, 1, 2, 3] (by decide) rfl) (fun _ _ _ _ _ => a0h fa26_2 rfl rfl rfl (a0c (qq rfl))) ?_
     refine d_tk 6 rfl (by kernel_rfl) rfl rfl rfl rfl (hx11.sh (Frz.refl _) [0, 1, 2, 3] (by decide) rfl) (fun _ _ _ _ hq => a0r ag3 rfl rfl hq rfl (i := 3) rfl rfl (a0c (qq rfl))) ?_
     refine a0v 7 rfl (by kernel_rfl) ?_
     obtain ⟨v6, hv5, hb3⟩ := bind_some hb3
     refine a0i ent40 rfl rfl rfl rfl hx11 (a7z _ _ _ hv5 hx11.sat) ?_
     rintro _ Fx6 _ wx16 hF6 hx16 ⟨as11, ns11, cs11, as12, ns12, cs12, rfl, rfl, hs11, hs12⟩
     refine a0o (hx16.sh hF6 [0, 1, 2, 3] (by decide) rfl) ?_
     refine a0v 8 rfl (by kernel_rfl) ?_
     obtain ⟨v7, hv6, hb3⟩ := bind_some hb3
     refine a0i ent16 rfl rfl rfl rfl hx16 (a6z _ _ _ _ hv6 hx16.sat ((hs5.mono hF2).mono hF6) ((hs6.mono hF2).mono hF6) hs11 hs12) ?_
     rintro _ Fx7 _ wx17 hF7 hx17 ⟨rfl, rfl⟩
     refine a0o (hx17.sh (hF6.trans hF7) [0, 1, 2, 3] (by decide) rfl) ?_
     refine d_tk 9 rfl (by kernel_rfl) rfl rfl rfl rfl (hx17.sh (hF6.trans hF7) [0, 1, 2, 3] (by decide) rfl) (fun _ _ _ _ _ => a0u rfl rfl rfl rfl rfl (a0c (qq rfl))) ?_
     refine d_tk 10 rfl (by kernel_rfl) rfl rfl rfl rfl (hx17.sh (hF6.trans hF7) [0, 1, 2, 3] (by decide) rfl) (fun _ _ _ _ _ => a0q rfl rfl rfl rfl (a0c (qq rfl))) ?_
     refine b4w hK1 (by kernel_rfl) (fun a ha => ?_)
     cases hb3
     exact ⟨_, (hF6.trans hF7), hx17.pick [0, 1, 2, 3] (by decide) rfl, ha.cut (l := [4, 8, 10, 41]) rfl⟩
    ·refine b5a 34 rfl hb5 ?_
     refine d_of 4 rfl (by kernel_rfl) rfl rfl rfl (hx11.sh (Frz.refl _) [0, 1, 2, 3] (by decide) rfl) ?_
     refine d_of 5 rfl (by kernel_rfl) rfl rfl rfl (hx11.sh (Frz.refl _) [0, 1, 2, 3] (by decide) rfl) ?_
     refine d_of 6 rfl (by kernel_rfl) rfl rfl rfl (hx11.sh (Frz.refl _) [0, 1, 2, 3] (by decide) rfl) ?_
     refine d_of 7 rfl (by kernel_rfl) rfl rfl rfl (hx11.sh (Frz.refl _) [0, 1, 2, 3] (by decide) rfl) ?_
     refine d_of 8 rfl (by kernel_rfl) rfl rfl rfl (hx11.sh (Frz.refl _) [0, 1, 2, 3] (by decide) rfl) ?_
     refine d_of 9 rfl (by kernel_rfl) rfl rfl rfl (hx11.sh (Frz.refl _) [0, 1, 2, 3] (by decide) rfl) ?_
     refine d_tk 10 rfl (by kernel_rfl) rfl rfl rfl rfl (hx11.sh (Frz.refl _) [0, 1, 2, 3] (by decide) rfl) (fun _ _ _ _ _ => a0m rfl rfl rfl rfl (a0c (qq rfl))) ?_
     refine b4w hK1 (by kernel_rfl) (fun a ha => ?_)
     cases hb3
     exact ⟨_, Frz.refl _, hx11.pick [0, 1, 2, 3] (by decide) rfl, ha.cut (l := [4, 8, 10, 41]) rfl⟩
theorem ent31 : Ent Tryz.prog 31 := fun _ _ => by kernel_rfl
theorem ent13 : Ent Tryz.prog 13 := fun _ _ => by kernel_rfl
def a5r (n : Nat) (weights1 : (List Frac)) (kont1 : Option Bool) : Nat → Int → Option Bool
 | 0, _ => none
 | mx1 + 1, i2 =>
  (bif decide (i2 < (weights1.length : Int)) then
   some (decide (i2 < 10))
  else
   some false).bind fun v6 =>
  bif v6 then
   (ix weights1 i2).bind fun ex1 =>
   (a9t n ex1 4).bind fun v7 =>
   bif !v7 then
    some false
   else
    a5r n weights1 kont1 mx1 (iadd .i64 i2 1)
  else
   kont1
theorem a9l (n : Nat) (weights1 : (List Frac)) (kont1 : Option Bool) (mx1 : Nat) (i2 : Int) : a5r n weights1 kont1 (mx1 + 1) i2 =
  (bif decide (i2 < (weights1.length : Int)) then
   some (decide (i2 < 10))
  else
   some false).bind fun v6 =>
  bif v6 then
   (ix weights1 i2).bind fun ex1 =>
   (a9t n ex1 4).bind fun v7 =>
   bif !v7 then
    some false
   else
    a5r n weights1 kont1 mx1 (iadd .i64 i2 1)
  else
   kont1 := rfl
def a6t (n : Nat) (names1 : (List Bs)) (kont2 : Option Bool) : Nat → Int → Option Bool
 | 0, _ => none
 | mx2 + 1, i1 =>
  (bif decide (i1 < (names1.length : Int)) then
   some (decide (i1 < 10))
  else
   some false).bind fun v8 =>
  bif v8 then
   (ix names1 i1).bind fun ex2 =>
   bif decide (30 < (ex2.length : Int)) then
    some false
   else
    a6t n names1 kont2 mx2 (iadd .i64 i1 1)
  else
   kont2
theorem a9k (n : Nat) (names1 : (List Bs)) (kont2 : Option Bool) (mx2 : Nat) (i1 : Int) : a6t n names1 kont2 (mx2 + 1) i1 =
  (bif decide (i1 < (names1.length : Int)) then
   some (decide (i1 < 10))
  else
   some false).bind fun v8 =>
  bif v8 then
   (ix names1 i1).bind fun ex2 =>
   bif decide (30 < (ex2.length : Int)) then
    some false
   else
    a6t n names1 kont2 mx2 (iadd .i64 i1 1)
  else
   kont2 := rfl
def b1m (n : Nat) (t1 : Tariff) (names1 : (List Bs)) (f1 : Facts) (weights1 : (List Frac)) : Option Bool :=
 a6t n names1 (
  a5r n weights1 (
   (a8p n t1.Fee 60 12).bind fun v1 =>
   (bif v1 then
    some (decide ((t1.Name.length : Int) ≤ 30))
   else
    some false).bind fun v2 =>
   (bif v2 then
    some (decide ((names1.length : Int) ≤ 8))
   else
    some false).bind fun v3 =>
   (bif v3 then
    some (decide ((f1.Lifts.length : Int) ≤ 8))
   else
    some false).bind fun v4 =>
   (bif v4 then
    some (decide ((weights1.length : Int) ≤ 8))
   else
    some false).bind fun v5 =>
   some v5) n 0) n 0
set_option maxHeartbeats 1000000 in
set_option maxRecDepth 1000000 in
theorem b5v (n : Nat) (t1 : Tariff) (names1 : (List Bs)) (f1 : Facts) (weights1 : (List Frac)) (r : Bool) (hm : b1m n t1 names1 f1 weights1 = some r) {w : World} {F : Frz} (hs : Sat F w) {as1 : Option Addr} {ns1 : Nat} {cs1 : Nat} {as2 : Option Addr} {ns2 : Nat} {cs2 : Nat} {as3 : Option Addr} {ns3 : Nat} {cs3 : Nat} {as4 : Option Addr} {ns4 : Nat} {cs4 : Nat} (hs1 : SlR rp_Expr F as1 ns1 cs1 t1.Fee.Args) (hs2 : SlR Rp.str F as2 ns2 cs2 names1) (hs3 : SlR (Rp.int .i64) F as3 ns3 cs3 f1.Lifts) (hs4 : SlR rp_Frac F as4 ns4 cs4 weights1) :
  Calls Tryz.prog 7 #[.agg #[vs t1.Name, .int .i64 t1.Fee.Op, .int .i64 t1.Fee.N, vs t1.Fee.Name, .slice as1 ns1 cs1, .int .i64 t1.Cap], .slice as2 ns2 cs2, .agg #[.slice as3 ns3 cs3, .int .i64 f1.Persons, .int .i64 f1.Flats], .slice as4 ns4 cs4] w fun e w' => ∃ v F' O', e = .returned v ∧ HS F w [] F' O' w' ∧ (v = .bool r ∧ O' = []) := by
 unfold b1m at hm
 have h := HS.init hs
 refine a1a 68 Tryz.func7 rfl rfl rfl ?_
 refine a0f (a0a ?_)
 refine a2t rfl rfl rfl rfl h ?_
 intro b1 wx1 hx1
 refine a2t rfl rfl rfl rfl hx1 ?_
 intro b2 wx2 hx2
 refine a0b rfl rfl rfl (a0c (a0d (a0f (a0f (a0a (a0b rfl rfl rfl (a0c (a0d (a1g ?_)))))))))
 intro a hax12
 obtain ⟨kont2, hkont2⟩ : ∃ kont2 : Option Bool, kont2 = (
       a5r n weights1 (
        (a8p n t1.Fee 60 12).bind fun v1 =>
        (bif v1 then
         some (decide ((t1.Name.length : Int) ≤ 30))
        else
         some false).bind fun v2 =>
        (bif v2 then
         some (decide ((names1.length : Int) ≤ 8))
        else
         some false).bind fun v3 =>
        (bif v3 then
         some (decide ((f1.Lifts.length : Int) ≤ 8))
        else
         some false).bind fun v4 =>
        (bif v4 then
         some (decide ((weights1.length : Int) ≤ 8))
        else
         some false).bind fun v5 =>
        some v5) n 0) := ⟨_, rfl⟩
 replace hm : (fun m (s : Int) => a6t n names1 kont2 m s) n 0 = some r := by rw [hkont2]; exact hm
 refine a5w (id := 0) (fun m (s : Int) => a6t n names1 kont2 m s) (fun (y : Unit) => kont2) r (fun (s : Int) a w' => wx2 = w' ∧ Has 68 a [(1, .slice as2 ns2 cs2), (3, .slice as4 ns4 cs4), (4, .pointer (some ⟨b1, 0, none⟩)), (6, .pointer (some ⟨b2, 0, none⟩)), (9, .int .i64 s)]) (fun (y : Unit) a w' => wx2 = w' ∧ Has 68 a [(1, .slice as2 ns2 cs2), (3, .slice as4 ns4 cs4), (4, .pointer (some ⟨b1, 0, none⟩)), (6, .pointer (some ⟨b2, 0, none⟩))]) (fun _ => rfl) ?_ ?_ hm ⟨rfl, hax12.cut (l := [1, 3, 4, 6, 9]) rfl⟩
 ·clear hm; rintro _u a wx3 hm ⟨rfl, hax1⟩
  rw [hkont2] at hm
  refine a2f (e := .exit 0) hax1 ?_
  refine a1k (a0d (a0f (a0f (a0a (a0b rfl rfl rfl (a0c (a0d (a1g ?_))))))))
  intro a hax9
  obtain ⟨kont1, hkont1⟩ : ∃ kont1 : Option Bool, kont1 = (
       (a8p n t1.Fee 60 12).bind fun v1 =>
       (bif v1 then
        some (decide ((t1.Name.length : Int) ≤ 30))
       else
        some false).bind fun v2 =>
       (bif v2 then
        some (decide ((names1.length : Int) ≤ 8))
       else
        some false).bind fun v3 =>
       (bif v3 then
        some (decide ((f1.Lifts.length : Int) ≤ 8))
       else
        some false).bind fun v4 =>
       (bif v4 then
        some (decide ((weights1.length : Int) ≤ 8))
       else
        some false).bind fun v5 =>
       some v5) := ⟨_, rfl⟩
  replace hm : (fun m (s : Int) => a5r n weights1 kont1 m s) n 0 = some r := by rw [hkont1]; exact hm
  refine a5w (id := 2) (fun m (s : Int) => a5r n weights1 kont1 m s) (fun (y : Unit) => kont1) r (fun (s : Int) a w' => ∃ (Fx1 : Frz), Frz.le F Fx1 ∧ HS F w [] Fx1 [.box b2 30 [.slice as3 ns3 cs3, .int .i64 f1.Persons, .int .i64 f1.Flats], .box b1 26 [vs t1.Name, .int .i64 t1.Fee.Op, .int .i64 t1.Fee.N, vs t1.Fee.Name, .slice as1 ns1 cs1, .int .i64 t1.Cap]] w' ∧ Has 68 a [(1, .slice as2 ns2 cs2), (3, .slice as4 ns4 cs4), (4, .pointer (some ⟨b1, 0, none⟩)), (6, .pointer (some ⟨b2, 0, none⟩)), (10, .int .i64 s)]) (fun (y : Unit) a w' => ∃ (Fx2 : Frz), Frz.le F Fx2 ∧ HS F w [] Fx2 [.box b2 30 [.slice as3 ns3 cs3, .int .i64 f1.Persons, .int .i64 f1.Flats], .box b1 26 [vs t1.Name, .int .i64 t1.Fee.Op, .int .i64 t1.Fee.N, vs t1.Fee.Name, .slice as1 ns1 cs1, .int .i64 t1.Cap]] w' ∧ Has 68 a [(1, .slice as2 ns2 cs2), (3, .slice as4 ns4 cs4), (4, .pointer (some ⟨b1, 0, none⟩)), (6, .pointer (some ⟨b2, 0, none⟩))]) (fun _ => rfl) ?_ ?_ hm ⟨_, Frz.refl _, hx2.pick [0, 1] (by decide) rfl, hax9.cut (l := [1, 3, 4, 6, 10]) rfl⟩
  ·clear hm; rintro _u a wx4 hm ⟨Fx2, hF2, hx4, hax2⟩
   rw [hkont1] at hm
   refine a2f (e := .exit 2) hax2 ?_
   refine a1k (a0d (a0f (a0a ?_)))
   refine a0h fa26_1 rfl rfl rfl ?_
   refine a2m (cs' := [.int .i64 t1.Fee.Op, .int .i64 t1.Fee.N, vs t1.Fee.Name, .slice as1 ns1 cs1]) ag24 sz24 rfl rfl hx4 rfl (i := 1) rfl rfl rfl ?_
   obtain ⟨v1, hv1, hm⟩ := bind_some hm
   refine a0i ent31 rfl rfl rfl rfl hx4 (c1g _ _ _ _ _ hv1 hx4.sat (hs1.mono hF2)) ?_
   rintro _ Fx3 _ wx5 hF3 hx5 ⟨rfl, rfl⟩
   refine a0e rfl rfl rfl ?_
   obtain ⟨v2, hb1, hm⟩ := bind_some hm
   refine a2r 5 (fun a w' => wx5 = w' ∧ Has 68 a [(1, .slice as2 ns2 cs2), (3, .slice as4 ns4 cs4), (6, .pointer (some ⟨b2, 0, none⟩)), (51, .bool v2)]) ?_ ?_
   ·rintro a wx6 ⟨rfl, hax3⟩
    refine a1f hax3 ?_
    refine a0e rfl rfl rfl ?_
    obtain ⟨v3, hb2, hm⟩ := bind_some hm
    refine a2r 4 (fun a w' => wx5 = w' ∧ Has 68 a [(3, .slice as4 ns4 cs4), (6, .pointer (some ⟨b2, 0, none⟩)), (56, .bool v3)]) ?_ ?_
    ·rintro a wx7 ⟨rfl, hax4⟩
     refine a1f hax4 ?_
     refine a0e rfl rfl rfl ?_
     obtain ⟨v4, hb3, hm⟩ := bind_some hm
     refine a2r 5 (fun a w' => wx5 = w' ∧ Has 68 a [(3, .slice as4 ns4 cs4), (62, .bool v4)]) ?_ ?_
     ·rintro a wx8 ⟨rfl, hax5⟩
      refine a1f hax5 ?_
      refine a0e rfl rfl rfl ?_
      obtain ⟨v5, hb4, hm⟩ := bind_some hm
      refine a2r 4 (fun a w' => wx5 = w' ∧ Has 68 a [(67, .bool v5)]) ?_ ?_
      ·rintro a wx9 ⟨rfl, hax6⟩
       refine a1f hax6 ?_
       refine a0b rfl rfl rfl (a0c (a0d (a1d ?_)))
       refine a1l rfl rfl ?_
       obtain rfl := Option.some.inj hm
       exact ⟨_, _, _, rfl, hx5.pick [] (by decide) rfl, rfl, rfl⟩
      ·clear hm
       rcases a0g hb4 with ⟨hb5, hb4⟩ | ⟨hb5, hb4⟩
       ·refine a1j 63 rfl hb5 ?_
        refine a0e rfl rfl rfl ?_
        refine a1u hs4.len u31 rfl rfl rfl ?_
        refine a0u rfl rfl rfl rfl rfl ?_
        refine a0q rfl rfl rfl rfl (a0c ?_)
        refine a0n (fun a ha => ?_)
        cases hb4
        exact ⟨rfl, ha.cut (l := [67]) rfl⟩
       ·refine a1j 63 rfl hb5 ?_
        refine a0z rfl (by decide) rfl (a0z rfl (by decide) rfl (a0z rfl (by decide) rfl (a0m rfl rfl rfl rfl (a0c ?_))))
        refine a0n (fun a ha => ?_)
        cases hb4
        exact ⟨rfl, ha.cut (l := [67]) rfl⟩
     ·clear hm
      rcases a0g hb3 with ⟨hb6, hb3⟩ | ⟨hb6, hb3⟩
      ·refine a1j 57 rfl hb6 ?_
       refine a0h fa30_0 rfl rfl rfl ?_
       refine a0r ag28 rfl rfl hx5 rfl (i := 0) rfl rfl ?_
       refine a1u hs3.len u28 rfl rfl rfl ?_
       refine a0u rfl rfl rfl rfl rfl ?_
       refine a0q rfl rfl rfl rfl (a0c ?_)
       refine a0n (fun a ha => ?_)
       cases hb3
       exact ⟨rfl, ha.cut (l := [3, 62]) rfl⟩
      ·refine a1j 57 rfl hb6 ?_
       refine a0z rfl (by decide) rfl (a0z rfl (by decide) rfl (a0z rfl (by decide) rfl (a0z rfl (by decide) rfl (a0m rfl rfl rfl rfl (a0c ?_)))))
       refine a0n (fun a ha => ?_)
       cases hb3
       exact ⟨rfl, ha.cut (l := [3, 62]) rfl⟩
    ·clear hm
     rcases a0g hb2 with ⟨hb7, hb2⟩ | ⟨hb7, hb2⟩
     ·refine a1j 52 rfl hb7 ?_
      refine a0e rfl rfl rfl ?_
      refine a1u hs2.len u27 rfl rfl rfl ?_
      refine a0u rfl rfl rfl rfl rfl ?_
      refine a0q rfl rfl rfl rfl (a0c ?_)
      refine a0n (fun a ha => ?_)
      cases hb2
      exact ⟨rfl, ha.cut (l := [3, 6, 56]) rfl⟩
     ·refine a1j 52 rfl hb7 ?_
      refine a0z rfl (by decide) rfl (a0z rfl (by decide) rfl (a0z rfl (by decide) rfl (a0m rfl rfl rfl rfl (a0c ?_))))
      refine a0n (fun a ha => ?_)
      cases hb2
      exact ⟨rfl, ha.cut (l := [3, 6, 56]) rfl⟩
   ·clear hm
    rcases a0g hb1 with ⟨hb8, hb1⟩ | ⟨hb8, hb1⟩
    ·refine a1j 46 rfl hb8 ?_
     refine a0h fa26_0 rfl rfl rfl ?_
     refine a0r ag9 rfl rfl hx5 rfl (i := 1) rfl rfl ?_
     refine c0n u9 rfl rfl rfl ?_
     refine a0u rfl rfl rfl rfl rfl ?_
     refine a0q rfl rfl rfl rfl (a0c ?_)
     refine a0n (fun a ha => ?_)
     cases hb1
     exact ⟨rfl, ha.cut (l := [1, 3, 6, 51]) rfl⟩
    ·refine a1j 46 rfl hb8 ?_
     refine a0z rfl (by decide) rfl (a0z rfl (by decide) rfl (a0z rfl (by decide) rfl (a0z rfl (by decide) rfl (a0m rfl rfl rfl rfl (a0c ?_)))))
     refine a0n (fun a ha => ?_)
     cases hb1
     exact ⟨rfl, ha.cut (l := [1, 3, 6, 51]) rfl⟩
  ·clear hm hkont1; intro hk1 mx1 K ihx1
   rintro i2 a wx10 hm ⟨Fx1, hF1, hx3, hax7⟩
   simp only [a9l] at hm
   refine a1i hax7 ?_
   refine a0f (a0f (a0a (a0e rfl rfl rfl (a0e rfl rfl rfl ?_))))
   refine a1u hs4.len u31 rfl rfl rfl ?_
   refine a0u rfl rfl rfl rfl rfl ?_
   refine a0e rfl rfl rfl ?_
   obtain ⟨v6, hb9, hm⟩ := bind_some hm
   refine a2r 3 (fun a w' => wx10 = w' ∧ Has 68 a [(1, .slice as2 ns2 cs2), (3, .slice as4 ns4 cs4), (4, .pointer (some ⟨b1, 0, none⟩)), (6, .pointer (some ⟨b2, 0, none⟩)), (10, .int .i64 i2), (34, .bool v6)]) ?_ ?_
   ·rintro a wx11 ⟨rfl, hax8⟩
    refine a1f hax8 ?_
    refine a0c (a0d ?_)
    rcases a0g hm with ⟨hb10, hm⟩ | ⟨hb10, hm⟩
    ·refine a0t 34 rfl hb10 ?_
     refine a0y rfl (a1e (a0d (a0f (a1g (a0f (a0a (a0e rfl rfl rfl (a0e rfl rfl rfl ?_))))))))
     obtain ⟨ex1, he1, hm⟩ := bind_some hm
     refine a2n (r := rp_Frac) u31 sz37 rfl rfl rfl rfl (hs4.mono hF1) he1 ?_
     intro b3 o1 cs1 hf1 hr1
     obtain ⟨as5, ns5, cs5, as6, ns6, cs6, hc1, hs5, hs6⟩ := hr1
     subst hc1
     refine a3s ag37 sz37 rfl rfl hx3 hf1 rfl rfl ?_
     obtain ⟨v7, hv2, hm⟩ := bind_some hm
     refine a0i ent13 rfl rfl rfl rfl hx3 (c0x _ _ _ _ hv2 hx3.sat hs5 hs6) ?_
     rintro _ Fx4 _ wx12 hF4 hx6 ⟨rfl, rfl⟩
     refine a4g rfl rfl rfl (a0c (a0d ?_))
     rcases a0g hm with ⟨hb11, hm⟩ | ⟨hb11, hm⟩
     ·refine a0t 42 rfl hb11 ?_
      refine a0y rfl (a0f (a0a (a0b rfl rfl rfl (a0c (a0d (a1d (a0x (a0k (a0k (a0x (a0k ?_)))))))))))
      refine a1l rfl rfl ?_
      obtain rfl := Option.some.inj hm
      exact ⟨_, _, _, rfl, hx6.pick [] (by decide) rfl, rfl, rfl⟩
     ·refine a0t 42 rfl hb11 ?_
      refine a0s rfl (a1e (a1m (a0d (a0a (a0e rfl rfl rfl ?_)))))
      refine a0u rfl rfl rfl rfl rfl ?_
      refine a0b rfl rfl rfl (a0c ?_)
      refine a0n (fun a ha => ihx1 (iadd .i64 i2 1) a _ hm ?_)
      exact ⟨_, (hF1.trans hF4), hx6.pick [0, 1] (by decide) rfl, ha.cut (l := [1, 3, 4, 6, 10]) rfl⟩
    ·refine a0t 34 rfl hb10 ?_
     refine a0s rfl (a3u (a0w (a0w ?_)))
     refine fun a ha => hk1 () a _ hm ?_
     exact ⟨_, hF1, hx3.pick [0, 1] (by decide) rfl, ha.cut (l := [1, 3, 4, 6]) rfl⟩
   ·clear hm
    rcases a0g hb9 with ⟨hb12, hb9⟩ | ⟨hb12, hb9⟩
    ·refine a1j 31 rfl hb12 ?_
     refine a0e rfl rfl rfl ?_
     refine a0u rfl rfl rfl rfl rfl ?_
     refine a0q rfl rfl rfl rfl (a0c ?_)
     refine a0n (fun a ha => ?_)
     cases hb9
     exact ⟨rfl, ha.cut (l := [1, 3, 4, 6, 10, 34]) rfl⟩
    ·refine a1j 31 rfl hb12 ?_
     refine a0z rfl (by decide) rfl (a0z rfl (by decide) rfl (a0m rfl rfl rfl rfl (a0c ?_)))
     refine a0n (fun a ha => ?_)
     cases hb9
     exact ⟨rfl, ha.cut (l := [1, 3, 4, 6, 10, 34]) rfl⟩
 ·clear hm hkont2; intro hk2 mx2 K ihx2
  rintro i1 a wx13 hm ⟨rfl, hax10⟩
  simp only [a9k] at hm
  refine a1i hax10 ?_
  refine a0f (a0f (a0a (a0e rfl rfl rfl (a0e rfl rfl rfl ?_))))
  refine a1u hs2.len u27 rfl rfl rfl ?_
  refine a0u rfl rfl rfl rfl rfl ?_
  refine a0e rfl rfl rfl ?_
  obtain ⟨v8, hb13, hm⟩ := bind_some hm
  refine a2r 3 (fun a w' => wx2 = w' ∧ Has 68 a [(1, .slice as2 ns2 cs2), (3, .slice as4 ns4 cs4), (4, .pointer (some ⟨b1, 0, none⟩)), (6, .pointer (some ⟨b2, 0, none⟩)), (9, .int .i64 i1), (18, .bool v8)]) ?_ ?_
  ·rintro a wx14 ⟨rfl, hax11⟩
   refine a1f hax11 ?_
   refine a0c (a0d ?_)
   rcases a0g hm with ⟨hb14, hm⟩ | ⟨hb14, hm⟩
   ·refine a0t 18 rfl hb14 ?_
    refine a0y rfl (a1e (a0d (a0f (a1g (a0f (a0a (a0e rfl rfl rfl (a0e rfl rfl rfl ?_))))))))
    obtain ⟨ex2, he2, hm⟩ := bind_some hm
    refine a2n (r := Rp.str) u27 sz9 rfl rfl rfl rfl hs2 he2 ?_
    intro b4 o2 cs2 hf2 hr2
    have hc2 : cs2 = [vs ex2] := hr2
    subst hc2
    refine a2h (j := 0) ag9 rfl rfl hx2 hf2 rfl rfl ?_
    refine c0n u9 rfl rfl rfl ?_
    refine a0u rfl rfl rfl rfl rfl ?_
    refine a0c (a0d ?_)
    rcases a0g hm with ⟨hb15, hm⟩ | ⟨hb15, hm⟩
    ·refine a0t 26 rfl hb15 ?_
     refine a0y rfl (a0f (a0a (a0b rfl rfl rfl (a0c (a0d (a1d (a0x (a0k (a0k (a0x (a0k ?_)))))))))))
     refine a1l rfl rfl ?_
     obtain rfl := Option.some.inj hm
     exact ⟨_, _, _, rfl, hx2.pick [] (by decide) rfl, rfl, rfl⟩
    ·refine a0t 26 rfl hb15 ?_
     refine a0s rfl (a1e (a1m (a0d (a0a (a0e rfl rfl rfl ?_)))))
     refine a0u rfl rfl rfl rfl rfl ?_
     refine a0b rfl rfl rfl (a0c ?_)
     refine a0n (fun a ha => ihx2 (iadd .i64 i1 1) a _ hm ?_)
     exact ⟨rfl, ha.cut (l := [1, 3, 4, 6, 9]) rfl⟩
   ·refine a0t 18 rfl hb14 ?_
    refine a0s rfl (a3u (a0w (a0w ?_)))
    refine fun a ha => hk2 () a _ hm ?_
    exact ⟨rfl, ha.cut (l := [1, 3, 4, 6]) rfl⟩
  ·clear hm
   rcases a0g hb13 with ⟨hb16, hb13⟩ | ⟨hb16, hb13⟩
   ·refine a1j 15 rfl hb16 ?_
    refine a0e rfl rfl rfl ?_
    refine a0u rfl rfl rfl rfl rfl ?_
    refine a0q rfl rfl rfl rfl (a0c ?_)
    refine a0n (fun a ha => ?_)
    cases hb13
    exact ⟨rfl, ha.cut (l := [1, 3, 4, 6, 9, 18]) rfl⟩
   ·refine a1j 15 rfl hb16 ?_
    refine a0z rfl (by decide) rfl (a0z rfl (by decide) rfl (a0m rfl rfl rfl rfl (a0c ?_)))
    refine a0n (fun a ha => ?_)
    cases hb13
    exact ⟨rfl, ha.cut (l := [1, 3, 4, 6, 9, 18]) rfl⟩
def a7n (_n : Nat) (op1 : Int) (args1 : (List Expr)) : Option Expr :=
 some (⟨op1, 0, [], args1⟩ : Expr)
set_option maxHeartbeats 1000000 in
set_option maxRecDepth 1000000 in
theorem a1r (n : Nat) (op1 : Int) (args1 : (List Expr)) (r : Expr) (hm : a7n n op1 args1 = some r) {w : World} {F : Frz} (hs : Sat F w) {as1 : Option Addr} {ns1 : Nat} {cs1 : Nat} (hs1 : SlR rp_Expr F as1 ns1 cs1 args1) :
  Calls Tryz.prog 28 #[.int .i64 op1, .slice as1 ns1 cs1] w fun e w' => ∃ v F' O', e = .returned v ∧ HS F w [] F' O' w' ∧ (∃ (a0_3 : Option Addr) (n0_3 : Nat) (c0_3 : Nat), v = .agg #[.int .i64 r.Op, .int .i64 r.N, vs r.Name, .slice a0_3 n0_3 c0_3] ∧ O' = [] ∧ SlR rp_Expr F' a0_3 n0_3 c0_3 r.Args) := by
 unfold a7n at hm
 have h := HS.init hs
 refine a1a 8 Tryz.func28 rfl rfl rfl ?_
 refine a0f (a0a ?_)
 refine a1b ze24 rfl rfl rfl h ?_
 intro b1 wx1 hx1
 refine a0c (a0d (a0f (a0a (a0e rfl rfl rfl (a0e rfl rfl rfl ?_)))))
 refine a2b (v := .agg #[.int .i64 op1, .int .i64 0, vs [], .slice as1 ns1 cs1]) rfl rfl rfl (fun _ => by kernel_rfl) ?_
 refine a0p sz24 rfl hx1 rfl rfl rfl rfl (i := 0) rfl rfl rfl rfl ?_
 intro wx2 hx2
 refine a0c (a0d (a1d ?_))
 refine a3r rfl ag24 sz24 rfl hx2 rfl (i := 0) rfl ?_
 obtain rfl := Option.some.inj hm
 exact ⟨_, _, _, rfl, hx2.pick [] (by decide) rfl, as1, ns1, cs1, rfl, rfl, hs1⟩
def a8d (_n : Nat) (ax1 : Expr) (b1 : Expr) : Option (List Expr) :=
 some [ax1, b1]
set_option maxHeartbeats 1000000 in
set_option maxRecDepth 1000000 in
theorem a2v (n : Nat) (ax1 : Expr) (b1 : Expr) (r : (List Expr)) (hm : a8d n ax1 b1 = some r) {w : World} {F : Frz} (hs : Sat F w) {as1 : Option Addr} {ns1 : Nat} {cs1 : Nat} {as2 : Option Addr} {ns2 : Nat} {cs2 : Nat} (hs1 : SlR rp_Expr F as1 ns1 cs1 ax1.Args) (hs2 : SlR rp_Expr F as2 ns2 cs2 b1.Args) :
  Calls Tryz.prog 29 #[.agg #[.int .i64 ax1.Op, .int .i64 ax1.N, vs ax1.Name, .slice as1 ns1 cs1], .agg #[.int .i64 b1.Op, .int .i64 b1.N, vs b1.Name, .slice as2 ns2 cs2]] w fun e w' => ∃ v F' O', e = .returned v ∧ HS F w [] F' O' w' ∧ (∃ (a0_0 : Option Addr) (n0_0 : Nat) (c0_0 : Nat) (xs0_0 : List Value), v = .slice a0_0 n0_0 c0_0 ∧ O' = [.row 24 4 a0_0 n0_0 c0_0 xs0_0] ∧ RowN rp_Expr F' n0_0 xs0_0 r) := by
 unfold a8d at hm
 have h := HS.init hs
 refine a1a 8 Tryz.func29 rfl rfl rfl ?_
 refine a0f (a0a ?_)
 refine a2t rfl rfl rfl rfl h ?_
 intro b2 wx1 hx1
 refine a2t rfl rfl rfl rfl hx1 ?_
 intro b3 wx2 hx2
 refine a0b rfl rfl rfl (a0c (a0d (a0f (a0a ?_))))
 refine a0l ag24 sz24 rfl rfl hx2 rfl (i := 1) rfl rfl ?_
 refine a0l ag24 sz24 rfl rfl hx2 rfl (i := 0) rfl rfl ?_
 refine a1q (e := 24) (cs := [.int .i64 ax1.Op, .int .i64 ax1.N, vs ax1.Name, .slice as1 ns1 cs1, .int .i64 b1.Op, .int .i64 b1.N, vs b1.Name, .slice as2 ns2 cs2]) (q := 4) rfl rfl hx2 rfl (fun _ => by kernel_rfl) rfl rfl ?_
 intro b4 wx3 hx3
 refine a0b rfl rfl rfl (a0c (a0d (a1d ?_)))
 refine a1l rfl rfl ?_
 obtain rfl := Option.some.inj hm
 exact ⟨_, _, _, rfl, hx3.pick [0] (by decide) rfl, (some ⟨b4, 0, none⟩), 2, 2, [.int .i64 ax1.Op, .int .i64 ax1.N, vs ax1.Name, .slice as1 ns1 cs1, .int .i64 b1.Op, .int .i64 b1.N, vs b1.Name, .slice as2 ns2 cs2], rfl, rfl, ((show RowN rp_Expr F 2 [.int .i64 ax1.Op, .int .i64 ax1.N, vs ax1.Name, .slice as1 ns1 cs1, .int .i64 b1.Op, .int .i64 b1.N, vs b1.Name, .slice as2 ns2 cs2] [ax1, b1] from ⟨rfl, ⟨_, _, rfl, (expr_iff.2 ⟨as1, ns1, cs1, rfl, hs1⟩), ⟨_, _, rfl, (expr_iff.2 ⟨as2, ns2, cs2, rfl, hs2⟩), (rfl : RowR rp_Expr _ [] [])⟩⟩⟩))⟩
def a7d (_n : Nat) (nx1 : Int) : Option Expr :=
 some (⟨0, nx1, [], []⟩ : Expr)
set_option maxHeartbeats 1000000 in
set_option maxRecDepth 1000000 in
theorem a3b (n : Nat) (nx1 : Int) (r : Expr) (hm : a7d n nx1 = some r) {w : World} {F : Frz} (hs : Sat F w)  :
  Calls Tryz.prog 30 #[.int .i64 nx1] w fun e w' => ∃ v F' O', e = .returned v ∧ HS F w [] F' O' w' ∧ (∃ (a0_3 : Option Addr) (n0_3 : Nat) (c0_3 : Nat), v = .agg #[.int .i64 r.Op, .int .i64 r.N, vs r.Name, .slice a0_3 n0_3 c0_3] ∧ O' = [] ∧ SlR rp_Expr F' a0_3 n0_3 c0_3 r.Args) := by
 unfold a7d at hm
 have h := HS.init hs
 refine a1a 5 Tryz.func30 rfl rfl rfl ?_
 refine a0f (a0a ?_)
 refine a1b ze24 rfl rfl rfl h ?_
 intro b1 wx1 hx1
 refine a0c (a0d (a0f (a0a (a0e rfl rfl rfl ?_))))
 refine a2b (v := .agg #[.int .i64 0, .int .i64 nx1, vs [], .slice none 0 0]) rfl rfl rfl (fun _ => by kernel_rfl) ?_
 refine a0p sz24 rfl hx1 rfl rfl rfl rfl (i := 0) rfl rfl rfl rfl ?_
 intro wx2 hx2
 refine a0c (a0d (a1d ?_))
 refine a3r rfl ag24 sz24 rfl hx2 rfl (i := 0) rfl ?_
 obtain rfl := Option.some.inj hm
 exact ⟨_, _, _, rfl, hx2.pick [] (by decide) rfl, none, 0, 0, rfl, rfl, SlR.nil _ _⟩
def a9d (n : Nat) (x1 : Expr) (weights1 : (List Frac)) : Option (Frac × Int) :=
 (a4q n (⟨[97], x1, (-1)⟩ : Tariff) [[112, 97, 112, 101, 114], [103, 108, 97, 115, 115]] (⟨[4, 0], 3, 1⟩ : Facts) weights1).bind fun v1 =>
 some (v1.1, v1.2)
set_option maxHeartbeats 1000000 in
set_option maxRecDepth 1000000 in
theorem a5h (n : Nat) (x1 : Expr) (weights1 : (List Frac)) (r : (Frac × Int)) (hm : a9d n x1 weights1 = some r) {w : World} {F : Frz} (hs : Sat F w) {as1 : Option Addr} {ns1 : Nat} {cs1 : Nat} {as2 : Option Addr} {ns2 : Nat} {cs2 : Nat} (hs1 : SlR rp_Expr F as1 ns1 cs1 x1.Args) (hs2 : SlR rp_Frac F as2 ns2 cs2 weights1) :
  Calls Tryz.prog 27 #[.agg #[.int .i64 x1.Op, .int .i64 x1.N, vs x1.Name, .slice as1 ns1 cs1], .slice as2 ns2 cs2] w fun e w' => ∃ v F' O', e = .returned v ∧ HS F w [] F' O' w' ∧ (∃ (a0_1 : Option Addr) (n0_1 : Nat) (c0_1 : Nat) (a0_3 : Option Addr) (n0_3 : Nat) (c0_3 : Nat), v = .tuple #[.agg #[.int .i64 r.1.P.Sign, .slice a0_1 n0_1 c0_1, .int .i64 r.1.Q.Sign, .slice a0_3 n0_3 c0_3], .int .i64 r.2] ∧ O' = [] ∧ SlR (Rp.int .i64) F' a0_1 n0_1 c0_1 r.1.P.Digits ∧ SlR (Rp.int .i64) F' a0_3 n0_3 c0_3 r.1.Q.Digits) := by
 unfold a9d at hm
 have h := HS.init hs
 refine a1a 15 Tryz.func27 rfl rfl rfl ?_
 refine a0f (a0a ?_)
 refine a2t rfl rfl rfl rfl h ?_
 intro b1 wx1 hx1
 refine a1b ze37 rfl rfl rfl hx1 ?_
 intro b2 wx2 hx2
 refine a0b rfl rfl rfl (a0c (a0d (a0f (a0a ?_))))
 refine a0l ag24 sz24 rfl rfl hx2 rfl (i := 1) rfl rfl ?_
 refine a2b (v := .agg #[vs [97], .int .i64 x1.Op, .int .i64 x1.N, vs x1.Name, .slice as1 ns1 cs1, .int .i64 (-1)]) rfl rfl rfl (fun _ => by kernel_rfl) ?_
 refine a1q (e := 9) (cs := [vs [112, 97, 112, 101, 114], vs [103, 108, 97, 115, 115]]) (q := 1) rfl rfl hx2 rfl (fun _ => by kernel_rfl) rfl rfl ?_
 intro b3 wx3 hx3
 refine a1q (e := 3) (cs := [.int .i64 4, .int .i64 0]) (q := 1) rfl rfl hx3 rfl (fun _ => by kernel_rfl) rfl rfl ?_
 intro b4 wx4 hx4
 obtain ⟨Fx1, hF1, hx5, hsx1⟩ := a1c hx4 (i := 0) rfl ((show RowN (Rp.int .i64) F 2 [.int .i64 4, .int .i64 0] [4, 0] from ⟨rfl, ⟨_, _, rfl, rfl, ⟨_, _, rfl, rfl, (rfl : RowR (Rp.int .i64) _ [] [])⟩⟩⟩))
 refine a2b (v := .agg #[.slice (some ⟨b4, 0, none⟩) 2 2, .int .i64 3, .int .i64 1]) rfl rfl rfl (fun _ => by kernel_rfl) ?_
 refine a0e rfl rfl rfl ?_
 obtain ⟨Fx2, hF2, hx6, hsx2⟩ := a1c hx5 (i := 0) rfl ((show RowN Rp.str F 2 [vs [112, 97, 112, 101, 114], vs [103, 108, 97, 115, 115]] [[112, 97, 112, 101, 114], [103, 108, 97, 115, 115]] from ⟨rfl, ⟨_, _, rfl, rfl, ⟨_, _, rfl, rfl, (rfl : RowR Rp.str _ [] [])⟩⟩⟩).mono hF1)
 obtain ⟨v1, hv1, hm⟩ := bind_some hm
 refine a0i ent8 rfl rfl rfl rfl hx6 (a8j _ _ _ _ _ _ hv1 hx6.sat ((hs1.mono hF1).mono hF2) hsx2 (hsx1.mono hF2) ((hs2.mono hF1).mono hF2)) ?_
 rintro _ Fx3 _ wx5 hF3 hx7 ⟨as3, ns3, cs3, as4, ns4, cs4, rfl, rfl, hs3, hs4⟩
 refine a0j rfl rfl rfl rfl (a0j rfl rfl rfl rfl ?_)
 refine a0p sz37 rfl hx7 rfl rfl rfl rfl (i := 0) rfl rfl rfl rfl ?_
 intro wx6 hx8
 refine a0b rfl rfl rfl (a0c (a0d (a1d ?_)))
 refine a1v (vl := [.agg #[.int .i64 v1.1.P.Sign, .slice as3 ns3 cs3, .int .i64 v1.1.Q.Sign, .slice as4 ns4 cs4], .int .i64 v1.2]) rfl ⟨a2p ag37 sz37 rfl hx8 rfl (i := 0) rfl, a1z rfl, trivial⟩ (by simp) ?_
 obtain rfl := Option.some.inj hm
 exact ⟨_, _, _, rfl, hx8.pick [] (by decide) rfl, as3, ns3, cs3, as4, ns4, cs4, rfl, rfl, hs3, hs4⟩
end Go.Proofs.YtknpjecpcmajiaaGreat.M

